/-
  The law RecordMakes, walked.
-/
import Derived.Test.YthocjhiapngacaaRecS
import Derived.Test.YthocjhiapngacaaUntil
import Derived.Deep.DeepCutAuto
set_option linter.all false
namespace Go.Proofs.Ythocjhiapngacaa
open Go.RowKit

section
variable {P : Program} {ops : Array Oper} {Q : Exit → Act → World → Prop} {md : Region.Mode} {J : Nat → Bool} {S : World → Prop}
/-- Three may come up. -/
theorem AnyTill.three_go {i j k n : Nat} {oi oj ok : Oper} {done : Array Bool} {a : Act} {w : World} (hr : Region.ready md ops done = [i, j, k]) (hoi : ops[i]? = some oi) (hoj : ops[j]? = some oj) (hok : ops[k]? = some ok)
    (hwi : Region.wanted oi (yielded ops a.tmps) = true) (hwj : Region.wanted oj (yielded ops a.tmps) = true) (hwk : Region.wanted ok (yielded ops a.tmps) = true)
    (hi : ∀ K : Act → World → Prop, (∀ a' w', (J i = true → S w') → AnyTill P md ops Q J S n (done.setIfInBounds i true) a' w' → K a' w') → oi.wp P a w K Q)
    (hj : ∀ K : Act → World → Prop, (∀ a' w', (J j = true → S w') → AnyTill P md ops Q J S n (done.setIfInBounds j true) a' w' → K a' w') → oj.wp P a w K Q)
    (hk : ∀ K : Act → World → Prop, (∀ a' w', (J k = true → S w') → AnyTill P md ops Q J S n (done.setIfInBounds k true) a' w' → K a' w') → ok.wp P a w K Q) : AnyTill P md ops Q J S (n + 1) done a w := by
  refine ⟨fun e => (by rw [hr] at e; cases e), fun m hm => ?_⟩
  rw [hr] at hm
  simp only [List.mem_cons, List.not_mem_nil, or_false] at hm
  rcases hm with rfl | rfl | rfl
  · unfold wpOp
    rw [hoi]
    simp only [hwi, if_true]
    exact .inl (hi _ fun a' w' h1 h2 => ⟨h1, h2⟩)
  · unfold wpOp
    rw [hoj]
    simp only [hwj, if_true]
    exact .inl (hj _ fun a' w' h1 h2 => ⟨h1, h2⟩)
  · unfold wpOp
    rw [hok]
    simp only [hwk, if_true]
    exact .inl (hk _ fun a' w' h1 h2 => ⟨h1, h2⟩)
/-- The region, what follows it behind a letter: so that no step looks into it. -/
theorem region_tillQ {id : Nat} {a : Act} {w : World} (J : Nat → Bool) (S : World → Prop) (hm : P.follows .mixedOrders = true) (hQ : ∀ c a d v w, Q (.panic c) (Act.put a d v) w → Q (.panic c) a w)
    (h : ∀ Q' : Exit → Act → World → Prop, (∀ c a d v w, Q' (.panic c) (Act.put a d v) w → Q' (.panic c) a w) → (∀ a w, Q .normal a w → Q' .normal a w) → AnyTill P .any ops Q' J S ops.size (Array.replicate ops.size false) a w.drew) : (Code.region id ops true).wp P Q a w :=
  region_till J S hm (h Q hQ fun _ _ h => h)
end

/-- An empty list of records made. -/
theorem wp_rows0 {P : Program} {o : Oper} {a : Act} {w : World} {K : Act → World → Prop} {Q : Exit → Act → World → Prop} (t e : TypeId) (ho : o.op = .buildSlice t 0 #[]) (hu : P.underlying t = some (.slice e)) (hi : (P.info? e).isSome = true)
    (h : K (a.put o.dst (.slice (some ⟨w.heap.size, 0, none⟩) 0 0)) (w.alloc (.cells #[] e))) : o.wp P a w K Q := by
  obtain ⟨ie, hie⟩ := Option.isSome_iff_exists.1 hi
  have e0 : (Array.range 0 : Array Nat) = #[] := Array.eq_empty_of_size_eq_zero Array.size_range
  have hr : (Instr.buildSlice t 0 #[]).run P w = .ok (.slice (some ⟨w.heap.size, 0, none⟩) 0 0) (w.alloc (.cells #[] e)) := by
    simp [Instr.buildSlice, run_underlying hu, sizeOf, typeInfo, hie, newRow, Instr.fill, e0]
  unfold Oper.wp execOp
  simp only [ho, Array.map_empty, Sem.run_bind, hr, Result.andThen_ok]
  exact h

theorem wp_store_blk {P : Program} {o : Oper} {a : Act} {w : World} {K : Act → World → Prop} {Q : Exit → Act → World → Prop} (ty : TypeId) (x y : Operand) (ho : o.op = .store ty x y)
    (g : Nat) (cs : List Value) (hx : a.eval x = .pointer (some ⟨g, 0, none⟩)) (hy : a.eval y = .agg cs.toArray) (t : TypeId) (old : List Value) (n : Nat) (hb : Blk w g t old) (hi : (P.info? ty).map (·.size) = some n) (hn : cs.length = n) (ho' : old.length = n)
    (h1 : ∀ v ∈ cs, v.oneCell' = true) (h : ∀ w', Blk w' g t cs → One g w w' → K (a.put o.dst undef) w') : o.wp P a w K Q :=
  wp_store_mid ty x y ho g 0 cs.toArray hx hy (by rw [List.size_toArray]; exact hb.there 0 cs.length (by omega)) (by rw [hi, List.size_toArray, hn]) (all_oneCell_toArray h1)
    (h _ (by
      have := Blk.setCells (g := g) (t := t) cs 0 old w hb (by omega)
      rw [List.take_zero, List.nil_append, Nat.zero_add, List.drop_eq_nil_of_le (by omega), List.append_nil] at this
      exact this) (Frm.setCells (S := fun k => k = g) (.inr rfl) cs 0 w (One.refl g w)))
theorem entL_one (d : Bool) (v : ByteArray) : ∀ u ∈ entL d v, u.oneCell' = true := fun u hu => by
  simp only [entL, List.mem_cons, List.not_mem_nil, or_false] at hu
  rcases hu with rfl | rfl <;> rfl
theorem zero_sum : (Try.prog.info? 26).map (fun i => (i.zero, i.size)) = some (some (.agg (keyL zero32).toArray), 32) := by kernel_rfl

theorem wpList_builtK {P : Program} {ops : Array Oper} {rest : List Oper} {o : Oper} {a : Act} {w : World} {Q : Exit → Act → World → Prop} (hg : o.guard = none) (t : TypeId) (parts : Array (Nat × Operand)) (ho : o.op = .build t parts) (l : List (Nat × Value)) (cs : Array Value)
    (hl : (parts.toList.map fun p => (p.1, a.eval p.2)) = l) (hb : P.built t l = some cs) (h : wpList P ops Q rest (a.put o.dst (.agg cs)) w) : wpList P ops Q (o :: rest) a w :=
  wpList_built hg t parts ho cs (by rw [hl]; exact hb) h

theorem info_rec : (Try.prog.info? 28).map (fun i => (i.zero, i.size, i.bytes)) = some (some (.agg (recL rzero).toArray), 68, 104) := by kernel_rfl

/-- The cells of a key, an entry, a sum, and a number. -/
def fourL (k : List UInt8) (d : Bool) (v : ByteArray) (y : List UInt8) (n : Int) : List Value := keyL k ++ (entL d v ++ (keyL y ++ [Value.int .i64 n]))
theorem four_at {w : World} {g : Nat} {t : TypeId} {k : List UInt8} {d : Bool} {v : ByteArray} {y : List UInt8} {n : Int} (hk : k.length = 32) (hy : y.length = 32) (hb : Blk w g t (fourL k d v y n)) :
    w.rangeAt g 0 (keyL k) ∧ w.cell? ⟨g, 32, none⟩ = some (.bool d) ∧ w.cell? ⟨g, 33, none⟩ = some (.string v) ∧ w.rangeAt g 34 (keyL y) ∧ w.cell? ⟨g, 66, none⟩ = some (.int .i64 n) := by
  have hkl := keyL_length k
  have hyl := keyL_length y
  have h1 := hb.range 0 32
  have h2 := hb.range 34 32
  have e1 : ((fourL k d v y n).drop 0).take 32 = keyL k := List.take_left' (by omega)
  have e2 : ((fourL k d v y n).drop 34).take 32 = keyL y := by
    unfold fourL
    rw [show (34 : Nat) = 32 + 2 from rfl, ← List.drop_drop, List.drop_left' (by omega)]
    show (keyL y ++ [Value.int .i64 n]).take 32 = _
    exact List.take_left' (by omega)
  rw [e1] at h1
  rw [e2] at h2
  refine ⟨h1, ?_, ?_, h2, ?_⟩
  · rw [hb.cell]
    unfold fourL
    rw [List.getElem?_append_right (by omega), hkl, hk]
    rfl
  · rw [hb.cell]
    unfold fourL
    rw [List.getElem?_append_right (by omega), hkl, hk]
    rfl
  · rw [hb.cell]
    unfold fourL
    rw [List.getElem?_append_right (by omega), hkl, hk]
    show (keyL y ++ [Value.int .i64 n])[32]? = _
    rw [List.getElem?_append_right (by omega), hyl, hy]
    rfl

/-- What the first statement leaves. -/
def Made4 (W : World) (k : List UInt8) (d : Bool) (v : ByteArray) (y : List UInt8) (n : Int) (s3 s4 s5 s6 : Value) (wx : World) : Prop :=
  ∃ b3 b4 b5, s3 = .pointer (some ⟨b3, 0, none⟩) ∧ s4 = .pointer (some ⟨b4, 0, none⟩) ∧ s5 = .pointer (some ⟨b5, 0, none⟩) ∧ s6 = .int .i64 n ∧ Blk wx b3 23 (keyL k) ∧ Blk wx b4 25 (entL d v) ∧ Blk wx b5 26 (keyL y) ∧ Nul W wx

/-- The records of these parts. -/
def five (k : List UInt8) (d : Bool) (v : ByteArray) (y : List UInt8) (n : Int) : List Rcd := [⟨1, k, d, v, zero32, 0⟩, ⟨2, k, d, v, zero32, 0⟩, ⟨3, zero32, false, ⟨#[]⟩, y, 0⟩, ⟨4, zero32, false, ⟨#[]⟩, y, 0⟩, ⟨5, zero32, false, ⟨#[]⟩, zero32, n⟩]
theorem five_ok (k : List UInt8) (d : Bool) (v : ByteArray) (y : List UInt8) (n : Int) (hk : k.length = 32) (hy : y.length = 32) : OkR (five k d v y n) := by
  intro r hr
  simp only [five, List.mem_cons, List.not_mem_nil, or_false] at hr
  rcases hr with rfl | rfl | rfl | rfl | rfl
  · exact ⟨hk, rfl⟩
  · exact ⟨hk, rfl⟩
  · exact ⟨rfl, hy⟩
  · exact ⟨rfl, hy⟩
  · exact ⟨rfl, rfl⟩
theorem five_two (k : List UInt8) (d : Bool) (v : ByteArray) (y : List UInt8) (n : Int) (i : Nat) (h1 : 1 ≤ i) (h5 : i ≤ 5) : cntR (five k d v y n ++ (five k d v y n).take i) i = 2 := by
  have : i = 1 ∨ i = 2 ∨ i = 3 ∨ i = 4 ∨ i = 5 := by omega
  rcases this with rfl | rfl | rfl | rfl | rfl <;> rfl
theorem five_one (k : List UInt8) (d : Bool) (v : ByteArray) (y : List UInt8) (n m : Int) : cntR (five k d v y n) m ≤ 1 := by
  by_cases h1 : m = 1
  · subst h1; exact Nat.le_refl 1
  by_cases h2 : m = 2
  · subst h2; exact Nat.le_refl 1
  by_cases h3 : m = 3
  · subst h3; exact Nat.le_refl 1
  by_cases h4 : m = 4
  · subst h4; exact Nat.le_refl 1
  by_cases h5 : m = 5
  · subst h5; exact Nat.le_refl 1
  have e1 : ((1 : Int) == m) = false := by simp only [beq_eq_false_iff_ne, ne_eq]; omega
  have e2 : ((2 : Int) == m) = false := by simp only [beq_eq_false_iff_ne, ne_eq]; omega
  have e3 : ((3 : Int) == m) = false := by simp only [beq_eq_false_iff_ne, ne_eq]; omega
  have e4 : ((4 : Int) == m) = false := by simp only [beq_eq_false_iff_ne, ne_eq]; omega
  have e5 : ((5 : Int) == m) = false := by simp only [beq_eq_false_iff_ne, ne_eq]; omega
  have : cntR (five k d v y n) m = 0 := by
    unfold cntR five
    simp only [List.filter_cons, e1, e2, e3, e4, e5, List.filter_nil]
    rfl
  omega

set_option maxRecDepth 100000 in
set_option maxHeartbeats 1000000 in
theorem law_RecordMakes (k : List UInt8) (d : Bool) (v : ByteArray) (y : List UInt8) (n : Int) (w : World) (hk : k.length = 32) (hy : y.length = 32) :
    Calls Try.prog 5 #[.agg (fourL k d v y n).toArray] w fun e w' => e = .returned (.bool true) ∧ Nul w w' := by
  have hz3 := (zero_of_info zero_key).1
  have hz4 := (zero_of_info zero_ent).1
  have hz5 := (zero_of_info zero_sum).1
  have HB := hid (Blk.new w 40 (fourL k d v y n))
  have HN := hid ((Frm.refl (fun _ => False) w).alloc (.cells (fourL k d v y n).toArray 40))
  have Hkl := hid (show (keyL k).length = 32 by rw [keyL_length, hk])
  have Hyl := hid (show (keyL y).length = 32 by rw [keyL_length, hy])
  have Hki : Hid ((Try.prog.info? 23).map (·.size) = some (keyL k).length) := hid (by rw [Hkl.out, size_key])
  have Hyi : Hid ((Try.prog.info? 26).map (·.size) = some (keyL y).length) := hid (by rw [Hyl.out, size_sum])
  have H4 : Hid (∀ w', Blk w' w.heap.size 40 (fourL k d v y n) → w'.rangeAt w.heap.size 0 (keyL k) ∧ w'.cell? ⟨w.heap.size, 32, none⟩ = some (.bool d) ∧ w'.cell? ⟨w.heap.size, 33, none⟩ = some (.string v) ∧ w'.rangeAt w.heap.size 34 (keyL y) ∧ w'.cell? ⟨w.heap.size, 66, none⟩ = some (.int .i64 n)) := hid (fun w' h => four_at hk hy h)
  have Hok := hid (five_ok k d v y n hk hy)
  have Hk := hid hk
  have Hy := hid hy
  clear hk hy
  go_enter Try.func5, Try.ntmps5
  go_upto_region 1 with fail
  go_cut [3, 4, 5, 6] (Made4 w k d v y n)
  case first =>
    refine region_tillQ (fun _ => true) (fun w' => Blk w' w.heap.size 40 (fourL k d v y n)) (by kernel_rfl) (by intro c a d v w h; cases d <;> exact h) ?_
    intro Q1 HQ HQ1
    have hS0 : Blk (w.alloc (.cells (fourL k d v y n).toArray 40)).drew w.heap.size 40 (fourL k d v y n) := HB.out
    have HN1 : Hid (Nul w (w.alloc (.cells (fourL k d v y n).toArray 40)).drew) := hid HN.out.drew
    generalize (w.alloc (.cells (fourL k d v y n).toArray 40)).drew = w1 at hS0 HN1 ⊢
    refine AnyTill.take (n := 14) (i := 0) (oi := _) (v := .pointer (some ⟨w.heap.size, 0, none⟩)) rfl (by decide +kernel) (by decide +kernel) (by decide +kernel) (by decide +kernel) (fun c a w h => HQ c a _ _ w h) (Or.inl ⟨by rfl, fun w' hw' => by go_simp⟩) hS0 ?_
    try simp only [Act.put, List.setIfInBounds_toArray, List.set_cons_zero, List.set_cons_succ]
    refine AnyTill.take (n := 13) (i := 1) (oi := _) (v := .agg (keyL k).toArray) rfl (by decide +kernel) (by decide +kernel) (by decide +kernel) (by decide +kernel) (fun c a w h => HQ c a _ _ w h) (yieldsIf_load_mid (by rfl) 23 (.tmp 10) rfl (w.heap.size) (0) rfl (keyL k) _ (fun w' hw' => (H4.out w' hw').1) key_array rfl Hki.out) hS0 ?_
    try simp only [Act.put, List.setIfInBounds_toArray, List.set_cons_zero, List.set_cons_succ]
    refine AnyTill.take (n := 12) (i := 2) (oi := _) (v := .pointer (some ⟨w.heap.size, 32, none⟩)) rfl (by decide +kernel) (by decide +kernel) (by decide +kernel) (by decide +kernel) (fun c a w h => HQ c a _ _ w h) (Or.inl ⟨by rfl, fun w' hw' => by go_simp⟩) hS0 ?_
    try simp only [Act.put, List.setIfInBounds_toArray, List.set_cons_zero, List.set_cons_succ]
    refine AnyTill.take (n := 11) (i := 3) (oi := _) (v := .agg #[.bool d, .string v]) rfl (by decide +kernel) (by decide +kernel) (by decide +kernel) (by decide +kernel) (fun c a w h => HQ c a _ _ w h) (Or.inl ⟨by rfl, fun w' hw' => by have e0 := (H4.out w' hw').2.1; have e1 := (H4.out w' hw').2.2.1; go_simp⟩) hS0 ?_
    try simp only [Act.put, List.setIfInBounds_toArray, List.set_cons_zero, List.set_cons_succ]
    refine AnyTill.take (n := 10) (i := 4) (oi := _) (v := .pointer (some ⟨w.heap.size, 34, none⟩)) rfl (by decide +kernel) (by decide +kernel) (by decide +kernel) (by decide +kernel) (fun c a w h => HQ c a _ _ w h) (Or.inl ⟨by rfl, fun w' hw' => by go_simp⟩) hS0 ?_
    try simp only [Act.put, List.setIfInBounds_toArray, List.set_cons_zero, List.set_cons_succ]
    refine AnyTill.take (n := 9) (i := 5) (oi := _) (v := .agg (keyL y).toArray) rfl (by decide +kernel) (by decide +kernel) (by decide +kernel) (by decide +kernel) (fun c a w h => HQ c a _ _ w h) (yieldsIf_load_mid (by rfl) 26 (.tmp 14) rfl (w.heap.size) (34) rfl (keyL y) _ (fun w' hw' => (H4.out w' hw').2.2.2.1) sum_array rfl Hyi.out) hS0 ?_
    try simp only [Act.put, List.setIfInBounds_toArray, List.set_cons_zero, List.set_cons_succ]
    refine AnyTill.take (n := 8) (i := 6) (oi := _) (v := .pointer (some ⟨w.heap.size, 66, none⟩)) rfl (by decide +kernel) (by decide +kernel) (by decide +kernel) (by decide +kernel) (fun c a w h => HQ c a _ _ w h) (Or.inl ⟨by rfl, fun w' hw' => by go_simp⟩) hS0 ?_
    try simp only [Act.put, List.setIfInBounds_toArray, List.set_cons_zero, List.set_cons_succ]
    refine AnyTill.take (n := 7) (i := 7) (oi := _) (v := .int .i64 n) rfl (by decide +kernel) (by decide +kernel) (by decide +kernel) (by decide +kernel) (fun c a w h => HQ c a _ _ w h) (Or.inl ⟨by rfl, fun w' hw' => by have e0 := (H4.out w' hw').2.2.2.2; go_simp⟩) hS0 ?_
    try simp only [Act.put, List.setIfInBounds_toArray, List.set_cons_zero, List.set_cons_succ]
    refine AnyTill.three_go (n := 6) (i := 8) (j := 9) (k := 10) (by kernel_rfl) rfl rfl rfl (by rfl) (by rfl) (by rfl) (fun K hK => ?_) (fun K hK => ?_) (fun K hK => ?_)
    · have HK := hid hK
      clear hK
      go_simp
      refine HK.out _ _ (fun _ => Blk.alloc (hS0) _) ?_
      clear HK
      try simp only [Act.put, List.setIfInBounds_toArray, List.set_cons_zero, List.set_cons_succ]
      refine AnyTill.two_go (n := 5) (i := 9) (j := 10) (by kernel_rfl) rfl rfl (by rfl) (by rfl) (fun K hK => ?_) (fun K hK => ?_)
      · have HK := hid hK
        clear hK
        go_simp
        refine HK.out _ _ (fun _ => Blk.alloc (Blk.alloc (hS0) _) _) ?_
        clear HK
        try simp only [Act.put, List.setIfInBounds_toArray, List.set_cons_zero, List.set_cons_succ]
        refine AnyTill.one_go (n := 4) (i := 10) (by kernel_rfl) rfl (by rfl) (fun K hK => ?_)
        have HK := hid hK
        clear hK
        go_simp
        refine HK.out _ _ (fun _ => Blk.alloc (Blk.alloc (Blk.alloc (hS0) _) _) _) ?_
        clear HK
        try simp only [Act.put, List.setIfInBounds_toArray, List.set_cons_zero, List.set_cons_succ]
        have f3 : Blk (((w1.alloc (.cells (keyL zero32).toArray 23)).alloc (.cells #[.bool false, .string ⟨#[]⟩] 25)).alloc (.cells (keyL zero32).toArray 26)) (w1.heap.size) 23 (keyL zero32) := (((Blk.new_at w1 23 (keyL zero32) (by simp)).alloc _).alloc _)
        have f4 : Blk (((w1.alloc (.cells (keyL zero32).toArray 23)).alloc (.cells #[.bool false, .string ⟨#[]⟩] 25)).alloc (.cells (keyL zero32).toArray 26)) (w1.heap.size + 1) 25 (entL false ⟨#[]⟩) := ((Blk.new_at (w1.alloc (.cells (keyL zero32).toArray 23)) 25 (entL false ⟨#[]⟩) (by simp)).alloc _)
        have f5 : Blk (((w1.alloc (.cells (keyL zero32).toArray 23)).alloc (.cells #[.bool false, .string ⟨#[]⟩] 25)).alloc (.cells (keyL zero32).toArray 26)) (w1.heap.size + 1 + 1) 26 (keyL zero32) := (Blk.new_at ((w1.alloc (.cells (keyL zero32).toArray 23)).alloc (.cells #[.bool false, .string ⟨#[]⟩] 25)) 26 (keyL zero32) (by simp))
        have fS : Blk (((w1.alloc (.cells (keyL zero32).toArray 23)).alloc (.cells #[.bool false, .string ⟨#[]⟩] 25)).alloc (.cells (keyL zero32).toArray 26)) w.heap.size 40 (fourL k d v y n) := Blk.alloc (Blk.alloc (Blk.alloc hS0 _) _) _
        have fN : Nul w (((w1.alloc (.cells (keyL zero32).toArray 23)).alloc (.cells #[.bool false, .string ⟨#[]⟩] 25)).alloc (.cells (keyL zero32).toArray 26)) := ((HN1.out.alloc _).alloc _).alloc _
        have hlt := hS0.lt
        have hle := HN1.out.size
        generalize (((w1.alloc (.cells (keyL zero32).toArray 23)).alloc (.cells #[.bool false, .string ⟨#[]⟩] 25)).alloc (.cells (keyL zero32).toArray 26)) = w5 at f3 f4 f5 fS fN ⊢
        refine AnyTill.one_go (n := 3) (i := 11) (by kernel_rfl) rfl (by rfl) (fun K hK => ?_)
        refine wp_store_blk 23 (.tmp 3) (.tmp 11) rfl (w1.heap.size) (keyL k) rfl rfl 23 (keyL zero32) 32 f3 size_key Hkl.out rfl (keyL_one _) ?_
        intro w6 hB hO
        have f4 := f4.one hO (by omega)
        have f5 := f5.one hO (by omega)
        have fS := fS.one hO (by omega)
        have fN := fN.one hO (.inl (by omega))
        have f3 := hB
        clear hB hO
        refine hK _ _ (fun _ => fS) ?_
        clear hK
        try simp only [Act.put, List.setIfInBounds_toArray, List.set_cons_zero, List.set_cons_succ]
        refine AnyTill.one_go (n := 2) (i := 12) (by kernel_rfl) rfl (by rfl) (fun K hK => ?_)
        refine wp_store_blk 25 (.tmp 4) (.tmp 13) rfl (w1.heap.size + 1) (entL d v) rfl rfl 25 (entL false ⟨#[]⟩) 2 f4 size_ent rfl rfl (entL_one _ _) ?_
        intro w7 hB hO
        have f3 := f3.one hO (by omega)
        have f5 := f5.one hO (by omega)
        have fS := fS.one hO (by omega)
        have fN := fN.one hO (.inl (by omega))
        have f4 := hB
        clear hB hO
        refine hK _ _ (fun _ => fS) ?_
        clear hK
        try simp only [Act.put, List.setIfInBounds_toArray, List.set_cons_zero, List.set_cons_succ]
        refine AnyTill.one_go (n := 1) (i := 13) (by kernel_rfl) rfl (by rfl) (fun K hK => ?_)
        refine wp_store_blk 26 (.tmp 5) (.tmp 15) rfl (w1.heap.size + 1 + 1) (keyL y) rfl rfl 26 (keyL zero32) 32 f5 size_sum Hyl.out rfl (keyL_one _) ?_
        intro w8 hB hO
        have f3 := f3.one hO (by omega)
        have f4 := f4.one hO (by omega)
        have fS := fS.one hO (by omega)
        have fN := fN.one hO (.inl (by omega))
        have f5 := hB
        clear hB hO
        refine hK _ _ (fun _ => fS) ?_
        clear hK
        try simp only [Act.put, List.setIfInBounds_toArray, List.set_cons_zero, List.set_cons_succ]
        refine AnyTill.one_go (n := 0) (i := 14) (by kernel_rfl) rfl (by rfl) (fun K hK => ?_)
        have HK := hid hK
        clear hK
        go_simp
        refine HK.out _ _ (fun _ => fS) ?_
        clear HK
        try simp only [Act.put, List.setIfInBounds_toArray, List.set_cons_zero, List.set_cons_succ]
        refine AnyTill.over (by kernel_rfl) (HQ1 _ _ ?_)
        clear HQ HQ1
        have HM : Hid (Made4 w k d v y n _ _ _ _ w8) := hid ⟨_, _, _, rfl, rfl, rfl, rfl, f3, f4, f5, fN⟩
        clear f3 f4 f5 fS fN hlt hle hS0
        go_wp2_with fail
        go_meet
        exact HM.out
      · have HK := hid hK
        clear hK
        go_simp
        refine HK.out _ _ (fun _ => Blk.alloc (Blk.alloc (hS0) _) _) ?_
        clear HK
        try simp only [Act.put, List.setIfInBounds_toArray, List.set_cons_zero, List.set_cons_succ]
        refine AnyTill.one_go (n := 4) (i := 9) (by kernel_rfl) rfl (by rfl) (fun K hK => ?_)
        have HK := hid hK
        clear hK
        go_simp
        refine HK.out _ _ (fun _ => Blk.alloc (Blk.alloc (Blk.alloc (hS0) _) _) _) ?_
        clear HK
        try simp only [Act.put, List.setIfInBounds_toArray, List.set_cons_zero, List.set_cons_succ]
        have f3 : Blk (((w1.alloc (.cells (keyL zero32).toArray 23)).alloc (.cells (keyL zero32).toArray 26)).alloc (.cells #[.bool false, .string ⟨#[]⟩] 25)) (w1.heap.size) 23 (keyL zero32) := (((Blk.new_at w1 23 (keyL zero32) (by simp)).alloc _).alloc _)
        have f4 : Blk (((w1.alloc (.cells (keyL zero32).toArray 23)).alloc (.cells (keyL zero32).toArray 26)).alloc (.cells #[.bool false, .string ⟨#[]⟩] 25)) (w1.heap.size + 1 + 1) 25 (entL false ⟨#[]⟩) := (Blk.new_at ((w1.alloc (.cells (keyL zero32).toArray 23)).alloc (.cells (keyL zero32).toArray 26)) 25 (entL false ⟨#[]⟩) (by simp))
        have f5 : Blk (((w1.alloc (.cells (keyL zero32).toArray 23)).alloc (.cells (keyL zero32).toArray 26)).alloc (.cells #[.bool false, .string ⟨#[]⟩] 25)) (w1.heap.size + 1) 26 (keyL zero32) := ((Blk.new_at (w1.alloc (.cells (keyL zero32).toArray 23)) 26 (keyL zero32) (by simp)).alloc _)
        have fS : Blk (((w1.alloc (.cells (keyL zero32).toArray 23)).alloc (.cells (keyL zero32).toArray 26)).alloc (.cells #[.bool false, .string ⟨#[]⟩] 25)) w.heap.size 40 (fourL k d v y n) := Blk.alloc (Blk.alloc (Blk.alloc hS0 _) _) _
        have fN : Nul w (((w1.alloc (.cells (keyL zero32).toArray 23)).alloc (.cells (keyL zero32).toArray 26)).alloc (.cells #[.bool false, .string ⟨#[]⟩] 25)) := ((HN1.out.alloc _).alloc _).alloc _
        have hlt := hS0.lt
        have hle := HN1.out.size
        generalize (((w1.alloc (.cells (keyL zero32).toArray 23)).alloc (.cells (keyL zero32).toArray 26)).alloc (.cells #[.bool false, .string ⟨#[]⟩] 25)) = w5 at f3 f4 f5 fS fN ⊢
        refine AnyTill.one_go (n := 3) (i := 11) (by kernel_rfl) rfl (by rfl) (fun K hK => ?_)
        refine wp_store_blk 23 (.tmp 3) (.tmp 11) rfl (w1.heap.size) (keyL k) rfl rfl 23 (keyL zero32) 32 f3 size_key Hkl.out rfl (keyL_one _) ?_
        intro w6 hB hO
        have f4 := f4.one hO (by omega)
        have f5 := f5.one hO (by omega)
        have fS := fS.one hO (by omega)
        have fN := fN.one hO (.inl (by omega))
        have f3 := hB
        clear hB hO
        refine hK _ _ (fun _ => fS) ?_
        clear hK
        try simp only [Act.put, List.setIfInBounds_toArray, List.set_cons_zero, List.set_cons_succ]
        refine AnyTill.one_go (n := 2) (i := 12) (by kernel_rfl) rfl (by rfl) (fun K hK => ?_)
        refine wp_store_blk 25 (.tmp 4) (.tmp 13) rfl (w1.heap.size + 1 + 1) (entL d v) rfl rfl 25 (entL false ⟨#[]⟩) 2 f4 size_ent rfl rfl (entL_one _ _) ?_
        intro w7 hB hO
        have f3 := f3.one hO (by omega)
        have f5 := f5.one hO (by omega)
        have fS := fS.one hO (by omega)
        have fN := fN.one hO (.inl (by omega))
        have f4 := hB
        clear hB hO
        refine hK _ _ (fun _ => fS) ?_
        clear hK
        try simp only [Act.put, List.setIfInBounds_toArray, List.set_cons_zero, List.set_cons_succ]
        refine AnyTill.one_go (n := 1) (i := 13) (by kernel_rfl) rfl (by rfl) (fun K hK => ?_)
        refine wp_store_blk 26 (.tmp 5) (.tmp 15) rfl (w1.heap.size + 1) (keyL y) rfl rfl 26 (keyL zero32) 32 f5 size_sum Hyl.out rfl (keyL_one _) ?_
        intro w8 hB hO
        have f3 := f3.one hO (by omega)
        have f4 := f4.one hO (by omega)
        have fS := fS.one hO (by omega)
        have fN := fN.one hO (.inl (by omega))
        have f5 := hB
        clear hB hO
        refine hK _ _ (fun _ => fS) ?_
        clear hK
        try simp only [Act.put, List.setIfInBounds_toArray, List.set_cons_zero, List.set_cons_succ]
        refine AnyTill.one_go (n := 0) (i := 14) (by kernel_rfl) rfl (by rfl) (fun K hK => ?_)
        have HK := hid hK
        clear hK
        go_simp
        refine HK.out _ _ (fun _ => fS) ?_
        clear HK
        try simp only [Act.put, List.setIfInBounds_toArray, List.set_cons_zero, List.set_cons_succ]
        refine AnyTill.over (by kernel_rfl) (HQ1 _ _ ?_)
        clear HQ HQ1
        have HM : Hid (Made4 w k d v y n _ _ _ _ w8) := hid ⟨_, _, _, rfl, rfl, rfl, rfl, f3, f4, f5, fN⟩
        clear f3 f4 f5 fS fN hlt hle hS0
        go_wp2_with fail
        go_meet
        exact HM.out
    · have HK := hid hK
      clear hK
      go_simp
      refine HK.out _ _ (fun _ => Blk.alloc (hS0) _) ?_
      clear HK
      try simp only [Act.put, List.setIfInBounds_toArray, List.set_cons_zero, List.set_cons_succ]
      refine AnyTill.two_go (n := 5) (i := 8) (j := 10) (by kernel_rfl) rfl rfl (by rfl) (by rfl) (fun K hK => ?_) (fun K hK => ?_)
      · have HK := hid hK
        clear hK
        go_simp
        refine HK.out _ _ (fun _ => Blk.alloc (Blk.alloc (hS0) _) _) ?_
        clear HK
        try simp only [Act.put, List.setIfInBounds_toArray, List.set_cons_zero, List.set_cons_succ]
        refine AnyTill.one_go (n := 4) (i := 10) (by kernel_rfl) rfl (by rfl) (fun K hK => ?_)
        have HK := hid hK
        clear hK
        go_simp
        refine HK.out _ _ (fun _ => Blk.alloc (Blk.alloc (Blk.alloc (hS0) _) _) _) ?_
        clear HK
        try simp only [Act.put, List.setIfInBounds_toArray, List.set_cons_zero, List.set_cons_succ]
        have f3 : Blk (((w1.alloc (.cells #[.bool false, .string ⟨#[]⟩] 25)).alloc (.cells (keyL zero32).toArray 23)).alloc (.cells (keyL zero32).toArray 26)) (w1.heap.size + 1) 23 (keyL zero32) := ((Blk.new_at (w1.alloc (.cells #[.bool false, .string ⟨#[]⟩] 25)) 23 (keyL zero32) (by simp)).alloc _)
        have f4 : Blk (((w1.alloc (.cells #[.bool false, .string ⟨#[]⟩] 25)).alloc (.cells (keyL zero32).toArray 23)).alloc (.cells (keyL zero32).toArray 26)) (w1.heap.size) 25 (entL false ⟨#[]⟩) := (((Blk.new_at w1 25 (entL false ⟨#[]⟩) (by simp)).alloc _).alloc _)
        have f5 : Blk (((w1.alloc (.cells #[.bool false, .string ⟨#[]⟩] 25)).alloc (.cells (keyL zero32).toArray 23)).alloc (.cells (keyL zero32).toArray 26)) (w1.heap.size + 1 + 1) 26 (keyL zero32) := (Blk.new_at ((w1.alloc (.cells #[.bool false, .string ⟨#[]⟩] 25)).alloc (.cells (keyL zero32).toArray 23)) 26 (keyL zero32) (by simp))
        have fS : Blk (((w1.alloc (.cells #[.bool false, .string ⟨#[]⟩] 25)).alloc (.cells (keyL zero32).toArray 23)).alloc (.cells (keyL zero32).toArray 26)) w.heap.size 40 (fourL k d v y n) := Blk.alloc (Blk.alloc (Blk.alloc hS0 _) _) _
        have fN : Nul w (((w1.alloc (.cells #[.bool false, .string ⟨#[]⟩] 25)).alloc (.cells (keyL zero32).toArray 23)).alloc (.cells (keyL zero32).toArray 26)) := ((HN1.out.alloc _).alloc _).alloc _
        have hlt := hS0.lt
        have hle := HN1.out.size
        generalize (((w1.alloc (.cells #[.bool false, .string ⟨#[]⟩] 25)).alloc (.cells (keyL zero32).toArray 23)).alloc (.cells (keyL zero32).toArray 26)) = w5 at f3 f4 f5 fS fN ⊢
        refine AnyTill.one_go (n := 3) (i := 11) (by kernel_rfl) rfl (by rfl) (fun K hK => ?_)
        refine wp_store_blk 23 (.tmp 3) (.tmp 11) rfl (w1.heap.size + 1) (keyL k) rfl rfl 23 (keyL zero32) 32 f3 size_key Hkl.out rfl (keyL_one _) ?_
        intro w6 hB hO
        have f4 := f4.one hO (by omega)
        have f5 := f5.one hO (by omega)
        have fS := fS.one hO (by omega)
        have fN := fN.one hO (.inl (by omega))
        have f3 := hB
        clear hB hO
        refine hK _ _ (fun _ => fS) ?_
        clear hK
        try simp only [Act.put, List.setIfInBounds_toArray, List.set_cons_zero, List.set_cons_succ]
        refine AnyTill.one_go (n := 2) (i := 12) (by kernel_rfl) rfl (by rfl) (fun K hK => ?_)
        refine wp_store_blk 25 (.tmp 4) (.tmp 13) rfl (w1.heap.size) (entL d v) rfl rfl 25 (entL false ⟨#[]⟩) 2 f4 size_ent rfl rfl (entL_one _ _) ?_
        intro w7 hB hO
        have f3 := f3.one hO (by omega)
        have f5 := f5.one hO (by omega)
        have fS := fS.one hO (by omega)
        have fN := fN.one hO (.inl (by omega))
        have f4 := hB
        clear hB hO
        refine hK _ _ (fun _ => fS) ?_
        clear hK
        try simp only [Act.put, List.setIfInBounds_toArray, List.set_cons_zero, List.set_cons_succ]
        refine AnyTill.one_go (n := 1) (i := 13) (by kernel_rfl) rfl (by rfl) (fun K hK => ?_)
        refine wp_store_blk 26 (.tmp 5) (.tmp 15) rfl (w1.heap.size + 1 + 1) (keyL y) rfl rfl 26 (keyL zero32) 32 f5 size_sum Hyl.out rfl (keyL_one _) ?_
        intro w8 hB hO
        have f3 := f3.one hO (by omega)
        have f4 := f4.one hO (by omega)
        have fS := fS.one hO (by omega)
        have fN := fN.one hO (.inl (by omega))
        have f5 := hB
        clear hB hO
        refine hK _ _ (fun _ => fS) ?_
        clear hK
        try simp only [Act.put, List.setIfInBounds_toArray, List.set_cons_zero, List.set_cons_succ]
        refine AnyTill.one_go (n := 0) (i := 14) (by kernel_rfl) rfl (by rfl) (fun K hK => ?_)
        have HK := hid hK
        clear hK
        go_simp
        refine HK.out _ _ (fun _ => fS) ?_
        clear HK
        try simp only [Act.put, List.setIfInBounds_toArray, List.set_cons_zero, List.set_cons_succ]
        refine AnyTill.over (by kernel_rfl) (HQ1 _ _ ?_)
        clear HQ HQ1
        have HM : Hid (Made4 w k d v y n _ _ _ _ w8) := hid ⟨_, _, _, rfl, rfl, rfl, rfl, f3, f4, f5, fN⟩
        clear f3 f4 f5 fS fN hlt hle hS0
        go_wp2_with fail
        go_meet
        exact HM.out
      · have HK := hid hK
        clear hK
        go_simp
        refine HK.out _ _ (fun _ => Blk.alloc (Blk.alloc (hS0) _) _) ?_
        clear HK
        try simp only [Act.put, List.setIfInBounds_toArray, List.set_cons_zero, List.set_cons_succ]
        refine AnyTill.one_go (n := 4) (i := 8) (by kernel_rfl) rfl (by rfl) (fun K hK => ?_)
        have HK := hid hK
        clear hK
        go_simp
        refine HK.out _ _ (fun _ => Blk.alloc (Blk.alloc (Blk.alloc (hS0) _) _) _) ?_
        clear HK
        try simp only [Act.put, List.setIfInBounds_toArray, List.set_cons_zero, List.set_cons_succ]
        have f3 : Blk (((w1.alloc (.cells #[.bool false, .string ⟨#[]⟩] 25)).alloc (.cells (keyL zero32).toArray 26)).alloc (.cells (keyL zero32).toArray 23)) (w1.heap.size + 1 + 1) 23 (keyL zero32) := (Blk.new_at ((w1.alloc (.cells #[.bool false, .string ⟨#[]⟩] 25)).alloc (.cells (keyL zero32).toArray 26)) 23 (keyL zero32) (by simp))
        have f4 : Blk (((w1.alloc (.cells #[.bool false, .string ⟨#[]⟩] 25)).alloc (.cells (keyL zero32).toArray 26)).alloc (.cells (keyL zero32).toArray 23)) (w1.heap.size) 25 (entL false ⟨#[]⟩) := (((Blk.new_at w1 25 (entL false ⟨#[]⟩) (by simp)).alloc _).alloc _)
        have f5 : Blk (((w1.alloc (.cells #[.bool false, .string ⟨#[]⟩] 25)).alloc (.cells (keyL zero32).toArray 26)).alloc (.cells (keyL zero32).toArray 23)) (w1.heap.size + 1) 26 (keyL zero32) := ((Blk.new_at (w1.alloc (.cells #[.bool false, .string ⟨#[]⟩] 25)) 26 (keyL zero32) (by simp)).alloc _)
        have fS : Blk (((w1.alloc (.cells #[.bool false, .string ⟨#[]⟩] 25)).alloc (.cells (keyL zero32).toArray 26)).alloc (.cells (keyL zero32).toArray 23)) w.heap.size 40 (fourL k d v y n) := Blk.alloc (Blk.alloc (Blk.alloc hS0 _) _) _
        have fN : Nul w (((w1.alloc (.cells #[.bool false, .string ⟨#[]⟩] 25)).alloc (.cells (keyL zero32).toArray 26)).alloc (.cells (keyL zero32).toArray 23)) := ((HN1.out.alloc _).alloc _).alloc _
        have hlt := hS0.lt
        have hle := HN1.out.size
        generalize (((w1.alloc (.cells #[.bool false, .string ⟨#[]⟩] 25)).alloc (.cells (keyL zero32).toArray 26)).alloc (.cells (keyL zero32).toArray 23)) = w5 at f3 f4 f5 fS fN ⊢
        refine AnyTill.one_go (n := 3) (i := 11) (by kernel_rfl) rfl (by rfl) (fun K hK => ?_)
        refine wp_store_blk 23 (.tmp 3) (.tmp 11) rfl (w1.heap.size + 1 + 1) (keyL k) rfl rfl 23 (keyL zero32) 32 f3 size_key Hkl.out rfl (keyL_one _) ?_
        intro w6 hB hO
        have f4 := f4.one hO (by omega)
        have f5 := f5.one hO (by omega)
        have fS := fS.one hO (by omega)
        have fN := fN.one hO (.inl (by omega))
        have f3 := hB
        clear hB hO
        refine hK _ _ (fun _ => fS) ?_
        clear hK
        try simp only [Act.put, List.setIfInBounds_toArray, List.set_cons_zero, List.set_cons_succ]
        refine AnyTill.one_go (n := 2) (i := 12) (by kernel_rfl) rfl (by rfl) (fun K hK => ?_)
        refine wp_store_blk 25 (.tmp 4) (.tmp 13) rfl (w1.heap.size) (entL d v) rfl rfl 25 (entL false ⟨#[]⟩) 2 f4 size_ent rfl rfl (entL_one _ _) ?_
        intro w7 hB hO
        have f3 := f3.one hO (by omega)
        have f5 := f5.one hO (by omega)
        have fS := fS.one hO (by omega)
        have fN := fN.one hO (.inl (by omega))
        have f4 := hB
        clear hB hO
        refine hK _ _ (fun _ => fS) ?_
        clear hK
        try simp only [Act.put, List.setIfInBounds_toArray, List.set_cons_zero, List.set_cons_succ]
        refine AnyTill.one_go (n := 1) (i := 13) (by kernel_rfl) rfl (by rfl) (fun K hK => ?_)
        refine wp_store_blk 26 (.tmp 5) (.tmp 15) rfl (w1.heap.size + 1) (keyL y) rfl rfl 26 (keyL zero32) 32 f5 size_sum Hyl.out rfl (keyL_one _) ?_
        intro w8 hB hO
        have f3 := f3.one hO (by omega)
        have f4 := f4.one hO (by omega)
        have fS := fS.one hO (by omega)
        have fN := fN.one hO (.inl (by omega))
        have f5 := hB
        clear hB hO
        refine hK _ _ (fun _ => fS) ?_
        clear hK
        try simp only [Act.put, List.setIfInBounds_toArray, List.set_cons_zero, List.set_cons_succ]
        refine AnyTill.one_go (n := 0) (i := 14) (by kernel_rfl) rfl (by rfl) (fun K hK => ?_)
        have HK := hid hK
        clear hK
        go_simp
        refine HK.out _ _ (fun _ => fS) ?_
        clear HK
        try simp only [Act.put, List.setIfInBounds_toArray, List.set_cons_zero, List.set_cons_succ]
        refine AnyTill.over (by kernel_rfl) (HQ1 _ _ ?_)
        clear HQ HQ1
        have HM : Hid (Made4 w k d v y n _ _ _ _ w8) := hid ⟨_, _, _, rfl, rfl, rfl, rfl, f3, f4, f5, fN⟩
        clear f3 f4 f5 fS fN hlt hle hS0
        go_wp2_with fail
        go_meet
        exact HM.out
    · have HK := hid hK
      clear hK
      go_simp
      refine HK.out _ _ (fun _ => Blk.alloc (hS0) _) ?_
      clear HK
      try simp only [Act.put, List.setIfInBounds_toArray, List.set_cons_zero, List.set_cons_succ]
      refine AnyTill.two_go (n := 5) (i := 8) (j := 9) (by kernel_rfl) rfl rfl (by rfl) (by rfl) (fun K hK => ?_) (fun K hK => ?_)
      · have HK := hid hK
        clear hK
        go_simp
        refine HK.out _ _ (fun _ => Blk.alloc (Blk.alloc (hS0) _) _) ?_
        clear HK
        try simp only [Act.put, List.setIfInBounds_toArray, List.set_cons_zero, List.set_cons_succ]
        refine AnyTill.one_go (n := 4) (i := 9) (by kernel_rfl) rfl (by rfl) (fun K hK => ?_)
        have HK := hid hK
        clear hK
        go_simp
        refine HK.out _ _ (fun _ => Blk.alloc (Blk.alloc (Blk.alloc (hS0) _) _) _) ?_
        clear HK
        try simp only [Act.put, List.setIfInBounds_toArray, List.set_cons_zero, List.set_cons_succ]
        have f3 : Blk (((w1.alloc (.cells (keyL zero32).toArray 26)).alloc (.cells (keyL zero32).toArray 23)).alloc (.cells #[.bool false, .string ⟨#[]⟩] 25)) (w1.heap.size + 1) 23 (keyL zero32) := ((Blk.new_at (w1.alloc (.cells (keyL zero32).toArray 26)) 23 (keyL zero32) (by simp)).alloc _)
        have f4 : Blk (((w1.alloc (.cells (keyL zero32).toArray 26)).alloc (.cells (keyL zero32).toArray 23)).alloc (.cells #[.bool false, .string ⟨#[]⟩] 25)) (w1.heap.size + 1 + 1) 25 (entL false ⟨#[]⟩) := (Blk.new_at ((w1.alloc (.cells (keyL zero32).toArray 26)).alloc (.cells (keyL zero32).toArray 23)) 25 (entL false ⟨#[]⟩) (by simp))
        have f5 : Blk (((w1.alloc (.cells (keyL zero32).toArray 26)).alloc (.cells (keyL zero32).toArray 23)).alloc (.cells #[.bool false, .string ⟨#[]⟩] 25)) (w1.heap.size) 26 (keyL zero32) := (((Blk.new_at w1 26 (keyL zero32) (by simp)).alloc _).alloc _)
        have fS : Blk (((w1.alloc (.cells (keyL zero32).toArray 26)).alloc (.cells (keyL zero32).toArray 23)).alloc (.cells #[.bool false, .string ⟨#[]⟩] 25)) w.heap.size 40 (fourL k d v y n) := Blk.alloc (Blk.alloc (Blk.alloc hS0 _) _) _
        have fN : Nul w (((w1.alloc (.cells (keyL zero32).toArray 26)).alloc (.cells (keyL zero32).toArray 23)).alloc (.cells #[.bool false, .string ⟨#[]⟩] 25)) := ((HN1.out.alloc _).alloc _).alloc _
        have hlt := hS0.lt
        have hle := HN1.out.size
        generalize (((w1.alloc (.cells (keyL zero32).toArray 26)).alloc (.cells (keyL zero32).toArray 23)).alloc (.cells #[.bool false, .string ⟨#[]⟩] 25)) = w5 at f3 f4 f5 fS fN ⊢
        refine AnyTill.one_go (n := 3) (i := 11) (by kernel_rfl) rfl (by rfl) (fun K hK => ?_)
        refine wp_store_blk 23 (.tmp 3) (.tmp 11) rfl (w1.heap.size + 1) (keyL k) rfl rfl 23 (keyL zero32) 32 f3 size_key Hkl.out rfl (keyL_one _) ?_
        intro w6 hB hO
        have f4 := f4.one hO (by omega)
        have f5 := f5.one hO (by omega)
        have fS := fS.one hO (by omega)
        have fN := fN.one hO (.inl (by omega))
        have f3 := hB
        clear hB hO
        refine hK _ _ (fun _ => fS) ?_
        clear hK
        try simp only [Act.put, List.setIfInBounds_toArray, List.set_cons_zero, List.set_cons_succ]
        refine AnyTill.one_go (n := 2) (i := 12) (by kernel_rfl) rfl (by rfl) (fun K hK => ?_)
        refine wp_store_blk 25 (.tmp 4) (.tmp 13) rfl (w1.heap.size + 1 + 1) (entL d v) rfl rfl 25 (entL false ⟨#[]⟩) 2 f4 size_ent rfl rfl (entL_one _ _) ?_
        intro w7 hB hO
        have f3 := f3.one hO (by omega)
        have f5 := f5.one hO (by omega)
        have fS := fS.one hO (by omega)
        have fN := fN.one hO (.inl (by omega))
        have f4 := hB
        clear hB hO
        refine hK _ _ (fun _ => fS) ?_
        clear hK
        try simp only [Act.put, List.setIfInBounds_toArray, List.set_cons_zero, List.set_cons_succ]
        refine AnyTill.one_go (n := 1) (i := 13) (by kernel_rfl) rfl (by rfl) (fun K hK => ?_)
        refine wp_store_blk 26 (.tmp 5) (.tmp 15) rfl (w1.heap.size) (keyL y) rfl rfl 26 (keyL zero32) 32 f5 size_sum Hyl.out rfl (keyL_one _) ?_
        intro w8 hB hO
        have f3 := f3.one hO (by omega)
        have f4 := f4.one hO (by omega)
        have fS := fS.one hO (by omega)
        have fN := fN.one hO (.inl (by omega))
        have f5 := hB
        clear hB hO
        refine hK _ _ (fun _ => fS) ?_
        clear hK
        try simp only [Act.put, List.setIfInBounds_toArray, List.set_cons_zero, List.set_cons_succ]
        refine AnyTill.one_go (n := 0) (i := 14) (by kernel_rfl) rfl (by rfl) (fun K hK => ?_)
        have HK := hid hK
        clear hK
        go_simp
        refine HK.out _ _ (fun _ => fS) ?_
        clear HK
        try simp only [Act.put, List.setIfInBounds_toArray, List.set_cons_zero, List.set_cons_succ]
        refine AnyTill.over (by kernel_rfl) (HQ1 _ _ ?_)
        clear HQ HQ1
        have HM : Hid (Made4 w k d v y n _ _ _ _ w8) := hid ⟨_, _, _, rfl, rfl, rfl, rfl, f3, f4, f5, fN⟩
        clear f3 f4 f5 fS fN hlt hle hS0
        go_wp2_with fail
        go_meet
        exact HM.out
      · have HK := hid hK
        clear hK
        go_simp
        refine HK.out _ _ (fun _ => Blk.alloc (Blk.alloc (hS0) _) _) ?_
        clear HK
        try simp only [Act.put, List.setIfInBounds_toArray, List.set_cons_zero, List.set_cons_succ]
        refine AnyTill.one_go (n := 4) (i := 8) (by kernel_rfl) rfl (by rfl) (fun K hK => ?_)
        have HK := hid hK
        clear hK
        go_simp
        refine HK.out _ _ (fun _ => Blk.alloc (Blk.alloc (Blk.alloc (hS0) _) _) _) ?_
        clear HK
        try simp only [Act.put, List.setIfInBounds_toArray, List.set_cons_zero, List.set_cons_succ]
        have f3 : Blk (((w1.alloc (.cells (keyL zero32).toArray 26)).alloc (.cells #[.bool false, .string ⟨#[]⟩] 25)).alloc (.cells (keyL zero32).toArray 23)) (w1.heap.size + 1 + 1) 23 (keyL zero32) := (Blk.new_at ((w1.alloc (.cells (keyL zero32).toArray 26)).alloc (.cells #[.bool false, .string ⟨#[]⟩] 25)) 23 (keyL zero32) (by simp))
        have f4 : Blk (((w1.alloc (.cells (keyL zero32).toArray 26)).alloc (.cells #[.bool false, .string ⟨#[]⟩] 25)).alloc (.cells (keyL zero32).toArray 23)) (w1.heap.size + 1) 25 (entL false ⟨#[]⟩) := ((Blk.new_at (w1.alloc (.cells (keyL zero32).toArray 26)) 25 (entL false ⟨#[]⟩) (by simp)).alloc _)
        have f5 : Blk (((w1.alloc (.cells (keyL zero32).toArray 26)).alloc (.cells #[.bool false, .string ⟨#[]⟩] 25)).alloc (.cells (keyL zero32).toArray 23)) (w1.heap.size) 26 (keyL zero32) := (((Blk.new_at w1 26 (keyL zero32) (by simp)).alloc _).alloc _)
        have fS : Blk (((w1.alloc (.cells (keyL zero32).toArray 26)).alloc (.cells #[.bool false, .string ⟨#[]⟩] 25)).alloc (.cells (keyL zero32).toArray 23)) w.heap.size 40 (fourL k d v y n) := Blk.alloc (Blk.alloc (Blk.alloc hS0 _) _) _
        have fN : Nul w (((w1.alloc (.cells (keyL zero32).toArray 26)).alloc (.cells #[.bool false, .string ⟨#[]⟩] 25)).alloc (.cells (keyL zero32).toArray 23)) := ((HN1.out.alloc _).alloc _).alloc _
        have hlt := hS0.lt
        have hle := HN1.out.size
        generalize (((w1.alloc (.cells (keyL zero32).toArray 26)).alloc (.cells #[.bool false, .string ⟨#[]⟩] 25)).alloc (.cells (keyL zero32).toArray 23)) = w5 at f3 f4 f5 fS fN ⊢
        refine AnyTill.one_go (n := 3) (i := 11) (by kernel_rfl) rfl (by rfl) (fun K hK => ?_)
        refine wp_store_blk 23 (.tmp 3) (.tmp 11) rfl (w1.heap.size + 1 + 1) (keyL k) rfl rfl 23 (keyL zero32) 32 f3 size_key Hkl.out rfl (keyL_one _) ?_
        intro w6 hB hO
        have f4 := f4.one hO (by omega)
        have f5 := f5.one hO (by omega)
        have fS := fS.one hO (by omega)
        have fN := fN.one hO (.inl (by omega))
        have f3 := hB
        clear hB hO
        refine hK _ _ (fun _ => fS) ?_
        clear hK
        try simp only [Act.put, List.setIfInBounds_toArray, List.set_cons_zero, List.set_cons_succ]
        refine AnyTill.one_go (n := 2) (i := 12) (by kernel_rfl) rfl (by rfl) (fun K hK => ?_)
        refine wp_store_blk 25 (.tmp 4) (.tmp 13) rfl (w1.heap.size + 1) (entL d v) rfl rfl 25 (entL false ⟨#[]⟩) 2 f4 size_ent rfl rfl (entL_one _ _) ?_
        intro w7 hB hO
        have f3 := f3.one hO (by omega)
        have f5 := f5.one hO (by omega)
        have fS := fS.one hO (by omega)
        have fN := fN.one hO (.inl (by omega))
        have f4 := hB
        clear hB hO
        refine hK _ _ (fun _ => fS) ?_
        clear hK
        try simp only [Act.put, List.setIfInBounds_toArray, List.set_cons_zero, List.set_cons_succ]
        refine AnyTill.one_go (n := 1) (i := 13) (by kernel_rfl) rfl (by rfl) (fun K hK => ?_)
        refine wp_store_blk 26 (.tmp 5) (.tmp 15) rfl (w1.heap.size) (keyL y) rfl rfl 26 (keyL zero32) 32 f5 size_sum Hyl.out rfl (keyL_one _) ?_
        intro w8 hB hO
        have f3 := f3.one hO (by omega)
        have f4 := f4.one hO (by omega)
        have fS := fS.one hO (by omega)
        have fN := fN.one hO (.inl (by omega))
        have f5 := hB
        clear hB hO
        refine hK _ _ (fun _ => fS) ?_
        clear hK
        try simp only [Act.put, List.setIfInBounds_toArray, List.set_cons_zero, List.set_cons_succ]
        refine AnyTill.one_go (n := 0) (i := 14) (by kernel_rfl) rfl (by rfl) (fun K hK => ?_)
        have HK := hid hK
        clear hK
        go_simp
        refine HK.out _ _ (fun _ => fS) ?_
        clear HK
        try simp only [Act.put, List.setIfInBounds_toArray, List.set_cons_zero, List.set_cons_succ]
        refine AnyTill.over (by kernel_rfl) (HQ1 _ _ ?_)
        clear HQ HQ1
        have HM : Hid (Made4 w k d v y n _ _ _ _ w8) := hid ⟨_, _, _, rfl, rfl, rfl, rfl, f3, f4, f5, fN⟩
        clear f3 f4 f5 fS fN hlt hle hS0
        go_wp2_with fail
        go_meet
        exact HM.out
  case rest =>
    obtain ⟨b3, b4, b5, rfl, rfl, rfl, rfl, f3, f4, f5, fN⟩ := hcut
    have H3 := hid (And.intro f3 (And.intro f4 (And.intro f5 fN)))
    clear f3 f4 f5 fN H4 HB HN hz3 hz4 hz5
    go_wp2_with fail
    refine region_quiet_tail (Nul wc) 12 (by kernel_rfl) (by kernel_rfl) (Frm.refl _ _).drew ?_
    refine quiet_row 23 (.tmp 3) rfl (by rfl) (b3) (0) rfl (keyL k) _ (fun w' hw' => by have := (H3.out.1.nul hw').range 0 32; rw [List.drop_zero, List.take_of_length_le (Nat.le_of_eq Hkl.out)] at this; exact this) key_array rfl Hki.out ?_
    try simp only [Act.put, List.setIfInBounds_toArray, List.set_cons_zero, List.set_cons_succ]
    refine quiet_do (.agg #[.bool d, .string v]) (by rfl) (fun w' hw' => by have e0 : w'.cell? ⟨b4, 0, none⟩ = some (.bool d) := (H3.out.2.1.nul hw').cell 0; have e1 : w'.cell? ⟨b4, 1, none⟩ = some (.string v) := (H3.out.2.1.nul hw').cell 1; go_simp) ?_
    try simp only [Act.put, List.setIfInBounds_toArray, List.set_cons_zero, List.set_cons_succ]
    refine quiet_call 15 #[.agg (keyL k).toArray, .agg #[.bool d, .string v]] (.agg (recL ⟨1, k, d, v, zero32, 0⟩).toArray) (by rfl) (fun w' => by go_simp) (fun w' hw' => (rec_Set k d v w' Hk.out).mono fun e w'' ⟨h1, h2⟩ => ⟨h1, hw'.trans h2⟩) ?_
    try simp only [Act.put, List.setIfInBounds_toArray, List.set_cons_zero, List.set_cons_succ]
    refine quiet_row 23 (.tmp 3) rfl (by rfl) (b3) (0) rfl (keyL k) _ (fun w' hw' => by have := (H3.out.1.nul hw').range 0 32; rw [List.drop_zero, List.take_of_length_le (Nat.le_of_eq Hkl.out)] at this; exact this) key_array rfl Hki.out ?_
    try simp only [Act.put, List.setIfInBounds_toArray, List.set_cons_zero, List.set_cons_succ]
    refine quiet_do (.agg #[.bool d, .string v]) (by rfl) (fun w' hw' => by have e0 : w'.cell? ⟨b4, 0, none⟩ = some (.bool d) := (H3.out.2.1.nul hw').cell 0; have e1 : w'.cell? ⟨b4, 1, none⟩ = some (.string v) := (H3.out.2.1.nul hw').cell 1; go_simp) ?_
    try simp only [Act.put, List.setIfInBounds_toArray, List.set_cons_zero, List.set_cons_succ]
    refine quiet_call 16 #[.agg (keyL k).toArray, .agg #[.bool d, .string v]] (.agg (recL ⟨2, k, d, v, zero32, 0⟩).toArray) (by rfl) (fun w' => by go_simp) (fun w' hw' => (rec_Prev k d v w' Hk.out).mono fun e w'' ⟨h1, h2⟩ => ⟨h1, hw'.trans h2⟩) ?_
    try simp only [Act.put, List.setIfInBounds_toArray, List.set_cons_zero, List.set_cons_succ]
    refine quiet_row 26 (.tmp 5) rfl (by rfl) (b5) (0) rfl (keyL y) _ (fun w' hw' => by have := (H3.out.2.2.1.nul hw').range 0 32; rw [List.drop_zero, List.take_of_length_le (Nat.le_of_eq Hyl.out)] at this; exact this) sum_array rfl Hyi.out ?_
    try simp only [Act.put, List.setIfInBounds_toArray, List.set_cons_zero, List.set_cons_succ]
    refine quiet_call 17 #[.agg (keyL y).toArray] (.agg (recL ⟨3, zero32, false, ⟨#[]⟩, y, 0⟩).toArray) (by rfl) (fun w' => by go_simp) (fun w' hw' => (rec_Roll y w' Hy.out).mono fun e w'' ⟨h1, h2⟩ => ⟨h1, hw'.trans h2⟩) ?_
    try simp only [Act.put, List.setIfInBounds_toArray, List.set_cons_zero, List.set_cons_succ]
    refine quiet_row 26 (.tmp 5) rfl (by rfl) (b5) (0) rfl (keyL y) _ (fun w' hw' => by have := (H3.out.2.2.1.nul hw').range 0 32; rw [List.drop_zero, List.take_of_length_le (Nat.le_of_eq Hyl.out)] at this; exact this) sum_array rfl Hyi.out ?_
    try simp only [Act.put, List.setIfInBounds_toArray, List.set_cons_zero, List.set_cons_succ]
    refine quiet_call 18 #[.agg (keyL y).toArray] (.agg (recL ⟨4, zero32, false, ⟨#[]⟩, y, 0⟩).toArray) (by rfl) (fun w' => by go_simp) (fun w' hw' => (rec_Frozen y w' Hy.out).mono fun e w'' ⟨h1, h2⟩ => ⟨h1, hw'.trans h2⟩) ?_
    try simp only [Act.put, List.setIfInBounds_toArray, List.set_cons_zero, List.set_cons_succ]
    refine quiet_do (.int .i64 n) (by rfl) (fun w' hw' => by go_simp) ?_
    try simp only [Act.put, List.setIfInBounds_toArray, List.set_cons_zero, List.set_cons_succ]
    refine quiet_call 19 #[.int .i64 n] (.agg (recL ⟨5, zero32, false, ⟨#[]⟩, zero32, n⟩).toArray) (by rfl) (fun w' => by go_simp) (fun w' hw' => (rec_Epoch n w').mono fun e w'' ⟨h1, h2⟩ => ⟨h1, hw'.trans h2⟩) ?_
    try simp only [Act.put, List.setIfInBounds_toArray, List.set_cons_zero, List.set_cons_succ]
    refine wpQuiet_nil ?_
    intro w7 hf7
    have H7 : Hid (Blk w7 b3 23 (keyL k) ∧ Blk w7 b4 25 (entL d v) ∧ Blk w7 b5 26 (keyL y) ∧ Nul w w7) := hid ⟨H3.out.1.nul hf7, H3.out.2.1.nul hf7, H3.out.2.2.1.nul hf7, H3.out.2.2.2.trans hf7⟩
    clear hf7
    show wpList _ _ _ [_, _] _ _
    refine wpList_rows (by rfl) 44 28 5 _ rfl _ Try.underlying44 zero_rec (five k d v y n) Hok.out rfl (by decide) (by decide) (by kernel_rfl) ?_
    try simp only [Act.put, List.setIfInBounds_toArray, List.set_cons_zero, List.set_cons_succ]
    have H8 : Hid (Blk (w7.alloc (.cells (recsL (five k d v y n)).toArray 28)) b3 23 (keyL k) ∧ Blk (w7.alloc (.cells (recsL (five k d v y n)).toArray 28)) b4 25 (entL d v) ∧ Blk (w7.alloc (.cells (recsL (five k d v y n)).toArray 28)) b5 26 (keyL y) ∧ Nul w (w7.alloc (.cells (recsL (five k d v y n)).toArray 28)) ∧ Blk (w7.alloc (.cells (recsL (five k d v y n)).toArray 28)) w7.heap.size 28 (recsL (five k d v y n))) := hid ⟨H7.out.1.alloc _, H7.out.2.1.alloc _, H7.out.2.2.1.alloc _, H7.out.2.2.2.alloc _, Blk.new w7 28 _⟩
    generalize (w7.alloc (.cells (recsL (five k d v y n)).toArray 28)) = w8 at H8 ⊢
    generalize w7.heap.size = b7 at H8 ⊢
    have e0 : w8.cell? ⟨b4, 0, none⟩ = some (.bool d) := H8.out.2.1.cell 0
    have e1 : w8.cell? ⟨b4, 1, none⟩ = some (.string v) := H8.out.2.1.cell 1
    have Hb1 := hid (built_key 1 k d v Hk.out)
    have Hb2 := hid (built_key 2 k d v Hk.out)
    have Hb3 := hid (built_sum 3 y Hy.out)
    have Hb4 := hid (built_sum 4 y Hy.out)
    have Hb5 := hid (built_n 5 n)
    go_wp2_with (first
      | (with_reducible refine wpList_load_blk rfl 23 (.tmp 3) rfl b3 rfl 23 (keyL k) 32 _ H8.out.1 key_array rfl size_key Hkl.out ?_)
      | (with_reducible refine wpList_load_blk rfl 26 (.tmp 5) rfl b5 rfl 26 (keyL y) 32 _ H8.out.2.2.1 sum_array rfl size_sum Hyl.out ?_)
      | (with_reducible refine wpList_builtK (o := ⟨some 33, _, _, _, _, _⟩) rfl 28 _ rfl [(0, .int .i64 1), (1, .agg (keyL k).toArray), (2, .agg (entL d v).toArray)] (recL ⟨1, k, d, v, zero32, 0⟩).toArray (by kernel_rfl) Hb1.out ?_)
      | (with_reducible refine wpList_builtK (o := ⟨some 36, _, _, _, _, _⟩) rfl 28 _ rfl [(0, .int .i64 2), (1, .agg (keyL k).toArray), (2, .agg (entL d v).toArray)] (recL ⟨2, k, d, v, zero32, 0⟩).toArray (by kernel_rfl) Hb2.out ?_)
      | (with_reducible refine wpList_builtK (o := ⟨some 38, _, _, _, _, _⟩) rfl 28 _ rfl [(0, .int .i64 3), (3, .agg (keyL y).toArray)] (recL ⟨3, zero32, false, ⟨#[]⟩, y, 0⟩).toArray (by kernel_rfl) Hb3.out ?_)
      | (with_reducible refine wpList_builtK (o := ⟨some 40, _, _, _, _, _⟩) rfl 28 _ rfl [(0, .int .i64 4), (3, .agg (keyL y).toArray)] (recL ⟨4, zero32, false, ⟨#[]⟩, y, 0⟩).toArray (by kernel_rfl) Hb4.out ?_)
      | (with_reducible refine wpList_builtK (o := ⟨some 42, _, _, _, _, _⟩) rfl 28 _ rfl [(0, .int .i64 5), (4, .int .i64 n)] (recL ⟨5, zero32, false, ⟨#[]⟩, zero32, n⟩).toArray (by kernel_rfl) Hb5.out ?_)
      | (with_reducible refine wpList_rows (by kernel_rfl) 44 28 5 _ rfl _ Try.underlying44 zero_rec (five k d v y n) Hok.out (by kernel_rfl) (by decide) (by decide) (by kernel_rfl) ?_
         have H9 : Hid (Nul w (w8.alloc (.cells (recsL (five k d v y n)).toArray 28)) ∧ Blk (w8.alloc (.cells (recsL (five k d v y n)).toArray 28)) b7 28 (recsL (five k d v y n)) ∧ Blk (w8.alloc (.cells (recsL (five k d v y n)).toArray 28)) w8.heap.size 28 (recsL (five k d v y n))) := hid ⟨H8.out.2.2.2.1.alloc _, H8.out.2.2.2.2.alloc _, Blk.new w8 28 _⟩
         clear e0 e1
         generalize (w8.alloc (.cells (recsL (five k d v y n)).toArray 28)) = w9 at H9 ⊢
         generalize w8.heap.size = b8 at H9 ⊢))
    clear Hb1 Hb2 Hb3 Hb4 Hb5 H8 H7 H3
    obtain ⟨rs, hrs⟩ : ∃ rs, rs = five k d v y n := ⟨_, rfl⟩
    have Hlen : Hid (rs.length = 5) := hid (by rw [hrs]; rfl)
    have Htwo : Hid (∀ i : Nat, 1 ≤ i → i ≤ 5 → cntR (rs ++ rs.take i) i = 2) := hid (by rw [hrs]; exact five_two k d v y n)
    have Hone : Hid (cntR rs n ≤ 1) := hid (by rw [hrs]; exact five_one k d v y n n)
    rw [← hrs] at Hok H9
    clear hrs
    go_loopg [9] 5 (fun g i wr => ∃ j : Nat, j + g = 6 ∧ 1 ≤ j ∧ i = .int .i64 j ∧ Nul w9 wr)
    case atStart => exact ⟨1, by omega, by omega, rfl, Frm.refl _ _⟩
    case round =>
      obtain ⟨j, hj, hj1, rfl, hf⟩ := hrel
      have HH := hid (And.intro hj (And.intro hj1 hf))
      by_cases hlt : j ≤ 5
      · have hj0 : (0 : Int) ≤ (j : Int) := by omega
        have hj5 : (j : Int) ≤ 5 := by omega
        have Hj := hid hlt
        clear hj hf hj1
        go_wp2_with fail
        refine region_tillQ (fun _ => true) (fun w' => Frm (wr.heap.size ≤ ·) wr w') (by kernel_rfl) (by intro c a d v w h; cases d <;> exact h) ?_
        intro Q1 HQ HQ1
        have hS0 : Frm (wr.heap.size ≤ ·) wr wr.drew := (Frm.refl _ _).drew
        refine AnyTill.take (n := 9) (i := 1) (oi := ⟨some 49, _, _, _, _, _⟩) (v := .slice (some ⟨b7, 0, none⟩) 5 5) rfl (by decide +kernel) (by decide +kernel) (by decide +kernel) (by decide +kernel) (fun c a w h => HQ c a _ _ w h) (Or.inl ⟨by rfl, fun w' hw' => by go_simp⟩) hS0 ?_
        try simp only [Act.put, List.setIfInBounds_toArray, List.set_cons_zero, List.set_cons_succ]
        refine AnyTill.take (n := 8) (i := 3) (oi := ⟨some 51, _, _, _, _, _⟩) (v := .slice (some ⟨b7, 0, none⟩) 5 5) rfl (by decide +kernel) (by decide +kernel) (by decide +kernel) (by decide +kernel) (fun c a w h => HQ c a _ _ w h) (Or.inl ⟨by rfl, fun w' hw' => by go_simp⟩) hS0 ?_
        try simp only [Act.put, List.setIfInBounds_toArray, List.set_cons_zero, List.set_cons_succ]
        refine AnyTill.take (n := 7) (i := 4) (oi := ⟨some 52, _, _, _, _, _⟩) (v := .int .i64 j) rfl (by decide +kernel) (by decide +kernel) (by decide +kernel) (by decide +kernel) (fun c a w h => HQ c a _ _ w h) (Or.inl ⟨by rfl, fun w' hw' => by go_simp⟩) hS0 ?_
        try simp only [Act.put, List.setIfInBounds_toArray, List.set_cons_zero, List.set_cons_succ]
        refine AnyTill.take (n := 6) (i := 5) (oi := ⟨some 53, _, _, _, _, _⟩) (v := .slice (some ⟨b7, 0, none⟩) j 5) rfl (by decide +kernel) (by decide +kernel) (by decide +kernel) (by decide +kernel) (fun c a w h => HQ c a _ _ w h) (Or.inl ⟨by rfl, fun w' hw' => by go_simp⟩) hS0 ?_
        try simp only [Act.put, List.setIfInBounds_toArray, List.set_cons_zero, List.set_cons_succ]
        refine AnyTill.take (n := 5) (i := 7) (oi := ⟨some 55, _, _, _, _, _⟩) (v := .int .i64 j) rfl (by decide +kernel) (by decide +kernel) (by decide +kernel) (by decide +kernel) (fun c a w h => HQ c a _ _ w h) (Or.inl ⟨by rfl, fun w' hw' => by go_simp⟩) hS0 ?_
        try simp only [Act.put, List.setIfInBounds_toArray, List.set_cons_zero, List.set_cons_succ]
        refine AnyTill.one_go (n := 4) (i := 0) (o := ⟨some 48, _, _, _, _, _⟩) (by kernel_rfl) rfl (by rfl) (fun K hK => ?_)
        refine wp_rows0 44 28 rfl Try.underlying44 (by kernel_rfl) ?_
        have hS1 : Frm (wr.heap.size ≤ ·) wr (wr.drew.alloc (.cells #[] 28)) := hS0.alloc _
        refine hK _ _ (fun _ => hS1) ?_
        clear hK
        try simp only [Act.put, List.setIfInBounds_toArray, List.set_cons_zero, List.set_cons_succ]
        have ho1 : (wr.drew.alloc (.cells #[] 28)).ownsRow wr.heap.size 28 68 (.slice (some ⟨wr.drew.heap.size, 0, none⟩) 0 0) 0 [] := World.ownsRow_made wr.drew #[] 0 (Nat.le_refl _) (Nat.zero_le _) rfl
        generalize (wr.drew.alloc (.cells #[] 28)) = w1 at hS1 ho1 ⊢
        obtain ⟨i0, hi, hz0, hz1, hz2⟩ := info_parts info_rec
        have fB1 : Blk w1 b7 28 (recsL rs) := Blk.frm (H9.out.2.1.nul HH.out.2.2) hS1 (by have := (H9.out.2.1.nul HH.out.2.2).lt; omega)
        have hrl := recsL_length Hok.out
        rw [Hlen.out] at hrl
        refine AnyTill.one_go (n := 3) (i := 2) (o := ⟨some 50, _, _, _, _, _⟩) (by kernel_rfl) rfl (by rfl) (fun K hK => ?_)
        refine wp_append_at (.tmp 48) (.tmp 49) 44 rfl wr.heap.size 28 i0 _ 68 104 Try.underlying44 hi hz0 hz1 hz2 rfl (by decide) (.slice (some ⟨wr.drew.heap.size, 0, none⟩) 0 0) 0 [] (by kernel_rfl) ho1 ⟨b7, 0, none⟩ 5 5 (recsL rs) (by kernel_rfl) hrl (fun q u hu => by rw [Addr.add_mid, fB1.cell, Nat.zero_add]; exact hu) (recsL_one _) (by decide) (by decide) hS1.size ?_
        intro v2 w2 ho2 hg2 _
        rw [Nat.zero_add, List.nil_append] at ho2
        have hS2 : Frm (wr.heap.size ≤ ·) wr w2 := hS1.own ho1 hg2
        refine hK _ _ (fun _ => hS2) ?_
        clear hK
        try simp only [Act.put, List.setIfInBounds_toArray, List.set_cons_zero, List.set_cons_succ]
        have fB2 : Blk w2 b7 28 (recsL rs) := Blk.frm (H9.out.2.1.nul HH.out.2.2) hS2 (by have := (H9.out.2.1.nul HH.out.2.2).lt; omega)
        have htd : recsL rs = recsL (rs.take j) ++ recsL (rs.drop j) := by rw [← recsL_append, List.take_append_drop]
        have htl : (recsL (rs.take j)).length = j * 68 := by rw [recsL_length (Hok.out.take j), List.length_take, Hlen.out, Nat.min_eq_left Hj.out]
        refine AnyTill.one_go (n := 2) (i := 6) (o := ⟨some 54, _, _, _, _, _⟩) (by kernel_rfl) rfl (by rfl) (fun K hK => ?_)
        refine wp_append_at (.tmp 50) (.tmp 53) 44 rfl wr.heap.size 28 i0 _ 68 104 Try.underlying44 hi hz0 hz1 hz2 rfl (by decide) v2 5 (recsL rs) (by kernel_rfl) ho2 ⟨b7, 0, none⟩ j 5 (recsL (rs.take j)) (by kernel_rfl) htl (fun q u hu => by
          rw [Addr.add_mid, fB2.cell, Nat.zero_add, htd, List.getElem?_append_left (List.getElem?_eq_some_iff.1 hu).1]
          exact hu) (recsL_one _) (by have := Hj.out; omega) (by have := Hj.out; unfold maxLen; omega) hS2.size ?_
        intro v3 w3 ho3 hg3 _
        have hS3 : Frm (wr.heap.size ≤ ·) wr w3 := hS2.own ho2 hg3
        rw [← recsL_append] at ho3
        have hok3 : OkR (rs ++ rs.take j) := Hok.out.append (Hok.out.take j)
        obtain ⟨A3, c3, hv3, hR3⟩ := RdR.own ho3 hok3
        have HC0 := rec_Count A3 c3 (rs ++ rs.take j) j w3 (by
          rcases hR3 with h | ⟨g, o, h1, h2, h3, h4⟩
          · exact .inl h
          · exact .inr ⟨g, o, h1, True.intro, h3, h4⟩) hok3 (by rw [List.length_append, List.length_take, Hlen.out]; omega)
        generalize (rs ++ rs.take j).length = m3 at hv3 HC0
        have HC := hid HC0
        clear HC0
        subst hv3
        refine hK _ _ (fun _ => hS3) ?_
        clear hK
        try simp only [Act.put, List.setIfInBounds_toArray, List.set_cons_zero, List.set_cons_succ]
        rw [Htwo.out j HH.out.2.1 Hj.out] at HC
        refine AnyTill.one_go (n := 1) (i := 8) (o := ⟨some 56, _, _, _, _, _⟩) (by kernel_rfl) rfl (by rfl) (fun K hK => ?_)
        have HK := hid hK
        clear hK
        have HS3 := hid hS3
        clear hS3 hS2 hS1 hS0 ho1 ho2 ho3 hg2 hg3 hR3 hok3 htd htl hrl fB1 fB2 hi hz0 hz1 hz2
        go_simp
        go_at_call 20
        refine (HC.out).mono ?_
        rintro e w4 ⟨rfl, hf4⟩
        have hS4 : Frm (wr.heap.size ≤ ·) wr w4 := HS3.out.nul hf4
        clear hf4 HC
        refine HK.out _ _ (fun _ => hS4) ?_
        clear HK
        try simp only [Act.put, List.setIfInBounds_toArray, List.set_cons_zero, List.set_cons_succ]
        refine AnyTill.take (n := 0) (i := 9) (oi := ⟨some 57, _, _, _, _, _⟩) (v := .bool false) rfl (by decide +kernel) (by decide +kernel) (by decide +kernel) (by decide +kernel) (fun c a w h => HQ c a _ _ w h) (Or.inl ⟨by rfl, fun w' hw' => by go_simp⟩) hS4 ?_
        try simp only [Act.put, List.setIfInBounds_toArray, List.set_cons_zero, List.set_cons_succ]
        refine AnyTill.over (by kernel_rfl) (HQ1 _ _ ?_)
        clear HQ HQ1
        have H10 : Hid (Nul w9 w4) := hid (HH.out.2.2.trans (hS4.mono fun x hx hh => by omega))
        clear hS4 HS3
        go_wp2_with fail
        go_roundg (gk - 1)
        case rel => exact ⟨j + 1, by have := HH.out.1; omega, by omega, by go_num, H10.out⟩
        case measure => have := HH.out.1; omega
      · have hj6 : j = 6 := by omega
        subst hj6
        have hR7 : RdR wr (fun _ => True) (some ⟨b7, 0, none⟩) rs := RdR.blk (H9.out.2.1.nul hf) Hok.out True.intro
        have hR8 : RdR wr (fun _ => True) (some ⟨b8, 0, none⟩) rs := RdR.blk (H9.out.2.2.nul hf) Hok.out True.intro
        have HR := hid (And.intro hR7 hR8)
        have HN9 : Hid (Nul w wr) := hid (H9.out.1.trans hf)
        clear hR7 hR8 hf hj hj1
        go_wp2_with fail
        refine (awake24 _).mono ?_
        rintro e w1 ⟨rfl, hf1⟩
        have HC := hid (ref_Same (some ⟨b7, 0, none⟩) (some ⟨b8, 0, none⟩) 5 5 rs rs w1 (HR.out.1.nul hf1) (HR.out.2.nul hf1) Hok.out Hok.out (by rw [Hlen.out]; omega) (by rw [Hlen.out]; omega))
        rw [Hlen.out, show sameR rs rs = true from decide_eq_true rfl] at HC
        have H1 := hid (And.intro (HN9.out.nul hf1) (HR.out.1.nul hf1))
        clear hf1
        go_wp2_with fail
        refine HC.out.mono ?_
        rintro e w2 ⟨rfl, hf2⟩
        have HC2 := hid (rec_Count (some ⟨b7, 0, none⟩) 5 rs n w2 (H1.out.2.nul hf2) Hok.out (by rw [Hlen.out]; omega))
        rw [Hlen.out] at HC2
        have H2 := hid (H1.out.1.nul hf2)
        have hle : decide ((cntR rs n : Int) ≤ 1) = true := decide_eq_true (by have := Hone.out; omega)
        clear hf2 HC
        go_wp2_with fail
        refine HC2.out.mono ?_
        rintro e w3 ⟨rfl, hf3⟩
        have H3 := hid (H2.out.nul hf3)
        clear hf3 HC2
        go_wp2_with fail
        go_ret
        exact ⟨rfl, H3.out⟩
end Go.Proofs.Ythocjhiapngacaa
