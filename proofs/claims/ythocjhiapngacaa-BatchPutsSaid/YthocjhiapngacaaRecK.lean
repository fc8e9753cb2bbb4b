/-
  Walks: may a record be, the document's.
-/
import Derived.Test.YthocjhiapngacaaRecJ
set_option linter.all false
namespace Go.Proofs.Ythocjhiapngacaa
open Go.RowKit

theorem wpList_load_gdm {P : Program} {ops : Array Oper} {rest : List Oper} {o : Oper} {a : Act} {w : World} {Q : Exit → Act → World → Prop} (ty : TypeId) (x : Operand) (ho : o.op = .load ty x) (hw : Region.wanted o (yielded ops a.tmps) = true)
    (g i : Nat) (hx : a.eval x = .pointer (some ⟨g, i, none⟩)) (cs : List Value) (d : TypeDesc) (hb : w.rangeAt g i cs)
    (hu : P.underlying ty = some d) (hd : d.isRow = true) (hi : (P.info? ty).map (·.size) = some cs.length)
    (h : wpList P ops Q rest (a.put o.dst (.agg cs.toArray)) w) : wpList P ops Q (o :: rest) a w :=
  wpList_step fun K hK => by
    rw [if_pos hw]
    exact wp_load_mid ty x ho g i hx cs d hb hu hd hi (hK _ _ h)
theorem wpList_built_gd {P : Program} {ops : Array Oper} {rest : List Oper} {o : Oper} {a : Act} {w : World} {Q : Exit → Act → World → Prop} (t : TypeId) (ho : o.op = .build t #[]) (hw : Region.wanted o (yielded ops a.tmps) = true) (cs : Array Value)
    (hb : P.built t [] = some cs) (h : wpList P ops Q rest (a.put o.dst (.agg cs)) w) : wpList P ops Q (o :: rest) a w :=
  wpList_step fun K hK => by
    rw [if_pos hw]
    have hb' : P.built t ((#[] : Array (Nat × Operand)).map fun (i, x) => (i, a.eval x)).toList = some cs := by rw [Array.toList_map]; exact hb
    exact wp_build t #[] ho (by rw [hb']; rfl) (by rw [hb']; exact hK _ _ h)
theorem built_zkey : Try.prog.built 23 [] = some (keyL zero32).toArray := by kernel_rfl
theorem built_zsum : Try.prog.built 26 [] = some (keyL zero32).toArray := by kernel_rfl

set_option maxRecDepth 100000 in
set_option maxHeartbeats 4000000 in
theorem ref_May_1 (k : List UInt8) (d : Bool) (v : ByteArray) (s : List UInt8) (n : Int) (w : World) (hk : k.length = 32) (hs : s.length = 32) (hv : v.size ≤ 9223372036854775807) :
    Calls Try.prog 10 #[.agg (recL ⟨1, k, d, v, s, n⟩).toArray] w fun e w' => e = .returned (.bool (recGood ⟨1, k, d, v, s, n⟩)) ∧ Nul w w' := by
  have hgood : recGood ⟨1, k, d, v, s, n⟩ = ((entChk d v == 0) && (s == zero32 && n == 0)) := by
    show (_ && recB _ _) = _
    simp [recB, recWant]
  obtain ⟨r, hr⟩ : ∃ r : Rcd, r = ⟨1, k, d, v, s, n⟩ := ⟨_, rfl⟩
  have hrk : r.ok := by rw [hr]; exact ⟨hk, hs⟩
  rw [hgood, ← hr]
  have HB := hid (Blk.new w 28 (recL r))
  have HX : Hid (∀ w', Blk w' w.heap.size 28 (recL r) → w'.cell? ⟨w.heap.size, 0, none⟩ = some (.int .i64 1) ∧ World.rangeAt w' w.heap.size 1 (keyL k) ∧ World.rangeAt w' w.heap.size 33 (entL d v) ∧ World.rangeAt w' w.heap.size 35 (keyL s) ∧ w'.cell? ⟨w.heap.size, 67, none⟩ = some (.int .i64 n)) := hid (fun w' h => by
    have g1 := h.cell 0
    have g2 := range_key hrk h
    have g3 := range_ent hrk h
    have g4 := range_sum hrk h
    have g5 := h.cell 67
    rw [recL_n hrk] at g5
    rw [recL_kind] at g1
    rw [hr] at g1 g2 g3 g4 g5
    exact ⟨g1, g2, g3, g4, g5⟩)
  have c0 := (HX.out _ HB.out).1
  have c33 : (w.alloc (.cells (recL r).toArray 28)).cell? ⟨w.heap.size, 33, none⟩ = some (.bool d) := (HX.out _ HB.out).2.2.1 0 _ rfl
  have c34 : (w.alloc (.cells (recL r).toArray 28)).cell? ⟨w.heap.size, 34, none⟩ = some (.string v) := (HX.out _ HB.out).2.2.1 1 _ rfl
  have c67 := (HX.out _ HB.out).2.2.2.2
  have Hkl : Hid ((Try.prog.info? 23).map (·.size) = some (keyL k).length) := hid (by rw [size_key, keyL_length, hk])
  have Hsl : Hid ((Try.prog.info? 26).map (·.size) = some (keyL s).length) := hid (by rw [size_sum, keyL_length, hs])
  have hA := key_neq hk (show zero32.length = 32 from rfl)
  have hB : ∀ w, (binOp .neq 25 (.agg #[.bool d, .string v]) (.agg #[.bool false, .string ⟨#[]⟩])).run Try.prog w = .ok (.bool (!(d == false && v.toList == (⟨#[]⟩ : ByteArray).toList))) w := ent_neq d false v ⟨#[]⟩
  have hC := sum_neq hs (show zero32.length = 32 from rfl)
  have HE := hid (fun w => ref_ECheck d v w hv)
  have HN := hid ((Frm.refl (fun _ => False) w).alloc (.cells (recL r).toArray 28))
  clear hk hs hv hr hrk hgood
  generalize hab : (k == zero32) = ab at hA ⊢
  generalize hbb : (d == false && v.toList == (⟨#[]⟩ : ByteArray).toList) = bb at hB ⊢
  generalize hcb : (s == zero32) = cb at hC ⊢
  clear hab hbb hcb
  generalize entChk d v = c at HE ⊢
  cases cb <;> cases hn0 : (n == 0)
  · have hn1 : (n != 0) = true := by rw [bne, hn0]; rfl
    go_enter Try.func10, Try.ntmps10
    go_wp2_with (first
          | (with_reducible refine wpList_load_gdm 26 (.tmp 39) rfl (by kernel_rfl) w.heap.size 35 rfl (keyL s) _ (HX.out _ HB.out).2.2.2.1 sum_array rfl Hsl.out ?_)
          | (with_reducible refine wpList_built_gd 26 rfl (by kernel_rfl) _ built_zsum ?_))
    go_ret
    exact ⟨by cases (c == 0) <;> rfl, HN.out⟩
  · have hn1 : (n != 0) = false := by rw [bne, hn0]; rfl
    go_enter Try.func10, Try.ntmps10
    go_wp2_with (first
          | (with_reducible refine wpList_load_gdm 26 (.tmp 39) rfl (by kernel_rfl) w.heap.size 35 rfl (keyL s) _ (HX.out _ HB.out).2.2.2.1 sum_array rfl Hsl.out ?_)
          | (with_reducible refine wpList_built_gd 26 rfl (by kernel_rfl) _ built_zsum ?_))
    go_ret
    exact ⟨by cases (c == 0) <;> rfl, HN.out⟩
  · have hn1 : (n != 0) = true := by rw [bne, hn0]; rfl
    go_enter Try.func10, Try.ntmps10
    go_wp2_with (first
          | (with_reducible refine wpList_load_gdm 26 (.tmp 39) rfl (by kernel_rfl) w.heap.size 35 rfl (keyL s) _ (HX.out _ HB.out).2.2.2.1 sum_array rfl Hsl.out ?_)
          | (with_reducible refine wpList_built_gd 26 rfl (by kernel_rfl) _ built_zsum ?_))
    go_ret
    exact ⟨by cases (c == 0) <;> rfl, HN.out⟩
  · have hn1 : (n != 0) = false := by rw [bne, hn0]; rfl
    go_enter Try.func10, Try.ntmps10
    go_wp2_with (first
          | (with_reducible refine wpList_load_gdm 26 (.tmp 39) rfl (by kernel_rfl) w.heap.size 35 rfl (keyL s) _ (HX.out _ HB.out).2.2.2.1 sum_array rfl Hsl.out ?_)
          | (with_reducible refine wpList_built_gd 26 rfl (by kernel_rfl) _ built_zsum ?_))
    refine (HE.out _).mono ?_
    rintro e w1 ⟨rfl, hf⟩
    have H1 := hid (HN.out.nul hf)
    clear hf
    go_wp2_with fail
    go_ret
    exact ⟨by cases (c == 0) <;> rfl, H1.out⟩
set_option maxRecDepth 100000 in
set_option maxHeartbeats 4000000 in
theorem ref_May_2 (k : List UInt8) (d : Bool) (v : ByteArray) (s : List UInt8) (n : Int) (w : World) (hk : k.length = 32) (hs : s.length = 32) (hv : v.size ≤ 9223372036854775807) :
    Calls Try.prog 10 #[.agg (recL ⟨2, k, d, v, s, n⟩).toArray] w fun e w' => e = .returned (.bool (recGood ⟨2, k, d, v, s, n⟩)) ∧ Nul w w' := by
  have hgood : recGood ⟨2, k, d, v, s, n⟩ = ((entChk d v == 0) && (s == zero32 && n == 0)) := by
    show (_ && recB _ _) = _
    simp [recB, recWant]
  obtain ⟨r, hr⟩ : ∃ r : Rcd, r = ⟨2, k, d, v, s, n⟩ := ⟨_, rfl⟩
  have hrk : r.ok := by rw [hr]; exact ⟨hk, hs⟩
  rw [hgood, ← hr]
  have HB := hid (Blk.new w 28 (recL r))
  have HX : Hid (∀ w', Blk w' w.heap.size 28 (recL r) → w'.cell? ⟨w.heap.size, 0, none⟩ = some (.int .i64 2) ∧ World.rangeAt w' w.heap.size 1 (keyL k) ∧ World.rangeAt w' w.heap.size 33 (entL d v) ∧ World.rangeAt w' w.heap.size 35 (keyL s) ∧ w'.cell? ⟨w.heap.size, 67, none⟩ = some (.int .i64 n)) := hid (fun w' h => by
    have g1 := h.cell 0
    have g2 := range_key hrk h
    have g3 := range_ent hrk h
    have g4 := range_sum hrk h
    have g5 := h.cell 67
    rw [recL_n hrk] at g5
    rw [recL_kind] at g1
    rw [hr] at g1 g2 g3 g4 g5
    exact ⟨g1, g2, g3, g4, g5⟩)
  have c0 := (HX.out _ HB.out).1
  have c33 : (w.alloc (.cells (recL r).toArray 28)).cell? ⟨w.heap.size, 33, none⟩ = some (.bool d) := (HX.out _ HB.out).2.2.1 0 _ rfl
  have c34 : (w.alloc (.cells (recL r).toArray 28)).cell? ⟨w.heap.size, 34, none⟩ = some (.string v) := (HX.out _ HB.out).2.2.1 1 _ rfl
  have c67 := (HX.out _ HB.out).2.2.2.2
  have Hkl : Hid ((Try.prog.info? 23).map (·.size) = some (keyL k).length) := hid (by rw [size_key, keyL_length, hk])
  have Hsl : Hid ((Try.prog.info? 26).map (·.size) = some (keyL s).length) := hid (by rw [size_sum, keyL_length, hs])
  have hA := key_neq hk (show zero32.length = 32 from rfl)
  have hB : ∀ w, (binOp .neq 25 (.agg #[.bool d, .string v]) (.agg #[.bool false, .string ⟨#[]⟩])).run Try.prog w = .ok (.bool (!(d == false && v.toList == (⟨#[]⟩ : ByteArray).toList))) w := ent_neq d false v ⟨#[]⟩
  have hC := sum_neq hs (show zero32.length = 32 from rfl)
  have HE := hid (fun w => ref_ECheck d v w hv)
  have HN := hid ((Frm.refl (fun _ => False) w).alloc (.cells (recL r).toArray 28))
  clear hk hs hv hr hrk hgood
  generalize hab : (k == zero32) = ab at hA ⊢
  generalize hbb : (d == false && v.toList == (⟨#[]⟩ : ByteArray).toList) = bb at hB ⊢
  generalize hcb : (s == zero32) = cb at hC ⊢
  clear hab hbb hcb
  generalize entChk d v = c at HE ⊢
  cases cb <;> cases hn0 : (n == 0)
  · have hn1 : (n != 0) = true := by rw [bne, hn0]; rfl
    go_enter Try.func10, Try.ntmps10
    go_wp2_with (first
          | (with_reducible refine wpList_load_gdm 26 (.tmp 39) rfl (by kernel_rfl) w.heap.size 35 rfl (keyL s) _ (HX.out _ HB.out).2.2.2.1 sum_array rfl Hsl.out ?_)
          | (with_reducible refine wpList_built_gd 26 rfl (by kernel_rfl) _ built_zsum ?_))
    go_ret
    exact ⟨by cases (c == 0) <;> rfl, HN.out⟩
  · have hn1 : (n != 0) = false := by rw [bne, hn0]; rfl
    go_enter Try.func10, Try.ntmps10
    go_wp2_with (first
          | (with_reducible refine wpList_load_gdm 26 (.tmp 39) rfl (by kernel_rfl) w.heap.size 35 rfl (keyL s) _ (HX.out _ HB.out).2.2.2.1 sum_array rfl Hsl.out ?_)
          | (with_reducible refine wpList_built_gd 26 rfl (by kernel_rfl) _ built_zsum ?_))
    go_ret
    exact ⟨by cases (c == 0) <;> rfl, HN.out⟩
  · have hn1 : (n != 0) = true := by rw [bne, hn0]; rfl
    go_enter Try.func10, Try.ntmps10
    go_wp2_with (first
          | (with_reducible refine wpList_load_gdm 26 (.tmp 39) rfl (by kernel_rfl) w.heap.size 35 rfl (keyL s) _ (HX.out _ HB.out).2.2.2.1 sum_array rfl Hsl.out ?_)
          | (with_reducible refine wpList_built_gd 26 rfl (by kernel_rfl) _ built_zsum ?_))
    go_ret
    exact ⟨by cases (c == 0) <;> rfl, HN.out⟩
  · have hn1 : (n != 0) = false := by rw [bne, hn0]; rfl
    go_enter Try.func10, Try.ntmps10
    go_wp2_with (first
          | (with_reducible refine wpList_load_gdm 26 (.tmp 39) rfl (by kernel_rfl) w.heap.size 35 rfl (keyL s) _ (HX.out _ HB.out).2.2.2.1 sum_array rfl Hsl.out ?_)
          | (with_reducible refine wpList_built_gd 26 rfl (by kernel_rfl) _ built_zsum ?_))
    refine (HE.out _).mono ?_
    rintro e w1 ⟨rfl, hf⟩
    have H1 := hid (HN.out.nul hf)
    clear hf
    go_wp2_with fail
    go_ret
    exact ⟨by cases (c == 0) <;> rfl, H1.out⟩
set_option maxRecDepth 100000 in
set_option maxHeartbeats 4000000 in
theorem ref_May_3 (k : List UInt8) (d : Bool) (v : ByteArray) (s : List UInt8) (n : Int) (w : World) (hk : k.length = 32) (hs : s.length = 32) (hv : v.size ≤ 9223372036854775807) :
    Calls Try.prog 10 #[.agg (recL ⟨3, k, d, v, s, n⟩).toArray] w fun e w' => e = .returned (.bool (recGood ⟨3, k, d, v, s, n⟩)) ∧ Nul w w' := by
  have hgood : recGood ⟨3, k, d, v, s, n⟩ = (k == zero32 && ((d == false && v.toList == (⟨#[]⟩ : ByteArray).toList) && n == 0)) := by
    show (_ && recB _ _) = _
    simp [recB, recWant]
  obtain ⟨r, hr⟩ : ∃ r : Rcd, r = ⟨3, k, d, v, s, n⟩ := ⟨_, rfl⟩
  have hrk : r.ok := by rw [hr]; exact ⟨hk, hs⟩
  rw [hgood, ← hr]
  have HB := hid (Blk.new w 28 (recL r))
  have HX : Hid (∀ w', Blk w' w.heap.size 28 (recL r) → w'.cell? ⟨w.heap.size, 0, none⟩ = some (.int .i64 3) ∧ World.rangeAt w' w.heap.size 1 (keyL k) ∧ World.rangeAt w' w.heap.size 33 (entL d v) ∧ World.rangeAt w' w.heap.size 35 (keyL s) ∧ w'.cell? ⟨w.heap.size, 67, none⟩ = some (.int .i64 n)) := hid (fun w' h => by
    have g1 := h.cell 0
    have g2 := range_key hrk h
    have g3 := range_ent hrk h
    have g4 := range_sum hrk h
    have g5 := h.cell 67
    rw [recL_n hrk] at g5
    rw [recL_kind] at g1
    rw [hr] at g1 g2 g3 g4 g5
    exact ⟨g1, g2, g3, g4, g5⟩)
  have c0 := (HX.out _ HB.out).1
  have c33 : (w.alloc (.cells (recL r).toArray 28)).cell? ⟨w.heap.size, 33, none⟩ = some (.bool d) := (HX.out _ HB.out).2.2.1 0 _ rfl
  have c34 : (w.alloc (.cells (recL r).toArray 28)).cell? ⟨w.heap.size, 34, none⟩ = some (.string v) := (HX.out _ HB.out).2.2.1 1 _ rfl
  have c67 := (HX.out _ HB.out).2.2.2.2
  have Hkl : Hid ((Try.prog.info? 23).map (·.size) = some (keyL k).length) := hid (by rw [size_key, keyL_length, hk])
  have Hsl : Hid ((Try.prog.info? 26).map (·.size) = some (keyL s).length) := hid (by rw [size_sum, keyL_length, hs])
  have hA := key_neq hk (show zero32.length = 32 from rfl)
  have hB : ∀ w, (binOp .neq 25 (.agg #[.bool d, .string v]) (.agg #[.bool false, .string ⟨#[]⟩])).run Try.prog w = .ok (.bool (!(d == false && v.toList == (⟨#[]⟩ : ByteArray).toList))) w := ent_neq d false v ⟨#[]⟩
  have hC := sum_neq hs (show zero32.length = 32 from rfl)
  have HE := hid (fun w => ref_ECheck d v w hv)
  have HN := hid ((Frm.refl (fun _ => False) w).alloc (.cells (recL r).toArray 28))
  clear hk hs hv hr hrk hgood
  generalize hab : (k == zero32) = ab at hA ⊢
  generalize hbb : (d == false && v.toList == (⟨#[]⟩ : ByteArray).toList) = bb at hB ⊢
  generalize hcb : (s == zero32) = cb at hC ⊢
  clear hab hbb hcb
  cases ab <;> cases bb <;> cases hn0 : (n == 0)
  all_goals
    have hn1 : (n != 0) = !(n == 0) := rfl
    rw [hn0] at hn1
    simp only [Bool.not_true, Bool.not_false] at hn1
    go_enter Try.func10, Try.ntmps10
    go_wp2_with (first
          | (with_reducible refine wpList_load_gdm 23 (.tmp 24) rfl (by kernel_rfl) w.heap.size 1 rfl (keyL k) _ (HX.out _ HB.out).2.1 key_array rfl Hkl.out ?_)
          | (with_reducible refine wpList_built_gd 23 rfl (by kernel_rfl) _ built_zkey ?_))
    go_ret
    exact ⟨by rfl, HN.out⟩
set_option maxRecDepth 100000 in
set_option maxHeartbeats 4000000 in
theorem ref_May_4 (k : List UInt8) (d : Bool) (v : ByteArray) (s : List UInt8) (n : Int) (w : World) (hk : k.length = 32) (hs : s.length = 32) (hv : v.size ≤ 9223372036854775807) :
    Calls Try.prog 10 #[.agg (recL ⟨4, k, d, v, s, n⟩).toArray] w fun e w' => e = .returned (.bool (recGood ⟨4, k, d, v, s, n⟩)) ∧ Nul w w' := by
  have hgood : recGood ⟨4, k, d, v, s, n⟩ = (k == zero32 && ((d == false && v.toList == (⟨#[]⟩ : ByteArray).toList) && n == 0)) := by
    show (_ && recB _ _) = _
    simp [recB, recWant]
  obtain ⟨r, hr⟩ : ∃ r : Rcd, r = ⟨4, k, d, v, s, n⟩ := ⟨_, rfl⟩
  have hrk : r.ok := by rw [hr]; exact ⟨hk, hs⟩
  rw [hgood, ← hr]
  have HB := hid (Blk.new w 28 (recL r))
  have HX : Hid (∀ w', Blk w' w.heap.size 28 (recL r) → w'.cell? ⟨w.heap.size, 0, none⟩ = some (.int .i64 4) ∧ World.rangeAt w' w.heap.size 1 (keyL k) ∧ World.rangeAt w' w.heap.size 33 (entL d v) ∧ World.rangeAt w' w.heap.size 35 (keyL s) ∧ w'.cell? ⟨w.heap.size, 67, none⟩ = some (.int .i64 n)) := hid (fun w' h => by
    have g1 := h.cell 0
    have g2 := range_key hrk h
    have g3 := range_ent hrk h
    have g4 := range_sum hrk h
    have g5 := h.cell 67
    rw [recL_n hrk] at g5
    rw [recL_kind] at g1
    rw [hr] at g1 g2 g3 g4 g5
    exact ⟨g1, g2, g3, g4, g5⟩)
  have c0 := (HX.out _ HB.out).1
  have c33 : (w.alloc (.cells (recL r).toArray 28)).cell? ⟨w.heap.size, 33, none⟩ = some (.bool d) := (HX.out _ HB.out).2.2.1 0 _ rfl
  have c34 : (w.alloc (.cells (recL r).toArray 28)).cell? ⟨w.heap.size, 34, none⟩ = some (.string v) := (HX.out _ HB.out).2.2.1 1 _ rfl
  have c67 := (HX.out _ HB.out).2.2.2.2
  have Hkl : Hid ((Try.prog.info? 23).map (·.size) = some (keyL k).length) := hid (by rw [size_key, keyL_length, hk])
  have Hsl : Hid ((Try.prog.info? 26).map (·.size) = some (keyL s).length) := hid (by rw [size_sum, keyL_length, hs])
  have hA := key_neq hk (show zero32.length = 32 from rfl)
  have hB : ∀ w, (binOp .neq 25 (.agg #[.bool d, .string v]) (.agg #[.bool false, .string ⟨#[]⟩])).run Try.prog w = .ok (.bool (!(d == false && v.toList == (⟨#[]⟩ : ByteArray).toList))) w := ent_neq d false v ⟨#[]⟩
  have hC := sum_neq hs (show zero32.length = 32 from rfl)
  have HE := hid (fun w => ref_ECheck d v w hv)
  have HN := hid ((Frm.refl (fun _ => False) w).alloc (.cells (recL r).toArray 28))
  clear hk hs hv hr hrk hgood
  generalize hab : (k == zero32) = ab at hA ⊢
  generalize hbb : (d == false && v.toList == (⟨#[]⟩ : ByteArray).toList) = bb at hB ⊢
  generalize hcb : (s == zero32) = cb at hC ⊢
  clear hab hbb hcb
  cases ab <;> cases bb <;> cases hn0 : (n == 0)
  all_goals
    have hn1 : (n != 0) = !(n == 0) := rfl
    rw [hn0] at hn1
    simp only [Bool.not_true, Bool.not_false] at hn1
    go_enter Try.func10, Try.ntmps10
    go_wp2_with (first
          | (with_reducible refine wpList_load_gdm 23 (.tmp 24) rfl (by kernel_rfl) w.heap.size 1 rfl (keyL k) _ (HX.out _ HB.out).2.1 key_array rfl Hkl.out ?_)
          | (with_reducible refine wpList_built_gd 23 rfl (by kernel_rfl) _ built_zkey ?_))
    go_ret
    exact ⟨by rfl, HN.out⟩
end Go.Proofs.Ythocjhiapngacaa
