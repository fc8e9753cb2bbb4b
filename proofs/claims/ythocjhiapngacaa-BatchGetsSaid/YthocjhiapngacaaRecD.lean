/-
  Walks: a record checked.
-/
import Derived.Test.YthocjhiapngacaaRecC
import Derived.Test.YthocjhiapngacaaUntil
set_option linter.all false
namespace Go.Proofs.Ythocjhiapngacaa
open Go.RowKit

/-- The record that a record should be, and whether it may be. -/
def recWant (r : Rcd) : Rcd × Bool :=
  if r.kind = 1 then (⟨1, r.key, r.dead, r.val, zero32, 0⟩, entChk r.dead r.val == 0)
  else if r.kind = 2 then (⟨2, r.key, r.dead, r.val, zero32, 0⟩, entChk r.dead r.val == 0)
  else if r.kind = 3 then (⟨3, zero32, false, ⟨#[]⟩, r.sum, 0⟩, true)
  else if r.kind = 4 then (⟨4, zero32, false, ⟨#[]⟩, r.sum, 0⟩, true)
  else if r.kind = 5 then (⟨5, zero32, false, ⟨#[]⟩, zero32, r.n⟩, decide (0 ≤ r.n) && decide (r.n ≤ 1048576))
  else (rzero, false)
def recGood (r : Rcd) : Bool := (recWant r).2 && recB r (recWant r).1
def recChk (r : Rcd) : Int := if recGood r then 0 else 2

/-- A load behind a guard that lets it run. -/
theorem wpList_load_gd {P : Program} {ops : Array Oper} {rest : List Oper} {o : Oper} {a : Act} {w : World} {Q : Exit → Act → World → Prop} (ty : TypeId) (x : Operand) (ho : o.op = .load ty x) (hw : Region.wanted o (yielded ops a.tmps) = true)
    (g : Nat) (hx : a.eval x = .pointer (some ⟨g, 0, none⟩)) (t : TypeId) (cs : List Value) (n : Nat) (d : TypeDesc) (hb : Blk w g t cs)
    (hu : P.underlying ty = some d) (hd : d.isRow = true) (hi : (P.info? ty).map (·.size) = some n) (hn : cs.length = n)
    (h : wpList P ops Q rest (a.put o.dst (.agg cs.toArray)) w) : wpList P ops Q (o :: rest) a w :=
  wpList_step fun K hK => by
    rw [if_pos hw]
    have hr := hb.range 0 n
    rw [List.drop_zero, List.take_of_length_le (by omega)] at hr
    exact wp_load_mid ty x ho g 0 hx cs d hr hu hd (by rw [hi, hn]) (hK _ _ h)

theorem storeCells_blk {P : Program} {ty : TypeId} {g : Nat} {t : TypeId} {old cs : List Value} {n : Nat} {w : World} (hb : Blk w g t old) (hi : (P.info? ty).map (·.size) = some n) (hn : cs.length = n) (ho : old.length = n) (h1 : ∀ v ∈ cs, v.oneCell' = true) :
    (storeCells ⟨g, 0, none⟩ cs 0).run P w = .ok () (w.setRow g cs.toArray) := by
  have := run_storeVar_row (P := P) w g t ty old.toArray cs.toArray hb (by rw [hi, List.size_toArray, hn]) (by rw [List.size_toArray, List.size_toArray, hn, ho]) (all_oneCell_toArray h1)
  cases hq : P.info? ty with
  | none => simp [hq] at hi
  | some i =>
    have hs : cs.length = i.size := by simp [hq] at hi; omega
    simpa [storeVar, Sem.run_bind, sizeOf, typeInfo, hq, Value.cells, hs] using this
theorem loadAt_blk {P : Program} {ty : TypeId} {g : Nat} {t : TypeId} {cs : List Value} {n : Nat} {d : TypeDesc} {w : World} (hb : Blk w g t cs) (hu : P.underlying ty = some d) (hd : d.isRow = true) (hi : (P.info? ty).map (·.size) = some n) (hn : cs.length = n) :
    (Instr.loadAt ty (.pointer (some ⟨g, 0, none⟩))).run P w = .ok (.agg cs.toArray) w := by
  have h := hb.range 0 n
  rw [List.drop_zero, List.take_of_length_le (by omega)] at h
  exact run_loadAt_mid w g 0 ty cs d h hu hd (by rw [hi, hn])

theorem range_key {w : World} {g : Nat} {t : TypeId} {r : Rcd} (hr : r.ok) (hb : Blk w g t (recL r)) : w.rangeAt g 1 (keyL r.key) := by
  have := hb.range 1 32
  rwa [recL_key hr] at this
theorem range_ent {w : World} {g : Nat} {t : TypeId} {r : Rcd} (hr : r.ok) (hb : Blk w g t (recL r)) : w.rangeAt g 33 (entL r.dead r.val) := by
  have := hb.range 33 2
  rwa [recL_ent hr] at this
theorem range_sum {w : World} {g : Nat} {t : TypeId} {r : Rcd} (hr : r.ok) (hb : Blk w g t (recL r)) : w.rangeAt g 35 (keyL r.sum) := by
  have := hb.range 35 32
  rwa [recL_sum hr] at this
theorem load_key {w : World} {g : Nat} {k : List UInt8} (hk : k.length = 32) (h : w.rangeAt g 1 (keyL k)) : (Instr.loadAt 23 (.pointer (some ⟨g, 1, none⟩))).run Try.prog w = .ok (.agg (keyL k).toArray) w := run_loadAt_mid w g 1 _ _ _ h key_array rfl (by rw [size_key, keyL_length, hk])
theorem load_ent {w : World} {g : Nat} {d : Bool} {v : ByteArray} (h : w.rangeAt g 33 (entL d v)) : (Instr.loadAt 25 (.pointer (some ⟨g, 33, none⟩))).run Try.prog w = .ok (.agg #[.bool d, .string v]) w := run_loadAt_mid w g 33 _ _ _ h ent_fields rfl size_ent
theorem load_sum {w : World} {g : Nat} {k : List UInt8} (hk : k.length = 32) (h : w.rangeAt g 35 (keyL k)) : (Instr.loadAt 26 (.pointer (some ⟨g, 35, none⟩))).run Try.prog w = .ok (.agg (keyL k).toArray) w := run_loadAt_mid w g 35 _ _ _ h sum_array rfl (by rw [size_sum, keyL_length, hk])

set_option maxRecDepth 100000 in
set_option maxHeartbeats 1000000 in
theorem rec_Check_no (k : List UInt8) (d : Bool) (v : ByteArray) (s : List UInt8) (n : Int) (kd : Int) (w : World) (hk : k.length = 32) (hs : s.length = 32) (hv : v.size ≤ 9223372036854775807) (h1 : kd ≠ 1) (h2 : kd ≠ 2) (h3 : kd ≠ 3) (h4 : kd ≠ 4) (h5 : kd ≠ 5) :
    Calls Try.prog 11 #[.agg (recL ⟨kd, k, d, v, s, n⟩).toArray] w fun e w' => e = .returned (.int .i64 (recChk ⟨kd, k, d, v, s, n⟩)) ∧ Nul w w' := by
  obtain ⟨r, hr⟩ : ∃ r : Rcd, r = ⟨kd, k, d, v, s, n⟩ := ⟨_, rfl⟩
  have hrk : r.ok := by rw [hr]; exact ⟨hk, hs⟩
  have hkind : (recL r)[0]? = some (.int .i64 kd) := by rw [hr]; rfl
  have hnn : (recL r)[67]? = some (.int .i64 n) := by rw [recL_n hrk, hr]
  have hrk1 : keyL r.key = keyL k := by rw [hr]
  have hre1 : entL r.dead r.val = entL d v := by rw [hr]
  have hrs1 : keyL r.sum = keyL s := by rw [hr]
  rw [← hr]
  have HR := hid hr
  have Hok := hid hrk
  have Hrl := hid (recL_length hrk)
  have hz := (zero_of_info zero_rec).1
  have Hbz := hid built_zero
  have HX : Hid (∀ w', Blk w' w.heap.size 28 (recL r) → World.rangeAt w' w.heap.size 1 (keyL k) ∧ World.rangeAt w' w.heap.size 33 (entL d v) ∧ World.rangeAt w' w.heap.size 35 (keyL s) ∧ w'.cell? ⟨w.heap.size, 0, none⟩ = some (.int .i64 kd) ∧ w'.cell? ⟨w.heap.size, 67, none⟩ = some (.int .i64 n)) := hid (fun w' h => ⟨hrk1 ▸ range_key hrk h, hre1 ▸ range_ent hrk h, hrs1 ▸ range_sum hrk h, by rw [h.cell, hkind], by rw [h.cell, hnn]⟩)
  have HL : Hid (∀ w', Blk w' w.heap.size 28 (recL r) → (Instr.loadAt 28 (.pointer (some ⟨w.heap.size, 0, none⟩))).run Try.prog w' = .ok (.agg (recL r).toArray) w') := hid (fun w' h => loadAt_blk h rec_fields rfl size_rec (recL_length hrk))
  have HL2 : Hid (∀ (q : Rcd) (hq : q.ok) w', Blk w' (w.heap.size + 1) 28 (recL q) → (Instr.loadAt 28 (.pointer (some ⟨w.heap.size + 1, 0, none⟩))).run Try.prog w' = .ok (.agg (recL q).toArray) w') := hid (fun q hq w' h => loadAt_blk h rec_fields rfl size_rec (recL_length hq))
  have HW : Hid (∀ o1, Nul w ((w.alloc (.cells (recL r).toArray 28)).alloc o1) ∧ Blk ((w.alloc (.cells (recL r).toArray 28)).alloc o1) w.heap.size 28 (recL r)) := hid (fun o1 => ⟨((Frm.refl _ w).alloc _).alloc _, (Blk.new w _ _).alloc _⟩)
  have HW2 : Hid (∀ o1, Blk ((w.alloc o1).alloc (.cells (recL rzero).toArray 28)) (w.heap.size + 1) 28 (recL rzero)) := hid (fun o1 => Blk.new_at (w.alloc o1) _ _ (by simp))
  have hgood : recChk r = 2 := by
    rw [hr]
    unfold recChk recGood recWant
    simp only [if_neg h1, if_neg h2, if_neg h3, if_neg h4, if_neg h5]
    rfl
  rw [hgood]
  clear hk hs hv hr hrk hkind hnn hrk1 hre1 hrs1 hgood
  have g1 : (kd == 1) = false := by simpa using h1
  have g2 : (kd == 2) = false := by simpa using h2
  have g3 : (kd == 3) = false := by simpa using h3
  have g4 : (kd == 4) = false := by simpa using h4
  have g5 : (kd == 5) = false := by simpa using h5
  clear h1 h2 h3 h4 h5
  go_enter Try.func11, Try.ntmps11
  go_wp2_with (first
    | (refine wpList_built rfl 28 _ rfl _ Hbz.out ?_)
    | (refine wpList_store_blk rfl 28 (.tmp 3) (.tmp 5) rfl (w.heap.size + 1) (recL rzero) rfl rfl 28 (recL rzero) 68 (HW2.out _) size_rec rfl rfl (recL_one _) ?_; intro w1 hB hO
       have H1 : Hid (Blk w1 w.heap.size 28 (recL r) ∧ Blk w1 (w.heap.size + 1) 28 (recL rzero) ∧ Nul w w1) := hid ⟨(HW.out _).2.one hO (by omega), hB, (HW.out _).1.one hO (.inl (by omega))⟩
       have c0 := (HX.out _ H1.out.1).2.2.2.1
       clear hB hO HW HW2))
  go_ret
  exact ⟨rfl, H1.out.2.2⟩
set_option maxRecDepth 100000 in
set_option maxHeartbeats 1000000 in
theorem rec_Check_1 (k : List UInt8) (d : Bool) (v : ByteArray) (s : List UInt8) (n : Int) (w : World) (hk : k.length = 32) (hs : s.length = 32) (hv : v.size ≤ 9223372036854775807) :
    Calls Try.prog 11 #[.agg (recL ⟨1, k, d, v, s, n⟩).toArray] w fun e w' => e = .returned (.int .i64 (recChk ⟨1, k, d, v, s, n⟩)) ∧ Nul w w' := by
  obtain ⟨r, hr⟩ : ∃ r : Rcd, r = ⟨1, k, d, v, s, n⟩ := ⟨_, rfl⟩
  have hrk : r.ok := by rw [hr]; exact ⟨hk, hs⟩
  have hkind : (recL r)[0]? = some (.int .i64 1) := by rw [hr]; rfl
  have hnn : (recL r)[67]? = some (.int .i64 n) := by rw [recL_n hrk, hr]
  have hrk1 : keyL r.key = keyL k := by rw [hr]
  have hre1 : entL r.dead r.val = entL d v := by rw [hr]
  have hrs1 : keyL r.sum = keyL s := by rw [hr]
  rw [← hr]
  have HR := hid hr
  have Hok := hid hrk
  have Hrl := hid (recL_length hrk)
  have hz := (zero_of_info zero_rec).1
  have Hbz := hid built_zero
  have HX : Hid (∀ w', Blk w' w.heap.size 28 (recL r) → World.rangeAt w' w.heap.size 1 (keyL k) ∧ World.rangeAt w' w.heap.size 33 (entL d v) ∧ World.rangeAt w' w.heap.size 35 (keyL s) ∧ w'.cell? ⟨w.heap.size, 0, none⟩ = some (.int .i64 1) ∧ w'.cell? ⟨w.heap.size, 67, none⟩ = some (.int .i64 n)) := hid (fun w' h => ⟨hrk1 ▸ range_key hrk h, hre1 ▸ range_ent hrk h, hrs1 ▸ range_sum hrk h, by rw [h.cell, hkind], by rw [h.cell, hnn]⟩)
  have HL : Hid (∀ w', Blk w' w.heap.size 28 (recL r) → (Instr.loadAt 28 (.pointer (some ⟨w.heap.size, 0, none⟩))).run Try.prog w' = .ok (.agg (recL r).toArray) w') := hid (fun w' h => loadAt_blk h rec_fields rfl size_rec (recL_length hrk))
  have HL2 : Hid (∀ (q : Rcd) (hq : q.ok) w', Blk w' (w.heap.size + 1) 28 (recL q) → (Instr.loadAt 28 (.pointer (some ⟨w.heap.size + 1, 0, none⟩))).run Try.prog w' = .ok (.agg (recL q).toArray) w') := hid (fun q hq w' h => loadAt_blk h rec_fields rfl size_rec (recL_length hq))
  have HW : Hid (∀ o1, Nul w ((w.alloc (.cells (recL r).toArray 28)).alloc o1) ∧ Blk ((w.alloc (.cells (recL r).toArray 28)).alloc o1) w.heap.size 28 (recL r)) := hid (fun o1 => ⟨((Frm.refl _ w).alloc _).alloc _, (Blk.new w _ _).alloc _⟩)
  have HW2 : Hid (∀ o1, Blk ((w.alloc o1).alloc (.cells (recL rzero).toArray 28)) (w.heap.size + 1) 28 (recL rzero)) := hid (fun o1 => Blk.new_at (w.alloc o1) _ _ (by simp))
  have Hkl : Hid ((Try.prog.info? 23).map (·.size) = some (keyL k).length) := hid (by rw [size_key, keyL_length, hk])
  have HS := hid (fun w => rec_Set k d v w hk)
  have HE := hid (fun w => ent_Check d v w hv)
  obtain ⟨q, hq⟩ : ∃ q : Rcd, q = ⟨1, k, d, v, zero32, 0⟩ := ⟨_, rfl⟩
  have hqk : q.ok := by rw [hq]; exact ⟨hk, rfl⟩
  rw [← hq] at HS
  have Hq := hid hqk
  have Hql := hid (recL_length hqk)
  have hgood : recChk r = if ((entChk d v == 0) && recB r q) = true then 0 else 2 := by
    rw [hr, hq]
    rfl
  have hne := rec_neq hrk hqk
  generalize recB r q = z at hne hgood
  obtain ⟨res, hres⟩ : ∃ res : Int, (if ((entChk d v == 0) && z) = true then 0 else 2) = res := ⟨_, rfl⟩
  rw [hgood, hres]
  have Hres := hid hres
  clear hres
  clear hk hs hv hr hrk hkind hnn hrk1 hre1 hrs1 hq hqk hgood
  generalize entChk d v = c at HE Hres
  go_enter Try.func11, Try.ntmps11
  go_wp2_with (first
    | (refine wpList_built rfl 28 _ rfl _ Hbz.out ?_)
    | (refine wpList_store_blk rfl 28 (.tmp 3) (.tmp 5) rfl (w.heap.size + 1) (recL rzero) rfl rfl 28 (recL rzero) 68 (HW2.out _) size_rec rfl rfl (recL_one _) ?_; intro w1 hB hO
       have H1 : Hid (Blk w1 w.heap.size 28 (recL r) ∧ Blk w1 (w.heap.size + 1) 28 (recL rzero) ∧ Nul w w1) := hid ⟨(HW.out _).2.one hO (by omega), hB, (HW.out _).1.one hO (.inl (by omega))⟩
       have c0 := (HX.out _ H1.out.1).2.2.2.1
       clear hB hO HW HW2))
  have HX2 : Hid (∀ w', Nul w1 w' → (World.rangeAt w' w.heap.size 1 (keyL k) ∧ w'.cell? ⟨w.heap.size, 33, none⟩ = some (.bool d) ∧ w'.cell? ⟨w.heap.size, 34, none⟩ = some (.string v)) ∧ Blk w' w.heap.size 28 (recL r) ∧ Blk w' (w.heap.size + 1) 28 (recL rzero) ∧ Nul w w') := hid (fun w' hf => ⟨⟨(HX.out _ (H1.out.1.nul hf)).1, (HX.out _ (H1.out.1.nul hf)).2.1 0 _ rfl, (HX.out _ (H1.out.1.nul hf)).2.1 1 _ rfl⟩, H1.out.1.nul hf, H1.out.2.1.nul hf, H1.out.2.2.nul hf⟩)
  have hku := key_array
  have hks := Hkl.out
  go_region_held3 (fun w' => World.rangeAt w' w.heap.size 1 (keyL k) ∧ w'.cell? ⟨w.heap.size, 33, none⟩ = some (.bool d) ∧ w'.cell? ⟨w.heap.size, 34, none⟩ = some (.string v)) (first
    | exact (HX2.out _ H3.out).1
    | exact (HX2.out _ H2.out).1
    | exact (HX2.out _ (Frm.refl _ _).drew).1
    | exact HX3.out) (first
    | (go_at_call 15
       with_reducible refine (HS.out _).mono ?_
       rintro e w2 ⟨rfl, hf⟩
       have H2 : Hid (Nul w1 w2) := hid ((Frm.refl _ w1).drew.nul hf)
       clear hf)
    | (go_at_call 37
       with_reducible refine (HE.out _).mono ?_
       rintro e w3 ⟨rfl, hf⟩
       have H3 : Hid (Nul w1 w3) := hid (H2.out.nul hf)
       have hst := storeCells_blk (P := Try.prog) (HX2.out _ H3.out).2.2.1 size_rec Hql.out rfl (recL_one q)
       have HX3 : Hid (World.rangeAt (w3.setRow (w.heap.size + 1) (recL q).toArray) w.heap.size 1 (keyL k) ∧ (w3.setRow (w.heap.size + 1) (recL q).toArray).cell? ⟨w.heap.size, 33, none⟩ = some (.bool d) ∧ (w3.setRow (w.heap.size + 1) (recL q).toArray).cell? ⟨w.heap.size, 34, none⟩ = some (.string v)) := hid ⟨(HX.out _ ((HX2.out _ H3.out).2.1.rowFar (by omega) _)).1, (HX.out _ ((HX2.out _ H3.out).2.1.rowFar (by omega) _)).2.1 0 _ rfl, (HX.out _ ((HX2.out _ H3.out).2.1.rowFar (by omega) _)).2.1 1 _ rfl⟩
       clear hf))
  have H4 : Hid (Blk (w3.setRow (w.heap.size + 1) (recL q).toArray) w.heap.size 28 (recL r) ∧ Blk (w3.setRow (w.heap.size + 1) (recL q).toArray) (w.heap.size + 1) 28 (recL q) ∧ Nul w (w3.setRow (w.heap.size + 1) (recL q).toArray)) := hid ⟨(HX2.out _ H3.out).2.1.rowFar (by omega) _, (HX2.out _ H3.out).2.2.1.setRow, (HX2.out _ H3.out).2.2.2.setRow (.inl (by omega)) _⟩
  clear hst HX3 hku hks
  generalize w3.setRow (w.heap.size + 1) (recL q).toArray = w4 at H4 ⊢
  cases hc : (c == 0) with
  | false =>
    go_wp2_with (first
    | (refine wpList_load_gd 28 (.tmp 1) rfl rfl w.heap.size rfl 28 (recL r) 68 _ H4.out.1 rec_fields rfl size_rec Hrl.out ?_)
    | (refine wpList_load_gd 28 (.tmp 3) rfl rfl (w.heap.size + 1) rfl 28 (recL q) 68 _ H4.out.2.1 rec_fields rfl size_rec Hql.out ?_))
    go_ret
    exact ⟨by rw [← Hres.out, hc]; rfl, H4.out.2.2⟩
  | true =>
      cases z with
    | false =>
      go_wp2_with (first
    | (refine wpList_load_gd 28 (.tmp 1) rfl rfl w.heap.size rfl 28 (recL r) 68 _ H4.out.1 rec_fields rfl size_rec Hrl.out ?_)
    | (refine wpList_load_gd 28 (.tmp 3) rfl rfl (w.heap.size + 1) rfl 28 (recL q) 68 _ H4.out.2.1 rec_fields rfl size_rec Hql.out ?_))
      go_ret
      exact ⟨by rw [← Hres.out, hc]; rfl, H4.out.2.2⟩
    | true =>
      go_wp2_with (first
    | (refine wpList_load_gd 28 (.tmp 1) rfl rfl w.heap.size rfl 28 (recL r) 68 _ H4.out.1 rec_fields rfl size_rec Hrl.out ?_)
    | (refine wpList_load_gd 28 (.tmp 3) rfl rfl (w.heap.size + 1) rfl 28 (recL q) 68 _ H4.out.2.1 rec_fields rfl size_rec Hql.out ?_))
      go_ret
      exact ⟨by rw [← Hres.out, hc]; rfl, H4.out.2.2⟩
set_option maxRecDepth 100000 in
set_option maxHeartbeats 1000000 in
theorem rec_Check_2 (k : List UInt8) (d : Bool) (v : ByteArray) (s : List UInt8) (n : Int) (w : World) (hk : k.length = 32) (hs : s.length = 32) (hv : v.size ≤ 9223372036854775807) :
    Calls Try.prog 11 #[.agg (recL ⟨2, k, d, v, s, n⟩).toArray] w fun e w' => e = .returned (.int .i64 (recChk ⟨2, k, d, v, s, n⟩)) ∧ Nul w w' := by
  obtain ⟨r, hr⟩ : ∃ r : Rcd, r = ⟨2, k, d, v, s, n⟩ := ⟨_, rfl⟩
  have hrk : r.ok := by rw [hr]; exact ⟨hk, hs⟩
  have hkind : (recL r)[0]? = some (.int .i64 2) := by rw [hr]; rfl
  have hnn : (recL r)[67]? = some (.int .i64 n) := by rw [recL_n hrk, hr]
  have hrk1 : keyL r.key = keyL k := by rw [hr]
  have hre1 : entL r.dead r.val = entL d v := by rw [hr]
  have hrs1 : keyL r.sum = keyL s := by rw [hr]
  rw [← hr]
  have HR := hid hr
  have Hok := hid hrk
  have Hrl := hid (recL_length hrk)
  have hz := (zero_of_info zero_rec).1
  have Hbz := hid built_zero
  have HX : Hid (∀ w', Blk w' w.heap.size 28 (recL r) → World.rangeAt w' w.heap.size 1 (keyL k) ∧ World.rangeAt w' w.heap.size 33 (entL d v) ∧ World.rangeAt w' w.heap.size 35 (keyL s) ∧ w'.cell? ⟨w.heap.size, 0, none⟩ = some (.int .i64 2) ∧ w'.cell? ⟨w.heap.size, 67, none⟩ = some (.int .i64 n)) := hid (fun w' h => ⟨hrk1 ▸ range_key hrk h, hre1 ▸ range_ent hrk h, hrs1 ▸ range_sum hrk h, by rw [h.cell, hkind], by rw [h.cell, hnn]⟩)
  have HL : Hid (∀ w', Blk w' w.heap.size 28 (recL r) → (Instr.loadAt 28 (.pointer (some ⟨w.heap.size, 0, none⟩))).run Try.prog w' = .ok (.agg (recL r).toArray) w') := hid (fun w' h => loadAt_blk h rec_fields rfl size_rec (recL_length hrk))
  have HL2 : Hid (∀ (q : Rcd) (hq : q.ok) w', Blk w' (w.heap.size + 1) 28 (recL q) → (Instr.loadAt 28 (.pointer (some ⟨w.heap.size + 1, 0, none⟩))).run Try.prog w' = .ok (.agg (recL q).toArray) w') := hid (fun q hq w' h => loadAt_blk h rec_fields rfl size_rec (recL_length hq))
  have HW : Hid (∀ o1, Nul w ((w.alloc (.cells (recL r).toArray 28)).alloc o1) ∧ Blk ((w.alloc (.cells (recL r).toArray 28)).alloc o1) w.heap.size 28 (recL r)) := hid (fun o1 => ⟨((Frm.refl _ w).alloc _).alloc _, (Blk.new w _ _).alloc _⟩)
  have HW2 : Hid (∀ o1, Blk ((w.alloc o1).alloc (.cells (recL rzero).toArray 28)) (w.heap.size + 1) 28 (recL rzero)) := hid (fun o1 => Blk.new_at (w.alloc o1) _ _ (by simp))
  have Hkl : Hid ((Try.prog.info? 23).map (·.size) = some (keyL k).length) := hid (by rw [size_key, keyL_length, hk])
  have HS := hid (fun w => rec_Prev k d v w hk)
  have HE := hid (fun w => ent_Check d v w hv)
  obtain ⟨q, hq⟩ : ∃ q : Rcd, q = ⟨2, k, d, v, zero32, 0⟩ := ⟨_, rfl⟩
  have hqk : q.ok := by rw [hq]; exact ⟨hk, rfl⟩
  rw [← hq] at HS
  have Hq := hid hqk
  have Hql := hid (recL_length hqk)
  have hgood : recChk r = if ((entChk d v == 0) && recB r q) = true then 0 else 2 := by
    rw [hr, hq]
    rfl
  have hne := rec_neq hrk hqk
  generalize recB r q = z at hne hgood
  obtain ⟨res, hres⟩ : ∃ res : Int, (if ((entChk d v == 0) && z) = true then 0 else 2) = res := ⟨_, rfl⟩
  rw [hgood, hres]
  have Hres := hid hres
  clear hres
  clear hk hs hv hr hrk hkind hnn hrk1 hre1 hrs1 hq hqk hgood
  generalize entChk d v = c at HE Hres
  go_enter Try.func11, Try.ntmps11
  go_wp2_with (first
    | (refine wpList_built rfl 28 _ rfl _ Hbz.out ?_)
    | (refine wpList_store_blk rfl 28 (.tmp 3) (.tmp 5) rfl (w.heap.size + 1) (recL rzero) rfl rfl 28 (recL rzero) 68 (HW2.out _) size_rec rfl rfl (recL_one _) ?_; intro w1 hB hO
       have H1 : Hid (Blk w1 w.heap.size 28 (recL r) ∧ Blk w1 (w.heap.size + 1) 28 (recL rzero) ∧ Nul w w1) := hid ⟨(HW.out _).2.one hO (by omega), hB, (HW.out _).1.one hO (.inl (by omega))⟩
       have c0 := (HX.out _ H1.out.1).2.2.2.1
       clear hB hO HW HW2))
  have HX2 : Hid (∀ w', Nul w1 w' → (World.rangeAt w' w.heap.size 1 (keyL k) ∧ w'.cell? ⟨w.heap.size, 33, none⟩ = some (.bool d) ∧ w'.cell? ⟨w.heap.size, 34, none⟩ = some (.string v)) ∧ Blk w' w.heap.size 28 (recL r) ∧ Blk w' (w.heap.size + 1) 28 (recL rzero) ∧ Nul w w') := hid (fun w' hf => ⟨⟨(HX.out _ (H1.out.1.nul hf)).1, (HX.out _ (H1.out.1.nul hf)).2.1 0 _ rfl, (HX.out _ (H1.out.1.nul hf)).2.1 1 _ rfl⟩, H1.out.1.nul hf, H1.out.2.1.nul hf, H1.out.2.2.nul hf⟩)
  have hku := key_array
  have hks := Hkl.out
  go_region_held3 (fun w' => World.rangeAt w' w.heap.size 1 (keyL k) ∧ w'.cell? ⟨w.heap.size, 33, none⟩ = some (.bool d) ∧ w'.cell? ⟨w.heap.size, 34, none⟩ = some (.string v)) (first
    | exact (HX2.out _ H3.out).1
    | exact (HX2.out _ H2.out).1
    | exact (HX2.out _ (Frm.refl _ _).drew).1
    | exact HX3.out) (first
    | (go_at_call 16
       with_reducible refine (HS.out _).mono ?_
       rintro e w2 ⟨rfl, hf⟩
       have H2 : Hid (Nul w1 w2) := hid ((Frm.refl _ w1).drew.nul hf)
       clear hf)
    | (go_at_call 37
       with_reducible refine (HE.out _).mono ?_
       rintro e w3 ⟨rfl, hf⟩
       have H3 : Hid (Nul w1 w3) := hid (H2.out.nul hf)
       have hst := storeCells_blk (P := Try.prog) (HX2.out _ H3.out).2.2.1 size_rec Hql.out rfl (recL_one q)
       have HX3 : Hid (World.rangeAt (w3.setRow (w.heap.size + 1) (recL q).toArray) w.heap.size 1 (keyL k) ∧ (w3.setRow (w.heap.size + 1) (recL q).toArray).cell? ⟨w.heap.size, 33, none⟩ = some (.bool d) ∧ (w3.setRow (w.heap.size + 1) (recL q).toArray).cell? ⟨w.heap.size, 34, none⟩ = some (.string v)) := hid ⟨(HX.out _ ((HX2.out _ H3.out).2.1.rowFar (by omega) _)).1, (HX.out _ ((HX2.out _ H3.out).2.1.rowFar (by omega) _)).2.1 0 _ rfl, (HX.out _ ((HX2.out _ H3.out).2.1.rowFar (by omega) _)).2.1 1 _ rfl⟩
       clear hf))
  have H4 : Hid (Blk (w3.setRow (w.heap.size + 1) (recL q).toArray) w.heap.size 28 (recL r) ∧ Blk (w3.setRow (w.heap.size + 1) (recL q).toArray) (w.heap.size + 1) 28 (recL q) ∧ Nul w (w3.setRow (w.heap.size + 1) (recL q).toArray)) := hid ⟨(HX2.out _ H3.out).2.1.rowFar (by omega) _, (HX2.out _ H3.out).2.2.1.setRow, (HX2.out _ H3.out).2.2.2.setRow (.inl (by omega)) _⟩
  clear hst HX3 hku hks
  generalize w3.setRow (w.heap.size + 1) (recL q).toArray = w4 at H4 ⊢
  cases hc : (c == 0) with
  | false =>
    go_wp2_with (first
    | (refine wpList_load_gd 28 (.tmp 1) rfl rfl w.heap.size rfl 28 (recL r) 68 _ H4.out.1 rec_fields rfl size_rec Hrl.out ?_)
    | (refine wpList_load_gd 28 (.tmp 3) rfl rfl (w.heap.size + 1) rfl 28 (recL q) 68 _ H4.out.2.1 rec_fields rfl size_rec Hql.out ?_))
    go_ret
    exact ⟨by rw [← Hres.out, hc]; rfl, H4.out.2.2⟩
  | true =>
      cases z with
    | false =>
      go_wp2_with (first
    | (refine wpList_load_gd 28 (.tmp 1) rfl rfl w.heap.size rfl 28 (recL r) 68 _ H4.out.1 rec_fields rfl size_rec Hrl.out ?_)
    | (refine wpList_load_gd 28 (.tmp 3) rfl rfl (w.heap.size + 1) rfl 28 (recL q) 68 _ H4.out.2.1 rec_fields rfl size_rec Hql.out ?_))
      go_ret
      exact ⟨by rw [← Hres.out, hc]; rfl, H4.out.2.2⟩
    | true =>
      go_wp2_with (first
    | (refine wpList_load_gd 28 (.tmp 1) rfl rfl w.heap.size rfl 28 (recL r) 68 _ H4.out.1 rec_fields rfl size_rec Hrl.out ?_)
    | (refine wpList_load_gd 28 (.tmp 3) rfl rfl (w.heap.size + 1) rfl 28 (recL q) 68 _ H4.out.2.1 rec_fields rfl size_rec Hql.out ?_))
      go_ret
      exact ⟨by rw [← Hres.out, hc]; rfl, H4.out.2.2⟩
set_option maxRecDepth 100000 in
set_option maxHeartbeats 1000000 in
theorem rec_Check_3 (k : List UInt8) (d : Bool) (v : ByteArray) (s : List UInt8) (n : Int) (w : World) (hk : k.length = 32) (hs : s.length = 32) (hv : v.size ≤ 9223372036854775807) :
    Calls Try.prog 11 #[.agg (recL ⟨3, k, d, v, s, n⟩).toArray] w fun e w' => e = .returned (.int .i64 (recChk ⟨3, k, d, v, s, n⟩)) ∧ Nul w w' := by
  obtain ⟨r, hr⟩ : ∃ r : Rcd, r = ⟨3, k, d, v, s, n⟩ := ⟨_, rfl⟩
  have hrk : r.ok := by rw [hr]; exact ⟨hk, hs⟩
  have hkind : (recL r)[0]? = some (.int .i64 3) := by rw [hr]; rfl
  have hnn : (recL r)[67]? = some (.int .i64 n) := by rw [recL_n hrk, hr]
  have hrk1 : keyL r.key = keyL k := by rw [hr]
  have hre1 : entL r.dead r.val = entL d v := by rw [hr]
  have hrs1 : keyL r.sum = keyL s := by rw [hr]
  rw [← hr]
  have HR := hid hr
  have Hok := hid hrk
  have Hrl := hid (recL_length hrk)
  have hz := (zero_of_info zero_rec).1
  have Hbz := hid built_zero
  have HX : Hid (∀ w', Blk w' w.heap.size 28 (recL r) → World.rangeAt w' w.heap.size 1 (keyL k) ∧ World.rangeAt w' w.heap.size 33 (entL d v) ∧ World.rangeAt w' w.heap.size 35 (keyL s) ∧ w'.cell? ⟨w.heap.size, 0, none⟩ = some (.int .i64 3) ∧ w'.cell? ⟨w.heap.size, 67, none⟩ = some (.int .i64 n)) := hid (fun w' h => ⟨hrk1 ▸ range_key hrk h, hre1 ▸ range_ent hrk h, hrs1 ▸ range_sum hrk h, by rw [h.cell, hkind], by rw [h.cell, hnn]⟩)
  have HL : Hid (∀ w', Blk w' w.heap.size 28 (recL r) → (Instr.loadAt 28 (.pointer (some ⟨w.heap.size, 0, none⟩))).run Try.prog w' = .ok (.agg (recL r).toArray) w') := hid (fun w' h => loadAt_blk h rec_fields rfl size_rec (recL_length hrk))
  have HL2 : Hid (∀ (q : Rcd) (hq : q.ok) w', Blk w' (w.heap.size + 1) 28 (recL q) → (Instr.loadAt 28 (.pointer (some ⟨w.heap.size + 1, 0, none⟩))).run Try.prog w' = .ok (.agg (recL q).toArray) w') := hid (fun q hq w' h => loadAt_blk h rec_fields rfl size_rec (recL_length hq))
  have HW : Hid (∀ o1, Nul w ((w.alloc (.cells (recL r).toArray 28)).alloc o1) ∧ Blk ((w.alloc (.cells (recL r).toArray 28)).alloc o1) w.heap.size 28 (recL r)) := hid (fun o1 => ⟨((Frm.refl _ w).alloc _).alloc _, (Blk.new w _ _).alloc _⟩)
  have HW2 : Hid (∀ o1, Blk ((w.alloc o1).alloc (.cells (recL rzero).toArray 28)) (w.heap.size + 1) 28 (recL rzero)) := hid (fun o1 => Blk.new_at (w.alloc o1) _ _ (by simp))
  have HS := hid (fun w => rec_Roll s w hs)
  have Hsl : Hid ((Try.prog.info? 26).map (·.size) = some (keyL s).length) := hid (by rw [size_sum, keyL_length, hs])
  obtain ⟨q, hq⟩ : ∃ q : Rcd, q = ⟨3, zero32, false, ⟨#[]⟩, s, 0⟩ := ⟨_, rfl⟩
  have hqk : q.ok := by rw [hq]; exact ⟨rfl, hs⟩
  rw [← hq] at HS
  have Hq := hid hqk
  have Hql := hid (recL_length hqk)
  have hgood : recChk r = if ((true) && recB r q) = true then 0 else 2 := by
    rw [hr, hq]
    rfl
  have hne := rec_neq hrk hqk
  generalize recB r q = z at hne hgood
  obtain ⟨res, hres⟩ : ∃ res : Int, (if ((true) && z) = true then 0 else 2) = res := ⟨_, rfl⟩
  rw [hgood, hres]
  have Hres := hid hres
  clear hres
  clear hk hs hv hr hrk hkind hnn hrk1 hre1 hrs1 hq hqk hgood
  go_enter Try.func11, Try.ntmps11
  go_wp2_with (first
    | (refine wpList_built rfl 28 _ rfl _ Hbz.out ?_)
    | (refine wpList_store_blk rfl 28 (.tmp 3) (.tmp 5) rfl (w.heap.size + 1) (recL rzero) rfl rfl 28 (recL rzero) 68 (HW2.out _) size_rec rfl rfl (recL_one _) ?_; intro w1 hB hO
       have H1 : Hid (Blk w1 w.heap.size 28 (recL r) ∧ Blk w1 (w.heap.size + 1) 28 (recL rzero) ∧ Nul w w1) := hid ⟨(HW.out _).2.one hO (by omega), hB, (HW.out _).1.one hO (.inl (by omega))⟩
       have c0 := (HX.out _ H1.out.1).2.2.2.1
       clear hB hO HW HW2)
    | (with_reducible refine wpList_load_mid rfl 26 (.tmp 32) rfl w.heap.size 35 rfl (keyL s) _ (HX.out _ H1.out.1).2.2.1 sum_array rfl Hsl.out ?_))
  refine (HS.out _).mono ?_
  rintro e w2 ⟨rfl, hf⟩
  have H2 : Hid (Blk w2 w.heap.size 28 (recL r) ∧ Blk w2 (w.heap.size + 1) 28 (recL rzero) ∧ Nul w w2) := hid ⟨H1.out.1.nul hf, H1.out.2.1.nul hf, H1.out.2.2.nul hf⟩
  clear hf
  cases z with
  | false =>
    go_wp2_with (first
    | (refine wpList_store_blk rfl 28 (.tmp 3) (.tmp 34) rfl (w.heap.size + 1) (recL q) rfl rfl 28 (recL rzero) 68 H2.out.2.1 size_rec Hql.out rfl (recL_one _) ?_; intro w4 hB hO
       have H4 : Hid (Blk w4 w.heap.size 28 (recL r) ∧ Blk w4 (w.heap.size + 1) 28 (recL q) ∧ Nul w w4) := hid ⟨H2.out.1.one hO (by omega), hB, H2.out.2.2.one hO (.inl (by omega))⟩
       clear hB hO)
    | (refine wpList_load_gd 28 (.tmp 1) rfl rfl w.heap.size rfl 28 (recL r) 68 _ H4.out.1 rec_fields rfl size_rec Hrl.out ?_)
    | (refine wpList_load_gd 28 (.tmp 3) rfl rfl (w.heap.size + 1) rfl 28 (recL q) 68 _ H4.out.2.1 rec_fields rfl size_rec Hql.out ?_))
    go_ret
    exact ⟨by rw [← Hres.out]; rfl, H4.out.2.2⟩
  | true =>
    go_wp2_with (first
    | (refine wpList_store_blk rfl 28 (.tmp 3) (.tmp 34) rfl (w.heap.size + 1) (recL q) rfl rfl 28 (recL rzero) 68 H2.out.2.1 size_rec Hql.out rfl (recL_one _) ?_; intro w4 hB hO
       have H4 : Hid (Blk w4 w.heap.size 28 (recL r) ∧ Blk w4 (w.heap.size + 1) 28 (recL q) ∧ Nul w w4) := hid ⟨H2.out.1.one hO (by omega), hB, H2.out.2.2.one hO (.inl (by omega))⟩
       clear hB hO)
    | (refine wpList_load_gd 28 (.tmp 1) rfl rfl w.heap.size rfl 28 (recL r) 68 _ H4.out.1 rec_fields rfl size_rec Hrl.out ?_)
    | (refine wpList_load_gd 28 (.tmp 3) rfl rfl (w.heap.size + 1) rfl 28 (recL q) 68 _ H4.out.2.1 rec_fields rfl size_rec Hql.out ?_))
    go_ret
    exact ⟨by rw [← Hres.out]; rfl, H4.out.2.2⟩
set_option maxRecDepth 100000 in
set_option maxHeartbeats 1000000 in
theorem rec_Check_4 (k : List UInt8) (d : Bool) (v : ByteArray) (s : List UInt8) (n : Int) (w : World) (hk : k.length = 32) (hs : s.length = 32) (hv : v.size ≤ 9223372036854775807) :
    Calls Try.prog 11 #[.agg (recL ⟨4, k, d, v, s, n⟩).toArray] w fun e w' => e = .returned (.int .i64 (recChk ⟨4, k, d, v, s, n⟩)) ∧ Nul w w' := by
  obtain ⟨r, hr⟩ : ∃ r : Rcd, r = ⟨4, k, d, v, s, n⟩ := ⟨_, rfl⟩
  have hrk : r.ok := by rw [hr]; exact ⟨hk, hs⟩
  have hkind : (recL r)[0]? = some (.int .i64 4) := by rw [hr]; rfl
  have hnn : (recL r)[67]? = some (.int .i64 n) := by rw [recL_n hrk, hr]
  have hrk1 : keyL r.key = keyL k := by rw [hr]
  have hre1 : entL r.dead r.val = entL d v := by rw [hr]
  have hrs1 : keyL r.sum = keyL s := by rw [hr]
  rw [← hr]
  have HR := hid hr
  have Hok := hid hrk
  have Hrl := hid (recL_length hrk)
  have hz := (zero_of_info zero_rec).1
  have Hbz := hid built_zero
  have HX : Hid (∀ w', Blk w' w.heap.size 28 (recL r) → World.rangeAt w' w.heap.size 1 (keyL k) ∧ World.rangeAt w' w.heap.size 33 (entL d v) ∧ World.rangeAt w' w.heap.size 35 (keyL s) ∧ w'.cell? ⟨w.heap.size, 0, none⟩ = some (.int .i64 4) ∧ w'.cell? ⟨w.heap.size, 67, none⟩ = some (.int .i64 n)) := hid (fun w' h => ⟨hrk1 ▸ range_key hrk h, hre1 ▸ range_ent hrk h, hrs1 ▸ range_sum hrk h, by rw [h.cell, hkind], by rw [h.cell, hnn]⟩)
  have HL : Hid (∀ w', Blk w' w.heap.size 28 (recL r) → (Instr.loadAt 28 (.pointer (some ⟨w.heap.size, 0, none⟩))).run Try.prog w' = .ok (.agg (recL r).toArray) w') := hid (fun w' h => loadAt_blk h rec_fields rfl size_rec (recL_length hrk))
  have HL2 : Hid (∀ (q : Rcd) (hq : q.ok) w', Blk w' (w.heap.size + 1) 28 (recL q) → (Instr.loadAt 28 (.pointer (some ⟨w.heap.size + 1, 0, none⟩))).run Try.prog w' = .ok (.agg (recL q).toArray) w') := hid (fun q hq w' h => loadAt_blk h rec_fields rfl size_rec (recL_length hq))
  have HW : Hid (∀ o1, Nul w ((w.alloc (.cells (recL r).toArray 28)).alloc o1) ∧ Blk ((w.alloc (.cells (recL r).toArray 28)).alloc o1) w.heap.size 28 (recL r)) := hid (fun o1 => ⟨((Frm.refl _ w).alloc _).alloc _, (Blk.new w _ _).alloc _⟩)
  have HW2 : Hid (∀ o1, Blk ((w.alloc o1).alloc (.cells (recL rzero).toArray 28)) (w.heap.size + 1) 28 (recL rzero)) := hid (fun o1 => Blk.new_at (w.alloc o1) _ _ (by simp))
  have HS := hid (fun w => rec_Frozen s w hs)
  have Hsl : Hid ((Try.prog.info? 26).map (·.size) = some (keyL s).length) := hid (by rw [size_sum, keyL_length, hs])
  obtain ⟨q, hq⟩ : ∃ q : Rcd, q = ⟨4, zero32, false, ⟨#[]⟩, s, 0⟩ := ⟨_, rfl⟩
  have hqk : q.ok := by rw [hq]; exact ⟨rfl, hs⟩
  rw [← hq] at HS
  have Hq := hid hqk
  have Hql := hid (recL_length hqk)
  have hgood : recChk r = if ((true) && recB r q) = true then 0 else 2 := by
    rw [hr, hq]
    rfl
  have hne := rec_neq hrk hqk
  generalize recB r q = z at hne hgood
  obtain ⟨res, hres⟩ : ∃ res : Int, (if ((true) && z) = true then 0 else 2) = res := ⟨_, rfl⟩
  rw [hgood, hres]
  have Hres := hid hres
  clear hres
  clear hk hs hv hr hrk hkind hnn hrk1 hre1 hrs1 hq hqk hgood
  go_enter Try.func11, Try.ntmps11
  go_wp2_with (first
    | (refine wpList_built rfl 28 _ rfl _ Hbz.out ?_)
    | (refine wpList_store_blk rfl 28 (.tmp 3) (.tmp 5) rfl (w.heap.size + 1) (recL rzero) rfl rfl 28 (recL rzero) 68 (HW2.out _) size_rec rfl rfl (recL_one _) ?_; intro w1 hB hO
       have H1 : Hid (Blk w1 w.heap.size 28 (recL r) ∧ Blk w1 (w.heap.size + 1) 28 (recL rzero) ∧ Nul w w1) := hid ⟨(HW.out _).2.one hO (by omega), hB, (HW.out _).1.one hO (.inl (by omega))⟩
       have c0 := (HX.out _ H1.out.1).2.2.2.1
       clear hB hO HW HW2)
    | (with_reducible refine wpList_load_mid rfl 26 (.tmp 37) rfl w.heap.size 35 rfl (keyL s) _ (HX.out _ H1.out.1).2.2.1 sum_array rfl Hsl.out ?_))
  refine (HS.out _).mono ?_
  rintro e w2 ⟨rfl, hf⟩
  have H2 : Hid (Blk w2 w.heap.size 28 (recL r) ∧ Blk w2 (w.heap.size + 1) 28 (recL rzero) ∧ Nul w w2) := hid ⟨H1.out.1.nul hf, H1.out.2.1.nul hf, H1.out.2.2.nul hf⟩
  clear hf
  cases z with
  | false =>
    go_wp2_with (first
    | (refine wpList_store_blk rfl 28 (.tmp 3) (.tmp 39) rfl (w.heap.size + 1) (recL q) rfl rfl 28 (recL rzero) 68 H2.out.2.1 size_rec Hql.out rfl (recL_one _) ?_; intro w4 hB hO
       have H4 : Hid (Blk w4 w.heap.size 28 (recL r) ∧ Blk w4 (w.heap.size + 1) 28 (recL q) ∧ Nul w w4) := hid ⟨H2.out.1.one hO (by omega), hB, H2.out.2.2.one hO (.inl (by omega))⟩
       clear hB hO)
    | (refine wpList_load_gd 28 (.tmp 1) rfl rfl w.heap.size rfl 28 (recL r) 68 _ H4.out.1 rec_fields rfl size_rec Hrl.out ?_)
    | (refine wpList_load_gd 28 (.tmp 3) rfl rfl (w.heap.size + 1) rfl 28 (recL q) 68 _ H4.out.2.1 rec_fields rfl size_rec Hql.out ?_))
    go_ret
    exact ⟨by rw [← Hres.out]; rfl, H4.out.2.2⟩
  | true =>
    go_wp2_with (first
    | (refine wpList_store_blk rfl 28 (.tmp 3) (.tmp 39) rfl (w.heap.size + 1) (recL q) rfl rfl 28 (recL rzero) 68 H2.out.2.1 size_rec Hql.out rfl (recL_one _) ?_; intro w4 hB hO
       have H4 : Hid (Blk w4 w.heap.size 28 (recL r) ∧ Blk w4 (w.heap.size + 1) 28 (recL q) ∧ Nul w w4) := hid ⟨H2.out.1.one hO (by omega), hB, H2.out.2.2.one hO (.inl (by omega))⟩
       clear hB hO)
    | (refine wpList_load_gd 28 (.tmp 1) rfl rfl w.heap.size rfl 28 (recL r) 68 _ H4.out.1 rec_fields rfl size_rec Hrl.out ?_)
    | (refine wpList_load_gd 28 (.tmp 3) rfl rfl (w.heap.size + 1) rfl 28 (recL q) 68 _ H4.out.2.1 rec_fields rfl size_rec Hql.out ?_))
    go_ret
    exact ⟨by rw [← Hres.out]; rfl, H4.out.2.2⟩
set_option maxRecDepth 100000 in
set_option maxHeartbeats 1000000 in
theorem rec_Check_5 (k : List UInt8) (d : Bool) (v : ByteArray) (s : List UInt8) (n : Int) (w : World) (hk : k.length = 32) (hs : s.length = 32) (hv : v.size ≤ 9223372036854775807) :
    Calls Try.prog 11 #[.agg (recL ⟨5, k, d, v, s, n⟩).toArray] w fun e w' => e = .returned (.int .i64 (recChk ⟨5, k, d, v, s, n⟩)) ∧ Nul w w' := by
  obtain ⟨r, hr⟩ : ∃ r : Rcd, r = ⟨5, k, d, v, s, n⟩ := ⟨_, rfl⟩
  have hrk : r.ok := by rw [hr]; exact ⟨hk, hs⟩
  have hkind : (recL r)[0]? = some (.int .i64 5) := by rw [hr]; rfl
  have hnn : (recL r)[67]? = some (.int .i64 n) := by rw [recL_n hrk, hr]
  have hrk1 : keyL r.key = keyL k := by rw [hr]
  have hre1 : entL r.dead r.val = entL d v := by rw [hr]
  have hrs1 : keyL r.sum = keyL s := by rw [hr]
  rw [← hr]
  have HR := hid hr
  have Hok := hid hrk
  have Hrl := hid (recL_length hrk)
  have hz := (zero_of_info zero_rec).1
  have Hbz := hid built_zero
  have HX : Hid (∀ w', Blk w' w.heap.size 28 (recL r) → World.rangeAt w' w.heap.size 1 (keyL k) ∧ World.rangeAt w' w.heap.size 33 (entL d v) ∧ World.rangeAt w' w.heap.size 35 (keyL s) ∧ w'.cell? ⟨w.heap.size, 0, none⟩ = some (.int .i64 5) ∧ w'.cell? ⟨w.heap.size, 67, none⟩ = some (.int .i64 n)) := hid (fun w' h => ⟨hrk1 ▸ range_key hrk h, hre1 ▸ range_ent hrk h, hrs1 ▸ range_sum hrk h, by rw [h.cell, hkind], by rw [h.cell, hnn]⟩)
  have HL : Hid (∀ w', Blk w' w.heap.size 28 (recL r) → (Instr.loadAt 28 (.pointer (some ⟨w.heap.size, 0, none⟩))).run Try.prog w' = .ok (.agg (recL r).toArray) w') := hid (fun w' h => loadAt_blk h rec_fields rfl size_rec (recL_length hrk))
  have HL2 : Hid (∀ (q : Rcd) (hq : q.ok) w', Blk w' (w.heap.size + 1) 28 (recL q) → (Instr.loadAt 28 (.pointer (some ⟨w.heap.size + 1, 0, none⟩))).run Try.prog w' = .ok (.agg (recL q).toArray) w') := hid (fun q hq w' h => loadAt_blk h rec_fields rfl size_rec (recL_length hq))
  have HW : Hid (∀ o1, Nul w ((w.alloc (.cells (recL r).toArray 28)).alloc o1) ∧ Blk ((w.alloc (.cells (recL r).toArray 28)).alloc o1) w.heap.size 28 (recL r)) := hid (fun o1 => ⟨((Frm.refl _ w).alloc _).alloc _, (Blk.new w _ _).alloc _⟩)
  have HW2 : Hid (∀ o1, Blk ((w.alloc o1).alloc (.cells (recL rzero).toArray 28)) (w.heap.size + 1) 28 (recL rzero)) := hid (fun o1 => Blk.new_at (w.alloc o1) _ _ (by simp))
  have HS := hid (fun w => rec_Epoch n w)
  obtain ⟨q, hq⟩ : ∃ q : Rcd, q = ⟨5, zero32, false, ⟨#[]⟩, zero32, n⟩ := ⟨_, rfl⟩
  have hqk : q.ok := by rw [hq]; exact ⟨rfl, rfl⟩
  rw [← hq] at HS
  have Hq := hid hqk
  have Hql := hid (recL_length hqk)
  have hgood : recChk r = if (((decide (0 ≤ n) && decide (n ≤ 1048576))) && recB r q) = true then 0 else 2 := by
    rw [hr, hq]
    rfl
  have hne := rec_neq hrk hqk
  generalize recB r q = z at hne hgood
  obtain ⟨res, hres⟩ : ∃ res : Int, (if (((decide (0 ≤ n) && decide (n ≤ 1048576))) && z) = true then 0 else 2) = res := ⟨_, rfl⟩
  rw [hgood, hres]
  have Hres := hid hres
  clear hres
  clear hk hs hv hr hrk hkind hnn hrk1 hre1 hrs1 hq hqk hgood
  cases hc0 : decide (0 ≤ n)
  · cases hc1 : decide (n ≤ 1048576) <;> cases z
    all_goals
          go_enter Try.func11, Try.ntmps11
          go_wp2_with (first
            | (refine wpList_built rfl 28 _ rfl _ Hbz.out ?_)
            | (refine wpList_store_blk rfl 28 (.tmp 3) (.tmp 5) rfl (w.heap.size + 1) (recL rzero) rfl rfl 28 (recL rzero) 68 (HW2.out _) size_rec rfl rfl (recL_one _) ?_; intro w1 hB hO
               have H1 : Hid (Blk w1 w.heap.size 28 (recL r) ∧ Blk w1 (w.heap.size + 1) 28 (recL rzero) ∧ Nul w w1) := hid ⟨(HW.out _).2.one hO (by omega), hB, (HW.out _).1.one hO (.inl (by omega))⟩
               have c0 := (HX.out _ H1.out.1).2.2.2.1
               clear hB hO HW HW2))
          have HX2 : Hid (∀ w', Nul w1 w' → w'.cell? ⟨w.heap.size, 67, none⟩ = some (.int .i64 n) ∧ Blk w' w.heap.size 28 (recL r) ∧ Blk w' (w.heap.size + 1) 28 (recL rzero) ∧ Nul w w') := hid (fun w' hf => ⟨(HX.out _ (H1.out.1.nul hf)).2.2.2.2, H1.out.1.nul hf, H1.out.2.1.nul hf, H1.out.2.2.nul hf⟩)
          refine region_till (fun _ => true) (fun w' => w'.cell? ⟨w.heap.size, 67, none⟩ = some (.int .i64 n)) (by kernel_rfl) ?_
          have hS0 : w1.drew.cell? ⟨w.heap.size, 67, none⟩ = some (.int .i64 n) := (HX2.out _ (Frm.refl _ _).drew).1
          refine AnyTill.take (n := 12) (i := 0) (oi := _) (v := (.pointer (some ⟨w.heap.size, 67, none⟩))) rfl (by decide +kernel) (by decide +kernel) (by decide +kernel) (by decide +kernel) (fun _ _ _ h => h) (Or.inl ⟨by rfl, fun w' hw' => by go_simp⟩) hS0 ?_
          try simp only [Act.put, List.setIfInBounds_toArray, List.set_cons_zero, List.set_cons_succ]
          refine AnyTill.take (n := 11) (i := 1) (oi := _) (v := (.int .i64 n)) rfl (by decide +kernel) (by decide +kernel) (by decide +kernel) (by decide +kernel) (fun _ _ _ h => h) (Or.inl ⟨by rfl, fun w' hw' => by go_simp⟩) hS0 ?_
          try simp only [Act.put, List.setIfInBounds_toArray, List.set_cons_zero, List.set_cons_succ]
          refine AnyTill.take (n := 10) (i := 3) (oi := _) (v := (.pointer (some ⟨w.heap.size, 67, none⟩))) rfl (by decide +kernel) (by decide +kernel) (by decide +kernel) (by decide +kernel) (fun _ _ _ h => h) (Or.inl ⟨by rfl, fun w' hw' => by go_simp⟩) hS0 ?_
          try simp only [Act.put, List.setIfInBounds_toArray, List.set_cons_zero, List.set_cons_succ]
          refine AnyTill.take (n := 9) (i := 4) (oi := _) (v := (.int .i64 n)) rfl (by decide +kernel) (by decide +kernel) (by decide +kernel) (by decide +kernel) (fun _ _ _ h => h) (Or.inl ⟨by rfl, fun w' hw' => by go_simp⟩) hS0 ?_
          try simp only [Act.put, List.setIfInBounds_toArray, List.set_cons_zero, List.set_cons_succ]
          refine AnyTill.take (n := 8) (i := 5) (oi := _) (v := (.bool false)) rfl (by decide +kernel) (by decide +kernel) (by decide +kernel) (by decide +kernel) (fun _ _ _ h => h) (Or.inl ⟨by rfl, fun w' hw' => by go_simp⟩) hS0 ?_
          try simp only [Act.put, List.setIfInBounds_toArray, List.set_cons_zero, List.set_cons_succ]
          refine AnyTill.one_go (n := 7) (i := 2) (by kernel_rfl) rfl (by rfl) (fun K hK => ?_)
          have HK := hid hK
          clear hK
          go_simp
          go_at_call 19
          refine (HS.out _).mono ?_
          rintro e w3 ⟨rfl, hf⟩
          have H2 : Hid (Nul w1 w3) := hid ((Frm.refl _ w1).drew.nul hf)
          have hst := storeCells_blk (P := Try.prog) (HX2.out _ H2.out).2.2.1 size_rec Hql.out rfl (recL_one q)
          have hql := Hql.out
          have HX3 : Hid ((w3.setRow (w.heap.size + 1) (recL q).toArray).cell? ⟨w.heap.size, 67, none⟩ = some (.int .i64 n)) := hid (HX.out _ ((HX2.out _ H2.out).2.1.rowFar (by omega) _)).2.2.2.2
          clear hf
          have hS1 := (HX2.out _ H2.out).1
          refine HK.out _ _ (fun _ => hS1) ?_
          clear HK
          try simp only [Act.put, List.setIfInBounds_toArray, List.set_cons_zero, List.set_cons_succ]
          refine AnyTill.take (n := 6) (i := 6) (oi := _) (v := (.bool false)) rfl (by decide +kernel) (by decide +kernel) (by decide +kernel) (by decide +kernel) (fun _ _ _ h => h) (Or.inl ⟨by rfl, fun w' hw' => by go_simp⟩) hS1 ?_
          try simp only [Act.put, List.setIfInBounds_toArray, List.set_cons_zero, List.set_cons_succ]
          refine AnyTill.take (n := 5) (i := 7) (oi := _) (v := undef) rfl (by decide +kernel) (by decide +kernel) (by decide +kernel) (by decide +kernel) (fun _ _ _ h => h) (Or.inr ⟨by rfl, rfl⟩) hS1 ?_
          try simp only [Act.put, List.setIfInBounds_toArray, List.set_cons_zero, List.set_cons_succ]
          refine AnyTill.two_skip (n := 4) (i := 8) (j := 11) (by kernel_rfl) rfl rfl (by rfl) (by rfl) (fun _ => hS1) ?_ (fun K hK => ?_)
          try simp only [Act.put, List.setIfInBounds_toArray, List.set_cons_zero, List.set_cons_succ]
          refine AnyTill.take (n := 3) (i := 9) (oi := _) (v := undef) rfl (by decide +kernel) (by decide +kernel) (by decide +kernel) (by decide +kernel) (fun _ _ _ h => h) (Or.inr ⟨by rfl, rfl⟩) hS1 ?_
          try simp only [Act.put, List.setIfInBounds_toArray, List.set_cons_zero, List.set_cons_succ]
          refine AnyTill.take (n := 2) (i := 10) (oi := _) (v := (.bool false)) rfl (by decide +kernel) (by decide +kernel) (by decide +kernel) (by decide +kernel) (fun _ _ _ h => h) (Or.inl ⟨by rfl, fun w' hw' => by go_simp⟩) hS1 ?_
          try simp only [Act.put, List.setIfInBounds_toArray, List.set_cons_zero, List.set_cons_succ]
          refine AnyTill.one_go (n := 1) (i := 11) (by kernel_rfl) rfl (by rfl) (fun K hK => ?_)
          have HK := hid hK
          clear hK
          go_simp
          refine HK.out _ _ (fun _ => HX3.out) ?_
          clear HK
          try simp only [Act.put, List.setIfInBounds_toArray, List.set_cons_zero, List.set_cons_succ]
          have hS2 := HX3.out
          refine AnyTill.take (n := 0) (i := 12) (oi := _) (v := (.bool false)) rfl (by decide +kernel) (by decide +kernel) (by decide +kernel) (by decide +kernel) (fun _ _ _ h => h) (Or.inl ⟨by rfl, fun w' hw' => by go_simp⟩) hS2 ?_
          try simp only [Act.put, List.setIfInBounds_toArray, List.set_cons_zero, List.set_cons_succ]
          refine AnyTill.over (by kernel_rfl) ?_
          rotate_left
          have HK := hid hK
          clear hK
          go_simp
          refine HK.out _ _ (fun _ => HX3.out) ?_
          clear HK
          try simp only [Act.put, List.setIfInBounds_toArray, List.set_cons_zero, List.set_cons_succ]
          have hS2 := HX3.out
          refine AnyTill.take (n := 3) (i := 8) (oi := _) (v := undef) rfl (by decide +kernel) (by decide +kernel) (by decide +kernel) (by decide +kernel) (fun _ _ _ h => h) (Or.inr ⟨by rfl, rfl⟩) hS2 ?_
          try simp only [Act.put, List.setIfInBounds_toArray, List.set_cons_zero, List.set_cons_succ]
          refine AnyTill.take (n := 2) (i := 9) (oi := _) (v := undef) rfl (by decide +kernel) (by decide +kernel) (by decide +kernel) (by decide +kernel) (fun _ _ _ h => h) (Or.inr ⟨by rfl, rfl⟩) hS2 ?_
          try simp only [Act.put, List.setIfInBounds_toArray, List.set_cons_zero, List.set_cons_succ]
          refine AnyTill.take (n := 1) (i := 10) (oi := _) (v := (.bool false)) rfl (by decide +kernel) (by decide +kernel) (by decide +kernel) (by decide +kernel) (fun _ _ _ h => h) (Or.inl ⟨by rfl, fun w' hw' => by go_simp⟩) hS2 ?_
          try simp only [Act.put, List.setIfInBounds_toArray, List.set_cons_zero, List.set_cons_succ]
          refine AnyTill.take (n := 0) (i := 12) (oi := _) (v := (.bool false)) rfl (by decide +kernel) (by decide +kernel) (by decide +kernel) (by decide +kernel) (fun _ _ _ h => h) (Or.inl ⟨by rfl, fun w' hw' => by go_simp⟩) hS2 ?_
          try simp only [Act.put, List.setIfInBounds_toArray, List.set_cons_zero, List.set_cons_succ]
          refine AnyTill.over (by kernel_rfl) ?_
          all_goals
            have H4 : Hid (Blk (w3.setRow (w.heap.size + 1) (recL q).toArray) w.heap.size 28 (recL r) ∧ Blk (w3.setRow (w.heap.size + 1) (recL q).toArray) (w.heap.size + 1) 28 (recL q) ∧ Nul w (w3.setRow (w.heap.size + 1) (recL q).toArray)) := hid ⟨(HX2.out _ H2.out).2.1.rowFar (by omega) _, (HX2.out _ H2.out).2.2.1.setRow, (HX2.out _ H2.out).2.2.2.setRow (.inl (by omega)) _⟩
            generalize w3.setRow (w.heap.size + 1) (recL q).toArray = w4 at H4 ⊢
            go_wp2_with (first
              | (refine wpList_load_gd 28 (.tmp 1) rfl rfl w.heap.size rfl 28 (recL r) 68 _ H4.out.1 rec_fields rfl size_rec Hrl.out ?_)
              | (refine wpList_load_gd 28 (.tmp 3) rfl rfl (w.heap.size + 1) rfl 28 (recL q) 68 _ H4.out.2.1 rec_fields rfl size_rec Hql.out ?_))
            go_ret
            exact ⟨by rw [← Hres.out, hc0, hc1]; rfl, H4.out.2.2⟩
  · cases hc1 : decide (n ≤ 1048576) <;> cases z
    all_goals
          go_enter Try.func11, Try.ntmps11
          go_wp2_with (first
            | (refine wpList_built rfl 28 _ rfl _ Hbz.out ?_)
            | (refine wpList_store_blk rfl 28 (.tmp 3) (.tmp 5) rfl (w.heap.size + 1) (recL rzero) rfl rfl 28 (recL rzero) 68 (HW2.out _) size_rec rfl rfl (recL_one _) ?_; intro w1 hB hO
               have H1 : Hid (Blk w1 w.heap.size 28 (recL r) ∧ Blk w1 (w.heap.size + 1) 28 (recL rzero) ∧ Nul w w1) := hid ⟨(HW.out _).2.one hO (by omega), hB, (HW.out _).1.one hO (.inl (by omega))⟩
               have c0 := (HX.out _ H1.out.1).2.2.2.1
               clear hB hO HW HW2))
          have HX2 : Hid (∀ w', Nul w1 w' → w'.cell? ⟨w.heap.size, 67, none⟩ = some (.int .i64 n) ∧ Blk w' w.heap.size 28 (recL r) ∧ Blk w' (w.heap.size + 1) 28 (recL rzero) ∧ Nul w w') := hid (fun w' hf => ⟨(HX.out _ (H1.out.1.nul hf)).2.2.2.2, H1.out.1.nul hf, H1.out.2.1.nul hf, H1.out.2.2.nul hf⟩)
          go_region_held3 (fun w' => w'.cell? ⟨w.heap.size, 67, none⟩ = some (.int .i64 n)) (first
            | exact (HX2.out _ H2.out).1
            | exact (HX2.out _ (Frm.refl _ _).drew).1
            | exact HX3.out) (first
            | (go_at_call 19
               with_reducible refine (HS.out _).mono ?_
               rintro e w3 ⟨rfl, hf⟩
               have H2 : Hid (Nul w1 w3) := hid ((Frm.refl _ w1).drew.nul hf)
               have hst := storeCells_blk (P := Try.prog) (HX2.out _ H2.out).2.2.1 size_rec Hql.out rfl (recL_one q)
               have HX3 : Hid ((w3.setRow (w.heap.size + 1) (recL q).toArray).cell? ⟨w.heap.size, 67, none⟩ = some (.int .i64 n)) := hid (HX.out _ ((HX2.out _ H2.out).2.1.rowFar (by omega) _)).2.2.2.2
               clear hf))
          all_goals
            have H4 : Hid (Blk (w3.setRow (w.heap.size + 1) (recL q).toArray) w.heap.size 28 (recL r) ∧ Blk (w3.setRow (w.heap.size + 1) (recL q).toArray) (w.heap.size + 1) 28 (recL q) ∧ Nul w (w3.setRow (w.heap.size + 1) (recL q).toArray)) := hid ⟨(HX2.out _ H2.out).2.1.rowFar (by omega) _, (HX2.out _ H2.out).2.2.1.setRow, (HX2.out _ H2.out).2.2.2.setRow (.inl (by omega)) _⟩
            generalize w3.setRow (w.heap.size + 1) (recL q).toArray = w4 at H4 ⊢
            go_wp2_with (first
              | (refine wpList_load_gd 28 (.tmp 1) rfl rfl w.heap.size rfl 28 (recL r) 68 _ H4.out.1 rec_fields rfl size_rec Hrl.out ?_)
              | (refine wpList_load_gd 28 (.tmp 3) rfl rfl (w.heap.size + 1) rfl 28 (recL q) 68 _ H4.out.2.1 rec_fields rfl size_rec Hql.out ?_))
            go_ret
            exact ⟨by rw [← Hres.out, hc0, hc1]; rfl, H4.out.2.2⟩
theorem rec_Check (r : Rcd) (w : World) (hr : r.ok) (hv : r.val.size ≤ 9223372036854775807) :
    Calls Try.prog 11 #[.agg (recL r).toArray] w fun e w' => e = .returned (.int .i64 (recChk r)) ∧ Nul w w' := by
  obtain ⟨kd, k, d, v, s, n⟩ := r
  by_cases h1 : kd = 1
  · subst h1; exact rec_Check_1 k d v s n w hr.1 hr.2 hv
  by_cases h2 : kd = 2
  · subst h2; exact rec_Check_2 k d v s n w hr.1 hr.2 hv
  by_cases h3 : kd = 3
  · subst h3; exact rec_Check_3 k d v s n w hr.1 hr.2 hv
  by_cases h4 : kd = 4
  · subst h4; exact rec_Check_4 k d v s n w hr.1 hr.2 hv
  by_cases h5 : kd = 5
  · subst h5; exact rec_Check_5 k d v s n w hr.1 hr.2 hv
  exact rec_Check_no k d v s n kd w hr.1 hr.2 hv h1 h2 h3 h4 h5
end Go.Proofs.Ythocjhiapngacaa
