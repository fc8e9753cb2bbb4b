/-
  Slices of records made; what must come at any rate (layer 24).
-/
import Derived.Test.YthocjhiapngacaaRecQ
import Derived.Test.YthocjhiapngacaaRecR
import Derived.Great.BuildSlice
import Derived.Outline
set_option linter.all false
namespace Go.Proofs.Ythocjhiapngacaa
open Go.RowKit

/-- The cells of records side by side. -/
def recsL (rs : List Rcd) : List Value := rs.flatMap recL
theorem recsL_length {rs : List Rcd} (h : OkR rs) : (recsL rs).length = rs.length * 68 := by
  induction rs with
  | nil => rfl
  | cons r rs ih =>
    have := ih fun q hq => h q (List.mem_cons_of_mem _ hq)
    unfold recsL at this ⊢
    rw [List.flatMap_cons, List.length_append, this, recL_length (h r List.mem_cons_self), List.length_cons]
    omega
theorem recsL_append (a b : List Rcd) : recsL (a ++ b) = recsL a ++ recsL b := List.flatMap_append
theorem recsL_get : ∀ {rs : List Rcd} (h : OkR rs) (i : Nat) (r : Rcd), rs[i]? = some r → ∀ (j : Nat) (v : Value), (recL r)[j]? = some v → (recsL rs)[i * 68 + j]? = some v
  | [], _, i, r, hr, _, _, _ => by simp at hr
  | q :: rs, h, i, r, hr, j, v, hv => by
    have hql := recL_length (h q List.mem_cons_self)
    have hrs : recsL (q :: rs) = recL q ++ recsL rs := rfl
    rw [hrs]
    cases i with
    | zero =>
      have e : q = r := by simpa using hr
      subst e
      have hj : j < 68 := by rw [← hql]; exact (List.getElem?_eq_some_iff.1 hv).1
      rw [Nat.zero_mul, Nat.zero_add, List.getElem?_append_left (by omega)]
      exact hv
    | succ i =>
      rw [List.getElem?_append_right (by rw [hql]; omega), hql, show (i + 1) * 68 + j - 68 = i * 68 + j by omega]
      exact recsL_get (fun q hq => h q (List.mem_cons_of_mem _ hq)) i r (by simpa using hr) j v hv
theorem recsL_one (rs : List Rcd) : ∀ v ∈ recsL rs, v.oneCell' = true := fun v hv => by
  obtain ⟨r, _, hv⟩ := List.mem_flatMap.1 hv
  exact recL_one r v hv
theorem OkR.append {a b : List Rcd} (ha : OkR a) (hb : OkR b) : OkR (a ++ b) := fun r hr => by
  rcases List.mem_append.1 hr with h | h
  · exact ha r h
  · exact hb r h
theorem OkR.take {a : List Rcd} (ha : OkR a) (n : Nat) : OkR (a.take n) := fun r hr => ha r (List.mem_of_mem_take hr)

/-- A new block of records reads as these. -/
theorem RdR.blk {w : World} {g : Nat} {S : Nat → Prop} {rs : List Rcd} (h : Blk w g 28 (recsL rs)) (hok : OkR rs) (hg : S g) : RdR w S (some ⟨g, 0, none⟩) rs :=
  .inr ⟨g, 0, rfl, hg, h.lt, fun i r hr j v hv => by rw [h.cell, Nat.zero_add]; exact recsL_get hok i r hr j v hv⟩
/-- A slice of one's own that holds records. -/
theorem RdR.own {w : World} {B n : Nat} {v : Value} {rs : List Rcd} (h : w.ownsRow B 28 68 v n (recsL rs)) (hok : OkR rs) : ∃ A cap, v = .slice A rs.length cap ∧ RdR w (B ≤ ·) A rs := by
  have hl := h.1
  rw [recsL_length hok] at hl
  obtain rfl : rs.length = n := by omega
  rcases h.2 with ⟨rfl, hn⟩ | ⟨g, cap, cur, rfl, hB, hg, hc, hm, hs, ht⟩
  · have : rs = [] := List.eq_nil_of_length_eq_zero hn
    exact ⟨none, 0, by rw [hn], .inl this⟩
  · refine ⟨_, _, rfl, .inr ⟨g, 0, rfl, hB, (Array.getElem?_eq_some_iff.1 hg).1, fun i r hr j u hu => ?_⟩⟩
    have e := recsL_get hok i r hr j u hu
    rw [← ht] at e
    have hj : i * 68 + j < rs.length * 68 := by
      have := (List.getElem?_eq_some_iff.1 e).1
      rw [List.length_take] at this
      omega
    rw [List.getElem?_take_of_lt hj] at e
    rw [cell_of_row w g (0 + i * 68 + j) cur 28 (0, 0) hg, Nat.zero_add]
    simpa using e
/-- The news of an append. -/
theorem RdR.news {w : World} {S : Nat → Prop} {b off : Nat} {rs : List Rcd} (hc : ∀ (i : Nat) (r : Rcd), rs[i]? = some r → w.rangeAt b (off + i * 68) (recL r)) (hok : OkR rs) : ∀ (j : Nat) (u : Value), (recsL rs)[j]? = some u → w.cell? ((⟨b, off, none⟩ : Addr).add j) = some u := fun j u hu => by
  have hj : j < rs.length * 68 := by
    have := (List.getElem?_eq_some_iff.1 hu).1
    rwa [recsL_length hok] at this
  have hi : j / 68 < rs.length := Nat.div_lt_of_lt_mul (by omega)
  have hm : j % 68 < 68 := Nat.mod_lt _ (by omega)
  have hjj : j / 68 * 68 + j % 68 = j := by omega
  have hrl := recL_length (hok.get hi)
  have h1 := recsL_get hok (j / 68) _ (List.getElem?_eq_getElem hi) (j % 68) _ (List.getElem?_eq_getElem (by omega))
  rw [hjj, hu] at h1
  rw [Addr.add_mid, show off + j = off + j / 68 * 68 + j % 68 by omega]
  rw [h1]
  exact hc (j / 68) _ (List.getElem?_eq_getElem hi) (j % 68) _ (List.getElem?_eq_getElem (by omega))

/-- A list of records made: whatever its guard. -/
theorem wpList_rows {P : Program} {ops : Array Oper} {rest : List Oper} {o : Oper} {a : Act} {w : World} {Q : Exit → Act → World → Prop} (hw : Region.wanted o (yielded ops a.tmps) = true) (t e : TypeId) (len : Nat) (parts : Array (Nat × Operand)) (ho : o.op = .buildSlice t len parts)
    (z : Value) (hu : P.underlying t = some (.slice e)) (hi : (P.info? e).map (fun i => (i.zero, i.size)) = some (some z, 68)) (rs : List Rcd) (hok : OkR rs) (hlen : len = rs.length) (hpos : 0 < len) (hbig : len ≤ 1000)
    (hparts : (parts.toList.map fun p => (p.1, a.eval p.2)) = ((rs.map fun r => Value.agg (recL r).toArray).zipIdx 0).map fun x => (x.2, x.1))
    (h : wpList P ops Q rest (a.put o.dst (.slice (some ⟨w.heap.size, 0, none⟩) len len)) (w.alloc (.cells (recsL rs).toArray e))) : wpList P ops Q (o :: rest) a w :=
  wpList_step fun K hK => by
    rw [if_pos hw]
    cases hie : P.info? e with
    | none => simp [hie] at hi
    | some ie =>
      simp only [hie, Option.map_some, Option.some.injEq, Prod.mk.injEq] at hi
      have hcs : ∀ v ∈ rs.map (fun r => Value.agg (recL r).toArray), v.cells.size = 68 := fun v hv => by
        obtain ⟨r, hr, rfl⟩ := List.mem_map.1 hv
        show (recL r).toArray.size = 68
        rw [List.size_toArray, recL_length (hok r hr)]
      refine wp_buildSlice t e len parts ho _ ie z hu hie hi.1 (by rw [hi.2]; omega) (by rw [hi.2]; omega) ?_ (hK _ _ h)
      have hp : (parts.map fun (i, x) => (i, a.eval x)).toList = ((rs.map fun r => Value.agg (recL r).toArray).zipIdx 0).map fun x => (x.2, x.1) := by
        rw [Array.toList_map]
        exact hparts
      rw [hp, hi.2, Great.fill_whole (by omega) _ _ hcs (by simp [hlen])]
      congr 1
      unfold recsL
      rw [List.flatMap_map]
      congr 1

theorem built_dead : Try.prog.built 25 [(0, .bool true)] = some #[.bool true, .string ⟨#[]⟩] := by kernel_rfl
def r53 : Rcd := ⟨5, zero32, false, ⟨#[]⟩, zero32, 3⟩
def r1d : Rcd := ⟨1, zero32, true, ⟨#[]⟩, zero32, 0⟩
theorem r53_good : recGood r53 = true := by decide +kernel
theorem r53_text : recS r53 = ⟨#[5, 3, 0, 0, 0]⟩ := by decide +kernel
theorem r53_get : recGet ⟨#[5, 3, 0, 0, 0]⟩ = (r53, 0) := by decide +kernel
theorem r1d_good : recGood r1d = true := by decide +kernel
theorem r1d_size : (recS r1d).size = 34 := by decide +kernel

set_option maxRecDepth 100000 in
set_option maxHeartbeats 1000000 in
theorem awake24 (w : World) : Calls Try.prog 8 #[] w fun e w' => e = .returned (.bool true) ∧ Nul w w' := by
  have hz := (zero_of_info zero_rec).1
  have hzk := (zero_of_info zero_key).1
  have HP := hid (fun w => rec_Put r53 w ⟨rfl, rfl⟩ (by show 0 ≤ _; omega))
  have hc : recChk r53 = 0 := by unfold recChk; rw [r53_good]; rfl
  rw [r53_good, hc, if_pos rfl, r53_text] at HP
  have HD := hid (fun w => rec_Put r1d w ⟨rfl, rfl⟩ (by show 0 ≤ _; omega))
  have hc : recChk r1d = 0 := by unfold recChk; rw [r1d_good]; rfl
  rw [r1d_good, hc, if_pos rfl] at HD
  have HG := hid (fun w => rec_Get ⟨#[5, 3, 0, 0, 0]⟩ w (by show 5 ≤ _; omega))
  rw [r53_get] at HG
  clear hc
  have HE := hid (fun w => rec_Epoch 3 w)
  have HS := hid (fun w => rec_Set zero32 true ⟨#[]⟩ w rfl)
  have hsz := r1d_size
  have hb1 : ((⟨#[5, 3, 0, 0, 0]⟩ : ByteArray).toList == [5, 3, 0, 0, 0]) = true := by rw [ByteArray.toList_mk]; rfl
  obtain ⟨s, hs⟩ : ∃ s : ByteArray, s = ⟨#[5, 3, 0, 0, 0]⟩ := ⟨_, rfl⟩
  rw [← hs] at HP HG hb1
  generalize recS r1d = t at HD hsz
  have hsz2 : ((t.size : Int) == 34) = true := by simp only [beq_iff_eq]; omega
  obtain ⟨r, hr⟩ : ∃ r, r = r53 := ⟨_, rfl⟩
  have HE2 : Hid (∀ w, Calls Try.prog 19 #[.int .i64 3] w fun e w' => e = .returned (.agg (recL r).toArray) ∧ Nul w w') := hid (by rw [hr]; exact HE.out)
  rw [← hr] at HP HG
  have Hok : Hid r.ok := hid (by rw [hr]; exact ⟨rfl, rfl⟩)
  have Hrl := hid (recL_length Hok.out)
  have Hri : Hid ((Try.prog.info? 28).map (·.size) = some (recL r).length) := hid (by rw [Hrl.out, size_rec])
  have heq := fun w => rec_eql Hok.out Hok.out w
  have hrr : recB r r = true := (recB_iff r r).2 rfl
  rw [hrr] at heq
  have Heq := hid heq
  have Hcn : Hid (cntR [r, r] 5 = 2) := hid (by rw [hr]; decide +kernel)
  have Hbd := hid built_dead
  clear hrr heq HE hr hs hsz
  go_enter Try.func8, Try.ntmps8
  go_wp2_with fail
  refine (HE2.out _).mono ?_
  rintro e w1 ⟨rfl, hf⟩
  have H1 := hid hf
  clear hf
  go_wp2_with fail
  refine (HP.out _).mono ?_
  rintro e w2 ⟨rfl, hf⟩
  have H2 := hid (H1.out.nul hf)
  clear hf
  go_wp2_with fail
  refine (HG.out _).mono ?_
  rintro e w3 ⟨rfl, hf⟩
  have H3 := hid (H2.out.nul hf)
  clear hf
  have HB0 := hid (Blk.new w3 28 (recL rzero))
  have HK0 : Hid (∀ w' : World, Blk (w'.alloc (.cells (keyL zero32).toArray 23)) w'.heap.size 23 (keyL zero32)) := hid (fun w' => Blk.new w' 23 (keyL zero32))
  go_wp2_with (first
    | (refine wpList_store_blk rfl 28 (.tmp 3) (.tmp 16) rfl w3.heap.size (recL r) rfl rfl 28 (recL rzero) 68 HB0.out size_rec Hrl.out rfl (recL_one _) ?_; intro w4 hB hO
       have H4 : Hid (Nul w w4 ∧ Blk w4 w3.heap.size 28 (recL r)) := hid ⟨(H3.out.alloc _).one hO (.inl H3.out.size), hB⟩
       clear hB hO)
    | (refine wpList_load_blk rfl 23 (.tmp 5) rfl w4.heap.size rfl 23 (keyL zero32) 32 _ (HK0.out w4) key_array rfl size_key rfl ?_)
    | (refine wpList_built rfl 25 _ rfl _ Hbd.out ?_))
  refine (HS.out _).mono ?_
  rintro e w5 ⟨rfl, hf⟩
  have H5 : Hid (Nul w w5 ∧ Blk w5 w3.heap.size 28 (recL r)) := hid ⟨(H4.out.1.alloc _).nul hf, (H4.out.2.alloc _).nul hf⟩
  clear hf
  go_wp2_with fail
  refine (HD.out _).mono ?_
  rintro e w6 ⟨rfl, hf⟩
  have H6 : Hid (Nul w w6 ∧ Blk w6 w3.heap.size 28 (recL r)) := hid ⟨H5.out.1.nul hf, H5.out.2.nul hf⟩
  clear hf
  go_wp2_with fail
  have HR : Hid (∀ w', Nul w6 w' → w'.rangeAt w3.heap.size 0 (recL r)) := hid (fun w' hw' j v hv => by rw [(H6.out.2.nul hw').cell, Nat.zero_add]; exact hv)
  refine region_quiet_tail (Nul w6) 27 (by kernel_rfl) (by kernel_rfl) (Frm.refl _ _).drew ?_
  refine quiet_do (.string s) (by rfl) (fun w' _ => by go_simp) ?_
  simp only [Act.put, List.setIfInBounds_toArray, List.set_cons_zero, List.set_cons_succ]
  refine quiet_do (.bool true) (by rfl) (fun w' _ => by go_simp) ?_
  simp only [Act.put, List.setIfInBounds_toArray, List.set_cons_zero, List.set_cons_succ]
  refine quiet_do (.bool true) (by rfl) (fun w' _ => by go_simp) ?_
  simp only [Act.put, List.setIfInBounds_toArray, List.set_cons_zero, List.set_cons_succ]
  refine quiet_do (.int .i64 0) (by rfl) (fun w' _ => by go_simp) ?_
  simp only [Act.put, List.setIfInBounds_toArray, List.set_cons_zero, List.set_cons_succ]
  refine quiet_do (.bool true) (by rfl) (fun w' _ => by go_simp) ?_
  simp only [Act.put, List.setIfInBounds_toArray, List.set_cons_zero, List.set_cons_succ]
  refine quiet_do (.bool true) (by rfl) (fun w' _ => by go_simp) ?_
  simp only [Act.put, List.setIfInBounds_toArray, List.set_cons_zero, List.set_cons_succ]
  refine quiet_do (.bool true) (by rfl) (fun w' _ => by go_simp) ?_
  simp only [Act.put, List.setIfInBounds_toArray, List.set_cons_zero, List.set_cons_succ]
  refine quiet_row 28 (.tmp 3) rfl (by rfl) (w3.heap.size) (0) rfl (recL r) _ (fun w' hw' => HR.out w' hw') rec_fields rfl Hri.out ?_
  simp only [Act.put, List.setIfInBounds_toArray, List.set_cons_zero, List.set_cons_succ]
  refine quiet_call 19 #[.int .i64 3] (.agg (recL r).toArray) (by rfl) (fun w' => by go_simp) (fun w' hw' => (HE2.out w').mono fun e w'' ⟨h1, h2⟩ => ⟨h1, hw'.trans h2⟩) ?_
  simp only [Act.put, List.setIfInBounds_toArray, List.set_cons_zero, List.set_cons_succ]
  refine quiet_do (.bool true) (by rfl) (fun w' _ => by have hx := Heq.out; go_simp) ?_
  simp only [Act.put, List.setIfInBounds_toArray, List.set_cons_zero, List.set_cons_succ]
  refine quiet_do (.bool true) (by rfl) (fun w' _ => by go_simp) ?_
  simp only [Act.put, List.setIfInBounds_toArray, List.set_cons_zero, List.set_cons_succ]
  refine quiet_do (.bool true) (by rfl) (fun w' _ => by go_simp) ?_
  simp only [Act.put, List.setIfInBounds_toArray, List.set_cons_zero, List.set_cons_succ]
  refine quiet_do (.int .i64 0) (by rfl) (fun w' _ => by go_simp) ?_
  simp only [Act.put, List.setIfInBounds_toArray, List.set_cons_zero, List.set_cons_succ]
  refine quiet_do (.bool true) (by rfl) (fun w' _ => by go_simp) ?_
  simp only [Act.put, List.setIfInBounds_toArray, List.set_cons_zero, List.set_cons_succ]
  refine quiet_do (.bool true) (by rfl) (fun w' _ => by go_simp) ?_
  simp only [Act.put, List.setIfInBounds_toArray, List.set_cons_zero, List.set_cons_succ]
  refine quiet_do (.bool true) (by rfl) (fun w' _ => by go_simp) ?_
  simp only [Act.put, List.setIfInBounds_toArray, List.set_cons_zero, List.set_cons_succ]
  refine quiet_do (.string t) (by rfl) (fun w' _ => by go_simp) ?_
  simp only [Act.put, List.setIfInBounds_toArray, List.set_cons_zero, List.set_cons_succ]
  refine quiet_do (.int .i64 t.size) (by rfl) (fun w' _ => by go_simp) ?_
  simp only [Act.put, List.setIfInBounds_toArray, List.set_cons_zero, List.set_cons_succ]
  refine quiet_do (.bool true) (by rfl) (fun w' _ => by go_simp) ?_
  simp only [Act.put, List.setIfInBounds_toArray, List.set_cons_zero, List.set_cons_succ]
  refine quiet_do (.bool true) (by rfl) (fun w' _ => by go_simp) ?_
  simp only [Act.put, List.setIfInBounds_toArray, List.set_cons_zero, List.set_cons_succ]
  refine quiet_do (.bool true) (by rfl) (fun w' _ => by go_simp) ?_
  simp only [Act.put, List.setIfInBounds_toArray, List.set_cons_zero, List.set_cons_succ]
  refine quiet_do (.int .i64 0) (by rfl) (fun w' _ => by go_simp) ?_
  simp only [Act.put, List.setIfInBounds_toArray, List.set_cons_zero, List.set_cons_succ]
  refine quiet_do (.bool true) (by rfl) (fun w' _ => by go_simp) ?_
  simp only [Act.put, List.setIfInBounds_toArray, List.set_cons_zero, List.set_cons_succ]
  refine quiet_do (.bool true) (by rfl) (fun w' _ => by go_simp) ?_
  simp only [Act.put, List.setIfInBounds_toArray, List.set_cons_zero, List.set_cons_succ]
  refine quiet_do (.bool true) (by rfl) (fun w' _ => by go_simp) ?_
  simp only [Act.put, List.setIfInBounds_toArray, List.set_cons_zero, List.set_cons_succ]
  refine quiet_row 28 (.tmp 3) rfl (by rfl) (w3.heap.size) (0) rfl (recL r) _ (fun w' hw' => HR.out w' hw') rec_fields rfl Hri.out ?_
  simp only [Act.put, List.setIfInBounds_toArray, List.set_cons_zero, List.set_cons_succ]
  refine quiet_row 28 (.tmp 3) rfl (by rfl) (w3.heap.size) (0) rfl (recL r) _ (fun w' hw' => HR.out w' hw') rec_fields rfl Hri.out ?_
  simp only [Act.put, List.setIfInBounds_toArray, List.set_cons_zero, List.set_cons_succ]
  refine wpQuiet_nil ?_
  intro w7 hf7
  have H7 : Hid (Nul w w7) := hid (H6.out.1.trans hf7)
  clear hf7
  show wpList _ _ _ [_, _, _, _, _] _ _
  refine wpList_rows (by rfl) 44 28 2 _ rfl _ Try.underlying44 zero_rec [r, r] (by intro q hq; simp at hq; subst hq; exact Hok.out) rfl (by decide) (by decide) rfl ?_
  simp only [Act.put, List.setIfInBounds_toArray, List.set_cons_zero, List.set_cons_succ]
  have HB : Hid (Blk (w7.alloc (.cells (recsL [r, r]).toArray 28)) w7.heap.size 28 (recsL [r, r])) := hid (Blk.new w7 28 _)
  have HOk : Hid (OkR [r, r]) := hid (by intro q hq; simp at hq; subst hq; exact Hok.out)
  have HC := hid (fun c => rec_Count (some ⟨w7.heap.size, 0, none⟩) c [r, r] 5 (w7.alloc (.cells (recsL [r, r]).toArray 28)) (RdR.blk HB.out HOk.out True.intro) HOk.out (by simp))
  rw [Hcn.out] at HC
  have H8 : Hid (Nul w (w7.alloc (.cells (recsL [r, r]).toArray 28))) := hid (H7.out.alloc _)
  generalize (w7.alloc (.cells (recsL [r, r]).toArray 28)) = w8 at HC H8 ⊢
  clear HB
  go_wp2_with fail
  refine (HC.out _).mono ?_
  rintro e w9 ⟨rfl, hf⟩
  have H9 := hid (H8.out.nul hf)
  clear hf
  go_wp2_with fail
  go_ret
  exact ⟨rfl, H9.out⟩
end Go.Proofs.Ythocjhiapngacaa
