/-
  Plain facts: the records that a text begins with.
-/
import Derived.Test.YthocjhiapngacaaBatA
set_option linter.all false
namespace Go.Proofs.Ythocjhiapngacaa
open Go.RowKit

/-- The records that bytes begin with, and what is wrong behind them. -/
def batP : Nat → List UInt8 → List Rcd × Int
  | 0, _ => ([], 0)
  | f + 1, r =>
    if r.length = 0 then ([], 0)
    else if r.length < 4 ∨ r.length < 4 + vnat (r.take 4) then ([], 5)
    else if (recGet (bs ((r.drop 4).take (vnat (r.take 4))))).2 ≠ 0 then ([], (recGet (bs ((r.drop 4).take (vnat (r.take 4))))).2)
    else ((recGet (bs ((r.drop 4).take (vnat (r.take 4))))).1 :: (batP f (r.drop (4 + vnat (r.take 4)))).1, (batP f (r.drop (4 + vnat (r.take 4)))).2)

theorem numL_vnat : ∀ (w : Nat) (l : List UInt8), l.length = w → numL (vnat l) w = l
  | 0, l, h => by rw [List.eq_nil_of_length_eq_zero h]; rfl
  | w + 1, [], h => by simp at h
  | w + 1, b :: l, h => by
    have hb : b.toNat < 256 := b.toNat_lt
    have ih := numL_vnat w l (by simpa using h)
    simp only [numL, vnat]
    rw [show (b.toNat + 256 * vnat l) % 256 = b.toNat by omega, show (b.toNat + 256 * vnat l) / 256 = vnat l by omega, ih, UInt8.ofNat_toNat]

/-- One step of the reading. -/
theorem batP_step {f : Nat} {r : List UInt8} {ms : List Rcd} {e : Int} (h : batP f r = (ms, e)) (hf : r.length < f) :
    (r = [] ∧ ms = [] ∧ e = 0) ∨ (r ≠ [] ∧ (r.length < 4 ∨ r.length < 4 + vnat (r.take 4)) ∧ ms = [] ∧ e = 5) ∨
    (∃ t x, r ≠ [] ∧ 4 ≤ r.length ∧ 4 + vnat (r.take 4) ≤ r.length ∧ t = (r.drop 4).take (vnat (r.take 4)) ∧ recGet (bs t) = (x, e) ∧ e ≠ 0 ∧ ms = []) ∨
    (∃ t x ms', r ≠ [] ∧ 4 ≤ r.length ∧ 4 + vnat (r.take 4) ≤ r.length ∧ t = (r.drop 4).take (vnat (r.take 4)) ∧ recGet (bs t) = (x, 0) ∧ ms = x :: ms' ∧ batP (f - 1) (r.drop (4 + vnat (r.take 4))) = (ms', e) ∧ (r.drop (4 + vnat (r.take 4))).length < f - 1) := by
  cases f with
  | zero => omega
  | succ f =>
    unfold batP at h
    by_cases h0 : r.length = 0
    · rw [if_pos h0] at h
      simp only [Prod.mk.injEq] at h
      exact .inl ⟨List.eq_nil_of_length_eq_zero h0, h.1.symm, h.2.symm⟩
    rw [if_neg h0] at h
    have hne : r ≠ [] := fun hh => h0 (by rw [hh]; rfl)
    by_cases h1 : r.length < 4 ∨ r.length < 4 + vnat (r.take 4)
    · rw [if_pos h1] at h
      simp only [Prod.mk.injEq] at h
      exact .inr (.inl ⟨hne, h1, h.1.symm, h.2.symm⟩)
    rw [if_neg h1] at h
    obtain ⟨t, ht⟩ : ∃ t, t = (r.drop 4).take (vnat (r.take 4)) := ⟨_, rfl⟩
    rw [← ht] at h
    by_cases h2 : (recGet (bs t)).2 = 0
    · rw [if_neg (by rw [h2]; simp)] at h
      simp only [Prod.mk.injEq] at h
      refine .inr (.inr (.inr ⟨t, _, _, hne, by omega, by omega, ht, Prod.ext rfl h2, h.1.symm, Prod.ext rfl h.2, ?_⟩))
      rw [List.length_drop]
      show _ < f
      omega
    · rw [if_pos h2] at h
      simp only [Prod.mk.injEq] at h
      exact .inr (.inr (.inl ⟨t, _, hne, by omega, by omega, ht, Prod.ext rfl h.2, by rw [← h.2]; exact h2, h.1.symm⟩))

/-- The text at the front, and what is behind it. -/
theorem front_eq {r : List UInt8} (h4 : 4 ≤ r.length) (hn : 4 + vnat (r.take 4) ≤ r.length) : numL ((r.drop 4).take (vnat (r.take 4))).length 4 ++ (r.drop 4).take (vnat (r.take 4)) = r.take (4 + vnat (r.take 4)) := by
  have hl : ((r.drop 4).take (vnat (r.take 4))).length = vnat (r.take 4) := by rw [List.length_take, List.length_drop]; omega
  rw [hl, numL_vnat 4 (r.take 4) (by rw [List.length_take]; omega)]
  have := List.take_add (l := r) (i := 4) (j := vnat (r.take 4))
  exact this.symm
/-- 'Text' at the front. -/
theorem textC_bs (r : List UInt8) : textC (bs r) 0 = if r.length < 4 ∨ r.length < 4 + vnat (r.take 4) then (bs [], bs [], 5) else (bs ((r.drop 4).take (vnat (r.take 4))), bs (r.drop (4 + vnat (r.take 4))), 0) := by
  unfold textC
  have e1 : numC (bs r) 0 4 = _ := numC_bs r 4 (by omega) (by omega)
  rw [e1]
  by_cases h : r.length < 4
  · rw [if_pos h, if_pos (.inl h)]
    exact takeC_err (bs []) 5 _ (by decide)
  · rw [if_neg h]
    simp only
    rw [takeC_bs]
    by_cases h2 : (r.drop 4).length < vnat (r.take 4)
    · rw [if_pos h2, if_pos (.inr (by rw [List.length_drop] at h2; omega))]
    · rw [if_neg h2, if_neg (by rw [List.length_drop] at h2; omega), List.drop_drop]

/-- What stands of a reading behind k records: the text of these, then what is left. -/
def BatAt (l : List UInt8) (rs : List Rcd) (e : Int) (k f : Nat) (rest : List UInt8) : Prop :=
  l = (batS (rs.take k)).data.toList ++ rest ∧ batP f rest = (rs.drop k, e) ∧ rest.length < f ∧ k ≤ rs.length
theorem BatAt.start {l : List UInt8} {rs : List Rcd} {e : Int} (h : batP (l.length + 1) l = (rs, e)) : BatAt l rs e 0 (l.length + 1) l :=
  ⟨by simp [batS, textsS, textsL], by simpa using h, by omega, by omega⟩
theorem BatAt.size {l : List UInt8} {rs : List Rcd} {e : Int} {k f : Nat} {rest : List UInt8} (h : BatAt l rs e k f rest) : (batS (rs.take k)).size + rest.length = l.length := by
  have := congrArg List.length h.1
  rw [List.length_append] at this
  have e1 : (batS (rs.take k)).data.toList.length = (batS (rs.take k)).size := rfl
  omega
theorem BatAt.front {l : List UInt8} {rs : List Rcd} {e : Int} {k f : Nat} {rest : List UInt8} (h : BatAt l rs e k f rest) : (bs l).extract 0 (batS (rs.take k)).size = batS (rs.take k) := by
  rw [bs_extract, List.drop_zero, Nat.sub_zero, h.1]
  have e1 : (batS (rs.take k)).data.toList.length = (batS (rs.take k)).size := rfl
  rw [List.take_left' e1]
  apply ByteArray.ext
  simp [bs]
/-- One step. -/
theorem BatAt.step {l : List UInt8} {rs : List Rcd} {e : Int} {k f : Nat} {rest : List UInt8} (h : BatAt l rs e k f rest) :
    (rest = [] ∧ k = rs.length ∧ e = 0) ∨ (rest ≠ [] ∧ (rest.length < 4 ∨ rest.length < 4 + vnat (rest.take 4)) ∧ k = rs.length ∧ e = 5) ∨
    (∃ t x, rest ≠ [] ∧ 4 ≤ rest.length ∧ 4 + vnat (rest.take 4) ≤ rest.length ∧ t = (rest.drop 4).take (vnat (rest.take 4)) ∧ recGet (bs t) = (x, e) ∧ e ≠ 0 ∧ k = rs.length) ∨
    (∃ t x, rest ≠ [] ∧ 4 ≤ rest.length ∧ 4 + vnat (rest.take 4) ≤ rest.length ∧ t = (rest.drop 4).take (vnat (rest.take 4)) ∧ recGet (bs t) = (x, 0) ∧ rs[k]? = some x ∧ k < rs.length ∧ BatAt l rs e (k + 1) (f - 1) (rest.drop (4 + vnat (rest.take 4)))) := by
  obtain ⟨h1, h2, h3, h4⟩ := h
  have hk : rs.drop k = [] → k = rs.length := fun hh => by
    have := congrArg List.length hh
    rw [List.length_drop] at this
    simp at this
    omega
  rcases batP_step h2 h3 with ⟨a, b, c⟩ | ⟨a, b, c, d⟩ | ⟨t, x, a1, a2, a3, a4, a5, a6, a7⟩ | ⟨t, x, ms', a1, a2, a3, a4, a5, a6, a7, a8⟩
  · exact .inl ⟨a, hk b, c⟩
  · exact .inr (.inl ⟨a, b, hk c, d⟩)
  · exact .inr (.inr (.inl ⟨t, x, a1, a2, a3, a4, a5, a6, hk a7⟩))
  · have hlt : k < rs.length := by
      have := congrArg List.length a6
      rw [List.length_drop] at this
      simp at this
      omega
    have hg : rs[k]? = some x := by
      have := congrArg (fun q => q[0]?) a6
      simpa using this
    have hgx : rs[k] = x := by
      rw [List.getElem?_eq_getElem hlt] at hg
      simpa using hg
    have hd : rs.drop (k + 1) = ms' := by
      have := congrArg List.tail a6
      rw [List.tail_drop] at this
      exact this
    refine .inr (.inr (.inr ⟨t, x, a1, a2, a3, a4, a5, hg, hlt, ?_, by rw [hd]; exact a7, a8, by omega⟩))
    have hs := (recGet_spec (bs t)).2.2.1
    rw [a5] at hs
    have hst : recS x = bs t := (hs rfl).2
    have hb := batS_take rs k hlt
    rw [hgx, hst, bs_size] at hb
    have hfr := front_eq a2 a3
    rw [← a4] at hfr
    have e2 : (batS (rs.take (k + 1))).data.toList = (batS (rs.take k)).data.toList ++ rest.take (4 + vnat (rest.take 4)) := by
      rw [← hb, ← hfr]
      simp [numS, bs]
    rw [e2, List.append_assoc, List.take_append_drop]
    exact h1

theorem val_size_le {r : Rcd} (hok : r.ok) (hg : recGood r = true) : r.val.size ≤ (recS r).size := by
  rcases recGood_shape hg with ⟨k, d, v, h | h, he⟩ | ⟨k, h | h⟩ | ⟨m, h, _⟩
  · subst h
    have e : recS ⟨1, k, d, v, zero32, 0⟩ = (numS 1 1 ++ ⟨k.toArray⟩) ++ entPut d v := rfl
    have hk : k.length = 32 := hok.1
    rw [e, ByteArray.size_append, ByteArray.size_append, numS_size, size_key32 hk]
    show v.size ≤ _
    unfold entChk at he
    cases d with
    | true =>
      have : v.size = 0 := by
        rcases Nat.eq_zero_or_pos v.size with h0 | h0
        · exact h0
        · by_cases hb : 65536 < v.size
          · rw [if_pos hb] at he; cases he
          · rw [if_neg hb, if_pos ⟨rfl, by omega⟩] at he; cases he
      omega
    | false =>
      have : (entPut false v).size = v.size + 1 := by
        show ((⟨#[1]⟩ : ByteArray) ++ v).size = _
        rw [ByteArray.size_append]
        show 1 + v.size = _
        omega
      omega
  · subst h
    have e : recS ⟨2, k, d, v, zero32, 0⟩ = (numS 2 1 ++ ⟨k.toArray⟩) ++ entPut d v := rfl
    have hk : k.length = 32 := hok.1
    rw [e, ByteArray.size_append, ByteArray.size_append, numS_size, size_key32 hk]
    show v.size ≤ _
    unfold entChk at he
    cases d with
    | true =>
      have : v.size = 0 := by
        rcases Nat.eq_zero_or_pos v.size with h0 | h0
        · exact h0
        · by_cases hb : 65536 < v.size
          · rw [if_pos hb] at he; cases he
          · rw [if_neg hb, if_pos ⟨rfl, by omega⟩] at he; cases he
      omega
    | false =>
      have : (entPut false v).size = v.size + 1 := by
        show ((⟨#[1]⟩ : ByteArray) ++ v).size = _
        rw [ByteArray.size_append]
        show 1 + v.size = _
        omega
      omega
  · subst h; show 0 ≤ _; omega
  · subst h; show 0 ≤ _; omega
  · subst h; show 0 ≤ _; omega

/-- What was read. -/
theorem batP_spec : ∀ (f : Nat) (r : List UInt8), OkR (batP f r).1 ∧ goodB (batP f r).1 = true ∧ (∀ x ∈ (batP f r).1, x.val.size ≤ r.length) ∧ (batP f r).1.length ≤ r.length
  | 0, r => ⟨fun _ h => (by cases h), rfl, fun _ h => (by cases h), Nat.zero_le _⟩
  | f + 1, r => by
    unfold batP
    split
    · exact ⟨fun _ h => (by cases h), rfl, fun _ h => (by cases h), Nat.zero_le _⟩
    · split
      · exact ⟨fun _ h => (by cases h), rfl, fun _ h => (by cases h), Nat.zero_le _⟩
      · split
        · exact ⟨fun _ h => (by cases h), rfl, fun _ h => (by cases h), Nat.zero_le _⟩
        · rename_i h0 h1 h2
          obtain ⟨i1, i2, i3, i4⟩ := batP_spec f (r.drop (4 + vnat (r.take 4)))
          obtain ⟨s1, s2, s3, s4⟩ := recGet_spec (bs ((r.drop 4).take (vnat (r.take 4))))
          obtain ⟨s5, s6⟩ := s3 (by simpa using h2)
          have hv := val_size_le s1 s5
          rw [s6, bs_size] at hv
          have hl : ((r.drop 4).take (vnat (r.take 4))).length ≤ r.length := by rw [List.length_take, List.length_drop]; omega
          have hd : (r.drop (4 + vnat (r.take 4))).length + 4 ≤ r.length := by rw [List.length_drop]; omega
          refine ⟨fun x hx => ?_, ?_, fun x hx => ?_, ?_⟩
          · rcases List.mem_cons.1 hx with rfl | hx
            · exact s1
            · exact i1 x hx
          · show ((_ :: _ : List Rcd).all recGood) = true
            rw [List.all_cons, s5]
            exact i2
          · rcases List.mem_cons.1 hx with rfl | hx
            · omega
            · have := i3 x hx
              omega
          · rw [List.length_cons]
            omega

/-- What was put is read again. -/
theorem batP_put : ∀ (rs : List Rcd) (f : Nat), OkR rs → goodB rs = true → (∀ r ∈ rs, (recS r).size < 4294967296) → (batS rs).size < f → batP f (batS rs).data.toList = (rs, 0)
  | [], f, _, _, _, hf => by
    cases f with
    | zero => omega
    | succ f => rfl
  | r :: rs, f, hok, hg, hb, hf => by
    have hr := hok r List.mem_cons_self
    have hgr : recGood r = true := List.all_eq_true.1 hg r List.mem_cons_self
    have hrb := hb r List.mem_cons_self
    have e1 : (batS (r :: rs)).data.toList = numL (recS r).size 4 ++ ((recS r).data.toList ++ (batS rs).data.toList) := by
      simp [batS, textsS, textsL]
    have el : (recS r).data.toList.length = (recS r).size := rfl
    have el2 : (batS rs).data.toList.length = (batS rs).size := rfl
    have el3 : (batS (r :: rs)).data.toList.length = (batS (r :: rs)).size := rfl
    have hl4 := numL_length (recS r).size 4
    have hsz : (batS (r :: rs)).size = 4 + ((recS r).size + (batS rs).size) := by
      rw [← el3, e1, List.length_append, List.length_append, hl4, el, el2]
    cases f with
    | zero => omega
    | succ f =>
      have ih := batP_put rs f (fun q hq => hok q (List.mem_cons_of_mem _ hq)) (List.all_eq_true.2 fun q hq => List.all_eq_true.1 hg q (List.mem_cons_of_mem _ hq)) (fun q hq => hb q (List.mem_cons_of_mem _ hq)) (by omega)
      have hv : vnat (((batS (r :: rs)).data.toList).take 4) = (recS r).size := by
        rw [e1, List.take_left' hl4, vnat_numL, Nat.mod_eq_of_lt hrb]
      unfold batP
      rw [if_neg (by omega), hv, if_neg (by omega)]
      have h1 : (((batS (r :: rs)).data.toList).drop 4).take (recS r).size = (recS r).data.toList := by
        rw [e1, List.drop_left' hl4, List.take_left' el]
      have h2 : ((batS (r :: rs)).data.toList).drop (4 + (recS r).size) = (batS rs).data.toList := by
        rw [e1, ← List.drop_drop, List.drop_left' hl4, List.drop_left' el]
      have h3 : bs (recS r).data.toList = recS r := by apply ByteArray.ext; simp [bs]
      rw [h1, h2, h3, recGet_put hr hgr, ih]
      rfl
end Go.Proofs.Ythocjhiapngacaa
