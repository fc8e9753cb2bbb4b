/-
  Walks: batches of records: light ones; may they be; their text.
-/
import Derived.Test.YthocjhiapngacaaRecS
import Derived.Test.YthocjhiapngacaaRecT
set_option linter.all false
namespace Go.Proofs.Ythocjhiapngacaa
open Go.RowKit

/-- No record is far too great, and they are not far too many. -/
def lightB (rs : List Rcd) : Bool := (rs.all fun r => decide (r.val.size ≤ 300)) && decide (rs.length ≤ 40)
/-- May all be? -/
def goodB (rs : List Rcd) : Bool := rs.all recGood
/-- The text of records that may be. -/
def batS (rs : List Rcd) : ByteArray := textsS (rs.map recS)

theorem recS_size {r : Rcd} (hok : r.ok) (hg : recGood r = true) : (recS r).size ≤ r.val.size + 40 := by
  rcases recGood_shape hg with ⟨k, d, v, h | h, _⟩ | ⟨k, h | h⟩ | ⟨m, h, _⟩
  · subst h
    have e : recS ⟨1, k, d, v, zero32, 0⟩ = (numS 1 1 ++ ⟨k.toArray⟩) ++ entPut d v := rfl
    have hk : k.length = 32 := hok.1
    have := entPut_size d v
    rw [e, ByteArray.size_append, ByteArray.size_append, numS_size, size_key32 hk]
    show _ ≤ v.size + 40
    omega
  · subst h
    have e : recS ⟨2, k, d, v, zero32, 0⟩ = (numS 2 1 ++ ⟨k.toArray⟩) ++ entPut d v := rfl
    have hk : k.length = 32 := hok.1
    have := entPut_size d v
    rw [e, ByteArray.size_append, ByteArray.size_append, numS_size, size_key32 hk]
    show _ ≤ v.size + 40
    omega
  · subst h
    have e : recS ⟨3, zero32, false, ⟨#[]⟩, k, 0⟩ = numS 3 1 ++ ⟨k.toArray⟩ := rfl
    have hk : k.length = 32 := hok.2
    rw [e, ByteArray.size_append, numS_size, size_key32 hk]
    omega
  · subst h
    have e : recS ⟨4, zero32, false, ⟨#[]⟩, k, 0⟩ = numS 4 1 ++ ⟨k.toArray⟩ := rfl
    have hk : k.length = 32 := hok.2
    rw [e, ByteArray.size_append, numS_size, size_key32 hk]
    omega
  · subst h
    have e : recS ⟨5, zero32, false, ⟨#[]⟩, zero32, (m : Int)⟩ = numS 5 1 ++ numS m 4 := rfl
    rw [e, ByteArray.size_append, numS_size, numS_size]
    omega
theorem textsL_le (m : Nat) : ∀ (ss : List ByteArray), (∀ s ∈ ss, s.size ≤ m) → (textsL ss).length ≤ ss.length * (m + 4)
  | [], _ => by simp [textsL]
  | s :: ss, h => by
    have h1 := textsL_le m ss fun x hx => h x (List.mem_cons_of_mem _ hx)
    have h2 := h s List.mem_cons_self
    have e : textsL (s :: ss) = (numL s.size 4 ++ s.data.toList) ++ textsL ss := rfl
    have hd : s.data.toList.length = s.size := rfl
    rw [e, List.length_append, List.length_append, numL_length, hd, List.length_cons, Nat.add_mul, Nat.one_mul]
    omega
theorem textsS_size (ss : List ByteArray) : (textsS ss).size = (textsL ss).length := by simp [textsS, ByteArray.size]
/-- Records whose text is no great one. -/
def FewR (rs : List Rcd) : Prop := rs.length ≤ 1000 ∧ ∀ r ∈ rs, r.val.size ≤ 1000
theorem FewR.take {rs : List Rcd} (h : FewR rs) (k : Nat) : FewR (rs.take k) := ⟨Nat.le_trans (List.length_take_le' _ _) h.1, fun r hr => h.2 r (List.mem_of_mem_take hr)⟩
theorem batS_size {rs : List Rcd} (hok : OkR rs) (hf : FewR rs) (hg : goodB rs = true) : (batS rs).size ≤ 2000000 := by
  unfold batS
  rw [textsS_size]
  have := textsL_le 1040 (rs.map recS) (fun s hs => by
    obtain ⟨r, hr, rfl⟩ := List.mem_map.1 hs
    have h1 := recS_size (hok r hr) (List.all_eq_true.1 hg r hr)
    have h2 := hf.2 r hr
    omega)
  rw [List.length_map] at this
  have := hf.1
  omega
theorem goodB_take {rs : List Rcd} (h : goodB rs = true) (k : Nat) : goodB (rs.take k) = true := List.all_eq_true.2 fun r hr => List.all_eq_true.1 h r (List.mem_of_mem_take hr)
theorem goodB_snoc (rs : List Rcd) (k : Nat) (h : k < rs.length) : goodB (rs.take (k + 1)) = (goodB (rs.take k) && recGood rs[k]) := by
  unfold goodB
  rw [List.take_succ_eq_append_getElem h, List.all_append]
  simp
theorem goodB_not {rs : List Rcd} {k : Nat} (h : k < rs.length) (hb : recGood rs[k] = false) : goodB rs = false := by
  cases hg : goodB rs with
  | false => rfl
  | true =>
    have := List.all_eq_true.1 hg rs[k] (List.getElem_mem h)
    rw [hb] at this
    cases this
theorem batS_take (rs : List Rcd) (k : Nat) (h : k < rs.length) : batS (rs.take k) ++ (numS (recS rs[k]).size 4 ++ recS rs[k]) = batS (rs.take (k + 1)) := by
  unfold batS
  have hl : k < (rs.map recS).length := by rw [List.length_map]; exact h
  have := textsL_take (rs.map recS) k hl
  rw [List.getElem_map] at this
  rw [List.map_take, List.map_take]
  apply ByteArray.ext
  simp [textsS, this, numS]
theorem batS_append (a b : List Rcd) : batS (a ++ b) = batS a ++ batS b := by
  unfold batS textsS textsL
  rw [List.map_append, List.flatMap_append]
  apply ByteArray.ext
  simp
theorem batS_nil : batS [] = ⟨#[]⟩ := rfl

/-- A slice of one's own, read. -/
theorem own_rd {w : World} {B n : Nat} {e : TypeId} {v : Value} {xs : List Value} (h : w.ownsRow B e 1 v n xs) : ∃ A c, v = .slice A n c ∧ Rd w w.heap.size A xs := by
  have hl := h.1
  rcases h.2 with ⟨rfl, hn⟩ | ⟨g, cap, cur, rfl, hB, hg, hc, hm, hs, ht⟩
  · subst hn
    exact ⟨none, 0, rfl, .inl (List.eq_nil_of_length_eq_zero (by omega))⟩
  · refine ⟨_, _, rfl, .inr ⟨g, 0, rfl, (Array.getElem?_eq_some_iff.1 hg).1, fun i u hu => ?_⟩⟩
    rw [← ht] at hu
    have hi : i < n * 1 := by
      have := (List.getElem?_eq_some_iff.1 hu).1
      rw [List.length_take] at this
      omega
    rw [List.getElem?_take_of_lt hi] at hu
    rw [cell_of_row w g (0 + i) cur e (0, 0) hg, Nat.zero_add]
    simpa using hu

set_option maxHeartbeats 400000 in
theorem r01_High (a b : Int) (w : World) : Calls Try.prog 31 #[.int .i64 a, .int .i64 b] w fun e w' => e = .returned (.int .i64 (max a b)) ∧ w = w' := by
  by_cases h : b < a
  · go_enter Try.func31, Try.ntmps31
    go_wp2
    go_ret
    exact ⟨by rw [Int.max_eq_left (by omega)]; rfl, rfl⟩
  · go_enter Try.func31, Try.ntmps31
    go_wp2
    go_ret
    exact ⟨by rw [Int.max_eq_right (by omega)]; rfl, rfl⟩

set_option maxHeartbeats 400000 in
theorem r01_Text (s : ByteArray) (w : World) (hs : s.size ≤ 140737488351232) : Calls Try.prog 54 #[.string s] w fun e w' => e = .returned (.string (numS s.size 4 ++ s)) ∧ Nul w w' := by
  have hz : (numS s.size 4).size ≤ 4 := by rw [numS_size]; omega
  go_enter Try.func54, Try.ntmps54
  go_wp2_with fail
  refine (r01_Num s.size 4 w (by omega) (by omega)).mono ?_
  rintro e w1 ⟨rfl, hf1⟩
  go_wp2_with fail
  go_ret
  exact ⟨rfl, hf1⟩

set_option maxRecDepth 100000 in
set_option maxHeartbeats 1000000 in
theorem bat_Light (A : Option Addr) (cap : Nat) (rs : List Rcd) (w : World) (hR : RdR w (fun _ => True) A rs) (hok : OkR rs) (hv : ∀ r ∈ rs, r.val.size ≤ 9223372036854775807) (hn : rs.length ≤ 9223372036854775807) :
    Calls Try.prog 22 #[.slice A rs.length cap] w fun e w' => e = .returned (.bool (lightB rs)) ∧ Nul w w' := by
  go_enter Try.func22, Try.ntmps22
  go_wp2_with fail
  go_loopg [3] rs.length (fun g i wr => ∃ k : Nat, k + g = rs.length ∧ i = .int .i64 k ∧ (∀ r ∈ rs.take k, r.val.size ≤ 300) ∧ w = wr)
  case atStart => exact ⟨0, by omega, rfl, fun r hr => by simp at hr, rfl⟩
  case round =>
    obtain ⟨k, hk, rfl, hall, rfl⟩ := hrel
    have HH := hid (And.intro hk hall)
    by_cases hlt : k < rs.length
    · obtain ⟨b, off, rfl, _, hbl, hc⟩ := hR.at_ hlt
      have hr := hc k _ (List.getElem?_eq_getElem hlt)
      have hrv := hr 34 _ (recL_val (hok.get hlt))
      have hsz := hv _ (List.getElem_mem hlt)
      have Hsn : Hid (rs.take (k + 1) = rs.take k ++ [rs[k]]) := hid (List.take_succ_eq_append_getElem hlt)
      have Hin : Hid (rs[k] ∈ rs) := hid (List.getElem_mem hlt)
      obtain ⟨r, hrr⟩ : ∃ r, rs[k] = r := ⟨_, rfl⟩
      rw [hrr] at hrv hsz Hsn Hin
      have c34 : w.cell? ⟨b, off + k * 68 + 33 + 1, none⟩ = some (.string r.val) := hrv
      clear hr hrv hc hk hall hrr
      by_cases hbig : 300 < r.val.size
      · have HF : Hid (lightB rs = false) := hid (by
          unfold lightB
          have : (rs.all fun r => decide (r.val.size ≤ 300)) = false := by
            cases hg : (rs.all fun r => decide (r.val.size ≤ 300)) with
            | false => rfl
            | true =>
              have := List.all_eq_true.1 hg r Hin.out
              simp at this
              omega
          rw [this]
          rfl)
        go_wp2_with fail
        go_ret
        exact ⟨by rw [HF.out]; rfl, Frm.refl _ _⟩
      · have Hb := hid hbig
        go_wp2_with fail
        go_roundg (gk - 1)
        case rel => exact ⟨k + 1, by have := HH.out.1; omega, by go_num, fun q hq => by
          rw [Hsn.out] at hq
          rcases List.mem_append.1 hq with h | h
          · exact HH.out.2 q h
          · simp at h
            subst h
            have := Hb.out
            omega, rfl⟩
        case measure => have := HH.out.1; omega
    · have hq : k = rs.length := by omega
      have HA : Hid ((rs.all fun r => decide (r.val.size ≤ 300)) = true) := hid (List.all_eq_true.2 fun r hr => decide_eq_true (hall r (by rw [hq, List.take_length]; exact hr)))
      clear hall
      by_cases h40 : rs.length ≤ 40
      · have HF : Hid (lightB rs = true) := hid (by unfold lightB; rw [HA.out, decide_eq_true h40]; rfl)
        have hd : decide ((rs.length : Int) ≤ 40) = true := decide_eq_true (by omega)
        go_wp2_with fail
        go_ret
        exact ⟨by rw [HF.out]; rfl, Frm.refl _ _⟩
      · have HF : Hid (lightB rs = false) := hid (by unfold lightB; rw [HA.out, decide_eq_false h40]; rfl)
        have hd : decide ((rs.length : Int) ≤ 40) = false := decide_eq_false (by omega)
        go_wp2_with fail
        go_ret
        exact ⟨by rw [HF.out]; rfl, Frm.refl _ _⟩

set_option maxRecDepth 100000 in
set_option maxHeartbeats 1000000 in
theorem ref_BMay (A : Option Addr) (cap : Nat) (rs : List Rcd) (w : World) (hR : RdR w (fun _ => True) A rs) (hok : OkR rs) (hv : ∀ r ∈ rs, r.val.size ≤ 9223372036854775807) (hn : rs.length ≤ 9223372036854775800) :
    Calls Try.prog 25 #[.slice A rs.length cap] w fun e w' => e = .returned (.bool (goodB rs)) ∧ Nul w w' := by
  go_enter Try.func25, Try.ntmps25
  go_wp2_with fail
  go_loopg [3] rs.length (fun g i wr => ∃ k : Nat, k + g = rs.length ∧ i = .int .i64 k ∧ goodB (rs.take k) = true ∧ Nul w wr)
  case atStart => exact ⟨0, by omega, rfl, rfl, Frm.refl _ _⟩
  case round =>
    obtain ⟨k, hk, rfl, hall, hf⟩ := hrel
    have HH := hid (And.intro hk (And.intro hall hf))
    by_cases hlt : k < rs.length
    · obtain ⟨b, off, rfl, _, hbl, hc⟩ := hR.at_ hlt
      have Hsn := hid (goodB_snoc rs k hlt)
      have Hnot : Hid (recGood rs[k] = false → goodB rs = false) := hid (fun h => goodB_not hlt h)
      have hr := Nul.rangeAt hf (hc k _ (List.getElem?_eq_getElem hlt))
      have hrk := hok.get hlt
      have HM := hid (fun w => ref_May rs[k] w hrk (hv _ (List.getElem_mem hlt)))
      generalize rs[k] = r at hr hrk HM Hsn Hnot
      have Hr := hid hr
      have Hri : Hid ((Try.prog.info? 28).map (·.size) = some (recL r).length) := hid (by rw [recL_length hrk, size_rec])
      clear hr hrk hc hk hall hf
      go_wp2_with (with_reducible refine wpList_load_mid rfl 28 (.tmp 12) rfl b (off + k * 68) rfl (recL r) _ Hr.out rec_fields rfl Hri.out ?_)
      refine (HM.out _).mono ?_
      rintro e w1 ⟨rfl, hf1⟩
      have H1 := hid (HH.out.2.2.nul hf1)
      clear hf1
      cases hg : recGood r
      · have HF := hid (Hnot.out hg)
        go_wp2_with fail
        go_ret
        exact ⟨by rw [HF.out]; rfl, H1.out⟩
      · have HF := hid hg
        clear hg
        go_wp2_with fail
        go_roundg (gk - 1)
        case rel => exact ⟨k + 1, by have := HH.out.1; omega, by go_num, by rw [Hsn.out, HH.out.2.1, HF.out]; rfl, H1.out⟩
        case measure => have := HH.out.1; omega
    · have hq : k = rs.length := by omega
      have HF : Hid (goodB rs = true) := hid (by rw [hq, List.take_length] at hall; exact hall)
      clear hall hf
      go_wp2_with fail
      go_ret
      exact ⟨by rw [HF.out]; rfl, HH.out.2.2⟩

set_option maxRecDepth 100000 in
set_option maxHeartbeats 1000000 in
theorem ref_BPut (A : Option Addr) (cap : Nat) (rs : List Rcd) (w : World) (hR : RdR w (fun _ => True) A rs) (hok : OkR rs) (hf : FewR rs) (hg : goodB rs = true) :
    Calls Try.prog 28 #[.slice A rs.length cap] w fun e w' => e = .returned (.string (batS rs)) ∧ Nul w w' := by
  have hn := hf.1
  have HF := hid (And.intro hf hg)
  clear hf hg
  go_enter Try.func28, Try.ntmps28
  go_wp2_with fail
  go_loopg [3, 4] rs.length (fun g s i wr => ∃ k : Nat, k + g = rs.length ∧ i = .int .i64 k ∧ s = .string (batS (rs.take k)) ∧ Nul w wr)
  case atStart => exact ⟨0, by omega, rfl, rfl, Frm.refl _ _⟩
  case round =>
    obtain ⟨k, hk, rfl, rfl, hf⟩ := hrel
    have HH := hid (And.intro hk hf)
    by_cases hlt : k < rs.length
    · obtain ⟨b, off, rfl, _, hbl, hc⟩ := hR.at_ hlt
      have Hsn := hid (batS_take rs k hlt)
      have hr := Nul.rangeAt hf (hc k _ (List.getElem?_eq_getElem hlt))
      have hrk := hok.get hlt
      have hgk : recGood rs[k] = true := List.all_eq_true.1 HF.out.2 _ (List.getElem_mem hlt)
      have hvk := HF.out.1.2 _ (List.getElem_mem hlt)
      have hzk := recS_size hrk hgk
      have HP := hid (fun w => ref_Put rs[k] w hrk (by omega) hgk)
      have hzt := batS_size (hok.take k) (HF.out.1.take k) (goodB_take HF.out.2 k)
      generalize rs[k] = r at hr hrk HP Hsn hgk hvk hzk
      have hadd : ∀ w, (Op.stringOp .add (batS (rs.take k)) (numS (recS r).size 4 ++ recS r)).run Try.prog w = .ok (.string (batS (rs.take k) ++ (numS (recS r).size 4 ++ recS r))) w := fun w => run_string_add_sum _ _ _ (by
        rw [ByteArray.size_append, numS_size]
        omega)
      have HT := hid (fun w => r01_Text (recS r) w (by omega))
      rw [Hsn.out] at hadd
      have Hr := hid hr
      have Hri : Hid ((Try.prog.info? 28).map (·.size) = some (recL r).length) := hid (by rw [recL_length hrk, size_rec])
      clear Hsn
      generalize hs1 : batS (rs.take (k + 1)) = s1 at hadd
      generalize batS (rs.take k) = s0 at hadd hzt ⊢
      have HS1 := hid hs1
      clear hs1 hr hrk hc hk hf hgk hvk hzk hzt
      go_wp2_with (with_reducible refine wpList_load_mid rfl 28 (.tmp 14) rfl b (off + k * 68) rfl (recL r) _ Hr.out rec_fields rfl Hri.out ?_)
      refine (HP.out _).mono ?_
      rintro e w1 ⟨rfl, hf1⟩
      have H1 := hid (HH.out.2.nul hf1)
      clear hf1
      go_wp2_with fail
      refine (HT.out _).mono ?_
      rintro e w2 ⟨rfl, hf2⟩
      have H2 := hid (H1.out.nul hf2)
      clear hf2
      go_wp2_with fail
      go_roundg (gk - 1)
      case rel => exact ⟨k + 1, by have := HH.out.1; omega, by go_num, by rw [HS1.out], H2.out⟩
      case measure => have := HH.out.1; omega
    · have hq : k = rs.length := by omega
      have HE : Hid (batS (rs.take k) = batS rs) := hid (by rw [hq, List.take_length])
      clear hf
      go_wp2_with fail
      go_ret
      exact ⟨by rw [HE.out]; rfl, HH.out.2⟩
end Go.Proofs.Ythocjhiapngacaa
