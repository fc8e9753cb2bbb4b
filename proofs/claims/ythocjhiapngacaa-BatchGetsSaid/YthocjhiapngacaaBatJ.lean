/-
  The law BatchGets, walked.
-/
import Derived.Test.YthocjhiapngacaaBatI
set_option linter.all false
namespace Go.Proofs.Ythocjhiapngacaa
open Go.RowKit

theorem RdR.first {w : World} {S : Nat → Prop} {A : Option Addr} {rs : List Rcd} (h : RdR w S A rs) (k : Nat) : RdR w S A (rs.take k) := by
  rcases h with rfl | ⟨b, o, h1, h2, h3, h4⟩
  · exact .inl (by simp)
  · exact .inr ⟨b, o, h1, h2, h3, fun i r hr => h4 i r (by
      have hi : i < k := by
        rcases Nat.lt_or_ge i k with hh | hh
        · exact hh
        · rw [List.getElem?_eq_none (by rw [List.length_take]; omega)] at hr; cases hr
      rw [List.getElem?_take_of_lt hi] at hr
      exact hr)⟩

set_option maxRecDepth 100000 in
set_option maxHeartbeats 1000000 in
theorem law_BatchGets_zo (l : List UInt8) (n : Int) (w : World) (hl : l.length ≤ 1000) (hn : n ≤ 9223372036854775807) (rs : List Rcd) (e : Int) (hrs : batP (l.length + 1) l = (rs, e)) (j : Nat) (hj : max n 0 = (j : Int)) (he : e = 0) (hjr : rs.length < j) :
    Calls Try.prog 7 #[.string (bs l), .int .i64 n] w fun x w' => x = .returned (.bool true) ∧ Nul w w' := by
  have hsp := batP_spec (l.length + 1) l
  rw [hrs] at hsp
  have hlen : rs.length ≤ 1000 := Nat.le_trans hsp.2.2.2 hl
  have HO := hid (And.intro hsp.1 (And.intro hsp.2.1 (show FewR rs from ⟨hlen, fun r hr => Nat.le_trans (hsp.2.2.1 r hr) hl⟩)))
  have HG := hid (fun w' => bat_Get l w' (by omega) rs e hrs)
  have HB := hid (fun w' => ref_BGet l w' (by omega) rs e hrs)
  have HM := hid (fun w' => bat_Many l w' (by omega) rs e hrs)
  have HF := hid (fun w' => bat_First l n w' hn (by omega) rs e hrs)
  have HH := hid (fun w' => r01_High n 0 w')
  rw [hj] at HF HH
  rw [show firstB rs (j : Int) = (⟨#[]⟩, false) from (by unfold firstB; rw [if_pos (by omega)])] at HF
  have hkm : ¬ (j : Int) ≤ (rs.length : Int) := by omega
  have tl := toList_nil
  have hE0 : (⟨#[]⟩ : ByteArray).toList.isEmpty = true := by rw [tl]; rfl
  have hsz : (bs l).size ≤ 1000 := by rw [bs_size]; exact hl
  have hnn : ((rs.length : Int) == (rs.length : Int)) = true := by simp
  generalize bs l = s at HG HB HM HF hsz
  subst he
  have Hjr := hid hjr
  clear hsp hrs hl hn hj
  go_enter Try.func7, Try.ntmps7
  go_wp2_with fail
  refine (HG.out _).mono ?_
  rintro y w1 ⟨hx, _, hf⟩
  obtain ⟨A1, c1, rfl, hR1⟩ := hx rfl
  have H1 := hid (And.intro hf hR1)
  clear hx hf hR1
  go_wp2_with fail
  refine (HB.out _).mono ?_
  rintro y w2 ⟨A2, c2, n2, rfl, hR2, hf, hc2, hm2, hn2⟩
  have H2 := hid (And.intro (H1.out.1.trans hf) (And.intro hR2 (And.intro hc2 (And.intro hm2 hn2))))
  have HR1 := hid (H1.out.2.nul hf)
  clear hf hR2 hc2 hm2 hn2
  go_wp2_with fail
  have HS := hid (ref_Same A1 A2 c1 c2 rs rs w2 HR1.out (by
    rcases H2.out.2.1 with h | ⟨b, o, h1, h2, h3, h4⟩
    · exact .inl h
    · exact .inr ⟨b, o, h1, True.intro, h3, h4⟩) HO.out.1 HO.out.1 (by omega) (by omega))
  rw [show sameR rs rs = true from decide_eq_true rfl] at HS
  refine HS.out.mono ?_
  rintro y w3 ⟨rfl, hf⟩
  have H3 := hid (H2.out.1.trans hf)
  have HR2 : Hid (RdR w3 (fun _ => True) A2 rs) := hid (by
    rcases H2.out.2.1.nul hf with h | ⟨b, o, h1, h2, h3, h4⟩
    · exact .inl h
    · exact .inr ⟨b, o, h1, True.intro, h3, h4⟩)
  clear hf HS
  go_wp2_with fail
  refine (HF.out _).mono ?_
  rintro y w4 ⟨rfl, hf⟩
  have H4 := hid (H3.out.trans hf)
  have HR4 := hid (HR2.out.nul hf)
  clear hf
  go_wp2_with fail
  refine (HH.out _).mono ?_
  rintro y w5 ⟨rfl, hw⟩
  subst hw
  go_wp2_with fail
  refine (awake25 _).mono ?_
  rintro y w6 ⟨rfl, hf⟩
  have H6 := hid (H4.out.trans hf)
  have HR6 := hid (HR4.out.nul hf)
  clear hf
  go_wp2_with fail
  refine (HM.out _).mono ?_
  rintro y w7 ⟨rfl, hf⟩
  have H7 := hid (H6.out.trans hf)
  clear hf
  go_wp2_with fail
  go_ret
  exact ⟨rfl, H7.out⟩
set_option maxRecDepth 100000 in
set_option maxHeartbeats 1000000 in
theorem law_BatchGets_zi (l : List UInt8) (n : Int) (w : World) (hl : l.length ≤ 1000) (hn : n ≤ 9223372036854775807) (rs : List Rcd) (e : Int) (hrs : batP (l.length + 1) l = (rs, e)) (j : Nat) (hj : max n 0 = (j : Int)) (he : e = 0) (hjr : j ≤ rs.length) :
    Calls Try.prog 7 #[.string (bs l), .int .i64 n] w fun x w' => x = .returned (.bool true) ∧ Nul w w' := by
  have hsp := batP_spec (l.length + 1) l
  rw [hrs] at hsp
  have hlen : rs.length ≤ 1000 := Nat.le_trans hsp.2.2.2 hl
  have HO := hid (And.intro hsp.1 (And.intro hsp.2.1 (show FewR rs from ⟨hlen, fun r hr => Nat.le_trans (hsp.2.2.1 r hr) hl⟩)))
  have HG := hid (fun w' => bat_Get l w' (by omega) rs e hrs)
  have HB := hid (fun w' => ref_BGet l w' (by omega) rs e hrs)
  have HM := hid (fun w' => bat_Many l w' (by omega) rs e hrs)
  have HF := hid (fun w' => bat_First l n w' hn (by omega) rs e hrs)
  have HH := hid (fun w' => r01_High n 0 w')
  rw [hj] at HF HH
  rw [show firstB rs (j : Int) = (batS (rs.take j), true) from (by unfold firstB; rw [if_neg (by omega), Int.toNat_natCast])] at HF
  have HP := hid (fun A c w' (h : RdR w' (fun _ => True) A rs) => ref_BPut A c (rs.take j) w' (h.first j) (HO.out.1.take j) (HO.out.2.2.take j) (goodB_take HO.out.2.1 j))
  have hjl : (rs.take j).length = j := by rw [List.length_take]; omega
  rw [hjl] at HP
  have htt := tl_beq (batS (rs.take j))
  generalize batS (rs.take j) = t at HF HP htt
  have hsz : (bs l).size ≤ 1000 := by rw [bs_size]; exact hl
  have hnn : ((rs.length : Int) == (rs.length : Int)) = true := by simp
  generalize bs l = s at HG HB HM HF hsz
  subst he
  have Hjr := hid hjr
  have hjc : (j : Int) ≤ (rs.length : Int) := by omega
  have hj0 : (0 : Int) ≤ (j : Int) := by omega
  clear hsp hrs hl hn hj hjl
  go_enter Try.func7, Try.ntmps7
  go_wp2_with fail
  refine (HG.out _).mono ?_
  rintro y w1 ⟨hx, _, hf⟩
  obtain ⟨A1, c1, rfl, hR1⟩ := hx rfl
  have H1 := hid (And.intro hf hR1)
  clear hx hf hR1
  go_wp2_with fail
  refine (HB.out _).mono ?_
  rintro y w2 ⟨A2, c2, n2, rfl, hR2, hf, hc2, hm2, hn2⟩
  have H2 := hid (And.intro (H1.out.1.trans hf) (And.intro hR2 (And.intro hc2 (And.intro hm2 hn2))))
  have HR1 := hid (H1.out.2.nul hf)
  clear hf hR2 hc2 hm2 hn2
  go_wp2_with fail
  have HS := hid (ref_Same A1 A2 c1 c2 rs rs w2 HR1.out (by
    rcases H2.out.2.1 with h | ⟨b, o, h1, h2, h3, h4⟩
    · exact .inl h
    · exact .inr ⟨b, o, h1, True.intro, h3, h4⟩) HO.out.1 HO.out.1 (by omega) (by omega))
  rw [show sameR rs rs = true from decide_eq_true rfl] at HS
  refine HS.out.mono ?_
  rintro y w3 ⟨rfl, hf⟩
  have H3 := hid (H2.out.1.trans hf)
  have HR2 : Hid (RdR w3 (fun _ => True) A2 rs) := hid (by
    rcases H2.out.2.1.nul hf with h | ⟨b, o, h1, h2, h3, h4⟩
    · exact .inl h
    · exact .inr ⟨b, o, h1, True.intro, h3, h4⟩)
  clear hf HS
  go_wp2_with fail
  refine (HF.out _).mono ?_
  rintro y w4 ⟨rfl, hf⟩
  have H4 := hid (H3.out.trans hf)
  have HR4 := hid (HR2.out.nul hf)
  clear hf
  go_wp2_with fail
  refine (HH.out _).mono ?_
  rintro y w5 ⟨rfl, hw⟩
  subst hw
  go_wp2_with fail
  refine (awake25 _).mono ?_
  rintro y w6 ⟨rfl, hf⟩
  have H6 := hid (H4.out.trans hf)
  have HR6 := hid (HR4.out.nul hf)
  clear hf
  have hcc := H2.out.2.2.1
  have hcm := H2.out.2.2.2.1
  unfold maxLen at hcm
  cases A2 with
  | none =>
    obtain ⟨h1, h2⟩ := H2.out.2.2.2.2 rfl
    have h0 : j = 0 := by have := Hjr.out; rw [h1] at this; simpa using this
    subst h0 h2
    go_wp2_with fail
    refine (HP.out none _ _ HR6.out).mono ?_
    rintro y w7 ⟨rfl, hf⟩
    have H7 := hid (H6.out.trans hf)
    clear hf
    go_wp2_with fail
    refine (HM.out _).mono ?_
    rintro y w8 ⟨rfl, hf⟩
    have H8 := hid (H7.out.trans hf)
    clear hf
    go_wp2_with fail
    go_ret
    exact ⟨rfl, H8.out⟩
  | some ad =>
    go_wp2_with fail
    refine (HP.out (some ad) _ _ HR6.out).mono ?_
    rintro y w7 ⟨rfl, hf⟩
    have H7 := hid (H6.out.trans hf)
    clear hf
    go_wp2_with fail
    refine (HM.out _).mono ?_
    rintro y w8 ⟨rfl, hf⟩
    have H8 := hid (H7.out.trans hf)
    clear hf
    go_wp2_with fail
    go_ret
    exact ⟨rfl, H8.out⟩
set_option maxRecDepth 100000 in
set_option maxHeartbeats 1000000 in
theorem law_BatchGets_eo (l : List UInt8) (n : Int) (w : World) (hl : l.length ≤ 1000) (hn : n ≤ 9223372036854775807) (rs : List Rcd) (e : Int) (hrs : batP (l.length + 1) l = (rs, e)) (j : Nat) (hj : max n 0 = (j : Int)) (he : e ≠ 0) (hjr : rs.length < j) :
    Calls Try.prog 7 #[.string (bs l), .int .i64 n] w fun x w' => x = .returned (.bool true) ∧ Nul w w' := by
  have hsp := batP_spec (l.length + 1) l
  rw [hrs] at hsp
  have hlen : rs.length ≤ 1000 := Nat.le_trans hsp.2.2.2 hl
  have HO := hid (And.intro hsp.1 (And.intro hsp.2.1 (show FewR rs from ⟨hlen, fun r hr => Nat.le_trans (hsp.2.2.1 r hr) hl⟩)))
  have HG := hid (fun w' => bat_Get l w' (by omega) rs e hrs)
  have HB := hid (fun w' => ref_BGet l w' (by omega) rs e hrs)
  have HM := hid (fun w' => bat_Many l w' (by omega) rs e hrs)
  have HF := hid (fun w' => bat_First l n w' hn (by omega) rs e hrs)
  have HH := hid (fun w' => r01_High n 0 w')
  rw [hj] at HF HH
  rw [show firstB rs (j : Int) = (⟨#[]⟩, false) from (by unfold firstB; rw [if_pos (by omega)])] at HF
  have hkm : ¬ (j : Int) ≤ (rs.length : Int) := by omega
  have tl := toList_nil
  have hE0 : (⟨#[]⟩ : ByteArray).toList.isEmpty = true := by rw [tl]; rfl
  have hsz : (bs l).size ≤ 1000 := by rw [bs_size]; exact hl
  have hnn : ((rs.length : Int) == (rs.length : Int)) = true := by simp
  generalize bs l = s at HG HB HM HF hsz
  have he2 : (e != 0) = true := by simpa using he
  have he3 : (e == 0) = false := by simpa using he
  have he4 : (e != e) = false := by simp
  have Hne := hid he
  have Hjr := hid hjr
  clear hsp hrs hl hn hj he
  go_enter Try.func7, Try.ntmps7
  go_wp2_with fail
  refine (HG.out _).mono ?_
  rintro y w1 ⟨_, hx, hf⟩
  have hx := hx Hne.out
  subst hx
  have H1 := hid hf
  clear hf
  go_wp2_with fail
  refine (HB.out _).mono ?_
  rintro y w2 ⟨A2, c2, n2, rfl, hR2, hf, hc2, hm2, hn2⟩
  have H2 := hid (And.intro (H1.out.trans hf) (And.intro hR2 (And.intro hc2 (And.intro hm2 hn2))))
  clear hf hR2 hc2 hm2 hn2
  go_wp2_with fail
  have HR2 : Hid (RdR w2 (fun _ => True) A2 rs) := hid (by
    rcases H2.out.2.1 with h | ⟨b, o, h1, h2, h3, h4⟩
    · exact .inl h
    · exact .inr ⟨b, o, h1, True.intro, h3, h4⟩)
  refine (HF.out _).mono ?_
  rintro y w3 ⟨rfl, hf⟩
  have H3 := hid (H2.out.1.trans hf)
  have HR3 := hid (HR2.out.nul hf)
  clear hf
  go_wp2_with fail
  refine (HH.out _).mono ?_
  rintro y w4 ⟨rfl, hw⟩
  subst hw
  go_wp2_with fail
  refine (awake25 _).mono ?_
  rintro y w5 ⟨rfl, hf⟩
  have H5 := hid (H3.out.trans hf)
  have HR5 := hid (HR3.out.nul hf)
  clear hf
  go_wp2_with fail
  refine (HM.out _).mono ?_
  rintro y w6 ⟨rfl, hf⟩
  have H6 := hid (H5.out.trans hf)
  clear hf
  go_wp2_with fail
  go_ret
  exact ⟨rfl, H6.out⟩
set_option maxRecDepth 100000 in
set_option maxHeartbeats 1000000 in
theorem law_BatchGets_ei (l : List UInt8) (n : Int) (w : World) (hl : l.length ≤ 1000) (hn : n ≤ 9223372036854775807) (rs : List Rcd) (e : Int) (hrs : batP (l.length + 1) l = (rs, e)) (j : Nat) (hj : max n 0 = (j : Int)) (he : e ≠ 0) (hjr : j ≤ rs.length) :
    Calls Try.prog 7 #[.string (bs l), .int .i64 n] w fun x w' => x = .returned (.bool true) ∧ Nul w w' := by
  have hsp := batP_spec (l.length + 1) l
  rw [hrs] at hsp
  have hlen : rs.length ≤ 1000 := Nat.le_trans hsp.2.2.2 hl
  have HO := hid (And.intro hsp.1 (And.intro hsp.2.1 (show FewR rs from ⟨hlen, fun r hr => Nat.le_trans (hsp.2.2.1 r hr) hl⟩)))
  have HG := hid (fun w' => bat_Get l w' (by omega) rs e hrs)
  have HB := hid (fun w' => ref_BGet l w' (by omega) rs e hrs)
  have HM := hid (fun w' => bat_Many l w' (by omega) rs e hrs)
  have HF := hid (fun w' => bat_First l n w' hn (by omega) rs e hrs)
  have HH := hid (fun w' => r01_High n 0 w')
  rw [hj] at HF HH
  rw [show firstB rs (j : Int) = (batS (rs.take j), true) from (by unfold firstB; rw [if_neg (by omega), Int.toNat_natCast])] at HF
  have HP := hid (fun A c w' (h : RdR w' (fun _ => True) A rs) => ref_BPut A c (rs.take j) w' (h.first j) (HO.out.1.take j) (HO.out.2.2.take j) (goodB_take HO.out.2.1 j))
  have hjl : (rs.take j).length = j := by rw [List.length_take]; omega
  rw [hjl] at HP
  have htt := tl_beq (batS (rs.take j))
  generalize batS (rs.take j) = t at HF HP htt
  have hsz : (bs l).size ≤ 1000 := by rw [bs_size]; exact hl
  have hnn : ((rs.length : Int) == (rs.length : Int)) = true := by simp
  generalize bs l = s at HG HB HM HF hsz
  have he2 : (e != 0) = true := by simpa using he
  have he3 : (e == 0) = false := by simpa using he
  have he4 : (e != e) = false := by simp
  have Hne := hid he
  have Hjr := hid hjr
  have hjc : (j : Int) ≤ (rs.length : Int) := by omega
  have hj0 : (0 : Int) ≤ (j : Int) := by omega
  clear hsp hrs hl hn hj he hjl
  go_enter Try.func7, Try.ntmps7
  go_wp2_with fail
  refine (HG.out _).mono ?_
  rintro y w1 ⟨_, hx, hf⟩
  have hx := hx Hne.out
  subst hx
  have H1 := hid hf
  clear hf
  go_wp2_with fail
  refine (HB.out _).mono ?_
  rintro y w2 ⟨A2, c2, n2, rfl, hR2, hf, hc2, hm2, hn2⟩
  have H2 := hid (And.intro (H1.out.trans hf) (And.intro hR2 (And.intro hc2 (And.intro hm2 hn2))))
  clear hf hR2 hc2 hm2 hn2
  go_wp2_with fail
  have HR2 : Hid (RdR w2 (fun _ => True) A2 rs) := hid (by
    rcases H2.out.2.1 with h | ⟨b, o, h1, h2, h3, h4⟩
    · exact .inl h
    · exact .inr ⟨b, o, h1, True.intro, h3, h4⟩)
  refine (HF.out _).mono ?_
  rintro y w3 ⟨rfl, hf⟩
  have H3 := hid (H2.out.1.trans hf)
  have HR3 := hid (HR2.out.nul hf)
  clear hf
  go_wp2_with fail
  refine (HH.out _).mono ?_
  rintro y w4 ⟨rfl, hw⟩
  subst hw
  go_wp2_with fail
  refine (awake25 _).mono ?_
  rintro y w5 ⟨rfl, hf⟩
  have H5 := hid (H3.out.trans hf)
  have HR5 := hid (HR3.out.nul hf)
  clear hf
  have hcc := H2.out.2.2.1
  have hcm := H2.out.2.2.2.1
  unfold maxLen at hcm
  cases A2 with
  | none =>
    obtain ⟨h1, h2⟩ := H2.out.2.2.2.2 rfl
    have h0 : j = 0 := by have := Hjr.out; rw [h1] at this; simpa using this
    subst h0 h2
    go_wp2_with fail
    refine (HP.out none _ _ HR5.out).mono ?_
    rintro y w6 ⟨rfl, hf⟩
    have H6 := hid (H5.out.trans hf)
    clear hf
    go_wp2_with fail
    refine (HM.out _).mono ?_
    rintro y w7 ⟨rfl, hf⟩
    have H7 := hid (H6.out.trans hf)
    clear hf
    go_wp2_with fail
    go_ret
    exact ⟨rfl, H7.out⟩
  | some ad =>
    go_wp2_with fail
    refine (HP.out (some ad) _ _ HR5.out).mono ?_
    rintro y w6 ⟨rfl, hf⟩
    have H6 := hid (H5.out.trans hf)
    clear hf
    go_wp2_with fail
    refine (HM.out _).mono ?_
    rintro y w7 ⟨rfl, hf⟩
    have H7 := hid (H6.out.trans hf)
    clear hf
    go_wp2_with fail
    go_ret
    exact ⟨rfl, H7.out⟩
set_option maxRecDepth 100000 in
set_option maxHeartbeats 1000000 in
theorem law_BatchGets (s : ByteArray) (n : Int) (w : World) (hs : s.size ≤ 9223372036854775807) (hn : n ≤ 9223372036854775807) :
    Calls Try.prog 7 #[.string s, .int .i64 n] w fun x w' => x = .returned (.bool true) ∧ Nul w w' := by
  by_cases hbig : 1000 < s.size
  · go_enter Try.func7, Try.ntmps7
    go_wp2_with fail
    refine (awake25 _).mono ?_
    rintro e w1 ⟨rfl, hf⟩
    have H1 := hid hf
    clear hf
    go_wp2_with fail
    go_ret
    exact ⟨rfl, H1.out⟩
  · obtain ⟨l, rfl⟩ := bs_of s
    rw [bs_size] at hbig
    obtain ⟨j, hj⟩ := Int.eq_ofNat_of_zero_le (Int.le_max_right n 0)
    by_cases he : (batP (l.length + 1) l).2 = 0
    · by_cases hjr : (batP (l.length + 1) l).1.length < j
      · exact law_BatchGets_zo l n w (by omega) hn _ _ rfl j hj he hjr
      · exact law_BatchGets_zi l n w (by omega) hn _ _ rfl j hj he (Nat.le_of_not_lt hjr)
    · by_cases hjr : (batP (l.length + 1) l).1.length < j
      · exact law_BatchGets_eo l n w (by omega) hn _ _ rfl j hj he hjr
      · exact law_BatchGets_ei l n w (by omega) hn _ _ rfl j hj he (Nat.le_of_not_lt hjr)
end Go.Proofs.Ythocjhiapngacaa
