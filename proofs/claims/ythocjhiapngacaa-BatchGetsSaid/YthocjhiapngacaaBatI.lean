/-
  The law BatchPuts, walked.
-/
import Derived.Test.YthocjhiapngacaaBatH
set_option linter.all false
namespace Go.Proofs.Ythocjhiapngacaa
open Go.RowKit

theorem tl_beq (a : ByteArray) : (a.toList == a.toList) = true := beq_self_eq_true _
theorem lightB_few {rs : List Rcd} (h : lightB rs = true) : FewR rs ∧ rs.length ≤ 40 ∧ ∀ r ∈ rs, r.val.size ≤ 300 := by
  unfold lightB at h
  rw [Bool.and_eq_true] at h
  obtain ⟨h1, h2⟩ := h
  have h3 := of_decide_eq_true h2
  have h4 : ∀ r ∈ rs, r.val.size ≤ 300 := fun r hr => of_decide_eq_true (List.all_eq_true.1 h1 r hr)
  exact ⟨⟨by omega, fun r hr => by have := h4 r hr; omega⟩, h3, h4⟩
theorem FewR.append {a b : List Rcd} (ha : a.length ≤ 40) (hb : b.length ≤ 40) (fa : FewR a) (fb : FewR b) : FewR (a ++ b) :=
  ⟨by rw [List.length_append]; omega, fun r hr => by
    rcases List.mem_append.1 hr with h | h
    · exact fa.2 r h
    · exact fb.2 r h⟩
theorem goodB_append {a b : List Rcd} (ha : goodB a = true) (hb : goodB b = true) : goodB (a ++ b) = true := by
  unfold goodB at *
  rw [List.all_append, ha, hb]
  rfl
theorem batP_put' {rs : List Rcd} (hok : OkR rs) (hf : FewR rs) (hg : goodB rs = true) : batP ((batS rs).data.toList.length + 1) (batS rs).data.toList = (rs, 0) :=
  batP_put rs _ hok hg (fun r hr => by
    have h1 := recS_size (hok r hr) (List.all_eq_true.1 hg r hr)
    have h2 := hf.2 r hr
    omega) (by show _ < (batS rs).size + 1; omega)
theorem batS_light {rs : List Rcd} (hok : OkR rs) (h : lightB rs = true) (hg : goodB rs = true) : (batS rs).size ≤ 20000 := by
  obtain ⟨_, h2, h3⟩ := lightB_few h
  unfold batS
  rw [textsS_size]
  have := textsL_le 340 (rs.map recS) (fun s hs => by
    obtain ⟨r, hr, rfl⟩ := List.mem_map.1 hs
    have h1 := recS_size (hok r hr) (List.all_eq_true.1 hg r hr)
    have h2 := h3 r hr
    omega)
  rw [List.length_map] at this
  omega

set_option maxRecDepth 100000 in
set_option maxHeartbeats 4000000 in
theorem law_BatchPuts (A B : Option Addr) (ca cb : Nat) (l m : List Rcd) (w : World) (hA : RdR w (fun _ => True) A l) (hB : RdR w (fun _ => True) B m) (hal : OkR l) (hbm : OkR m) (hva : ∀ r ∈ l, r.val.size ≤ 9223372036854775807) (hvb : ∀ r ∈ m, r.val.size ≤ 9223372036854775807)
    (hla : l.length ≤ 9223372036854775807) (hlb : m.length ≤ 9223372036854775807) (hnA : A = none → l = [] ∧ ca = 0) (hnB : B = none → m = [] ∧ cb = 0) :
    Calls Try.prog 6 #[.slice A l.length ca, .slice B m.length cb] w fun e w' => e = .returned (.bool true) ∧ Nul w w' := by
  have HLA := hid (fun w' (hf : Nul w w') => bat_Light A ca l w' (hA.nul hf) hal hva hla)
  have HLB := hid (fun w' (hf : Nul w w') => bat_Light B cb m w' (hB.nul hf) hbm hvb hlb)
  cases hga : lightB l with
  | false =>
    rw [hga] at HLA
    go_enter Try.func6, Try.ntmps6
    go_wp2_with fail
    refine (HLA.out w (Frm.refl _ _)).mono ?_
    rintro e w1 ⟨rfl, hf⟩
    have H1 := hid hf
    clear hf
    go_wp2_with fail
    refine (awake25 _).mono ?_
    rintro e w2 ⟨rfl, hf⟩
    have H2 := hid (H1.out.trans hf)
    clear hf
    go_wp2_with fail
    go_ret
    exact ⟨rfl, H2.out⟩
  | true =>
    rw [hga] at HLA
    cases hgb : lightB m with
    | false =>
      rw [hgb] at HLB
      go_enter Try.func6, Try.ntmps6
      go_wp2_with fail
      refine (HLA.out w (Frm.refl _ _)).mono ?_
      rintro e w1 ⟨rfl, hf⟩
      have H1 := hid hf
      clear hf
      go_wp2_with fail
      refine (HLB.out w1 H1.out).mono ?_
      rintro e w2 ⟨rfl, hf⟩
      have H2 := hid (H1.out.trans hf)
      clear hf
      go_wp2_with fail
      refine (awake25 _).mono ?_
      rintro e w3 ⟨rfl, hf⟩
      have H3 := hid (H2.out.trans hf)
      clear hf
      go_wp2_with fail
      go_ret
      exact ⟨rfl, H3.out⟩
    | true =>
      rw [hgb] at HLB
      obtain ⟨fa, la40, _⟩ := lightB_few hga
      obtain ⟨fb, lb40, _⟩ := lightB_few hgb
      have HPA := hid (fun w' (hf : Nul w w') => bat_Put A ca l w' (hA.nul hf) hal fa)
      have HPB := hid (fun w' (hf : Nul w w') => bat_Put B cb m w' (hB.nul hf) hbm fb)
      have HZA := hid (fun w' (hf : Nul w w') => bat_Size A ca l w' (hA.nul hf) hal fa)
      have HMA := hid (fun w' (hf : Nul w w') => ref_BMay A ca l w' (hA.nul hf) hal hva (by omega))
      have HMB := hid (fun w' (hf : Nul w w') => ref_BMay B cb m w' (hB.nul hf) hbm hvb (by omega))
      have HRA := hid (fun (hg : goodB l = true) w' (hf : Nul w w') => ref_BPut A ca l w' (hA.nul hf) hal fa hg)
      have HSA := hid (fun A2 c2 w' (hf : Nul w w') (hR : RdR w' (fun _ => True) A2 l) => ref_Same A2 A c2 ca l l w' hR (hA.nul hf) hal hal (by omega) (by omega))
      have HGA := hid (fun (hg : goodB l = true) w' => bat_Get (batS l).data.toList w' (by have := batS_light hal hga hg; show (batS l).size ≤ _; omega) l 0 (batP_put' hal fa hg))
      rw [bs_back] at HGA
      have HA := hid (And.intro hA (And.intro hB (And.intro hal (And.intro hbm (And.intro hnA (And.intro hnB (And.intro fa (And.intro fb (And.intro la40 lb40)))))))))
      have HSL := hid (fun (hg : goodB l = true) => batS_light hal hga hg)
      have HSM := hid (fun (hg : goodB m = true) => batS_light hbm hgb hg)
      clear hA hB hal hbm hva hvb hla hlb hnA hnB fa fb hga hgb la40 lb40
      cases hg : goodB l with
      | false =>
        rw [batO_no hg, batE_no hg] at HPA
        rw [batO_no hg] at HZA
        rw [hg] at HMA
        have HZ2 : Hid (∀ w' (hf : Nul w w'), Calls Try.prog 26 #[.slice A l.length ca] w' fun e w'' => e = .returned (.int .i64 0) ∧ Nul w' w'') := hid HZA.out
        have tl := toList_nil
        have hE0 : (⟨#[]⟩ : ByteArray).toList.isEmpty = true := by rw [tl]; rfl
        clear hg HRA HGA HSL HSM HSA
        go_enter Try.func6, Try.ntmps6
        go_wp2_with fail
        refine (HLA.out w (Frm.refl _ _)).mono ?_
        rintro e w1 ⟨rfl, hf⟩
        have H1 := hid hf
        clear hf
        go_wp2_with fail
        refine (HLB.out w1 H1.out).mono ?_
        rintro e w2 ⟨rfl, hf⟩
        have H2 := hid (H1.out.trans hf)
        clear hf
        go_wp2_with fail
        refine (HPA.out w2 H2.out).mono ?_
        rintro e w3 ⟨rfl, hf⟩
        have H3 := hid (H2.out.trans hf)
        clear hf
        go_wp2_with fail
        refine (HMA.out w3 H3.out).mono ?_
        rintro e w4 ⟨rfl, hf⟩
        have H4 := hid (H3.out.trans hf)
        clear hf
        go_wp2_with fail
        refine (awake25 _).mono ?_
        rintro e w5 ⟨rfl, hf⟩
        have H5 := hid (H4.out.trans hf)
        clear hf
        go_wp2_with fail
        refine (HZ2.out w5 H5.out).mono ?_
        rintro e w6 ⟨rfl, hf⟩
        have H6 := hid (H5.out.trans hf)
        clear hf
        go_wp2_with fail
        go_ret
        exact ⟨rfl, H6.out⟩
      | true =>
        rw [batO_yes hg, batE_yes hg] at HPA
        rw [batO_yes hg] at HZA
        rw [hg] at HMA
        have HRA2 := hid (HRA.out hg)
        have HGA2 := hid (HGA.out hg)
        have hsl := HSL.out hg
        have Hg := hid hg
        have hss := tl_beq (batS l)
        have Hbl : Hid (∀ m', batS l ++ batS m' = batS (l ++ m')) := hid (fun m' => (batS_append l m').symm)
        clear hg HRA HGA HSL
        generalize batS l = s at HPA HZA HRA2 HGA2 hsl hss Hbl
        have hsz : ((s.size : Int) != (s.size : Int)) = false := by simp
        cases hgm : goodB m with
        | false =>
          rw [hgm] at HMB
          clear hgm HSM
          go_enter Try.func6, Try.ntmps6
          go_wp2_with fail
          refine (HLA.out w (Frm.refl _ _)).mono ?_
          rintro e w1 ⟨rfl, hf⟩
          have H1 := hid hf
          clear hf
          go_wp2_with fail
          refine (HLB.out w1 H1.out).mono ?_
          rintro e w2 ⟨rfl, hf⟩
          have H2 := hid (H1.out.trans hf)
          clear hf
          go_wp2_with fail
          refine (HPA.out w2 H2.out).mono ?_
          rintro e w3 ⟨rfl, hf⟩
          have H3 := hid (H2.out.trans hf)
          clear hf
          go_wp2_with fail
          refine (HMA.out w3 H3.out).mono ?_
          rintro e w4 ⟨rfl, hf⟩
          have H4 := hid (H3.out.trans hf)
          clear hf
          go_wp2_with fail
          refine (HGA2.out w4).mono ?_
          rintro e w5 ⟨hx, _, hf⟩
          obtain ⟨A5, c5, rfl, hR5⟩ := hx rfl
          have H5 := hid (And.intro (H4.out.trans hf) hR5)
          clear hx hf hR5
          go_wp2_with fail
          refine (HRA2.out w5 H5.out.1).mono ?_
          rintro e w6 ⟨rfl, hf⟩
          have H6 := hid (And.intro (H5.out.1.trans hf) (H5.out.2.nul hf))
          clear hf
          go_wp2_with fail
          have HS := hid (HSA.out A5 c5 w6 H6.out.1 H6.out.2)
          rw [show sameR l l = true from decide_eq_true rfl] at HS
          refine HS.out.mono ?_
          rintro e w7 ⟨rfl, hf⟩
          have H7 := hid (H6.out.1.trans hf)
          clear hf HS
          go_wp2_with fail
          refine (HZA.out w7 H7.out).mono ?_
          rintro e w8 ⟨rfl, hf⟩
          have H8 := hid (H7.out.trans hf)
          clear hf
          go_wp2_with fail
          refine (HMB.out w8 H8.out).mono ?_
          rintro e w9 ⟨rfl, hf⟩
          have H9 := hid (H8.out.trans hf)
          clear hf
          go_wp2_with fail
          refine (awake25 _).mono ?_
          rintro e w10 ⟨rfl, hf⟩
          have H10 := hid (H9.out.trans hf)
          clear hf
          go_wp2_with fail
          go_ret
          exact ⟨rfl, H10.out⟩
        | true =>
          rw [batO_yes hgm, batE_yes hgm] at HPB
          rw [hgm] at HMB
          have hsm := HSM.out hgm
          have HU : Hid (∀ A2 c2 w', RdR w' (fun _ => True) A2 (l ++ m) → Calls Try.prog 24 #[.slice A2 (l ++ m).length c2] w' fun e w'' => e = .returned (.tuple #[.string (s ++ batS m), .int .i64 0]) ∧ Nul w' w'') := hid (fun A2 c2 w' h => by
            have := bat_Put A2 c2 (l ++ m) w' h (HA.out.2.2.1.append HA.out.2.2.2.1) (FewR.append HA.out.2.2.2.2.2.2.2.2.1 HA.out.2.2.2.2.2.2.2.2.2 HA.out.2.2.2.2.2.2.1 HA.out.2.2.2.2.2.2.2.1)
            rw [batO_yes (goodB_append Hg.out hgm), batE_yes (goodB_append Hg.out hgm), ← Hbl.out m] at this
            exact this)
          clear hgm HSM Hbl
          generalize batS m = t at HPB hsm HU
          have hadd : ∀ w, (Op.stringOp .add s t).run Try.prog w = .ok (.string (s ++ t)) w := fun w => run_string_add_sum _ _ _ (by omega)
          have hst := tl_beq (s ++ t)
          generalize s ++ t = u at hadd hst HU
          go_enter Try.func6, Try.ntmps6
          go_wp2_with fail
          refine (HLA.out w (Frm.refl _ _)).mono ?_
          rintro e w1 ⟨rfl, hf⟩
          have H1 := hid hf
          clear hf
          go_wp2_with fail
          refine (HLB.out w1 H1.out).mono ?_
          rintro e w2 ⟨rfl, hf⟩
          have H2 := hid (H1.out.trans hf)
          clear hf
          go_wp2_with fail
          refine (HPA.out w2 H2.out).mono ?_
          rintro e w3 ⟨rfl, hf⟩
          have H3 := hid (H2.out.trans hf)
          clear hf
          go_wp2_with fail
          refine (HMA.out w3 H3.out).mono ?_
          rintro e w4 ⟨rfl, hf⟩
          have H4 := hid (H3.out.trans hf)
          clear hf
          go_wp2_with fail
          refine (HGA2.out w4).mono ?_
          rintro e w5 ⟨hx, _, hf⟩
          obtain ⟨A5, c5, rfl, hR5⟩ := hx rfl
          have H5 := hid (And.intro (H4.out.trans hf) hR5)
          clear hx hf hR5
          go_wp2_with fail
          refine (HRA2.out w5 H5.out.1).mono ?_
          rintro e w6 ⟨rfl, hf⟩
          have H6 := hid (And.intro (H5.out.1.trans hf) (H5.out.2.nul hf))
          clear hf
          go_wp2_with fail
          have HS := hid (HSA.out A5 c5 w6 H6.out.1 H6.out.2)
          rw [show sameR l l = true from decide_eq_true rfl] at HS
          refine HS.out.mono ?_
          rintro e w7 ⟨rfl, hf⟩
          have H7 := hid (H6.out.1.trans hf)
          clear hf HS
          go_wp2_with fail
          refine (HZA.out w7 H7.out).mono ?_
          rintro e w8 ⟨rfl, hf⟩
          have H8 := hid (H7.out.trans hf)
          clear hf
          go_wp2_with fail
          refine (HMB.out w8 H8.out).mono ?_
          rintro e w9 ⟨rfl, hf⟩
          have H9 := hid (H8.out.trans hf)
          clear hf
          go_wp2_with fail
          refine (HPB.out w9 H9.out).mono ?_
          rintro e w10 ⟨rfl, hf⟩
          have H10 := hid (H9.out.trans hf)
          clear hf
          have hzr := zero_rec
          clear hzr
          have HW : Hid (Nul w (w10.alloc (.cells #[] 28)) ∧ (w10.alloc (.cells #[] 28)).ownsRow w10.heap.size 28 68 (.slice (some ⟨w10.heap.size, 0, none⟩) 0 0) 0 (recsL []) ∧ Frm (w10.heap.size ≤ ·) w10 (w10.alloc (.cells #[] 28))) := hid ⟨H10.out.alloc _, World.ownsRow_made w10 #[] 0 (Nat.le_refl _) (Nat.zero_le _) rfl, (Frm.refl _ _).alloc _⟩
          go_wp2_with (first
            | (with_reducible refine wpList_rows0 rfl 44 28 rfl Try.underlying44 (by kernel_rfl) ?_)
            | (with_reducible refine wpList_append_recs (o := ⟨some 86, _, _, _, _, _⟩) rfl (.tmp 84) (.tmp 85) rfl w10.heap.size (.slice (some ⟨w10.heap.size, 0, none⟩) 0 0) 0 [] rfl HW.out.2.1 A ca l (fun _ => True) rfl (HA.out.1.nul HW.out.1) HA.out.2.2.1 HA.out.2.2.2.2.1 (by have := HA.out.2.2.2.2.2.2.2.2.1; omega) HW.out.2.2.size ?_
               intro v11 w11 hown hgr
               have H11 : Hid (w11.ownsRow w10.heap.size 28 68 v11 l.length (recsL l) ∧ Frm (w10.heap.size ≤ ·) w10 w11 ∧ Nul w w11) := hid ⟨by simpa using hown, HW.out.2.2.own HW.out.2.1 hgr, H10.out.trans ((HW.out.2.2.own HW.out.2.1 hgr).mono fun q hq hh => by omega)⟩
               clear hown hgr)
            | (with_reducible refine wpList_append_recs (o := ⟨some 88, _, _, _, _, _⟩) rfl (.tmp 86) (.tmp 87) rfl w10.heap.size v11 l.length l rfl H11.out.1 B cb m (fun _ => True) rfl (HA.out.2.1.nul H11.out.2.2) HA.out.2.2.2.1 HA.out.2.2.2.2.2.1 (by have := HA.out.2.2.2.2.2.2.2.2.1; have := HA.out.2.2.2.2.2.2.2.2.2; omega) H11.out.2.1.size ?_
               intro v12 w12 hown hgr
               have H12 : Hid (w12.ownsRow w10.heap.size 28 68 v12 (l.length + m.length) (recsL (l ++ m)) ∧ Frm (w10.heap.size ≤ ·) w10 w12 ∧ Nul w w12) := hid ⟨hown, H11.out.2.1.own H11.out.1 hgr, H10.out.trans ((H11.out.2.1.own H11.out.1 hgr).mono fun q hq hh => by omega)⟩
               clear hown hgr))
          obtain ⟨A2, c2, hv, hR⟩ := RdR.own H12.out.1 (HA.out.2.2.1.append HA.out.2.2.2.1)
          have hU2 := HU.out A2 c2 w12 (by
            rcases hR with h | ⟨b, o, h1, h2, h3, h4⟩
            · exact .inl h
            · exact .inr ⟨b, o, h1, True.intro, h3, h4⟩)
          generalize (l ++ m).length = n12 at hv hU2
          have HU2 := hid hU2
          have HN12 := hid H12.out.2.2
          clear hU2 hR HU
          subst hv
          refine HU2.out.mono ?_
          rintro e w13 ⟨rfl, hf⟩
          have H13 := hid (HN12.out.trans hf)
          clear hf HU2
          go_wp2_with fail
          refine (awake25 _).mono ?_
          rintro e w14 ⟨rfl, hf⟩
          have H14 := hid (H13.out.trans hf)
          clear hf
          go_wp2_with fail
          go_ret
          exact ⟨rfl, H14.out⟩
end Go.Proofs.Ythocjhiapngacaa
