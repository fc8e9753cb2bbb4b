/-
  Walks: the document's appending.
-/
import Derived.Test.YtdpffgcekjdneaaAreaF
import Derived.IntWalk
set_option linter.all false
namespace Go.Proofs.Ytdpffgcekjdneaa
open Go.RowKit

theorem sN_lt {n k : Nat} : k < sN n ↔ 128 * k < n := by unfold sN; omega

section
variable {T : Nat → Prop} {B b1 b2 N : Nat} {w w' : World} {d d1 d2 : Dk}
set_option maxRecDepth 100000 in
set_option maxHeartbeats 1600000 in
theorem br_AAppend_go (h : Both T B w b1 b2 N d1 d2) (hT : ∀ k, w.heap.size ≤ k → T k) (hB : B ≤ w.heap.size) (hN : N + d2.n ≤ 99999) (a len : Int) (s : ByteArray) (hc : d2.chk a len = 0) (hr : ¬ ((128 * d2.cnt : Nat) : Int) - len < s.size) :
    Calls Try.prog 44 #[.pointer (some ⟨b2, 0, none⟩), .int .i64 a, .int .i64 len, .string s] w fun e w' =>
      e = .returned (.int .i64 (d2.append a len s).1) ∧ Both T B w' b1 b2 (N + d2.n) d1 (d2.append a len s).2 ∧ Frm T w w' := by
  have HC := hid (br_Check h a len)
  have HRd := hid (br_ARead h (by omega) a len hc)
  have hrs : (d2.append a len s) = d2.writes (parts (d2.first a) (len.toNat / 128) (d2.head (d2.first a) len.toNat ++ s) (secs len s.size).toNat) := by
    unfold Dk.append
    rw [if_pos hc, if_neg hr]
  rw [hrs]
  obtain ⟨_, hok, hfull⟩ := h.sz
  have hhs0 := fun L => head_size (len := L) (a := a) hok hfull
  obtain ⟨hd, ha, hcn, hfi, hl0, hl⟩ := chk_ok hc
  have hcr : d2.chkR a len = 0 := by
    have := chk_chkR d2 a len
    rw [hc, hd] at this
    exact this.symm
  rw [hcr] at HC
  have hin := first_in ha hcn hfi
  have hnn : d2.n ≤ 65536 := hok.1
  have hcn2 : d2.cnt ≤ 32768 := by unfold Dk.cnt; omega
  obtain ⟨L, rfl⟩ : ∃ L : Nat, len = (L : Int) := ⟨len.toNat, by omega⟩
  have hhs := hhs0 L hc
  rw [show ((L : Nat) : Int).toNat = L from by omega] at HRd ⊢
  obtain ⟨m, hm, hm0, hm1⟩ := secs_cast L s.size
  rw [hm]
  rw [show ((m : Nat) : Int).toNat = m from by omega]
  have hall : (d2.head (d2.first a) L ++ s).size = L + s.size := by rw [ByteArray.size_append, hhs]
  obtain ⟨f, hf⟩ : ∃ f, d2.first a = f := ⟨_, rfl⟩
  rw [hf] at hin HRd hall hfi hhs ⊢
  have hadd : ∀ w, (Op.stringOp .add (d2.head f L) s).run Try.prog w = .ok (.string (d2.head f L ++ s)) w := fun w => run_string_add_sum _ _ _ (by omega)
  generalize d2.head f L ++ s = all at hadd hall ⊢
  obtain ⟨q, hq⟩ : ∃ q : Nat, L / 128 = q := ⟨_, rfl⟩
  rw [hq] at hm1 ⊢
  have Hm : Hid ((s.size = 0 → m = 0) ∧ (0 < s.size → m = (L + s.size - 1) / 128 - q + 1) ∧ L / 128 = q ∧ all.size = L + s.size) := hid ⟨hm0, hm1, hq, hall⟩
  have hmc : sN all.size ≤ d2.cnt := sN_le (by omega)
  have HCn := hid (fun w (dk : Dk) N' (h : Both T B w b1 b2 N' d1 dk) => br_Count h)
  obtain ⟨P, hP⟩ : ∃ P, a * (d2.cnt : Int) = P := ⟨_, rfl⟩
  rw [hP] at hfi
  have hcc : ∀ dk : Dk, dk.n = d2.n → dk.cnt = d2.cnt := fun dk h => by unfold Dk.cnt; rw [h]
  have Hcc := hid hcc
  have Hmn : Hid (sN all.size ≤ d2.n) := hid (by omega)
  clear hcc
  have HC0 := hid (br_Count h)
  generalize hcg : d2.cnt = c at hP hin hl hcn2 hmc hr Hcc HC0
  have hP0 : 0 ≤ P := by omega
  have hP1 : P ≤ 65536 := by omega
  have HM := hid (fun k => @sN_lt all.size k)
  generalize sN all.size = M at hmc HM Hmn
  have hMb : M ≤ 32768 := by omega
  have hLb : L ≤ 4194304 := by omega
  have hsb : s.size ≤ 4194304 := by omega
  have halb : all.size ≤ 4194304 := by omega
  have hr2 : decide (128 * (c : Int) < (L : Int) + (s.size : Int)) = false := decide_eq_false (by omega)
  have H := hid h
  have HT := hid (And.intro hT hB)
  subst hfi
  have hc0 : 0 ≤ (c : Int) := by omega
  clear hc hin hm hd ha h hrs hm0 hm1 hcn hall hl hr hf hq hhs hhs0 hcr hT hB hmc hcg
  go_enter Try.func44, Try.ntmps44
  go_wp2_with fail
  refine HC.out.mono ?_
  rintro e w' ⟨rfl, rfl⟩
  go_wp2_with fail
  refine HC0.out.mono ?_
  rintro e w' ⟨rfl, rfl⟩
  go_wp2_with fail
  refine HRd.out.mono ?_
  rintro e w' ⟨rfl, rfl⟩
  go_wp2_with fail
  clear hadd hr2
  go_loopg [11, 12, 13] M (fun g i' _ _ wr => ∃ (i : Nat) (dk : Dk), i + g = M ∧ i' = .int .i64 i ∧ Both T B wr b1 b2 (N + i) d1 dk ∧ Frm T w wr ∧ dk.n = d2.n ∧ d2.writes (parts (2 + P) q all m) = dk.writes ((parts (2 + P) q all m).drop (i - q)))
  case atStart => exact ⟨0, d2, by omega, rfl, H.out, Frm.refl _ _, rfl, by rw [Nat.zero_sub]; rfl⟩
  case round =>
    obtain ⟨i, dk, hi, rfl, hV, hF, hn, hW⟩ := hrel
    have Hi := hid hi
    have HV := hid (And.intro hV hF)
    have Hn := hid hn
    have HW := hid hW
    have hiM : i ≤ M := by omega
    clear hi hV hF hn hW
    by_cases hlt : i < M
    · have h128 : 128 * i < all.size := (HM.out i).1 hlt
      have e1 : decide (128 * (i : Int) < (all.size : Int)) = true := decide_eq_true (by omega)
      have e1' : decide (128 * i < all.size) = true := decide_eq_true (by omega)
      have HLow := hid (fun w => r01_Low (128 * (i : Int) + 128) (all.size : Int) w)
      obtain ⟨E, hE⟩ : ∃ E : Nat, min (128 * i + 128) all.size = E := ⟨_, rfl⟩
      have hE2 : (if 128 * (i : Int) + 128 < (all.size : Int) then 128 * (i : Int) + 128 else (all.size : Int)) = (E : Int) := by split <;> omega
      rw [hE2] at HLow
      have hEp : partS all i = all.extract (128 * i) E := by
        unfold partS
        rw [Nat.mul_comm i 128, show (i + 1) * 128 = 128 * i + 128 from by omega, hE]
      have HEp := hid hEp
      have hE3 : E ≤ all.size := by omega
      have hE4 : 128 * i ≤ E := by omega
      have HE := hid hE
      clear hE2 hEp hE
      by_cases hEL : E ≤ L
      · have e2 : decide (E ≤ L) = true := decide_eq_true hEL
        have hsame : (parts (2 + P) q all m).drop (i - q) = (parts (2 + P) q all m).drop (i + 1 - q) := by
          obtain ⟨h1, h2, h3, h4⟩ := Hm.out
          have hE := HE.out
          by_cases h0 : s.size = 0
          · have := h1 h0
            rw [List.drop_of_length_le (by rw [parts_length]; omega), List.drop_of_length_le (by rw [parts_length]; omega)]
          · rw [show i - q = 0 from by omega, show i + 1 - q = 0 from by omega]
        have hW := HW.out
        rw [hsame] at hW
        have HW2 := hid hW
        clear hsame hW
        go_wp2_with fail
        refine (HLow.out _).mono ?_
        rintro e w' ⟨rfl, rfl⟩
        go_wp2_with fail
        go_roundg (gk - 1)
        case rel => exact ⟨i + 1, dk, by have := Hi.out; omega, by go_num, HV.out.1.up (by omega), HV.out.2, Hn.out, HW2.out⟩
        case measure => have := Hi.out; omega
      · have e2 : decide (E ≤ L) = false := decide_eq_false hEL
        have hiq : i - q < m ∧ q ≤ i := by
          obtain ⟨h1, h2, h3, h4⟩ := Hm.out
          have hE := HE.out
          by_cases h0 : s.size = 0
          · omega
          · have := h2 (by omega)
            constructor <;> omega
        have hW := HW.out
        rw [parts_drop (2 + P) q all m (i - q) hiq.1, show q + (i - q) = i from by omega, show (2 + P + (q : Int) + ((i - q : Nat) : Int)) = 2 + P + (i : Int) from by omega, HEp.out] at hW
        have HW2 := hid hW
        have Hiq := hid hiq
        have hcn := HCn.out wr.drew dk _ (HV.out.1.nul ((Frm.refl (fun _ => False) _).drew))
        rw [Hcc.out dk Hn.out] at hcn
        have HCt := hid hcn
        have HWr := hid (br_Write (HV.out.1.nul ((Frm.refl (fun _ => False) _).drew)) (fun k hk => HT.out.1 k (Nat.le_trans HV.out.2.size hk)) (Nat.le_trans HT.out.2 HV.out.2.size) (by have := Hmn.out; omega) (2 + P + (i : Int)) (all.extract (128 * i) E))
        have HN1 := hid (write_n dk (2 + P + (i : Int)) (all.extract (128 * i) E))
        clear hW hiq hcn
        go_wp2_with fail
        refine (HLow.out _).mono ?_
        rintro e w' ⟨rfl, rfl⟩
        go_wp2_with fail
        have k1 : IntKind.i64.wrap (128 * (i : Int)) = 128 * (i : Int) := IntWalk.i64_in _ (by omega)
        have k2 : IntKind.i64.wrap P = P := IntWalk.i64_in _ (by omega)
        have k3 : IntKind.i64.wrap (2 + P) = 2 + P := IntWalk.i64_in _ (by omega)
        have k4 : IntKind.i64.wrap (2 + P + (i : Int)) = 2 + P + (i : Int) := IntWalk.i64_in _ (by omega)
        have k5 : (0 : Int) ≤ 128 * (i : Int) := by omega
        have k6 : 128 * (i : Int) ≤ (E : Int) := by omega
        have k7 : (E : Int) ≤ (all.size : Int) := by omega
        have k8 : (128 * (i : Int)).toNat = 128 * i := by omega
        have k9 : (0 : Int) ≤ (E : Int) := by omega
        go_region_held3 (fun _ => True) (first | exact True.intro) (first
          | (go_at_call 47
             refine HCt.out.mono ?_
             rintro e w4 ⟨rfl, rfl⟩)
          | (go_at_call 22
             refine HWr.out.mono ?_
             rintro e w4 ⟨rfl, hb4, hf4⟩
             have H4 := hid (And.intro hb4 hf4)
             clear hb4 hf4))
        clear k1 k2 k3 k4 k5 k6 k7 k8 k9
        have HF4 : Hid (Frm T w w4) := hid (HV.out.2.trans ((((Frm.refl T wr).drew)).trans H4.out.2))
        generalize hx : dk.write (2 + P + (i : Int)) (all.extract (128 * i) E) = x at H4 HN1 HWr ⊢
        obtain ⟨c', d3⟩ := x
        have Hx := hid hx
        clear hx HWr
        by_cases hc' : c' = 0
        · subst hc'
          go_wp2_with fail
          go_roundg (gk - 1)
          case rel =>
            refine ⟨i + 1, d3, by have := Hi.out; omega, by go_num, H4.out.1, HF4.out, HN1.out.trans Hn.out, ?_⟩
            have h1 := HW2.out
            rw [Dk.writes, Hx.out, if_pos rfl] at h1
            rw [h1, show i + 1 - q = i - q + 1 from by have := Hiq.out; omega]
          case measure => have := Hi.out; omega
        · have g1 : (c' == 0) = false := by simpa using hc'
          have g2 : (c' != 0) = true := by simpa using hc'
          have Hc' := hid hc'
          clear hc'
          go_wp2_with fail
          go_ret
          have hfin : d2.writes (parts (2 + P) q all m) = (c', d3) := by
            rw [HW2.out, Dk.writes, Hx.out, if_neg Hc'.out]
          rw [hfin]
          exact ⟨rfl, H4.out.1.up (by have := Hmn.out; omega), HF4.out⟩
    · have h128 : all.size ≤ 128 * i := by
        have := (HM.out i)
        omega
      have e1 : decide (128 * (i : Int) < (all.size : Int)) = false := decide_eq_false (by omega)
      have e1' : decide (128 * i < all.size) = false := decide_eq_false (by omega)
      go_wp2_with fail
      go_ret
      have hfin : d2.writes (parts (2 + P) q all m) = (0, dk) := by
        obtain ⟨h1, h2, h3, h4⟩ := Hm.out
        rw [HW.out, List.drop_of_length_le]
        · rfl
        · rw [parts_length]
          by_cases h0 : s.size = 0
          · omega
          · have := h2 (by omega)
            omega
      rw [hfin]
      exact ⟨rfl, HV.out.1.up (by have := Hmn.out; omega), HV.out.2⟩

set_option maxRecDepth 100000 in
set_option maxHeartbeats 800000 in
theorem br_AAppend (h : Both T B w b1 b2 N d1 d2) (hT : ∀ k, w.heap.size ≤ k → T k) (hB : B ≤ w.heap.size) (hN : N + d2.n ≤ 99999) (a len : Int) (s : ByteArray) (hc : d2.chk a len = 0) (hss : s.size ≤ 140737488351232) :
    Calls Try.prog 44 #[.pointer (some ⟨b2, 0, none⟩), .int .i64 a, .int .i64 len, .string s] w fun e w' =>
      e = .returned (.int .i64 (d2.append a len s).1) ∧ Both T B w' b1 b2 (N + d2.n) d1 (d2.append a len s).2 ∧ Frm T w w' := by
  by_cases hr : ((128 * d2.cnt : Nat) : Int) - len < s.size
  · have HC := hid (br_Check h a len)
    have HCt := hid (br_Count h)
    have hrs : (d2.append a len s) = (13, d2) := by
      unfold Dk.append
      rw [if_pos hc, if_pos hr]
    rw [hrs]
    obtain ⟨_, hok, hfull⟩ := h.sz
    obtain ⟨hd, ha, hcn, hfi, hl0, hl⟩ := chk_ok hc
    have hcr : d2.chkR a len = 0 := by
      have := chk_chkR d2 a len
      rw [hc, hd] at this
      exact this.symm
    rw [hcr] at HC
    have hnn : d2.n ≤ 65536 := hok.1
    have hcn2 : d2.cnt ≤ 32768 := by unfold Dk.cnt; omega
    have H := hid h
    generalize d2.cnt = c at hl hr hcn2 HCt
    have hr2 : decide (128 * (c : Int) < len + (s.size : Int)) = true := decide_eq_true (by omega)
    have hl2 : len ≤ 4194304 := by omega
    clear hc h hrs hcr hd ha hfi hcn hr hl
    go_enter Try.func44, Try.ntmps44
    go_wp2_with fail
    refine HC.out.mono ?_
    rintro e w' ⟨rfl, rfl⟩
    go_wp2_with fail
    refine HCt.out.mono ?_
    rintro e w' ⟨rfl, rfl⟩
    go_wp2_with fail
    go_ret
    exact ⟨rfl, H.out.up (by omega), Frm.refl _ _⟩
  · exact br_AAppend_go h hT hB hN a len s hc hr
end
end Go.Proofs.Ytdpffgcekjdneaa
