/-
  Walks: the law that what was there stays.
-/
import Derived.Test.YtdpffgcekjdneaaStaysP
set_option linter.all false
namespace Go.Proofs.Ytdpffgcekjdneaa
open Go.RowKit

theorem Stay.full {d : Dk} {a : Int} {hv : ByteArray} (h : Stay d a hv) : d.full := fun p hp => by rw [h.wait] at hp; simp at hp
theorem stay_read {d : Dk} {N : Nat} {a : Int} {hv : ByteArray} (ha : a = 0 ∨ a = 1) (hok : d.okn N) (h : Stay d a hv) : d.aread a hv.size = (hv, 0) := by
  obtain ⟨h1, h2, _⟩ := stay_append (s := ⟨#[]⟩) ha hok h
  rw [aread_good h1, h2, show (((hv.size : Nat) : Int)).toNat = hv.size from by omega, head_of hok ha h.down h.n h.wait h.size (l := hv.data.toList) rfl h.bytes]
theorem stay_new (a : Int) (cr : List (Int × List UInt8)) : Stay (dk0 20 cr) a ⟨#[]⟩ := ⟨rfl, rfl, rfl, by decide, fun j hj => by simp [ByteArray.size] at hj⟩

set_option maxRecDepth 100000 in
set_option maxHeartbeats 2000000 in
theorem stays_awake (x : Value) (A0 A1 : Option Addr) (c0 c1 len : Nat) (cr : List (Int × List UInt8)) (S : Nat → Prop) (w : World) (hA : CrashesAt w S A0 cr) (hl : cr.length ≤ 9223372036854775807) (h : lightB cr = false) :
    Calls Try.prog 10 #[.slice A0 cr.length c0, .slice A1 len c1, x] w fun e w' => e = .returned (.bool true) ∧ Nul w w' := by
  have HL := hid (light_is S A0 c0 cr w hA hl)
  rw [h] at HL
  clear hA h
  go_enter Try.func10, Try.ntmps10
  go_wp2_with fail
  refine HL.out.mono ?_
  rintro e w1 ⟨rfl, rfl⟩
  go_wp2_with fail
  refine (awake23 _).mono ?_
  rintro e w1 ⟨rfl, hf⟩
  go_wp2_with fail
  go_ret
  exact ⟨rfl, hf⟩

set_option maxRecDepth 100000 in
set_option maxHeartbeats 8000000 in
theorem stays_go0 (A0 A1 : Option Addr) (c0 c1 : Nat) (cr : List (Int × List UInt8)) (l : List ByteArray) (w : World) (hA : CrashesAt w (· < w.heap.size) A0 cr) (hB : Rd w w.heap.size A1 (l.map .string)) (hl : cr.length ≤ 9223372036854775807) (hll : l.length ≤ 9223372036854775807) (hlt : lightB cr = true) :
    Calls Try.prog 10 #[.slice A0 cr.length c0, .slice A1 l.length c1, .bool false] w fun e w' => e = .returned (.bool true) ∧ Nul w w' := by
  have HL := hid (light_is _ A0 c0 cr w hA hl)
  have hlb := of_decide_eq_true hlt
  rw [hlt] at HL
  have HC := hid hlb
  have HA := hid hA
  have HB := hid hB
  have Ha : Hid ((0 : Int) = 0 ∨ (0 : Int) = 1) := hid (by omega)
  clear hA hlt hlb hB
  go_enter Try.func10, Try.ntmps10
  go_wp2_with fail
  refine HL.out.mono ?_
  rintro e w1 ⟨rfl, rfl⟩
  go_wp2_with fail
  refine (awake23 _).mono ?_
  rintro e w1 ⟨rfl, hf1⟩
  have HN1 := hid hf1
  clear hf1
  go_wp2_with fail
  refine (in_New (n := 20) (HA.out.frm HN1.out (fun _ _ h => h)) (by omega) (by omega) (by have := HC.out.1; omega) (fun p hp => by have := HC.out.2 p hp; omega)).mono ?_
  rintro e w2 ⟨b, rfl, hD2, hf2⟩
  have H2 : Hid (DiskIn (w.heap.size ≤ ·) w2 b 0 (dk0 20 cr) ∧ Nul w w2) := hid (And.intro (hD2.mono (T := (w.heap.size ≤ ·)) (fun k _ hk => ext_none HN1.out.size k hk)) (HN1.out.nul hf2))
  clear hD2 hf2
  go_wp2_with fail
  have Hs := hid (stay_new (0 : Int) cr)
  go_loopg [10, 11, 12, 13, 14, 15, 16] l.length (fun m hv' i _ _ _ _ _ wr => ∃ (k N : Nat) (d : Dk) (hv : ByteArray), k + m = l.length ∧ k ≤ 30 ∧ i = .int .i64 k ∧ N ≤ 30 * k ∧ hv' = .string hv ∧ Stay d (0 : Int) hv ∧ DiskIn (w.heap.size ≤ ·) wr b N d ∧ Nul w wr)
  case atStart => exact ⟨0, 0, _, _, by omega, by omega, rfl, by omega, rfl, Hs.out, H2.out.1, H2.out.2⟩
  case round =>
    obtain ⟨k, N, d, hv, hk, hk30, rfl, hN, rfl, hS, hD, hf⟩ := hrel
    have Hk := hid hk
    have HV := hid (And.intro hD hf)
    have HSt := hid hS
    have hvs : hv.size ≤ 1152 := hS.size
    clear hk hD hf hS
    by_cases hlt : k < l.length
    · by_cases h30 : k < 30
      · have e1 : decide ((k : Int) < (l.length : Int)) = true := decide_eq_true (by omega)
        have e2 : decide ((k : Int) < 30) = true := decide_eq_true (by omega)
        obtain ⟨ga, oa, rfl, hgb, hcell⟩ := HB.out.at_ (k := k) (by simpa using hlt)
        have hsc : ∀ w' : World, Nul w w' → w'.cell? ⟨ga, oa + k, none⟩ = some (.string l[k]) := fun w' hf => (hf.cell (p := ⟨ga, oa + k, none⟩) hgb (fun h => h)).trans (hcell k _ (by simp [hlt]))
        have HSc0 := hid hsc
        clear hsc hcell hgb
        generalize l[k] = s at HSc0
        have HSc := HSc0
        clear HSc0
        have q0 := HSc.out wr HV.out.2
        by_cases hs : 300 < s.size
        · have hs1 : decide (300 < (s.size : Int)) = true := decide_eq_true (by omega)
          go_wp2_with fail
          go_ret
          exact ⟨rfl, HV.out.2⟩
        · have hs1 : decide (300 < (s.size : Int)) = false := decide_eq_false (by omega)
          obtain ⟨_, _, hfull, hcase⟩ := stay_append (s := s) (by decide) HV.out.1.sz HSt.out
          have Hap := hid (nw_Append (w0 := w) HV.out.1 HV.out.2.size (by rw [HSt.out.n]; omega) hfull (0 : Int) hv.size s)
          clear hfull
          rw [HSt.out.n] at Hap
          rcases hcase with ⟨hbig, happ⟩ | ⟨hsmall, hcase⟩
          · rw [happ] at Hap
            have e3 : decide ((hv.size : Int) + (s.size : Int) ≤ 1152) = false := decide_eq_false (by omega)
            have Hbig := hid hbig
            clear happ hbig
            go_wp2_with fail
            refine Hap.out.mono ?_
            rintro e w4 ⟨rfl, hD4, hf4⟩
            have H4 := hid (And.intro hD4 (HV.out.2.news hf4))
            have q4 := HSc.out w4 H4.out.2
            clear hD4 hf4 Hap
            go_wp2_with fail
            go_roundg (gk - 1)
            case rel => exact ⟨k + 1, N + 20, d, hv, by have := Hk.out; omega, by omega, by go_num, by omega, rfl, HSt.out, H4.out.1, H4.out.2⟩
            case measure => have := Hk.out; omega
          · have e3 : decide ((hv.size : Int) + (s.size : Int) ≤ 1152) = true := decide_eq_true (by omega)
            rcases hcase with ⟨h12, hst⟩ | ⟨h0, hcase⟩
            · rw [h12] at Hap
              have HS6 := hid hst
              clear h12 hst
              generalize (d.append (0 : Int) hv.size s).2 = d' at Hap HS6
              go_wp2_with fail
              refine Hap.out.mono ?_
              rintro e w4 ⟨rfl, hD4, hf4⟩
              have H4 := hid (And.intro hD4 (HV.out.2.news hf4))
              clear hD4 hf4 Hap
              go_wp2_with fail
              refine (in_Power H4.out.1).mono ?_
              rintro e w6 ⟨rfl, hD6, hf6⟩
              have H6 := hid (And.intro hD6 (H4.out.2.news hf6))
              clear hD6 hf6
              go_wp2_with fail
              refine (area_Read H6.out.1 (by omega) HS6.out.full (0 : Int) hv.size).mono ?_
              rw [stay_read (by decide) H6.out.1.sz HS6.out]
              rintro e w7 ⟨rfl, hf7⟩
              have H7 := hid (And.intro (H6.out.1.nul hf7) (H6.out.2.nul hf7))
              have q7 := HSc.out w7 H7.out.2
              clear hf7
              go_wp2_with fail
              go_roundg (gk - 1)
              case rel => exact ⟨k + 1, N + 20, _, hv, by have := Hk.out; omega, by omega, by go_num, by omega, rfl, HS6.out, H7.out.1, H7.out.2⟩
              case measure => have := Hk.out; omega
            · rw [h0] at Hap
              clear h0
              rcases hcase with ⟨hf12, hst⟩ | ⟨hf0, hst, hst2⟩
              · have HS6 := hid hst
                have Hf12 := hid hf12
                clear hst hf12
                generalize (d.append (0 : Int) hv.size s).2 = d' at Hap HS6 Hf12
                go_wp2_with fail
                refine Hap.out.mono ?_
                rintro e w4 ⟨rfl, hD4, hf4⟩
                have H4 := hid (And.intro hD4 (HV.out.2.news hf4))
                clear hD4 hf4 Hap
                go_wp2_with fail
                refine (in_Flush H4.out.1 (by omega)).mono ?_
                rw [Hf12.out]
                rintro e w5 ⟨rfl, hD5, hf5⟩
                have H5 := hid (And.intro hD5 (H4.out.2.news hf5))
                clear hD5 hf5
                go_wp2_with fail
                refine (in_Power H5.out.1).mono ?_
                rintro e w6 ⟨rfl, hD6, hf6⟩
                have H6 := hid (And.intro hD6 (H5.out.2.news hf6))
                clear hD6 hf6
                go_wp2_with fail
                refine (area_Read H6.out.1 (by omega) HS6.out.full (0 : Int) hv.size).mono ?_
                rw [stay_read (by decide) H6.out.1.sz HS6.out]
                rintro e w7 ⟨rfl, hf7⟩
                have H7 := hid (And.intro (H6.out.1.nul hf7) (H6.out.2.nul hf7))
                have q7 := HSc.out w7 H7.out.2
                clear hf7
                go_wp2_with fail
                go_roundg (gk - 1)
                case rel => exact ⟨k + 1, N + 20 + 1, _, hv, by have := Hk.out; omega, by omega, by go_num, by omega, rfl, HS6.out, H7.out.1, H7.out.2⟩
                case measure => have := Hk.out; omega
              · have HS6 := hid hst
                have HS8 := hid hst2
                have Hf0 := hid hf0
                clear hst hf0 hst2
                generalize (d.append (0 : Int) hv.size s).2 = d' at Hap HS6 Hf0 HS8
                have hadd : ∀ w, (Op.stringOp .add hv s).run Try.prog w = .ok (.string (hv ++ s)) w := fun w => run_string_add_sum _ _ _ (by omega)
                have has : (hv ++ s).size ≤ 1152 := by rw [ByteArray.size_append]; omega
                go_wp2_with fail
                refine Hap.out.mono ?_
                rintro e w4 ⟨rfl, hD4, hf4⟩
                have H4 := hid (And.intro hD4 (HV.out.2.news hf4))
                clear hD4 hf4 Hap
                go_wp2_with fail
                refine (in_Flush H4.out.1 (by omega)).mono ?_
                rw [Hf0.out]
                rintro e w5 ⟨rfl, hD5, hf5⟩
                have H5 := hid (And.intro hD5 (H4.out.2.news hf5))
                clear hD5 hf5
                go_wp2_with fail
                refine (in_Power H5.out.1).mono ?_
                rintro e w6 ⟨rfl, hD6, hf6⟩
                have H6 := hid (And.intro hD6 (H5.out.2.news hf6))
                clear hD6 hf6
                go_wp2_with fail
                refine (area_Read H6.out.1 (by omega) HS6.out.full (0 : Int) hv.size).mono ?_
                rw [stay_read (by decide) H6.out.1.sz HS6.out]
                rintro e w7 ⟨rfl, hf7⟩
                have H7 := hid (And.intro (H6.out.1.nul hf7) (H6.out.2.nul hf7))
                have q7 := HSc.out w7 H7.out.2
                clear hf7
                generalize hv ++ s = all at HS8 hadd has
                go_wp2_with fail
                refine (area_Read H7.out.1 (by omega) HS8.out.full (0 : Int) all.size).mono ?_
                rw [stay_read (by decide) H7.out.1.sz HS8.out]
                rintro e w8 ⟨rfl, hf8⟩
                have H8 := hid (And.intro (H7.out.1.nul hf8) (H7.out.2.nul hf8))
                clear hf8
                go_wp2_with fail
                go_roundg (gk - 1)
                case rel => exact ⟨k + 1, N + 20 + 1, _, all, by have := Hk.out; omega, by omega, by go_num, by omega, rfl, HS8.out, H8.out.1, H8.out.2⟩
                case measure => have := Hk.out; omega
      · have e1 : decide ((k : Int) < (l.length : Int)) = true := decide_eq_true (by omega)
        have e2 : decide ((k : Int) < 30) = false := decide_eq_false (by omega)
        go_wp2_with fail
        go_ret
        exact ⟨rfl, HV.out.2⟩
    · have e1 : decide ((k : Int) < (l.length : Int)) = false := decide_eq_false (by omega)
      go_wp2_with fail
      go_ret
      exact ⟨rfl, HV.out.2⟩

set_option maxRecDepth 100000 in
set_option maxHeartbeats 8000000 in
theorem stays_go1 (A0 A1 : Option Addr) (c0 c1 : Nat) (cr : List (Int × List UInt8)) (l : List ByteArray) (w : World) (hA : CrashesAt w (· < w.heap.size) A0 cr) (hB : Rd w w.heap.size A1 (l.map .string)) (hl : cr.length ≤ 9223372036854775807) (hll : l.length ≤ 9223372036854775807) (hlt : lightB cr = true) :
    Calls Try.prog 10 #[.slice A0 cr.length c0, .slice A1 l.length c1, .bool true] w fun e w' => e = .returned (.bool true) ∧ Nul w w' := by
  have HL := hid (light_is _ A0 c0 cr w hA hl)
  have hlb := of_decide_eq_true hlt
  rw [hlt] at HL
  have HC := hid hlb
  have HA := hid hA
  have HB := hid hB
  have Ha : Hid ((1 : Int) = 0 ∨ (1 : Int) = 1) := hid (by omega)
  clear hA hlt hlb hB
  go_enter Try.func10, Try.ntmps10
  go_wp2_with fail
  refine HL.out.mono ?_
  rintro e w1 ⟨rfl, rfl⟩
  go_wp2_with fail
  refine (awake23 _).mono ?_
  rintro e w1 ⟨rfl, hf1⟩
  have HN1 := hid hf1
  clear hf1
  go_wp2_with fail
  refine (in_New (n := 20) (HA.out.frm HN1.out (fun _ _ h => h)) (by omega) (by omega) (by have := HC.out.1; omega) (fun p hp => by have := HC.out.2 p hp; omega)).mono ?_
  rintro e w2 ⟨b, rfl, hD2, hf2⟩
  have H2 : Hid (DiskIn (w.heap.size ≤ ·) w2 b 0 (dk0 20 cr) ∧ Nul w w2) := hid (And.intro (hD2.mono (T := (w.heap.size ≤ ·)) (fun k _ hk => ext_none HN1.out.size k hk)) (HN1.out.nul hf2))
  clear hD2 hf2
  go_wp2_with fail
  have Hs := hid (stay_new (1 : Int) cr)
  go_loopg [10, 11, 12, 13, 14, 15, 16] l.length (fun m hv' i _ _ _ _ _ wr => ∃ (k N : Nat) (d : Dk) (hv : ByteArray), k + m = l.length ∧ k ≤ 30 ∧ i = .int .i64 k ∧ N ≤ 30 * k ∧ hv' = .string hv ∧ Stay d (1 : Int) hv ∧ DiskIn (w.heap.size ≤ ·) wr b N d ∧ Nul w wr)
  case atStart => exact ⟨0, 0, _, _, by omega, by omega, rfl, by omega, rfl, Hs.out, H2.out.1, H2.out.2⟩
  case round =>
    obtain ⟨k, N, d, hv, hk, hk30, rfl, hN, rfl, hS, hD, hf⟩ := hrel
    have Hk := hid hk
    have HV := hid (And.intro hD hf)
    have HSt := hid hS
    have hvs : hv.size ≤ 1152 := hS.size
    clear hk hD hf hS
    by_cases hlt : k < l.length
    · by_cases h30 : k < 30
      · have e1 : decide ((k : Int) < (l.length : Int)) = true := decide_eq_true (by omega)
        have e2 : decide ((k : Int) < 30) = true := decide_eq_true (by omega)
        obtain ⟨ga, oa, rfl, hgb, hcell⟩ := HB.out.at_ (k := k) (by simpa using hlt)
        have hsc : ∀ w' : World, Nul w w' → w'.cell? ⟨ga, oa + k, none⟩ = some (.string l[k]) := fun w' hf => (hf.cell (p := ⟨ga, oa + k, none⟩) hgb (fun h => h)).trans (hcell k _ (by simp [hlt]))
        have HSc0 := hid hsc
        clear hsc hcell hgb
        generalize l[k] = s at HSc0
        have HSc := HSc0
        clear HSc0
        have q0 := HSc.out wr HV.out.2
        by_cases hs : 300 < s.size
        · have hs1 : decide (300 < (s.size : Int)) = true := decide_eq_true (by omega)
          go_wp2_with fail
          go_ret
          exact ⟨rfl, HV.out.2⟩
        · have hs1 : decide (300 < (s.size : Int)) = false := decide_eq_false (by omega)
          obtain ⟨_, _, hfull, hcase⟩ := stay_append (s := s) (by decide) HV.out.1.sz HSt.out
          have Hap := hid (nw_Append (w0 := w) HV.out.1 HV.out.2.size (by rw [HSt.out.n]; omega) hfull (1 : Int) hv.size s)
          clear hfull
          rw [HSt.out.n] at Hap
          rcases hcase with ⟨hbig, happ⟩ | ⟨hsmall, hcase⟩
          · rw [happ] at Hap
            have e3 : decide ((hv.size : Int) + (s.size : Int) ≤ 1152) = false := decide_eq_false (by omega)
            have Hbig := hid hbig
            clear happ hbig
            go_wp2_with fail
            refine Hap.out.mono ?_
            rintro e w4 ⟨rfl, hD4, hf4⟩
            have H4 := hid (And.intro hD4 (HV.out.2.news hf4))
            have q4 := HSc.out w4 H4.out.2
            clear hD4 hf4 Hap
            go_wp2_with fail
            go_roundg (gk - 1)
            case rel => exact ⟨k + 1, N + 20, d, hv, by have := Hk.out; omega, by omega, by go_num, by omega, rfl, HSt.out, H4.out.1, H4.out.2⟩
            case measure => have := Hk.out; omega
          · have e3 : decide ((hv.size : Int) + (s.size : Int) ≤ 1152) = true := decide_eq_true (by omega)
            rcases hcase with ⟨h12, hst⟩ | ⟨h0, hcase⟩
            · rw [h12] at Hap
              have HS6 := hid hst
              clear h12 hst
              generalize (d.append (1 : Int) hv.size s).2 = d' at Hap HS6
              go_wp2_with fail
              refine Hap.out.mono ?_
              rintro e w4 ⟨rfl, hD4, hf4⟩
              have H4 := hid (And.intro hD4 (HV.out.2.news hf4))
              clear hD4 hf4 Hap
              go_wp2_with fail
              refine (in_Power H4.out.1).mono ?_
              rintro e w6 ⟨rfl, hD6, hf6⟩
              have H6 := hid (And.intro hD6 (H4.out.2.news hf6))
              clear hD6 hf6
              go_wp2_with fail
              refine (area_Read H6.out.1 (by omega) HS6.out.full (1 : Int) hv.size).mono ?_
              rw [stay_read (by decide) H6.out.1.sz HS6.out]
              rintro e w7 ⟨rfl, hf7⟩
              have H7 := hid (And.intro (H6.out.1.nul hf7) (H6.out.2.nul hf7))
              have q7 := HSc.out w7 H7.out.2
              clear hf7
              go_wp2_with fail
              go_roundg (gk - 1)
              case rel => exact ⟨k + 1, N + 20, _, hv, by have := Hk.out; omega, by omega, by go_num, by omega, rfl, HS6.out, H7.out.1, H7.out.2⟩
              case measure => have := Hk.out; omega
            · rw [h0] at Hap
              clear h0
              rcases hcase with ⟨hf12, hst⟩ | ⟨hf0, hst, hst2⟩
              · have HS6 := hid hst
                have Hf12 := hid hf12
                clear hst hf12
                generalize (d.append (1 : Int) hv.size s).2 = d' at Hap HS6 Hf12
                go_wp2_with fail
                refine Hap.out.mono ?_
                rintro e w4 ⟨rfl, hD4, hf4⟩
                have H4 := hid (And.intro hD4 (HV.out.2.news hf4))
                clear hD4 hf4 Hap
                go_wp2_with fail
                refine (in_Flush H4.out.1 (by omega)).mono ?_
                rw [Hf12.out]
                rintro e w5 ⟨rfl, hD5, hf5⟩
                have H5 := hid (And.intro hD5 (H4.out.2.news hf5))
                clear hD5 hf5
                go_wp2_with fail
                refine (in_Power H5.out.1).mono ?_
                rintro e w6 ⟨rfl, hD6, hf6⟩
                have H6 := hid (And.intro hD6 (H5.out.2.news hf6))
                clear hD6 hf6
                go_wp2_with fail
                refine (area_Read H6.out.1 (by omega) HS6.out.full (1 : Int) hv.size).mono ?_
                rw [stay_read (by decide) H6.out.1.sz HS6.out]
                rintro e w7 ⟨rfl, hf7⟩
                have H7 := hid (And.intro (H6.out.1.nul hf7) (H6.out.2.nul hf7))
                have q7 := HSc.out w7 H7.out.2
                clear hf7
                go_wp2_with fail
                go_roundg (gk - 1)
                case rel => exact ⟨k + 1, N + 20 + 1, _, hv, by have := Hk.out; omega, by omega, by go_num, by omega, rfl, HS6.out, H7.out.1, H7.out.2⟩
                case measure => have := Hk.out; omega
              · have HS6 := hid hst
                have HS8 := hid hst2
                have Hf0 := hid hf0
                clear hst hf0 hst2
                generalize (d.append (1 : Int) hv.size s).2 = d' at Hap HS6 Hf0 HS8
                have hadd : ∀ w, (Op.stringOp .add hv s).run Try.prog w = .ok (.string (hv ++ s)) w := fun w => run_string_add_sum _ _ _ (by omega)
                have has : (hv ++ s).size ≤ 1152 := by rw [ByteArray.size_append]; omega
                go_wp2_with fail
                refine Hap.out.mono ?_
                rintro e w4 ⟨rfl, hD4, hf4⟩
                have H4 := hid (And.intro hD4 (HV.out.2.news hf4))
                clear hD4 hf4 Hap
                go_wp2_with fail
                refine (in_Flush H4.out.1 (by omega)).mono ?_
                rw [Hf0.out]
                rintro e w5 ⟨rfl, hD5, hf5⟩
                have H5 := hid (And.intro hD5 (H4.out.2.news hf5))
                clear hD5 hf5
                go_wp2_with fail
                refine (in_Power H5.out.1).mono ?_
                rintro e w6 ⟨rfl, hD6, hf6⟩
                have H6 := hid (And.intro hD6 (H5.out.2.news hf6))
                clear hD6 hf6
                go_wp2_with fail
                refine (area_Read H6.out.1 (by omega) HS6.out.full (1 : Int) hv.size).mono ?_
                rw [stay_read (by decide) H6.out.1.sz HS6.out]
                rintro e w7 ⟨rfl, hf7⟩
                have H7 := hid (And.intro (H6.out.1.nul hf7) (H6.out.2.nul hf7))
                have q7 := HSc.out w7 H7.out.2
                clear hf7
                generalize hv ++ s = all at HS8 hadd has
                go_wp2_with fail
                refine (area_Read H7.out.1 (by omega) HS8.out.full (1 : Int) all.size).mono ?_
                rw [stay_read (by decide) H7.out.1.sz HS8.out]
                rintro e w8 ⟨rfl, hf8⟩
                have H8 := hid (And.intro (H7.out.1.nul hf8) (H7.out.2.nul hf8))
                clear hf8
                go_wp2_with fail
                go_roundg (gk - 1)
                case rel => exact ⟨k + 1, N + 20 + 1, _, all, by have := Hk.out; omega, by omega, by go_num, by omega, rfl, HS8.out, H8.out.1, H8.out.2⟩
                case measure => have := Hk.out; omega
      · have e1 : decide ((k : Int) < (l.length : Int)) = true := decide_eq_true (by omega)
        have e2 : decide ((k : Int) < 30) = false := decide_eq_false (by omega)
        go_wp2_with fail
        go_ret
        exact ⟨rfl, HV.out.2⟩
    · have e1 : decide ((k : Int) < (l.length : Int)) = false := decide_eq_false (by omega)
      go_wp2_with fail
      go_ret
      exact ⟨rfl, HV.out.2⟩

theorem law_AreaStays (which : Bool) (A0 A1 : Option Addr) (c0 c1 : Nat) (cr : List (Int × List UInt8)) (l : List ByteArray) (w : World) (hA : CrashesAt w (· < w.heap.size) A0 cr) (hB : Rd w w.heap.size A1 (l.map .string)) (hl : cr.length ≤ 9223372036854775807) (hll : l.length ≤ 9223372036854775807) :
    Calls Try.prog 10 #[.slice A0 cr.length c0, .slice A1 l.length c1, .bool which] w fun e w' => e = .returned (.bool true) ∧ Nul w w' := by
  cases hlt : lightB cr with
  | false => exact stays_awake _ A0 A1 c0 c1 _ cr _ w hA hl hlt
  | true =>
    cases which with
    | false => exact stays_go0 A0 A1 c0 c1 cr l w hA hB hl hll hlt
    | true => exact stays_go1 A0 A1 c0 c1 cr l w hA hB hl hll hlt
end Go.Proofs.Ytdpffgcekjdneaa
