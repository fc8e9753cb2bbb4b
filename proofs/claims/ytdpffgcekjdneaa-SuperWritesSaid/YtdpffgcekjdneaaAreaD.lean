/-
  Walks: what must come at any rate of areas; in how many sectors bytes lie.
-/
import Derived.Test.YtdpffgcekjdneaaAreaC
import Derived.Test.YtdpffgcekjdneaaAwakeD
set_option linter.all false
namespace Go.Proofs.Ytdpffgcekjdneaa
open Go.RowKit

theorem Dk.full.writes : ∀ (l : List (Int × ByteArray)) {d : Dk}, d.full → (d.writes l).2.full
  | [], _, h => h
  | p :: l, d, h => by
    unfold Dk.writes
    split
    · exact Dk.full.writes l (h.write _ _)
    · exact h.write _ _
theorem Dk.full.append {d : Dk} (h : d.full) (a len : Int) (s : ByteArray) : (d.append a len s).2.full := by
  unfold Dk.append
  split
  · split
    · exact h
    · exact h.writes _
  · exact h
theorem full_new (n : Nat) (cr : List (Int × List UInt8)) : (dk0 n cr).full := fun p hp => by simp [dk0] at hp

section
variable {w0 w : World} {b N : Nat} {d : Dk}
theorem nw_Append (h : DiskIn (w0.heap.size ≤ ·) w b N d) (hw : w0.heap.size ≤ w.heap.size) (hN : N + d.n ≤ 99999) (hfull : d.full) (a len : Int) (s : ByteArray) :
    Calls Try.prog 41 #[.pointer (some ⟨b, 0, none⟩), .int .i64 a, .int .i64 len, .string s] w fun e w' =>
      e = .returned (.int .i64 (d.append a len s).1) ∧ DiskIn (w0.heap.size ≤ ·) w' b (N + d.n) (d.append a len s).2 ∧ Frm (w0.heap.size ≤ ·) w w' := by
  refine (area_Append h hN hfull a len s).mono ?_
  rintro e w' ⟨rfl, hD, hf⟩
  refine ⟨rfl, hD.mono (fun k _ hk => ?_), hf⟩
  rcases hk with hk | hk
  · exact hk
  · exact Nat.le_trans hw hk.1
end

noncomputable def aa1 : Dk := ((dk0 10 []).append 1 0 ⟨#[97, 98, 99]⟩).2
noncomputable def aa2 : Dk := (aa1.append 1 3 ⟨#[100, 101]⟩).2
theorem aa_1 : ((dk0 10 []).append 1 0 ⟨#[97, 98, 99]⟩).1 = 0 := by decide +kernel
theorem aa_2 : (aa1.append 1 3 ⟨#[100, 101]⟩).1 = 0 := by decide +kernel
theorem aa_3 : (aa2.aread 1 5).1 = ⟨#[97, 98, 99, 100, 101]⟩ := by decide +kernel
theorem aa_4 : (aa2.aread 1 5).2 = 0 := by decide +kernel
theorem aa_5 : ((128 * aa2.cnt : Nat) : Int) = 512 := by decide +kernel
theorem aa_6 : aa2.first 1 = 6 := by decide +kernel
theorem aa_7 : secs 127 2 = 2 := by decide +kernel
theorem aa_n1 : aa1.n = 10 := by decide +kernel
theorem aa_n2 : aa2.n = 10 := by decide +kernel

set_option maxRecDepth 100000 in
set_option maxHeartbeats 800000 in
theorem awake23 (w : World) : Calls Try.prog 39 #[] w fun e w' => e = .returned (.bool true) ∧ Nul w w' := by
  have U1 := hid aa_1
  have U2 := hid aa_2
  have U3 := hid aa_3
  have U4 := hid aa_4
  have U5 := hid aa_5
  have U6 := hid aa_6
  have U7 := hid aa_7
  have N1 := hid aa_n1
  have N2 := hid aa_n2
  have HF1 : Hid aa1.full := hid ((full_new 10 []).append _ _ _)
  have HF2 : Hid aa2.full := hid (HF1.out.append _ _ _)
  go_enter Try.func39, Try.ntmps39
  go_wp2_with fail
  refine (in_New (S := fun _ => False) (n := 10) (A := none) (c := 0) (cr := []) (.inl rfl) (by omega) (by omega) (by decide) (by decide)).mono ?_
  rintro e w1 ⟨b, rfl, hD, hf⟩
  have H1 : Hid (DiskIn (w.heap.size ≤ ·) w1 b 0 (dk0 10 []) ∧ Nul w w1) := hid (And.intro (hD.mono (T := (w.heap.size ≤ ·)) (fun k _ hk => ext_none (Nat.le_refl _) k hk)) hf)
  clear hD hf
  go_wp2_with fail
  refine (nw_Append H1.out.1 H1.out.2.size (by show 0 + 10 ≤ 99999; omega) (full_new 10 []) 1 0 ⟨#[97, 98, 99]⟩).mono ?_
  rintro e w2 ⟨he, hD, hf⟩
  rw [U1.out] at he
  subst he
  have H2 : Hid (DiskIn (w.heap.size ≤ ·) w2 b 10 aa1 ∧ Nul w w2) := hid (And.intro hD (H1.out.2.news hf))
  clear hD hf
  go_wp2_with fail
  refine (nw_Append H2.out.1 H2.out.2.size (by rw [N1.out]; omega) HF1.out 1 3 ⟨#[100, 101]⟩).mono ?_
  rintro e w3 ⟨he, hD, hf⟩
  rw [U2.out] at he
  rw [N1.out] at hD
  subst he
  have H3 : Hid (DiskIn (w.heap.size ≤ ·) w3 b 20 aa2 ∧ Nul w w3) := hid (And.intro hD (H2.out.2.news hf))
  clear hD hf
  go_wp2_with fail
  refine (area_Read H3.out.1 (by omega) HF2.out 1 5).mono ?_
  rintro e w4 ⟨he, hf⟩
  rw [U3.out, U4.out] at he
  subst he
  have H4 : Hid (DiskIn (w.heap.size ≤ ·) w4 b 20 aa2 ∧ Nul w w4) := hid (And.intro (H3.out.1.nul hf) (H3.out.2.nul hf))
  clear hf
  go_wp2_with fail
  refine (area_Room H4.out.1).mono ?_
  rintro e w' ⟨he, rfl⟩
  rw [U5.out] at he
  subst he
  go_wp2_with fail
  refine (area_First H4.out.1 1).mono ?_
  rintro e w' ⟨he, rfl⟩
  rw [U6.out] at he
  subst he
  go_wp2_with fail
  refine (area_Sectors 127 2 _ (by omega) (by omega)).mono ?_
  rintro e w' ⟨he, rfl⟩
  rw [U7.out] at he
  subst he
  go_wp2_with fail
  go_ret
  exact ⟨rfl, H4.out.2⟩

theorem i64_eq {a b : Int} (h : a = b) : Value.int .i64 a = .int .i64 b := by rw [h]

set_option maxRecDepth 100000 in
set_option maxHeartbeats 800000 in
theorem counts_awake (f n : Int) (w : World) (h : 1048576 < f ∨ 1048576 < n) :
    Calls Try.prog 9 #[.int .i64 f, .int .i64 n] w fun e w' => e = .returned (.bool true) ∧ Nul w w' := by
  by_cases h1 : 1048576 < f
  · have e1 : decide (1048576 < f) = true := decide_eq_true h1
    clear h
    go_enter Try.func9, Try.ntmps9
    go_wp2_with fail
    refine (awake23 _).mono ?_
    rintro e w1 ⟨rfl, hf⟩
    go_wp2_with fail
    go_ret
    exact ⟨rfl, hf⟩
  · have e1 : decide (1048576 < f) = false := decide_eq_false h1
    have e2 : decide (1048576 < n) = true := decide_eq_true (by omega)
    clear h
    go_enter Try.func9, Try.ntmps9
    go_wp2_with fail
    refine (awake23 _).mono ?_
    rintro e w1 ⟨rfl, hf⟩
    go_wp2_with fail
    go_ret
    exact ⟨rfl, hf⟩

set_option maxRecDepth 100000 in
set_option maxHeartbeats 800000 in
theorem counts_none (f n : Int) (w : World) (h1 : f ≤ 1048576) (h2 : n ≤ 1048576) (h : n < 1 ∨ f < 0) :
    Calls Try.prog 9 #[.int .i64 f, .int .i64 n] w fun e w' => e = .returned (.bool true) ∧ Nul w w' := by
  have HS := hid (fun w => area_Sectors f n w (by omega) (by omega))
  have hs : secs f n = 0 := by unfold secs; rw [if_pos h]
  rw [hs] at HS
  have e1 : decide (1048576 < f) = false := decide_eq_false (by omega)
  have e2 : decide (1048576 < n) = false := decide_eq_false (by omega)
  have H := hid h
  clear hs h
  go_enter Try.func9, Try.ntmps9
  go_wp2_with fail
  go_loopg [5, 6] 0 (fun g k i wr => g = 0 ∧ k = .int .i64 0 ∧ i = .int .i64 0 ∧ Nul w wr)
  case atStart => exact ⟨rfl, rfl, rfl, Frm.refl _ _⟩
  case round =>
    obtain ⟨rfl, rfl, rfl, hf⟩ := hrel
    by_cases h3 : 0 < n
    · have e3 : decide (0 < n) = true := decide_eq_true h3
      have e4 : decide (0 ≤ f) = false := decide_eq_false (by have := H.out; omega)
      go_wp2_with fail
      refine (awake23 _).mono ?_
      rintro e w1 ⟨rfl, hf1⟩
      go_wp2_with fail
      refine (HS.out _).mono ?_
      rintro e w1 ⟨rfl, rfl⟩
      go_wp2_with fail
      go_ret
      exact ⟨rfl, hf.nul hf1⟩
    · have e3 : decide (0 < n) = false := decide_eq_false h3
      go_wp2_with fail
      refine (awake23 _).mono ?_
      rintro e w1 ⟨rfl, hf1⟩
      go_wp2_with fail
      refine (HS.out _).mono ?_
      rintro e w1 ⟨rfl, rfl⟩
      go_wp2_with fail
      go_ret
      exact ⟨rfl, hf.nul hf1⟩

set_option maxRecDepth 100000 in
set_option maxHeartbeats 800000 in
theorem counts_go (f n : Nat) (w : World) (h1 : f ≤ 1048576) (h2 : n ≤ 1048576) (hn : 1 ≤ n) :
    Calls Try.prog 9 #[.int .i64 f, .int .i64 n] w fun e w' => e = .returned (.bool true) ∧ Nul w w' := by
  have HS := hid (fun w => area_Sectors (f : Int) (n : Int) w (by omega) (by omega))
  obtain ⟨m, hm, _, hm1⟩ := secs_cast f n
  rw [hm] at HS
  have Hm := hid (hm1 (by omega))
  have e1 : decide (1048576 < (f : Int)) = false := decide_eq_false (by omega)
  have e2 : decide (1048576 < (n : Int)) = false := decide_eq_false (by omega)
  have e3 : decide (0 ≤ (f : Int)) = true := decide_eq_true (by omega)
  have hf0 : 0 ≤ (f : Int) := by omega
  clear hm hm1
  go_enter Try.func9, Try.ntmps9
  go_wp2_with fail
  go_loopg [5, 6] (n + 128) (fun g k' i' wr => ∃ k i : Nat, k' = .int .i64 k ∧ i' = .int .i64 i ∧ i + g = n + 128 ∧ k ≤ i ∧ (k = 0 ∧ i = 0 ∨ 1 ≤ k ∧ f + i = 128 * (f / 128 + k) ∧ 128 * (f / 128 + k - 1) < f + n) ∧ Nul w wr)
  case atStart => exact ⟨0, 0, rfl, rfl, by omega, by omega, .inl ⟨rfl, rfl⟩, Frm.refl _ _⟩
  case round =>
    obtain ⟨k, i, rfl, rfl, hi, hki, hr, hf⟩ := hrel
    have Hi := hid hi
    have Hr := hid hr
    have hib : i ≤ 1048704 := by omega
    have hkb : k ≤ 1048704 := by omega
    clear hi hr
    by_cases hlt : i < n
    · have e4 : decide ((i : Int) < (n : Int)) = true := decide_eq_true (by omega)
      go_wp2_with fail
      go_roundg (gk - (128 - (f + i) % 128))
      case rel =>
        have h1 := Hi.out
        have h2 := Hr.out
        exact ⟨k + 1, i + 128 - (f + i) % 128, by go_num, i64_eq (by omega), by omega, by omega, .inr ⟨by omega, by omega, by omega⟩, hf⟩
      case measure => have := Hi.out; omega
    · have e4 : decide ((i : Int) < (n : Int)) = false := decide_eq_false (by omega)
      have hkm : k = m := by
        have h1 := Hr.out
        have h2 := Hm.out
        omega
      subst hkm
      go_wp2_with fail
      refine (awake23 _).mono ?_
      rintro e w1 ⟨rfl, hf1⟩
      go_wp2_with fail
      refine (HS.out _).mono ?_
      rintro e w1 ⟨rfl, rfl⟩
      go_wp2_with fail
      go_ret
      exact ⟨rfl, hf.nul hf1⟩

theorem law_AreaCounts (f n : Int) (w : World) :
    Calls Try.prog 9 #[.int .i64 f, .int .i64 n] w fun e w' => e = .returned (.bool true) ∧ Nul w w' := by
  by_cases h : 1048576 < f ∨ 1048576 < n
  · exact counts_awake f n w h
  · by_cases h2 : n < 1 ∨ f < 0
    · exact counts_none f n w (by omega) (by omega) h2
    · obtain ⟨f', rfl⟩ : ∃ k : Nat, f = k := ⟨f.toNat, by omega⟩
      obtain ⟨n', rfl⟩ : ∃ k : Nat, n = k := ⟨n.toNat, by omega⟩
      exact counts_go f' n' w (by omega) (by omega) (by omega)
end Go.Proofs.Ytdpffgcekjdneaa
