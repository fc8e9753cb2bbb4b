/-
  Walks: the statement WideLays.
-/
import Derived.Test.YtokebghephfjhaaCutsA
import Derived.Deep.RegionWith
set_option linter.all false
namespace Go.Proofs.Ytokebghephfjhaa
open Go.RowKit

set_option maxHeartbeats 400000 in
theorem r01_Low (a b : Int) (w : World) : Calls Try.prog 10 #[.int .i64 a, .int .i64 b] w fun e w' => e = .returned (.int .i64 (min a b)) ∧ w = w' := by
  by_cases h : a < b
  · go_enter Try.func10, Try.ntmps10
    go_wp2
    go_ret
    exact ⟨by rw [Int.min_eq_left (by omega)]; rfl, rfl⟩
  · go_enter Try.func10, Try.ntmps10
    go_wp2
    go_ret
    exact ⟨by rw [Int.min_eq_right (by omega)]; rfl, rfl⟩

set_option maxHeartbeats 400000 in
theorem r01_High (a b : Int) (w : World) : Calls Try.prog 9 #[.int .i64 a, .int .i64 b] w fun e w' => e = .returned (.int .i64 (max a b)) ∧ w = w' := by
  by_cases h : b < a
  · go_enter Try.func9, Try.ntmps9
    go_wp2
    go_ret
    exact ⟨by rw [Int.max_eq_left (by omega)]; rfl, rfl⟩
  · go_enter Try.func9, Try.ntmps9
    go_wp2
    go_ret
    exact ⟨by rw [Int.max_eq_right (by omega)]; rfl, rfl⟩

set_option maxHeartbeats 400000 in
theorem r01_Text (s : ByteArray) (w : World) (hs : s.size ≤ 140737488351232) : Calls Try.prog 12 #[.string s] w fun e w' => e = .returned (.string (numS s.size 4 ++ s)) ∧ Nul w w' := by
  have hz : (numS s.size 4).size ≤ 4 := by rw [numS_size]; omega
  go_enter Try.func12, Try.ntmps12
  go_wp2_with fail
  refine (r01_Num s.size 4 w (by omega) (by omega)).mono ?_
  rintro e w1 ⟨rfl, hf1⟩
  go_wp2_with fail
  go_ret
  exact ⟨rfl, hf1⟩

theorem textsS_take (ss : List ByteArray) (k : Nat) (h : k < ss.length) : textsS (ss.take k) ++ (numS (ss[k]).size 4 ++ ss[k]) = textsS (ss.take (k + 1)) := by
  apply ByteArray.ext
  simp [textsS, textsL_take ss k h, numS]

theorem textsS_size (ss : List ByteArray) : (textsS ss).size = (textsL ss).length := by simp [textsS, ByteArray.size]

theorem wval_numS4 (n : Nat) (h : n < 4294967296) : wval (numS n 4) = n := by rw [wval_numS n 4 (by omega)]; omega

theorem app_ext_left (a b : ByteArray) : (a ++ b).extract 0 a.size = a := by
  apply ByteArray.ext
  rw [ByteArray.data_extract, ByteArray.data_append]
  show Array.extract (a.data ++ b.data) 0 a.data.size = a.data
  simp
theorem app_ext_right (a b : ByteArray) : (a ++ b).extract a.size (a ++ b).size = b := by
  apply ByteArray.ext
  have : (a ++ b).size = a.size + b.size := by simp
  rw [this, ByteArray.data_extract, ByteArray.data_append]
  show Array.extract (a.data ++ b.data) a.data.size (a.data.size + b.data.size) = b.data
  rw [Array.extract_append, Nat.sub_self, Nat.add_sub_cancel_left, Array.extract_eq_empty_of_le (by omega), Array.extract_size, Array.empty_append]

theorem takeC_app (a b : ByteArray) : takeC (a ++ b) 0 a.size = (a, b, 0) := by
  unfold takeC
  have : (a ++ b).size = a.size + b.size := by simp
  rw [if_neg (by simp), if_neg (by omega), Int.toNat_natCast, app_ext_left, app_ext_right]

theorem numC_app (n w : Nat) (b : ByteArray) (h1 : 1 ≤ w) (h8 : w ≤ 8) : numC (numS n w ++ b) 0 w = (n % 256 ^ w, b, 0) := by
  unfold numC
  have hz := numS_size n w
  have ht := takeC_app (numS n w) b
  rw [hz] at ht
  rw [if_neg (by omega), ht, wval_numS n w h8]

theorem textC_app (x b : ByteArray) (h : x.size < 4294967296) : textC (numS x.size 4 ++ (x ++ b)) 0 = (x, b, 0) := by
  unfold textC
  have := numC_app x.size 4 (x ++ b) (by omega) (by omega)
  rw [show ((4 : Nat) : Int) = (4 : Int) from rfl] at this
  rw [this]
  have e : x.size % 256 ^ 4 = x.size := by omega
  simp only [e]
  exact takeC_app x b

theorem textsS_drop (ss : List ByteArray) (k : Nat) (h : k < ss.length) (b : ByteArray) : textsS (ss.drop k) ++ b = numS (ss[k]).size 4 ++ (ss[k] ++ (textsS (ss.drop (k + 1)) ++ b)) := by
  rw [List.drop_eq_getElem_cons h]
  apply ByteArray.ext
  simp only [textsS, textsL, numS, List.flatMap_cons, ByteArray.data_append]
  apply Array.ext'
  simp

theorem textC_drop (ss : List ByteArray) (k : Nat) (h : k < ss.length) (b : ByteArray) (hz : (ss[k]).size < 4294967296) :
    textC (textsS (ss.drop k) ++ b) 0 = (ss[k], textsS (ss.drop (k + 1)) ++ b, 0) := by
  rw [textsS_drop ss k h b, textC_app _ _ hz]

theorem textsL_step (ss : List ByteArray) (k : Nat) (h : k < ss.length) : (textsL (ss.take (k + 1))).length = (textsL (ss.take k)).length + 4 + (ss[k]).size := by
  have hsz : (ss[k]).data.toList.length = (ss[k]).size := by simp
  rw [textsL_take ss k h, List.length_append, List.length_append, numL_length, hsz, Nat.add_assoc]

theorem textsL_le (ss : List ByteArray) (h : ∀ (i : Nat) (hi : i < ss.length), (ss[i]).size ≤ 200) : (textsL ss).length ≤ ss.length * 204 := by
  induction ss with
  | nil => simp [textsL]
  | cons s ss ih =>
    have h0 := h 0 (by simp)
    have hsz : s.data.toList.length = s.size := by simp
    have := ih fun i hi => h (i + 1) (by simpa using hi)
    simp only [textsL, List.flatMap_cons, List.length_append, numL_length, hsz, List.length_cons] at this ⊢
    simp only [List.getElem_cons_zero] at h0
    omega

theorem rd_take {w : World} {B : Nat} {A : Option Addr} {cs : List Value} (k : Nat) (h : Rd w B A cs) : Rd w B A (cs.take k) := by
  rcases h with rfl | ⟨b, off, rfl, hb, hc⟩
  · exact .inl (by simp)
  · refine .inr ⟨b, off, rfl, hb, fun i v hv => hc i v ?_⟩
    rw [List.getElem?_take] at hv
    split at hv
    · exact hv
    · cases hv

theorem wide_Texts' (A : Option Addr) (c N : Nat) (ss : List ByteArray) (w : World) (hN : ss.length = N) (hA : Rd w w.heap.size A (ss.map .string)) (hn : (textsL ss).length ≤ 140737488351232) (hl : ss.length ≤ 140737488351232) :
    Calls Try.prog 15 #[.slice A N c] w fun e w' => e = .returned (.string (textsS ss)) ∧ Nul w w' := by
  subst hN
  exact wide_Texts A c ss w hA hn hl

theorem Rd.more {w : World} {B B' : Nat} {A : Option Addr} {cs : List Value} (h : Rd w B A cs) (hB : B ≤ B') : Rd w B' A cs := by
  rcases h with h | ⟨b, off, e, hb, hc⟩
  · exact .inl h
  · exact .inr ⟨b, off, e, Nat.lt_of_lt_of_le hb hB, hc⟩

theorem textsL_drop_le (ss : List ByteArray) (k : Nat) : (textsL (ss.drop k)).length ≤ (textsL ss).length := by
  have h : textsL ss = textsL (ss.take k) ++ textsL (ss.drop k) := by
    rw [textsL, textsL, textsL, ← List.flatMap_append, List.take_append_drop]
  rw [h, List.length_append]; omega

set_option maxHeartbeats 4000000 in
set_option maxRecDepth 100000 in
theorem law_WideLays_small (n : Nat) (W : Int) (A : Option Addr) (c N : Nat) (ss : List ByteArray) (w : World) (hn : n < 18446744073709551616) (hA : Hid (Rd w w.heap.size A (ss.map .string))) (HN : Hid (N = ss.length)) (h20 : N ≤ 20) :
    Calls Try.prog 3 #[.int .u64 n, .int .i64 W, .slice A N c] w fun e w' => e = .returned (.bool true) ∧ Nul w w' := by
  have hkm : max (min W 8) 0 = ((min W.toNat 8 : Nat) : Int) := by omega
  have Hkm := hid hkm
  clear hkm
  go_enter Try.func3, Try.ntmps3
  go_wp2_with fail
  refine (r01_Low W 8 w).mono ?_
  rintro e w' ⟨rfl, rfl⟩
  go_wp2_with fail
  refine (r01_High _ 0 w).mono ?_
  rw [Hkm.out]
  rintro e w' ⟨rfl, rfl⟩
  go_wp2_with fail
  go_loopg [6, 8, 9] N (fun g _ s i wr => ∃ k : Nat, k + g = N ∧ i = .int .i64 k ∧ s = .string (textsS (ss.take k)) ∧ Nul w wr ∧ (textsL (ss.take k)).length ≤ k * 204 ∧ ∀ (i : Nat) (hi : i < ss.length), i < k → (ss[i]).size ≤ 200)
  case atStart => exact ⟨0, by omega, rfl, rfl, Frm.refl _ _, by simp [textsL], fun i _ hi => by omega⟩
  case round =>
    obtain ⟨k, hk, rfl, rfl, hf, hlen, hsm⟩ := hrel
    have Hk := hid hk
    have Hsm := hid hsm
    clear hk hsm
    by_cases hlt : k < N
    · have hks : k < ss.length := by have := HN.out; omega
      obtain ⟨b, off, rfl, hb, hcc⟩ := hA.out.at_ (k := k) (by simpa using hks)
      have hc : wr.cell? ⟨b, off + k, none⟩ = some (.string (ss[k]'hks)) := by
        rw [hf.cell (p := ⟨b, off + k, none⟩) hb (fun hh => hh)]
        exact hcc k _ (by simp [hks])
      clear hcc
      have hstep := hid (textsL_step ss k hks)
      have htk := hid (textsS_take ss k hks)
      have htz := hid (textsS_size (ss.take k))
      generalize hgx : ss[k]'hks = x at hc hstep htk
      have Hgx := hid hgx
      clear hgx
      by_cases h200 : 200 < x.size
      · go_wp2_with fail
        refine (awake01 wr).mono ?_
        rintro e w1 ⟨rfl, hf1⟩
        go_wp2_with fail
        go_ret
        exact ⟨rfl, hf.nul hf1⟩
      · have hz1 : (textsS (ss.take k)).size ≤ 5000 := by have := htz.out; omega
        have hz2 : (numS x.size 4 ++ x).size ≤ 5000 := by simp only [ByteArray.size_append, numS_size]; omega
        go_wp2_with fail
        refine (r01_Text x wr (by omega)).mono ?_
        rintro e w1 ⟨rfl, hf1⟩
        go_wp2_with fail
        go_roundg (gk - 1)
        case rel =>
          refine ⟨k + 1, by have := Hk.out; omega, by go_num, by rw [htk.out], hf.nul hf1, by have := hstep.out; omega, fun i hi hik => ?_⟩
          rcases Nat.lt_succ_iff_lt_or_eq.1 hik with h | h
          · exact Hsm.out i hi h
          · subst h
            rw [Hgx.out]; omega
        case measure => have := Hk.out; omega
    · obtain rfl : N = k := by have := Hk.out; omega
      have hall : ∀ (i : Nat) (hi : i < ss.length), (ss[i]).size ≤ 200 := fun i hi => Hsm.out i hi (by have := HN.out; omega)
      have hle := textsL_le ss hall
      have hle2 : (textsL ss).length ≤ 4080 := by have := HN.out; omega
      have hts : ss.take N = ss := List.take_of_length_le (by have := HN.out; omega)
      rw [hts]
      have Hall := hid hall
      clear hts hall hle hlen Hsm
      go_wp2_with fail
      refine (wide_Num n W wr hn).mono ?_
      rintro e w1 ⟨rfl, hf1⟩
      go_wp2_with fail
      have hr1 : Rd w1 w1.heap.size A (ss.map .string) := ((hA.out.frm (Nat.le_refl _) (hf.nul hf1) (fun _ _ h => h)).more (hf.nul hf1).size)
      have Hr1 := hid hr1
      clear hr1
      refine (wide_Texts' A _ N ss w1 HN.out.symm Hr1.out (by omega) (by have := HN.out; omega)).mono ?_
      rintro e w2 ⟨rfl, hf2⟩
      have hz3 : (textsS ss).size ≤ 5000 := by rw [textsS_size]; omega
      go_wp2_with fail
      refine (wide_On2 _ w2).mono ?_
      rintro e w3 ⟨rfl, hc3, hf3⟩
      go_wp2_with fail
      have hF3 : Nul w w3 := ((hf.nul hf1).nul hf2).nul hf3
      have hB : w.heap.size ≤ w2.heap.size := ((hf.nul hf1).nul hf2).size
      go_loopg [6, 12] N (fun g _ i wr => ∃ j : Nat, j + g = N ∧ i = .int .i64 j ∧ Nul w wr ∧ CutAt wr w2.heap.size (textsS (ss.drop j) ++ ⟨#[101, 110, 100]⟩) 0)
      case atStart => exact ⟨0, by omega, rfl, hF3, by simpa using hc3⟩
      case round =>
        obtain ⟨j, hj, rfl, hfq, hcq⟩ := hrel
        have Hj := hid hj
        clear hj hf1 hf2 hf3 hc3 hF3
        by_cases hlt : j < N
        · have hjs : j < ss.length := by have := HN.out; omega
          obtain ⟨b, off, rfl, hb, hcc⟩ := hA.out.at_ (k := j) (by simpa using hjs)
          have hc : wr.cell? ⟨b, off + j, none⟩ = some (.string (ss[j]'hjs)) := by
            rw [hfq.cell (p := ⟨b, off + j, none⟩) hb (fun hh => hh)]
            exact hcc j _ (by simp [hjs])
          clear hcc
          have htc := hid (textC_drop ss j hjs ⟨#[101, 110, 100]⟩ (by have := Hall.out j hjs; omega))
          have hdz : (textsS (ss.drop j) ++ ⟨#[101, 110, 100]⟩).size ≤ 140737488351232 := by
            simp only [ByteArray.size_append, textsS_size]
            have := textsL_drop_le ss j
            have e3 : (⟨#[101, 110, 100]⟩ : ByteArray).size = 3 := rfl
            omega
          have Hdz := hid hdz
          clear hdz
          generalize hgx : ss[j]'hjs = x at hc htc
          clear hgx
          go_wp2_with fail
          go_region_with (go_at_call 16; refine (cut_Text w2.heap.size _ 0 _ hcq.drew Hdz.out).mono ?_; rw [htc.out]; rintro e w5 ⟨rfl, hc5, hf5⟩; have hcx : w5.cell? ⟨b, off + j, none⟩ = some (.string x) := (hf5.cell (p := ⟨b, off + j, none⟩) (by have := hfq.size; show b < wr.heap.size; omega) (by show b ≠ w2.heap.size; omega)).trans hc)
          all_goals
            go_wp2_with fail
            go_roundg (gk - 1)
            case rel => exact ⟨j + 1, by have := Hj.out; omega, by go_num, hfq.drew.one hf5 (.inl hB), hc5⟩
            case measure => have := Hj.out; omega
        · obtain rfl : N = j := by have := Hj.out; omega
          have hds : ss.drop N = [] := List.drop_eq_nil_of_le (by have := HN.out; omega)
          rw [hds] at hcq
          have hcq' : CutAt wr w2.heap.size ⟨#[101, 110, 100]⟩ 0 := hcq
          clear hcq hds
          go_wp2_with fail
          refine (awake01 wr).mono ?_
          rintro e w5 ⟨rfl, hf5⟩
          go_wp2_with fail
          refine (r01_Num n (min W.toNat 8) w5 (by omega) hn).mono ?_
          rintro e w6 ⟨rfl, hf6⟩
          go_wp2_with fail
          refine (wide_Val _ w6 (by rw [numS_size]; omega)).mono ?_
          rintro e w7 ⟨rfl, rfl⟩
          go_wp2_with fail
          refine (r01_Val _ w6 (by rw [numS_size]; omega)).mono ?_
          rintro e w7 ⟨rfl, rfl⟩
          go_wp2_with fail
          have hF6 : Nul w w6 := (hfq.nul hf5).nul hf6
          have Hr6 := hid ((hA.out.frm (Nat.le_refl _) hF6 (fun _ _ h => h)).more hF6.size)
          refine (wide_Texts' A _ N ss w6 HN.out.symm Hr6.out (by omega) (by have := HN.out; omega)).mono ?_
          rintro e w7 ⟨rfl, hf7⟩
          have hc7 := ((Blk.nul hcq' hf5).nul hf6).nul hf7
          go_wp2_with fail
          refine (cut_Rest _ _ _ w7 hc7).mono ?_
          rintro e w8 ⟨rfl, rfl⟩
          go_wp2_with fail
          refine (cut_Err _ _ _ w7 hc7).mono ?_
          rintro e w8 ⟨rfl, rfl⟩
          go_wp2_with fail
          go_ret
          exact ⟨rfl, hF6.nul hf7⟩

set_option maxHeartbeats 4000000 in
set_option maxRecDepth 100000 in
theorem law_WideLays_big (n : Nat) (W : Int) (A : Option Addr) (c M : Nat) (ss : List ByteArray) (w : World) (hn : n < 18446744073709551616) (hA : Hid (Rd w w.heap.size A (ss.map .string))) (HN : Hid (20 = ss.length)) (h20 : 20 < M) (hM : M ≤ 9223372036854775807) (hc : M ≤ c) (hc2 : c ≤ 9223372036854775807) :
    Calls Try.prog 3 #[.int .u64 n, .int .i64 W, .slice A M c] w fun e w' => e = .returned (.bool true) ∧ Nul w w' := by
  have hkm : max (min W 8) 0 = ((min W.toNat 8 : Nat) : Int) := by omega
  have Hkm := hid hkm
  clear hkm
  go_enter Try.func3, Try.ntmps3
  go_wp2_with fail
  refine (r01_Low W 8 w).mono ?_
  rintro e w' ⟨rfl, rfl⟩
  go_wp2_with fail
  refine (r01_High _ 0 w).mono ?_
  rw [Hkm.out]
  rintro e w' ⟨rfl, rfl⟩
  go_wp2_with fail
  go_loopg [6, 8, 9] 20 (fun g _ s i wr => ∃ k : Nat, k + g = 20 ∧ i = .int .i64 k ∧ s = .string (textsS (ss.take k)) ∧ Nul w wr ∧ (textsL (ss.take k)).length ≤ k * 204 ∧ ∀ (i : Nat) (hi : i < ss.length), i < k → (ss[i]).size ≤ 200)
  case atStart => exact ⟨0, by omega, rfl, rfl, Frm.refl _ _, by simp [textsL], fun i _ hi => by omega⟩
  case round =>
    obtain ⟨k, hk, rfl, rfl, hf, hlen, hsm⟩ := hrel
    have Hk := hid hk
    have Hsm := hid hsm
    clear hk hsm
    by_cases hlt : k < 20
    · have hks : k < ss.length := by have := HN.out; omega
      obtain ⟨b, off, rfl, hb, hcc⟩ := hA.out.at_ (k := k) (by simpa using hks)
      have hc : wr.cell? ⟨b, off + k, none⟩ = some (.string (ss[k]'hks)) := by
        rw [hf.cell (p := ⟨b, off + k, none⟩) hb (fun hh => hh)]
        exact hcc k _ (by simp [hks])
      clear hcc
      have hstep := hid (textsL_step ss k hks)
      have htk := hid (textsS_take ss k hks)
      have htz := hid (textsS_size (ss.take k))
      generalize hgx : ss[k]'hks = x at hc hstep htk
      have Hgx := hid hgx
      clear hgx
      by_cases h200 : 200 < x.size
      · go_wp2_with fail
        refine (awake01 wr).mono ?_
        rintro e w1 ⟨rfl, hf1⟩
        go_wp2_with fail
        go_ret
        exact ⟨rfl, hf.nul hf1⟩
      · have hz1 : (textsS (ss.take k)).size ≤ 5000 := by have := htz.out; omega
        have hz2 : (numS x.size 4 ++ x).size ≤ 5000 := by simp only [ByteArray.size_append, numS_size]; omega
        go_wp2_with fail
        refine (r01_Text x wr (by omega)).mono ?_
        rintro e w1 ⟨rfl, hf1⟩
        go_wp2_with fail
        go_roundg (gk - 1)
        case rel =>
          refine ⟨k + 1, by have := Hk.out; omega, by go_num, by rw [htk.out], hf.nul hf1, by have := hstep.out; omega, fun i hi hik => ?_⟩
          rcases Nat.lt_succ_iff_lt_or_eq.1 hik with h | h
          · exact Hsm.out i hi h
          · subst h
            rw [Hgx.out]; omega
        case measure => have := Hk.out; omega
    · obtain rfl : 20 = k := by have := Hk.out; omega
      have hall : ∀ (i : Nat) (hi : i < ss.length), (ss[i]).size ≤ 200 := fun i hi => Hsm.out i hi (by have := HN.out; omega)
      have hle := textsL_le ss hall
      have hle2 : (textsL ss).length ≤ 4080 := by have := HN.out; omega
      have hts : ss.take 20 = ss := List.take_of_length_le (by have := HN.out; omega)
      rw [hts]
      have Hall := hid hall
      clear hts hall hle hlen Hsm
      go_wp2_with fail
      refine (wide_Num n W wr hn).mono ?_
      rintro e w1 ⟨rfl, hf1⟩
      go_wp2_with fail
      have hr1 : Rd w1 w1.heap.size A (ss.map .string) := ((hA.out.frm (Nat.le_refl _) (hf.nul hf1) (fun _ _ h => h)).more (hf.nul hf1).size)
      have Hr1 := hid hr1
      clear hr1
      refine (wide_Texts' A _ 20 ss w1 HN.out.symm Hr1.out (by omega) (by have := HN.out; omega)).mono ?_
      rintro e w2 ⟨rfl, hf2⟩
      have hz3 : (textsS ss).size ≤ 5000 := by rw [textsS_size]; omega
      go_wp2_with fail
      refine (wide_On2 _ w2).mono ?_
      rintro e w3 ⟨rfl, hc3, hf3⟩
      go_wp2_with fail
      have hF3 : Nul w w3 := ((hf.nul hf1).nul hf2).nul hf3
      have hB : w.heap.size ≤ w2.heap.size := ((hf.nul hf1).nul hf2).size
      go_loopg [6, 12] 20 (fun g _ i wr => ∃ j : Nat, j + g = 20 ∧ i = .int .i64 j ∧ Nul w wr ∧ CutAt wr w2.heap.size (textsS (ss.drop j) ++ ⟨#[101, 110, 100]⟩) 0)
      case atStart => exact ⟨0, by omega, rfl, hF3, by simpa using hc3⟩
      case round =>
        obtain ⟨j, hj, rfl, hfq, hcq⟩ := hrel
        have Hj := hid hj
        clear hj hf1 hf2 hf3 hc3 hF3
        by_cases hlt : j < 20
        · have hjs : j < ss.length := by have := HN.out; omega
          obtain ⟨b, off, rfl, hb, hcc⟩ := hA.out.at_ (k := j) (by simpa using hjs)
          have hc : wr.cell? ⟨b, off + j, none⟩ = some (.string (ss[j]'hjs)) := by
            rw [hfq.cell (p := ⟨b, off + j, none⟩) hb (fun hh => hh)]
            exact hcc j _ (by simp [hjs])
          clear hcc
          have htc := hid (textC_drop ss j hjs ⟨#[101, 110, 100]⟩ (by have := Hall.out j hjs; omega))
          have hdz : (textsS (ss.drop j) ++ ⟨#[101, 110, 100]⟩).size ≤ 140737488351232 := by
            simp only [ByteArray.size_append, textsS_size]
            have := textsL_drop_le ss j
            have e3 : (⟨#[101, 110, 100]⟩ : ByteArray).size = 3 := rfl
            omega
          have Hdz := hid hdz
          clear hdz
          generalize hgx : ss[j]'hjs = x at hc htc
          clear hgx
          go_wp2_with fail
          go_region_with (go_at_call 16; refine (cut_Text w2.heap.size _ 0 _ hcq.drew Hdz.out).mono ?_; rw [htc.out]; rintro e w5 ⟨rfl, hc5, hf5⟩; have hcx : w5.cell? ⟨b, off + j, none⟩ = some (.string x) := (hf5.cell (p := ⟨b, off + j, none⟩) (by have := hfq.size; show b < wr.heap.size; omega) (by show b ≠ w2.heap.size; omega)).trans hc)
          all_goals
            go_wp2_with fail
            go_roundg (gk - 1)
            case rel => exact ⟨j + 1, by have := Hj.out; omega, by go_num, hfq.drew.one hf5 (.inl hB), hc5⟩
            case measure => have := Hj.out; omega
        · obtain rfl : 20 = j := by have := Hj.out; omega
          have hds : ss.drop 20 = [] := List.drop_eq_nil_of_le (by have := HN.out; omega)
          rw [hds] at hcq
          have hcq' : CutAt wr w2.heap.size ⟨#[101, 110, 100]⟩ 0 := hcq
          clear hcq hds
          go_wp2_with fail
          refine (awake01 wr).mono ?_
          rintro e w5 ⟨rfl, hf5⟩
          go_wp2_with fail
          refine (r01_Num n (min W.toNat 8) w5 (by omega) hn).mono ?_
          rintro e w6 ⟨rfl, hf6⟩
          go_wp2_with fail
          refine (wide_Val _ w6 (by rw [numS_size]; omega)).mono ?_
          rintro e w7 ⟨rfl, rfl⟩
          go_wp2_with fail
          refine (r01_Val _ w6 (by rw [numS_size]; omega)).mono ?_
          rintro e w7 ⟨rfl, rfl⟩
          go_wp2_with fail
          have hF6 : Nul w w6 := (hfq.nul hf5).nul hf6
          have Hr6 := hid ((hA.out.frm (Nat.le_refl _) hF6 (fun _ _ h => h)).more hF6.size)
          refine (wide_Texts' A _ 20 ss w6 HN.out.symm Hr6.out (by omega) (by have := HN.out; omega)).mono ?_
          rintro e w7 ⟨rfl, hf7⟩
          have hc7 := ((Blk.nul hcq' hf5).nul hf6).nul hf7
          go_wp2_with fail
          refine (cut_Rest _ _ _ w7 hc7).mono ?_
          rintro e w8 ⟨rfl, rfl⟩
          go_wp2_with fail
          refine (cut_Err _ _ _ w7 hc7).mono ?_
          rintro e w8 ⟨rfl, rfl⟩
          go_wp2_with fail
          go_ret
          exact ⟨rfl, hF6.nul hf7⟩
end Go.Proofs.Ytokebghephfjhaa
