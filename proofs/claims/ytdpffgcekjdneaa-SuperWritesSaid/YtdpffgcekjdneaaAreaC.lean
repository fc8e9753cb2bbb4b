/-
  Walks: appending bytes of an area.
-/
import Derived.Test.YtdpffgcekjdneaaAreaB
set_option linter.all false
namespace Go.Proofs.Ytdpffgcekjdneaa
open Go.RowKit

theorem area_part' (x : Int) (g i : Nat) (all : ByteArray) (w : World) (hx : x = i) (hg : Blk w g 9 [.string all]) (hi : i * 128 ≤ all.size) (hs : all.size ≤ 140737488351232) :
    Calls Try.prog 63 #[.int .i64 x, .pointer (some ⟨g, 0, none⟩)] w fun e w' => e = .returned (.string (partS all i)) ∧ w = w' := by
  subst hx
  exact area_part g i all w hg hi hs
theorem DiskIn.up {S : Nat → Prop} {w : World} {b N M : Nat} {d : Dk} (h : DiskIn S w b N d) (hN : N ≤ M) : DiskIn S w b M d := by
  obtain ⟨F, G, h1, h2, h3, h4⟩ := h
  exact ⟨F, G, h1, h2, h3, h4.mono hN⟩
theorem first_n {d d' : Dk} (h : d'.n = d.n) (a : Int) : d'.first a = d.first a := by
  unfold Dk.first Dk.cnt
  rw [h]

section
variable {S : Nat → Prop} {w : World} {b N : Nat} {d : Dk}
set_option maxRecDepth 100000 in
set_option maxHeartbeats 1600000 in
theorem area_Append_go (h : DiskIn S w b N d) (hN : N + d.n ≤ 99999) (hfull : d.full) (a len : Int) (s : ByteArray) (hc : d.chk a len = 0) (hr : ¬ ((128 * d.cnt : Nat) : Int) - len < s.size) :
    Calls Try.prog 41 #[.pointer (some ⟨b, 0, none⟩), .int .i64 a, .int .i64 len, .string s] w fun e w' =>
      e = .returned (.int .i64 (d.append a len s).1) ∧ DiskIn (ext S w w') w' b (N + d.n) (d.append a len s).2 ∧ Frm S w w' := by
  have HC := hid (area_check h a len)
  have HRo := hid (area_Room h)
  have HRd := hid (area_Read_ok h (by omega) hfull a len hc)
  have hrs : (d.append a len s) = d.writes (parts (d.first a) (len.toNat / 128) (d.head (d.first a) len.toNat ++ s) (secs len s.size).toNat) := by
    unfold Dk.append
    rw [if_pos hc, if_neg hr]
  rw [hrs]
  rw [hc] at HC
  obtain ⟨hd, ha, hcn, hfi, hl0, hl⟩ := chk_ok hc
  have hin := first_in ha hcn hfi
  have hnn : d.n ≤ 65536 := h.sz.1
  have hcn2 : d.cnt ≤ 32768 := by unfold Dk.cnt; omega
  obtain ⟨L, rfl⟩ : ∃ L : Nat, len = (L : Int) := ⟨len.toNat, by omega⟩
  have hhs := head_size (len := L) h.sz hfull hc
  rw [show ((L : Nat) : Int).toNat = L from by omega] at HRd ⊢
  obtain ⟨m, hm, hm0, hm1⟩ := secs_cast L s.size
  have HS := hid (fun w => area_Sectors (L : Int) (s.size : Int) w (by omega) (by omega))
  rw [hm] at HS ⊢
  rw [show ((m : Nat) : Int).toNat = m from by omega]
  have hall : (d.head (d.first a) L ++ s).size = L + s.size := by rw [ByteArray.size_append, hhs]
  obtain ⟨f, hf⟩ : ∃ f, d.first a = f := ⟨_, rfl⟩
  rw [hf] at hin HRd hall ⊢
  have Hf := hid hf
  have hadd : ∀ w, (Op.stringOp .add (d.head f L) s).run Try.prog w = .ok (.string (d.head f L ++ s)) w := fun w => run_string_add_sum _ _ _ (by
    rw [hf] at hhs
    omega)
  generalize d.head f L ++ s = all at hadd hall ⊢
  generalize hroom : ((128 * d.cnt : Nat) : Int) = room at HRo hr hl
  obtain ⟨q, hq⟩ : ∃ q : Nat, L / 128 = q := ⟨_, rfl⟩
  rw [hq] at hm1 ⊢
  have Hm0 := hid hm0
  have Hm1 := hid hm1
  have hmc : m ≤ d.cnt := by
    rcases Nat.eq_zero_or_pos s.size with h0 | h0
    · rw [hm0 h0]; omega
    · have := hm1 h0; omega
  have Hpart : Hid (∀ k, k < m → (q + k) * 128 ≤ all.size) := hid (fun k hk => by
    rcases Nat.eq_zero_or_pos s.size with h0 | h0
    · have := hm0 h0; omega
    · have := hm1 h0; omega)
  have hallb : all.size ≤ 140737488351232 := by omega
  have Hallb := hid hallb
  have hq' : (L : Int) / 128 = (q : Int) := by omega
  have hf1 : 0 ≤ f := by omega
  have hf2 : f + d.cnt ≤ 65536 := by omega
  have hq2 : q ≤ 32768 := by omega
  have hmm : m ≤ 32768 := by omega
  have hr0 : 0 ≤ room := by omega
  have hr1 : room ≤ 4194304 := by omega
  have hr2 : decide (room - (L : Int) < (s.size : Int)) = false := decide_eq_false (by omega)
  have hfb : f ≤ 65536 := by omega
  have Hmn : Hid (m ≤ d.n) := hid (by omega)
  have H := hid h
  have hsL : (L : Int) ≤ 4194304 := by omega
  clear hc hfi hin hm hd ha h hrs hm0 hm1 hcn hhs hall hl hr hf hq hroom hallb
  go_enter Try.func41, Try.ntmps41
  go_wp2_with fail
  refine HC.out.mono ?_
  rintro e w' ⟨rfl, rfl⟩
  go_wp2_with fail
  refine HRo.out.mono ?_
  rintro e w' ⟨rfl, rfl⟩
  go_wp2_with fail
  refine HRd.out.mono ?_
  rintro e w1 ⟨rfl, hf1'⟩
  have H1 := hid hf1'
  clear hf1'
  go_wp2_with fail
  refine (HS.out _).mono ?_
  rintro e w' ⟨rfl, rfl⟩
  go_wp2_with fail
  clear hadd
  have HB : Hid (Blk (w1.alloc (.cells #[.string all] 9)) w1.heap.size 9 [.string all]) := hid (Blk.new w1 _ _)
  have HD1 : Hid (DiskIn (fun k => S k ∧ k < w.heap.size) (w1.alloc (.cells #[.string all] 9)) b N d) := hid ((H.out.mono (fun k hk h => ⟨h, hk⟩)).nul (H1.out.alloc _))
  have HW1 : Hid (w.heap.size ≤ w1.heap.size ∧ Nul w (w1.alloc (.cells #[.string all] 9))) := hid ⟨H1.out.size, H1.out.alloc _⟩
  generalize hw2 : w1.alloc (.cells #[.string all] 9) = w2 at HB HD1 HW1 ⊢
  clear hw2
  go_loopg [15, 16, 51] m (fun g _ _ r wr => ∃ (k : Nat) (dk : Dk), k + g = m ∧ r = .int .i64 k ∧ DiskIn (ext (fun k => S k ∧ k < w.heap.size) w2 wr) wr b (N + k) dk ∧ Frm (fun k => S k ∧ k < w.heap.size) w2 wr ∧ dk.n = d.n ∧ d.writes (parts f q all m) = dk.writes ((parts f q all m).drop k))
  case atStart => exact ⟨0, d, by omega, rfl, HD1.out.mono (fun k _ h => .inl h), Frm.refl _ _, rfl, rfl⟩
  case round =>
    obtain ⟨k, dk, hk, rfl, hD, hF, hn, hW⟩ := hrel
    have Hk := hid hk
    have HD := hid hD
    have HF := hid hF
    have Hn := hid hn
    have HW := hid hW
    clear hk hD hF hn hW
    have hgB : Blk wr w1.heap.size 9 [.string all] := HB.out.frm HF.out (fun hh => by have := hh.2; have := HW1.out.1; omega)
    have HgB := hid hgB
    clear hgB
    by_cases hlt : k < m
    · have e1 : decide ((k : Int) < (m : Int)) = true := decide_eq_true (by omega)
      have hff := first_n Hn.out a
      rw [Hf.out] at hff
      have HFi := hid (area_First HD.out a)
      rw [hff] at HFi
      have HPa := hid (area_part' ((q : Int) + k) w1.heap.size (q + k) all wr (by omega) HgB.out (Hpart.out k hlt) Hallb.out)
      have hwr := HW.out
      rw [parts_drop f q all m k hlt] at hwr
      have Hwr := hid hwr
      have HWr := hid (in_Write HD.out (by have := Hmn.out; omega) (f + q + k) (partS all (q + k)))
      clear hff hwr
      go_wp2_with fail
      refine HFi.out.mono ?_
      rintro e w' ⟨rfl, rfl⟩
      go_wp2_with fail
      refine HPa.out.mono ?_
      rintro e w' ⟨rfl, rfl⟩
      go_wp2_with fail
      refine HWr.out.mono ?_
      rintro e w3 ⟨rfl, hD3, hF3⟩
      have HD3 := hid hD3
      have HF3 := hid hF3
      clear hD3 hF3
      generalize hp : partS all (q + k) = p at HWr HPa Hwr HD3
      generalize hx : dk.write (f + q + k) p = x at HWr Hwr HD3 ⊢
      obtain ⟨c, d3⟩ := x
      have HD4 : Hid (DiskIn (ext (fun k => S k ∧ k < w.heap.size) w2 w3) w3 b (N + (k + 1)) d3) := hid (HD3.out.mono (fun j hj h => by
        have hs1 := HF.out.size
        have hs3 := HF3.out.size
        rcases h with h | h
        · exact ext_mono hs3 j h
        · exact .inr ⟨by omega, h.2⟩))
      have HF4 : Hid (Frm (fun k => S k ∧ k < w.heap.size) w2 w3) := hid (HF.out.ext HF3.out)
      have Hn4 : Hid (d3.n = d.n) := hid (by
        have := write_n dk (f + q + k) p
        rw [hx] at this
        exact this.trans Hn.out)
      by_cases hc0 : c = 0
      · subst hc0
        go_wp2_with fail
        go_roundg (gk - 1)
        case rel =>
          refine ⟨k + 1, d3, by have := Hk.out; omega, by go_num, HD4.out, HF4.out, Hn4.out, ?_⟩
          rw [Hwr.out, Dk.writes, hx, if_pos rfl]
        case measure => have := Hk.out; omega
      · have b0 : (c == 0) = false := by simpa using hc0
        have b1 : (c != 0) = true := by simpa using hc0
        have Hc0 := hid hc0
        clear hc0
        go_wp2_with fail
        go_ret
        have hfin : d.writes (parts f q all m) = (c, d3) := by rw [Hwr.out, Dk.writes, hx, if_neg Hc0.out]
        rw [hfin]
        refine ⟨rfl, (HD4.out.mono (fun j hj h => ?_)).up (by have := Hmn.out; omega), ?_⟩
        · rcases h with h | h
          · exact .inl h.1
          · have := HW1.out.2.size
            exact .inr ⟨by omega, h.2⟩
        · exact (Frm.of_nul HW1.out.2).next HF4.out (fun j hj h => h.1)
    · obtain rfl : k = m := by have := Hk.out; omega
      have e1 : decide ((k : Int) < (k : Int)) = false := decide_eq_false (by omega)
      go_wp2_with fail
      go_ret
      have hfin : d.writes (parts f q all k) = (0, dk) := by
        rw [HW.out, List.drop_of_length_le (by rw [parts_length]; omega)]
        rfl
      rw [hfin]
      refine ⟨rfl, (HD.out.mono (fun j hj h => ?_)).up (by have := Hmn.out; omega), ?_⟩
      · rcases h with h | h
        · exact .inl h.1
        · have := HW1.out.2.size
          exact .inr ⟨by omega, h.2⟩
      · exact (Frm.of_nul HW1.out.2).next HF.out (fun j hj h => h.1)

theorem area_Append (h : DiskIn S w b N d) (hN : N + d.n ≤ 99999) (hfull : d.full) (a len : Int) (s : ByteArray) :
    Calls Try.prog 41 #[.pointer (some ⟨b, 0, none⟩), .int .i64 a, .int .i64 len, .string s] w fun e w' =>
      e = .returned (.int .i64 (d.append a len s).1) ∧ DiskIn (ext S w w') w' b (N + d.n) (d.append a len s).2 ∧ Frm S w w' := by
  by_cases hc : d.chk a len = 0
  · by_cases hr : ((128 * d.cnt : Nat) : Int) - len < s.size
    · have HC := hid (area_check h a len)
      have HRo := hid (area_Room h)
      have hrs : d.append a len s = (13, d) := by
        unfold Dk.append
        rw [if_pos hc, if_pos hr]
      rw [hrs]
      rw [hc] at HC
      obtain ⟨hd, ha, hcn, hfi, hl0, hl⟩ := chk_ok hc
      have hnn : d.n ≤ 65536 := h.sz.1
      have hcn2 : ((128 * d.cnt : Nat) : Int) ≤ 4194304 := by unfold Dk.cnt; omega
      generalize ((128 * d.cnt : Nat) : Int) = room at HRo hr hl hcn2
      have hr2 : decide (room - len < (s.size : Int)) = true := decide_eq_true hr
      have hr0 : -4194304 ≤ room - len := by omega
      have H := hid h
      clear hc h hrs hr hd ha hcn hfi
      go_enter Try.func41, Try.ntmps41
      go_wp2_with fail
      refine HC.out.mono ?_
      rintro e w' ⟨rfl, rfl⟩
      go_wp2_with fail
      refine HRo.out.mono ?_
      rintro e w' ⟨rfl, rfl⟩
      go_wp2_with fail
      go_ret
      exact ⟨rfl, (H.out.mono (fun k hk h => .inl h)).up (by omega), Frm.refl _ _⟩
    · exact area_Append_go h hN hfull a len s hc hr
  · have HC := hid (area_check h a len)
    have hrs : d.append a len s = (d.chk a len, d) := by
      unfold Dk.append
      rw [if_neg hc]
    rw [hrs]
    generalize d.chk a len = c at hc HC
    have e1 : (c == 0) = false := by simpa using hc
    have e2 : (c != 0) = true := by simpa using hc
    have H := hid h
    clear hc h hrs
    go_enter Try.func41, Try.ntmps41
    go_wp2_with fail
    refine HC.out.mono ?_
    rintro e w' ⟨rfl, rfl⟩
    go_wp2_with fail
    go_ret
    exact ⟨rfl, (H.out.mono (fun k hk h => .inl h)).up (by omega), Frm.refl _ _⟩
end
theorem area_Append_nil (a len : Int) (s : ByteArray) (w : World) : Calls Try.prog 41 #[.pointer none, .int .i64 a, .int .i64 len, .string s] w fun e w' => e = .returned (.int .i64 1) ∧ w = w' := by
  go_enter Try.func41, Try.ntmps41
  go_wp2_with fail
  refine (area_check_nil _ _ _).mono ?_
  rintro e w' ⟨rfl, rfl⟩
  go_wp2_with fail
  go_ret
  exact ⟨rfl, rfl⟩
end Go.Proofs.Ytdpffgcekjdneaa
