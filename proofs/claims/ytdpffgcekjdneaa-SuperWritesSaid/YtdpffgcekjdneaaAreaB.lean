/-
  Walks: reading bytes of an area.
-/
import Derived.Test.YtdpffgcekjdneaaAreaP
import Derived.Lib.AppendStr
set_option linter.all false
namespace Go.Proofs.Ytdpffgcekjdneaa
open Go.RowKit

def byteV (b : UInt8) : Value := .int .u8 b.toNat
theorem strCells_byteV (s : ByteArray) : Lib.strCells s = s.data.toList.map byteV := rfl

/-- What the first bytes of a slice of the call's own read as. -/
theorem own_prefix {P : Program} {w : World} {base : Nat} {A : Option Addr} {c n L : Nat} {l : List UInt8} (src dst e : TypeId) (hs : P.underlying src = some (.slice e)) (he : P.underlying e = some (.int .u8)) (hd : P.underlying dst = some .string)
    (h : w.ownsRow base e 1 (.slice A n c) n (l.map byteV)) (hL : L ≤ n) : (convert src dst (.slice A L c)).run P w = .ok (.string ⟨(l.take L).toArray⟩) w := by
  have hl : l.length = n := by have := h.1; simpa using this
  rcases h.2 with ⟨h1, h2⟩ | ⟨g, cap, cur, h1, hb, hg, _⟩
  · obtain rfl : l = [] := List.eq_nil_of_length_eq_zero (by rw [hl]; simpa using h2)
    injection h1 with h1 h3 h4
    subst h1
    rw [List.take_nil]
    exact run_convert_bytes_nil w src e hs he L c dst hd
  · injection h1 with h1 h3 h4
    subst h1
    subst hl
    obtain ⟨ll, hll⟩ : ∃ ll, ll = l.take L := ⟨_, rfl⟩
    have key : ∀ k, ll.length = k → (convert src dst (.slice (some ⟨g, 0, none⟩) k c)).run P w = .ok (.string ⟨ll.toArray⟩) w := by
      rintro _ rfl
      refine run_convert_bytes_back w src dst e _ c ll hs he hd fun j hj => ?_
      have hj' : j < l.length := by have := hj; rw [hll, List.length_take] at this; omega
      have := h.cells (g := g) rfl j (.int .u8 (l[j].toNat : Int)) (by simp [hj', byteV])
      rw [show ll[j] = l[j] from by simp [hll]]
      exact this
    rw [← hll]
    exact key L (by rw [hll]; simp [hL])

theorem own_cap {w : World} {base e n c : Nat} {A : Option Addr} {xs : List Value} (h : w.ownsRow base e 1 (.slice A n c) n xs) : n ≤ c := by
  rcases h.2 with ⟨h1, h2⟩ | ⟨g, cap, cur, h1, hb, hg, hc, _⟩
  · injection h1 with h1 h3 h4
    omega
  · injection h1 with h1 h3 h4
    omega

section
variable {S : Nat → Prop} {w : World} {b N : Nat} {d : Dk}
set_option maxRecDepth 100000 in
set_option maxHeartbeats 800000 in
theorem area_Read_ok (h : DiskIn S w b N d) (hN : N ≤ 100000) (hfull : d.full) (a len : Int) (hc : d.chk a len = 0) :
    Calls Try.prog 42 #[.pointer (some ⟨b, 0, none⟩), .int .i64 a, .int .i64 len] w fun e w' => e = .returned (.tuple #[.string (d.head (d.first a) len.toNat), .int .i64 0]) ∧ Nul w w' := by
  obtain ⟨i0, hi, hz0, hz1, hz2⟩ := info_parts info_u8
  have HC := hid (area_check h a len)
  have HF := hid (fun w (h : DiskIn S w b N d) => area_First h a)
  rw [hc] at HC
  obtain ⟨hd, ha, hcn, hfi, hl0, hl⟩ := chk_ok hc
  have hin := first_in ha hcn hfi
  have hnn : d.n ≤ 65536 := h.sz.1
  obtain ⟨L, rfl⟩ : ∃ L : Nat, len = (L : Int) := ⟨len.toNat, by omega⟩
  have hm := sN_le (len := L) (c := d.cnt) (by omega)
  have hmL := sN_ge L
  have HS := hid (fun w => area_Sectors 0 (L : Int) w (by omega) (by omega))
  rw [secs_0] at HS
  have HL : Hid (∀ k, k ≤ sN L → (rdCat d (d.first a) k).length = 128 * k) := hid (fun k hk => rdCat_length h.sz hfull hd (by omega) k (by omega))
  have HR : Hid (∀ k : Nat, k < sN L → ∃ y, d.read (d.first a + k) = (y, 0) ∧ y.size = 128) := hid (fun k hk => ⟨_, read_ok hd (by omega) (by omega), by
    have := read_size h.sz hfull hd (s := d.first a + k) (by omega) (by omega)
    rw [read_ok hd (by omega) (by omega)] at this
    exact this⟩)
  have hg : (((L : Nat) : Int)).toNat = L := by omega
  rw [hg]
  unfold Dk.head
  have hm0 : sN L = 0 → L = 0 := by unfold sN; omega
  generalize sN L = m at hm hmL HS HL HR hm0 ⊢
  obtain ⟨f, hf⟩ : ∃ f, d.first a = f := ⟨_, rfl⟩
  rw [hf] at hin HF HL HR ⊢
  have hf1 := hin.1
  have hf2 : f + m ≤ 65536 := by omega
  have hm3 : m ≤ 65536 := by omega
  have Hm0 := hid hm0
  have H := hid h
  clear hc hfi hin hm hg hl hf hd ha h hm0
  go_enter Try.func42, Try.ntmps42
  go_wp2_with fail
  refine HC.out.mono ?_
  rintro e w' ⟨rfl, rfl⟩
  go_wp2_with fail
  refine (HF.out _ H.out).mono ?_
  rintro e w' ⟨rfl, rfl⟩
  go_wp2_with fail
  refine (HS.out _).mono ?_
  rintro e w' ⟨rfl, rfl⟩
  go_wp2_with fail
  go_loopg [9, 11, 12, 13, 26] m (fun g out _ _ _ r wr => ∃ k : Nat, k + g = m ∧ r = .int .i64 k ∧ wr.ownsRow w.heap.size 5 1 out (128 * k) ((rdCat d f k).map byteV) ∧ Nul w wr)
  case atStart => exact ⟨0, by omega, rfl, World.ownsRow_nil _ _ _ _, Frm.refl _ _⟩
  case round =>
    obtain ⟨k, hk, rfl, hown, hfr⟩ := hrel
    have Hk := hid hk
    have HW := hid (And.intro hown hfr)
    clear hk hown hfr
    by_cases hlt : k < m
    · have e1 : decide ((k : Int) < (m : Int)) = true := decide_eq_true (by omega)
      obtain ⟨y, hy, hys⟩ := HR.out k hlt
      have Hy := hid hy
      have Hys := hid hys
      clear hy hys
      go_wp2_with fail
      refine (in_Read (H.out.nul HW.out.2) hN _).mono ?_
      rw [Hy.out]
      rintro e w1 ⟨rfl, hf1⟩
      have hown1 := own_nul HW.out.1 hf1
      have hfr1 := HW.out.2.nul hf1
      have HB1 := hid (show 128 * k + y.size ≤ maxLen from by rw [Hys.out]; simp only [maxLen]; omega)
      have HB2 := hid (show 128 * k + y.size ≤ 140737488355328 from by rw [Hys.out]; omega)
      have HB3 := hid hfr1.size
      clear hf1
      go_wp2_with (refine Lib.wpList_append_own_string _ rfl (.tmp 40) (.tmp 41) _ _ rfl w.heap.size 5 i0 Try.underlying47 Try.underlying9 hi hz0 hz1 hz2 _ (128 * k) _ rfl hown1 y rfl HB1.out HB2.out HB3.out ?_; intro v2 w2 hown2 hgr2 _)
      obtain ⟨A2, c2, rfl⟩ := own_shape hown2
      have HW2 := hid (And.intro hown2 (hfr1.grown hgr2 (fun j hj => .inl (hown1.lt j hj).1)))
      clear hown1 hown2 hgr2 hfr1
      go_wp2_with fail
      go_roundg (gk - 1)
      case rel =>
        have h2 := HW2.out.1
        rw [strCells_byteV, ← List.map_append] at h2
        refine ⟨k + 1, by have := Hk.out; omega, by go_num, ?_, HW2.out.2⟩
        show World.ownsRow _ _ _ _ _ (128 * (k + 1)) ((rdCat d f k ++ (d.read (f + k)).1.data.toList).map byteV)
        rw [Hy.out, show 128 * (k + 1) = 128 * k + y.size from by rw [Hys.out]; omega]
        exact h2
      case measure => have := Hk.out; omega
    · obtain rfl : k = m := by have := Hk.out; omega
      have hown := HW.out.1
      obtain ⟨A2, c2, rfl⟩ := own_shape hown
      have hcap := own_cap hown
      have hL : L ≤ c2 := by omega
      have hL0 : (0 : Int) ≤ (L : Int) := by omega
      have hcv := own_prefix (P := Try.prog) 47 9 5 Try.underlying47 Try.underlying5 Try.underlying9 hown hmL
      rcases hown.2 with ⟨h1, h2⟩ | ⟨g, cap, cur, h1, hb, hg, _⟩
      · injection h1 with h1 h3 h4
        subst h1
        obtain rfl : L = 0 := Hm0.out (by omega)
        subst h4
        clear hown h2 h3 hcap hL hmL
        go_wp2_with fail
        go_ret2
        exact ⟨rfl, HW.out.2⟩
      · injection h1 with h1 h3 h4
        subst h1
        clear hown hg hcap h3 hmL h4 hb
        go_wp2_with fail
        go_ret2
        exact ⟨rfl, HW.out.2⟩

theorem area_Read (h : DiskIn S w b N d) (hN : N ≤ 100000) (hfull : d.full) (a len : Int) :
    Calls Try.prog 42 #[.pointer (some ⟨b, 0, none⟩), .int .i64 a, .int .i64 len] w fun e w' => e = .returned (.tuple #[.string (d.aread a len).1, .int .i64 (d.aread a len).2]) ∧ Nul w w' := by
  by_cases hc : d.chk a len = 0
  · have := area_Read_ok h hN hfull a len hc
    unfold Dk.aread
    rw [if_pos hc]
    exact this
  · have HC := hid (area_check h a len)
    unfold Dk.aread
    rw [if_neg hc]
    generalize d.chk a len = c at hc HC
    have e1 : (c == 0) = false := by simpa using hc
    have e2 : (c != 0) = true := by simpa using hc
    clear hc h
    go_enter Try.func42, Try.ntmps42
    go_wp2_with fail
    refine HC.out.mono ?_
    rintro e w' ⟨rfl, rfl⟩
    go_wp2_with fail
    go_ret2
    exact ⟨rfl, Frm.refl _ _⟩
end

/-- The part of a sector, out of what an append's closure holds. -/
theorem area_part (g i : Nat) (all : ByteArray) (w : World) (hg : Blk w g 9 [.string all]) (hi : i * 128 ≤ all.size) (hs : all.size ≤ 140737488351232) :
    Calls Try.prog 63 #[.int .i64 i, .pointer (some ⟨g, 0, none⟩)] w fun e w' => e = .returned (.string (partS all i)) ∧ w = w' := by
  have hc : w.cell? ⟨g, 0, none⟩ = some (.string all) := hg.cell 0
  have HP : Hid (partS all i = all.extract (i * 128) (min ((i + 1) * 128) all.size)) := hid rfl
  rw [HP.out]
  clear hg HP
  by_cases h1 : (i + 1) * 128 ≤ all.size
  · have HM : Hid (min ((i + 1) * 128) all.size = (i + 1) * 128) := hid (by omega)
    rw [HM.out]
    go_enter Try.func63, Try.ntmps63
    go_wp2
    go_ret
    exact ⟨rfl, rfl⟩
  · have HM : Hid (min ((i + 1) * 128) all.size = all.size) := hid (by omega)
    rw [HM.out]
    go_enter Try.func63, Try.ntmps63
    go_wp2
    go_ret
    exact ⟨rfl, rfl⟩
end Go.Proofs.Ytdpffgcekjdneaa
