/-
  Areas: numbers of sectors, rooms and bounds of a disk's areas.
-/
import Derived.Test.YtdpffgcekjdneaaDiskI
import Derived.Test.YtdpffgcekjdneaaRefN
set_option linter.all false
namespace Go.Proofs.Ytdpffgcekjdneaa
open Go.RowKit

/-- In how many sectors bytes lie. -/
def secs (f n : Int) : Int := if n < 1 ∨ f < 0 then 0 else (f + n - 1) / 128 - f / 128 + 1
/-- How many sectors an area has. -/
def Dk.cnt (d : Dk) : Nat := (d.n - 2) / 2
/-- An area's first sector. -/
def Dk.first (d : Dk) (a : Int) : Int := if a < 0 ∨ 1 < a ∨ d.cnt = 0 then -1 else 2 + a * d.cnt
/-- What is wrong with bytes of an area. -/
def Dk.chk (d : Dk) (a len : Int) : Int := if d.down then 12 else if d.first a < 0 ∨ len < 0 ∨ ((128 * d.cnt : Nat) : Int) < len then 3 else 0

theorem ret_i64 {a b : Int} (h : a = b) : Ending.returned (.int .i64 a) = .returned (.int .i64 b) := by rw [h]
theorem DiskIn.sz {S : Nat → Prop} {w : World} {b N : Nat} {d : Dk} (h : DiskIn S w b N d) : d.okn N := by
  obtain ⟨_, _, _, _, _, h⟩ := h
  exact h

theorem secs_cast (f n : Nat) : ∃ k : Nat, secs f n = k ∧ (n = 0 → k = 0) ∧ (0 < n → k = (f + n - 1) / 128 - f / 128 + 1) := by
  unfold secs
  by_cases h : n = 0
  · subst h; exact ⟨0, by simp, fun _ => rfl, fun h => by omega⟩
  · exact ⟨(f + n - 1) / 128 - f / 128 + 1, by rw [if_neg (by omega)]; omega, fun e => absurd e h, fun _ => rfl⟩

theorem area_Sectors (f n : Int) (w : World) (hf : f ≤ 1073741824) (hn : n ≤ 1073741824) :
    Calls Try.prog 40 #[.int .i64 f, .int .i64 n] w fun e w' => e = .returned (.int .i64 (secs f n)) ∧ w = w' := by
  by_cases h1 : n < 1
  · have e1 : decide (n < 1) = true := decide_eq_true h1
    have hs : secs f n = 0 := by unfold secs; rw [if_pos (.inl h1)]
    rw [hs]
    clear hs
    go_enter Try.func40, Try.ntmps40
    go_wp2
    go_ret
    exact ⟨rfl, rfl⟩
  · have e1 : decide (n < 1) = false := decide_eq_false h1
    by_cases h2 : f < 0
    · have e2 : decide (f < 0) = true := decide_eq_true h2
      have hs : secs f n = 0 := by unfold secs; rw [if_pos (.inr h2)]
      rw [hs]
      clear hs
      go_enter Try.func40, Try.ntmps40
      go_wp2
      go_ret
      exact ⟨rfl, rfl⟩
    · have e2 : decide (f < 0) = false := decide_eq_false h2
      have hs : secs f n = (f + n - 1) / 128 - f / 128 + 1 := by unfold secs; rw [if_neg (by omega)]
      rw [hs]
      clear hs
      have g1 : 0 ≤ f := by omega
      have g2 : 1 ≤ n := by omega
      go_enter Try.func40, Try.ntmps40
      go_wp2
      go_ret
      exact ⟨rfl, rfl⟩

theorem cnt_of (n : Nat) : (if (n : Int) - 2 < 0 then (0 : Int) else ((n : Int) - 2)) / 2 = (((n - 2) / 2 : Nat) : Int) := by
  split <;> omega

section
variable {S : Nat → Prop} {w : World} {b N : Nat} {d : Dk}
theorem area_count (h : DiskIn S w b N d) :
    Calls Try.prog 65 #[.pointer (some ⟨b, 0, none⟩)] w fun e w' => e = .returned (.int .i64 d.cnt) ∧ w = w' := by
  have hn : d.n ≤ 65536 := h.sz.1
  have H := hid (in_Sectors h)
  obtain ⟨c, hc⟩ : ∃ c, c = d.cnt := ⟨_, rfl⟩
  rw [← hc]
  unfold Dk.cnt at hc
  generalize d.n = n at hn H hc
  by_cases h2 : n < 2
  · obtain rfl : c = 0 := by omega
    clear hc h
    have g : (n : Int) - 2 ≤ 0 := by omega
    go_enter Try.func65, Try.ntmps65
    go_wp2_with fail
    refine H.out.mono ?_
    rintro e w' ⟨rfl, rfl⟩
    go_wp2_with fail
    go_ret
    exact ⟨rfl, rfl⟩
  · have g : 0 ≤ (n : Int) - 2 := by omega
    have hc' : ((n : Int) - 2) / 2 = (c : Int) := by omega
    have Hc := hid hc'
    clear hc hc' h
    go_enter Try.func65, Try.ntmps65
    go_wp2_with fail
    refine H.out.mono ?_
    rintro e w' ⟨rfl, rfl⟩
    go_wp2_with fail
    go_ret
    exact ⟨ret_i64 Hc.out, rfl⟩

theorem area_Room (h : DiskIn S w b N d) :
    Calls Try.prog 46 #[.pointer (some ⟨b, 0, none⟩)] w fun e w' => e = .returned (.int .i64 ((128 * d.cnt : Nat) : Int)) ∧ w = w' := by
  have hn : d.cnt ≤ 65536 := by have := h.sz.1; unfold Dk.cnt; omega
  have H := hid (area_count h)
  have Hc : Hid (((128 * d.cnt : Nat) : Int) = (d.cnt : Int) * 128) := hid (by omega)
  clear h
  go_enter Try.func46, Try.ntmps46
  go_wp2_with fail
  refine H.out.mono ?_
  rintro e w' ⟨rfl, rfl⟩
  go_wp2_with fail
  go_ret
  exact ⟨ret_i64 (by rw [Hc.out]), rfl⟩

theorem area_First (h : DiskIn S w b N d) (a : Int) :
    Calls Try.prog 48 #[.pointer (some ⟨b, 0, none⟩), .int .i64 a] w fun e w' => e = .returned (.int .i64 (d.first a)) ∧ w = w' := by
  have hn : d.cnt ≤ 65536 := by have := h.sz.1; unfold Dk.cnt; omega
  have H := hid (area_count h)
  by_cases h1 : a < 0
  · have e1 : decide (a < 0) = true := decide_eq_true h1
    have hr : d.first a = -1 := by unfold Dk.first; rw [if_pos (.inl h1)]
    rw [hr]
    clear h hr
    go_enter Try.func48, Try.ntmps48
    go_wp2_with fail
    go_ret
    exact ⟨rfl, rfl⟩
  · have e1 : decide (a < 0) = false := decide_eq_false h1
    by_cases h2 : 1 < a
    · have e2 : decide (1 < a) = true := decide_eq_true h2
      have hr : d.first a = -1 := by unfold Dk.first; rw [if_pos (.inr (.inl h2))]
      rw [hr]
      clear h hr
      go_enter Try.func48, Try.ntmps48
      go_wp2_with fail
      go_ret
      exact ⟨rfl, rfl⟩
    · have e2 : decide (1 < a) = false := decide_eq_false h2
      have Hr : Hid (d.first a = if d.cnt = 0 then -1 else 2 + a * d.cnt) := hid (by
        unfold Dk.first
        by_cases h3 : d.cnt = 0
        · rw [if_pos (.inr (.inr h3)), if_pos h3]
        · rw [if_neg (by omega), if_neg h3])
      rw [Hr.out]
      clear Hr h
      generalize d.cnt = c at hn H
      cases c with
      | zero =>
        rw [if_pos rfl]
        go_enter Try.func48, Try.ntmps48
        go_wp2_with fail
        refine H.out.mono ?_
        rintro e w' ⟨rfl, rfl⟩
        go_wp2_with fail
        go_ret
        exact ⟨rfl, rfl⟩
      | succ c =>
        rw [if_neg (by omega)]
        obtain ⟨c', hc'⟩ : ∃ c' : Int, ((c + 1 : Nat) : Int) = c' := ⟨_, rfl⟩
        rw [hc'] at H ⊢
        have q1 : c' ≤ 65536 := by omega
        have q2 : 1 ≤ c' := by omega
        have e3 : (c' == 0) = false := by simp; omega
        clear hc' hn
        have ha : a = 0 ∨ a = 1 := by omega
        rcases ha with rfl | rfl
        all_goals
          clear h1 h2
          go_enter Try.func48, Try.ntmps48
          go_wp2_with fail
          refine H.out.mono ?_
          rintro e w' ⟨rfl, rfl⟩
          go_wp2_with fail
          refine H.out.mono ?_
          rintro e w' ⟨rfl, rfl⟩
          go_wp2_with fail
          go_ret
          exact ⟨ret_i64 (by omega), rfl⟩

theorem Dk.first_ge (d : Dk) (a : Int) : -1 ≤ d.first a ∧ d.first a ≤ 2 + d.cnt := by
  unfold Dk.first
  split
  · omega
  · rename_i h
    have : a = 0 ∨ a = 1 := by omega
    rcases this with rfl | rfl <;> omega

theorem area_check (h : DiskIn S w b N d) (a len : Int) :
    Calls Try.prog 62 #[.pointer (some ⟨b, 0, none⟩), .int .i64 a, .int .i64 len] w fun e w' => e = .returned (.int .i64 (d.chk a len)) ∧ w = w' := by
  have HD := hid (in_Down h)
  have HF := hid (area_First h a)
  have HR := hid (area_Room h)
  unfold Dk.chk
  generalize d.first a = f at HF
  generalize ((128 * d.cnt : Nat) : Int) = r at HR
  generalize d.down = dn at HD
  clear h
  cases dn with
  | true =>
    rw [if_pos rfl]
    go_enter Try.func62, Try.ntmps62
    go_wp2_with fail
    refine HD.out.mono ?_
    rintro e w' ⟨rfl, rfl⟩
    go_wp2_with fail
    go_ret
    exact ⟨rfl, rfl⟩
  | false =>
    rw [if_neg (by decide)]
    by_cases h1 : f < 0
    · have e1 : decide (f < 0) = true := decide_eq_true h1
      rw [if_pos (.inl h1)]
      clear h1
      go_enter Try.func62, Try.ntmps62
      go_wp2_with fail
      refine HD.out.mono ?_
      rintro e w' ⟨rfl, rfl⟩
      go_wp2_with fail
      refine HF.out.mono ?_
      rintro e w' ⟨rfl, rfl⟩
      go_wp2_with fail
      go_ret
      exact ⟨rfl, rfl⟩
    · have e1 : decide (f < 0) = false := decide_eq_false h1
      by_cases h2 : len < 0
      · have e2 : decide (len < 0) = true := decide_eq_true h2
        rw [if_pos (.inr (.inl h2))]
        clear h1 h2
        go_enter Try.func62, Try.ntmps62
        go_wp2_with fail
        refine HD.out.mono ?_
        rintro e w' ⟨rfl, rfl⟩
        go_wp2_with fail
        refine HF.out.mono ?_
        rintro e w' ⟨rfl, rfl⟩
        go_wp2_with fail
        go_ret
        exact ⟨rfl, rfl⟩
      · have e2 : decide (len < 0) = false := decide_eq_false h2
        by_cases h3 : r < len
        all_goals
          first
            | (have e3 : decide (r < len) = true := decide_eq_true h3
               rw [if_pos (.inr (.inr h3))])
            | (have e3 : decide (r < len) = false := decide_eq_false h3
               rw [if_neg (by omega)])
          clear h1 h2 h3
          go_enter Try.func62, Try.ntmps62
          go_wp2_with fail
          refine HD.out.mono ?_
          rintro e w' ⟨rfl, rfl⟩
          go_wp2_with fail
          refine HF.out.mono ?_
          rintro e w' ⟨rfl, rfl⟩
          go_wp2_with fail
          refine HR.out.mono ?_
          rintro e w' ⟨rfl, rfl⟩
          go_wp2_with fail
          go_ret
          exact ⟨rfl, rfl⟩
end

theorem area_count_nil (w : World) : Calls Try.prog 65 #[.pointer none] w fun e w' => e = .returned (.int .i64 0) ∧ w = w' := by
  go_enter Try.func65, Try.ntmps65
  go_wp2_with fail
  refine (disk_Sectors_nil _).mono ?_
  rintro e w' ⟨rfl, rfl⟩
  go_wp2_with fail
  go_ret
  exact ⟨rfl, rfl⟩
theorem area_Room_nil (w : World) : Calls Try.prog 46 #[.pointer none] w fun e w' => e = .returned (.int .i64 0) ∧ w = w' := by
  go_enter Try.func46, Try.ntmps46
  go_wp2_with fail
  refine (area_count_nil _).mono ?_
  rintro e w' ⟨rfl, rfl⟩
  go_wp2_with fail
  go_ret
  exact ⟨rfl, rfl⟩
theorem area_First_nil (w : World) : Calls Try.prog 48 #[.pointer none, .int .i64 0] w fun e w' => e = .returned (.int .i64 (-1)) ∧ w = w' := by
  go_enter Try.func48, Try.ntmps48
  go_wp2_with fail
  refine (area_count_nil _).mono ?_
  rintro e w' ⟨rfl, rfl⟩
  go_wp2_with fail
  go_ret
  exact ⟨rfl, rfl⟩
theorem area_check_nil (a len : Int) (w : World) : Calls Try.prog 62 #[.pointer none, .int .i64 a, .int .i64 len] w fun e w' => e = .returned (.int .i64 1) ∧ w = w' := by
  go_enter Try.func62, Try.ntmps62
  go_wp2_with fail
  go_ret
  exact ⟨rfl, rfl⟩
end Go.Proofs.Ytdpffgcekjdneaa
