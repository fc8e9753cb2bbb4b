/-
  Walks: supers: whether one may be, and its sector.
-/
import Derived.Test.YtdpffgcekjdneaaCutS
import Derived.Test.YtdpffgcekjdneaaRefN
import Derived.Deep.RegionHeld3
set_option linter.all false
namespace Go.Proofs.Ytdpffgcekjdneaa
open Go.RowKit

/-- May a super be? -/
def supB (g a l : Int) : Bool := decide (1 ≤ g) && decide (g ≤ 4611686018427387904) && decide (0 ≤ a) && decide (a ≤ 1) && decide (0 ≤ l) && decide (l ≤ 4194304)
/-- A super's sector. -/
def supS (g a l : Nat) : ByteArray := fullS (⟨#[83]⟩ ++ numS g 8 ++ numS a 1 ++ numS l 4)
theorem supS_14 (g a l : Nat) : ((⟨#[83]⟩ : ByteArray) ++ numS g 8 ++ numS a 1 ++ numS l 4).size = 14 := by
  simp only [ByteArray.size_append, numS_size]
  rfl
theorem supS_size (g a l : Nat) : (supS g a l).size = 128 := fullS_size _ (by rw [supS_14]; omega)
theorem supB_true {g a l : Int} (h : supB g a l = true) : 1 ≤ g ∧ g ≤ 4611686018427387904 ∧ 0 ≤ a ∧ a ≤ 1 ∧ 0 ≤ l ∧ l ≤ 4194304 := by
  simp only [supB, Bool.and_eq_true, decide_eq_true_eq] at h
  omega

set_option maxRecDepth 100000 in
set_option maxHeartbeats 1000000 in
theorem sup_Check (g a l : Int) (w : World) :
    Calls Try.prog 31 #[.agg #[.int .u64 g, .int .i64 a, .int .i64 l]] w fun e w' => e = .returned (.int .i64 (if supB g a l then 0 else 3)) ∧ Nul w w' := by
  by_cases h1 : g < 1
  · have e1 : decide (g < 1) = true := decide_eq_true h1
    have hr : supB g a l = false := by simp [supB]; omega
    rw [hr]
    clear hr h1
    go_enter Try.func31, Try.ntmps31
    go_wp2
    go_ret
    exact ⟨rfl, (Frm.refl _ _).alloc _⟩
  have e1 : decide (g < 1) = false := decide_eq_false h1
  by_cases h2 : 4611686018427387904 < g
  · have e2 : decide (4611686018427387904 < g) = true := decide_eq_true h2
    have hr : supB g a l = false := by simp [supB]; omega
    rw [hr]
    clear hr h1 h2
    go_enter Try.func31, Try.ntmps31
    go_wp2
    go_ret
    exact ⟨rfl, (Frm.refl _ _).alloc _⟩
  have e2 : decide (4611686018427387904 < g) = false := decide_eq_false h2
  by_cases h3 : a < 0
  · have e3 : decide (a < 0) = true := decide_eq_true h3
    have hr : supB g a l = false := by simp [supB]; omega
    rw [hr]
    clear hr h1 h2 h3
    go_enter Try.func31, Try.ntmps31
    go_wp2
    go_ret
    exact ⟨rfl, (Frm.refl _ _).alloc _⟩
  have e3 : decide (a < 0) = false := decide_eq_false h3
  by_cases h4 : 1 < a
  · have e4 : decide (1 < a) = true := decide_eq_true h4
    have hr : supB g a l = false := by simp [supB]; omega
    rw [hr]
    clear hr h1 h2 h3 h4
    go_enter Try.func31, Try.ntmps31
    go_wp2
    go_ret
    exact ⟨rfl, (Frm.refl _ _).alloc _⟩
  have e4 : decide (1 < a) = false := decide_eq_false h4
  by_cases h5 : l < 0
  · have e5 : decide (l < 0) = true := decide_eq_true h5
    have hr : supB g a l = false := by simp [supB]; omega
    rw [hr]
    clear hr h1 h2 h3 h4 h5
    go_enter Try.func31, Try.ntmps31
    go_wp2
    go_ret
    exact ⟨rfl, (Frm.refl _ _).alloc _⟩
  have e5 : decide (l < 0) = false := decide_eq_false h5
  by_cases h6 : 4194304 < l
  · have e6 : decide (4194304 < l) = true := decide_eq_true h6
    have hr : supB g a l = false := by simp [supB]; omega
    rw [hr]
    clear hr h1 h2 h3 h4 h5 h6
    go_enter Try.func31, Try.ntmps31
    go_wp2
    go_ret
    exact ⟨rfl, (Frm.refl _ _).alloc _⟩
  have e6 : decide (4194304 < l) = false := decide_eq_false h6
  have hr : supB g a l = true := by simp [supB]; omega
  rw [hr]
  clear hr h1 h2 h3 h4 h5 h6
  go_enter Try.func31, Try.ntmps31
  go_wp2
  go_ret
  exact ⟨rfl, (Frm.refl _ _).alloc _⟩

set_option maxRecDepth 100000 in
set_option maxHeartbeats 1000000 in
theorem ref_May (g a l : Int) (w : World) :
    Calls Try.prog 30 #[.agg #[.int .u64 g, .int .i64 a, .int .i64 l]] w fun e w' => e = .returned (.bool (supB g a l)) ∧ Nul w w' := by
  by_cases h1 : g < 1
  · have e1 : decide (1 ≤ g) = false := decide_eq_false (by omega)
    have hr : supB g a l = false := by simp [supB]; omega
    rw [hr]
    clear hr h1
    go_enter Try.func30, Try.ntmps30
    go_wp2
    go_ret
    exact ⟨rfl, (Frm.refl _ _).alloc _⟩
  have e1 : decide (1 ≤ g) = true := decide_eq_true (by omega)
  by_cases h2 : 4611686018427387904 < g
  · have e2 : decide (g ≤ 4611686018427387904) = false := decide_eq_false (by omega)
    have hr : supB g a l = false := by simp [supB]; omega
    rw [hr]
    clear hr h1 h2
    go_enter Try.func30, Try.ntmps30
    go_wp2
    go_ret
    exact ⟨rfl, (Frm.refl _ _).alloc _⟩
  have e2 : decide (g ≤ 4611686018427387904) = true := decide_eq_true (by omega)
  by_cases h3 : a = 0 ∨ a = 1
  · rcases h3 with rfl | rfl
    all_goals
      by_cases h5 : l < 0
      · have e5 : decide (0 ≤ l) = false := decide_eq_false (by omega)
        have hr : ∀ a, supB g a l = false := by intro a; simp [supB]; omega
        rw [hr]
        clear hr h1 h2 h5
        go_enter Try.func30, Try.ntmps30
        go_wp2
        go_ret
        exact ⟨rfl, (Frm.refl _ _).alloc _⟩
      have e5 : decide (0 ≤ l) = true := decide_eq_true (by omega)
      by_cases h6 : 4194304 < l
      · have e6 : decide (l ≤ 4194304) = false := decide_eq_false (by omega)
        have hr : ∀ a, supB g a l = false := by intro a; simp [supB]; omega
        rw [hr]
        clear hr h1 h2 h5 h6
        go_enter Try.func30, Try.ntmps30
        go_wp2
        go_ret
        exact ⟨rfl, (Frm.refl _ _).alloc _⟩
      have e6 : decide (l ≤ 4194304) = true := decide_eq_true (by omega)
      have hr : ∀ a : Int, 0 ≤ a → a ≤ 1 → supB g a l = true := by intro a _ _; simp [supB]; omega
      rw [hr _ (by omega) (by omega)]
      clear hr h1 h2 h5 h6
      go_enter Try.func30, Try.ntmps30
      go_wp2
      go_ret
      exact ⟨rfl, (Frm.refl _ _).alloc _⟩
  · have e3 : (a == 0) = false := by simp; omega
    have e4 : (a == 1) = false := by simp; omega
    have hr : supB g a l = false := by simp [supB]; omega
    rw [hr]
    clear hr h1 h2 h3
    go_enter Try.func30, Try.ntmps30
    go_wp2
    go_ret
    exact ⟨rfl, (Frm.refl _ _).alloc _⟩
end Go.Proofs.Ytdpffgcekjdneaa
