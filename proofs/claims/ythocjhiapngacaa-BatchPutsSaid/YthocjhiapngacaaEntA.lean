/-
  Walks: entries laid.
-/
import Derived.Test.YthocjhiapngacaaRecA
set_option linter.all false
namespace Go.Proofs.Ythocjhiapngacaa
open Go.RowKit

/-- What is wrong with an entry. -/
def entChk (d : Bool) (v : ByteArray) : Int := if 65536 < v.size then 4 else if d = true ∧ v.size ≠ 0 then 2 else 0
/-- An entry's bytes. -/
def entPut (d : Bool) (v : ByteArray) : ByteArray := if d then ⟨#[0]⟩ else ⟨#[1]⟩ ++ v
theorem entPut_size (d : Bool) (v : ByteArray) : (entPut d v).size ≤ v.size + 1 := by
  unfold entPut
  split
  · show 1 ≤ _; omega
  · rw [ByteArray.size_append]
    show 1 + v.size ≤ _
    omega
theorem size0 {v : ByteArray} (h : v.size = 0) : v = ⟨#[]⟩ := by
  apply ByteArray.ext
  exact Array.eq_empty_of_size_eq_zero h
theorem ne_empty {v : ByteArray} (h : v.size ≠ 0) : (v.toList == ([] : List UInt8)) = false := by
  rw [ByteArray.toList_eq]
  cases hl : v.data.toList with
  | nil =>
    exfalso
    apply h
    show v.data.size = 0
    rw [← Array.length_toList, hl]
    rfl
  | cons _ _ => rfl

theorem toList_nil : (⟨#[]⟩ : ByteArray).toList = [] := ByteArray.toList_mk []
theorem zero_ent : (Try.prog.info? 25).map (fun i => (i.zero, i.size)) = some (some (.agg #[.bool false, .string ⟨#[]⟩]), 2) := by kernel_rfl

set_option maxRecDepth 100000 in
set_option maxHeartbeats 1000000 in
theorem ent_Check (d : Bool) (v : ByteArray) (w : World) (hv : v.size ≤ 9223372036854775807) :
    Calls Try.prog 37 #[.agg #[.bool d, .string v]] w fun e w' => e = .returned (.int .i64 (entChk d v)) ∧ Nul w w' := by
  by_cases h1 : 65536 < v.size
  · have e1 : decide (65536 < (v.size : Int)) = true := decide_eq_true (by omega)
    have hr : entChk d v = 4 := by unfold entChk; rw [if_pos h1]
    rw [hr]
    clear hr
    go_enter Try.func37, Try.ntmps37
    go_wp2
    go_ret
    exact ⟨rfl, (Frm.refl _ _).alloc _⟩
  have e1 : decide (65536 < (v.size : Int)) = false := decide_eq_false (by omega)
  cases d with
  | false =>
    have hr : entChk false v = 0 := by unfold entChk; rw [if_neg h1, if_neg (by simp)]
    rw [hr]
    clear hr h1
    go_enter Try.func37, Try.ntmps37
    go_wp2
    go_ret
    exact ⟨rfl, (Frm.refl _ _).alloc _⟩
  | true =>
    by_cases h2 : v.size = 0
    · have hr : entChk true v = 0 := by unfold entChk; rw [if_neg h1, if_neg (by simp [h2])]
      rw [hr]
      obtain rfl := size0 h2
      have hne : ∀ w, (binOp .neq 25 (.agg #[.bool true, .string ⟨#[]⟩]) (.agg #[.bool true, .string ⟨#[]⟩])).run Try.prog w = .ok (.bool false) w := fun w => by
        have := ent_neq true true ⟨#[]⟩ ⟨#[]⟩ w
        rw [toList_nil] at this
        exact this
      clear hr h1 h2 e1
      go_enter Try.func37, Try.ntmps37
      go_wp2
      go_ret
      exact ⟨rfl, (Frm.refl _ _).alloc _⟩
    · have hr : entChk true v = 2 := by unfold entChk; rw [if_neg h1, if_pos ⟨rfl, h2⟩]
      rw [hr]
      have hne : ∀ w, (binOp .neq 25 (.agg #[.bool true, .string v]) (.agg #[.bool true, .string ⟨#[]⟩])).run Try.prog w = .ok (.bool true) w := fun w => by
        have := ent_neq true true v ⟨#[]⟩ w
        rw [toList_nil, ne_empty h2] at this
        exact this
      clear hr h1 h2
      go_enter Try.func37, Try.ntmps37
      go_wp2
      go_ret
      exact ⟨rfl, (Frm.refl _ _).alloc _⟩

set_option maxRecDepth 100000 in
set_option maxHeartbeats 1000000 in
theorem ref_ECheck (d : Bool) (v : ByteArray) (w : World) (hv : v.size ≤ 9223372036854775807) :
    Calls Try.prog 36 #[.agg #[.bool d, .string v]] w fun e w' => e = .returned (.int .i64 (entChk d v)) ∧ Nul w w' := by
  by_cases h1 : 65536 < v.size
  · have e1 : decide (65536 < (v.size : Int)) = true := decide_eq_true (by omega)
    have hr : entChk d v = 4 := by unfold entChk; rw [if_pos h1]
    rw [hr]
    clear hr
    go_enter Try.func36, Try.ntmps36
    go_wp2
    go_ret
    exact ⟨rfl, (Frm.refl _ _).alloc _⟩
  have e1 : decide (65536 < (v.size : Int)) = false := decide_eq_false (by omega)
  cases d with
  | false =>
    have hr : entChk false v = 0 := by unfold entChk; rw [if_neg h1, if_neg (by simp)]
    rw [hr]
    clear hr h1
    go_enter Try.func36, Try.ntmps36
    go_wp2
    go_ret
    exact ⟨rfl, (Frm.refl _ _).alloc _⟩
  | true =>
    by_cases h2 : v.size = 0
    · have hr : entChk true v = 0 := by unfold entChk; rw [if_neg h1, if_neg (by simp [h2])]
      rw [hr]
      obtain rfl := size0 h2
      clear hr h1 h2 e1
      go_enter Try.func36, Try.ntmps36
      go_wp2
      go_ret
      exact ⟨rfl, (Frm.refl _ _).alloc _⟩
    · have hr : entChk true v = 2 := by unfold entChk; rw [if_neg h1, if_pos ⟨rfl, h2⟩]
      rw [hr]
      have hne := ne_empty h2
      have hne2 : v.toList.isEmpty = false := by
        cases h : v.toList with
        | nil => rw [h] at hne; cases hne
        | cons _ _ => rfl
      clear hr h1 h2
      go_enter Try.func36, Try.ntmps36
      go_wp2
      go_ret
      exact ⟨rfl, (Frm.refl _ _).alloc _⟩

set_option maxRecDepth 100000 in
set_option maxHeartbeats 1000000 in
theorem ent_Put (d : Bool) (v : ByteArray) (w : World) (hv : v.size ≤ 140737488351232) :
    Calls Try.prog 34 #[.agg #[.bool d, .string v]] w fun e w' => e = .returned (.tuple #[.string (if entChk d v = 0 then entPut d v else ⟨#[]⟩), .int .i64 (entChk d v)]) ∧ Nul w w' := by
  have HC := hid (fun w => ent_Check d v w (by omega))
  obtain ⟨c, hc⟩ : ∃ c, entChk d v = c := ⟨_, rfl⟩
  rw [hc] at HC ⊢
  by_cases h0 : c = 0
  · rw [if_pos h0]
    subst h0
    clear hc
    cases d with
    | true =>
      show Calls _ _ _ _ fun e w' => e = .returned (.tuple #[.string ⟨#[0]⟩, .int .i64 0]) ∧ Nul w w'
      go_enter Try.func34, Try.ntmps34
      go_wp2_with fail
      have HB := hid (Blk.new w 25 [.bool true, .string v])
      refine (HC.out _).mono ?_
      rintro e w1 ⟨rfl, hf⟩
      have H1 := hid (((Frm.refl (fun _ => False) w).alloc (.cells #[.bool true, .string v] 25)).nul hf)
      have c0 : w1.cell? ⟨w.heap.size, 0, none⟩ = some (.bool true) := (HB.out.nul hf).cell 0
      clear hf
      go_wp2_with fail
      go_ret2
      exact ⟨rfl, H1.out⟩
    | false =>
      show Calls _ _ _ _ fun e w' => e = .returned (.tuple #[.string (⟨#[1]⟩ ++ v), .int .i64 0]) ∧ Nul w w'
      have hadd : ∀ w, (Op.stringOp .add ⟨#[1]⟩ v).run Try.prog w = .ok (.string (⟨#[1]⟩ ++ v)) w := fun w => run_string_add_sum _ _ _ (by have : (⟨#[1]⟩ : ByteArray).size = 1 := rfl; omega)
      generalize (⟨#[1]⟩ : ByteArray) ++ v = x at hadd ⊢
      go_enter Try.func34, Try.ntmps34
      go_wp2_with fail
      have HB := hid (Blk.new w 25 [.bool false, .string v])
      refine (HC.out _).mono ?_
      rintro e w1 ⟨rfl, hf⟩
      have H1 := hid (((Frm.refl (fun _ => False) w).alloc (.cells #[.bool false, .string v] 25)).nul hf)
      have c0 : w1.cell? ⟨w.heap.size, 0, none⟩ = some (.bool false) := (HB.out.nul hf).cell 0
      have c1 : w1.cell? ⟨w.heap.size, 1, none⟩ = some (.string v) := (HB.out.nul hf).cell 1
      clear hf
      go_wp2_with fail
      go_ret2
      exact ⟨rfl, H1.out⟩
  · rw [if_neg h0]
    have g1 : (c == 0) = false := by simpa using h0
    have g2 : (c != 0) = true := by simpa using h0
    clear hc h0
    go_enter Try.func34, Try.ntmps34
    go_wp2_with fail
    refine (HC.out _).mono ?_
    rintro e w1 ⟨rfl, hf⟩
    have H1 := hid (((Frm.refl (fun _ => False) w).alloc (.cells #[.bool d, .string v] 25)).nul hf)
    clear hf
    go_wp2_with fail
    go_ret2
    exact ⟨rfl, H1.out⟩

set_option maxRecDepth 100000 in
set_option maxHeartbeats 1000000 in
theorem ref_EPut (d : Bool) (v : ByteArray) (w : World) (hv : v.size ≤ 140737488351232) :
    Calls Try.prog 47 #[.agg #[.bool d, .string v]] w fun e w' => e = .returned (.string (entPut d v)) ∧ Nul w w' := by
  cases d with
  | true =>
    show Calls _ _ _ _ fun e w' => e = .returned (.string ⟨#[0]⟩) ∧ Nul w w'
    go_enter Try.func47, Try.ntmps47
    go_wp2
    go_ret
    exact ⟨rfl, (Frm.refl _ _).alloc _⟩
  | false =>
    show Calls _ _ _ _ fun e w' => e = .returned (.string (⟨#[1]⟩ ++ v)) ∧ Nul w w'
    have hadd : ∀ w, (Op.stringOp .add ⟨#[1]⟩ v).run Try.prog w = .ok (.string (⟨#[1]⟩ ++ v)) w := fun w => run_string_add_sum _ _ _ (by have : (⟨#[1]⟩ : ByteArray).size = 1 := rfl; omega)
    generalize (⟨#[1]⟩ : ByteArray) ++ v = x at hadd ⊢
    go_enter Try.func47, Try.ntmps47
    go_wp2
    go_ret
    exact ⟨rfl, (Frm.refl _ _).alloc _⟩
end Go.Proofs.Ythocjhiapngacaa
