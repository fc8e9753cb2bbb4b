/-
  Walks: entries got, the document's.
-/
import Derived.Test.YthocjhiapngacaaEntC
set_option linter.all false
namespace Go.Proofs.Ythocjhiapngacaa
open Go.RowKit

set_option maxRecDepth 100000 in
set_option maxHeartbeats 1000000 in
theorem ref_EGet (s : ByteArray) (w : World) (hs : s.size ≤ 140737488351232) :
    Calls Try.prog 48 #[.string s] w fun e w' => e = .returned (.tuple #[.agg #[.bool (entGet s).1, .string (entGet s).2.1], .int .i64 (entGet s).2.2]) ∧ Nul w w' := by
  have hz := (zero_of_info zero_ent).1
  obtain ⟨r, hr⟩ : ∃ r, entGet s = r := ⟨_, rfl⟩
  have hr0 := hr
  unfold entGet at hr0
  rw [hr]
  clear hr
  have HB := hid (Blk.new w 25 [.bool false, .string ⟨#[]⟩])
  have c0 := HB.out.cell 0
  have c1 := HB.out.cell 1
  have f0 := HB.out.frozen 0
  have f1 := HB.out.frozen 1
  by_cases h0 : s.size = 0
  · rw [if_pos h0] at hr0
    subst hr0
    obtain rfl := size0 h0
    have tl := toList_nil
    have hE0 : (⟨#[]⟩ : ByteArray).toList.isEmpty = true := by rw [tl]; rfl
    clear hs h0
    go_enter Try.func48, Try.ntmps48
    go_wp2_with fail
    exact bodyPost_ret (v := .tuple #[.agg #[.bool false, .string ⟨#[]⟩], .int .i64 5]) (by simp [results, Try.results48, go_sem, c0, c1]) rfl ⟨rfl, ((Frm.refl _ _).alloc _)⟩
  · rw [if_neg h0] at hr0
    have hE := ne_empty h0
    have hE2 := toList_isEmpty h0
    have hi0 : ∀ w, (Instr.index 9 (.string s) (.int .i64 0)).run Try.prog w = .ok (.int .u8 (s[0]'(by omega)).toNat) w := fun w => index_str s 0 (by omega) w
    by_cases hq : s = ⟨#[0]⟩
    · have ho : one1 s = false := by subst hq; rfl
      rw [ho, if_neg (by decide), if_pos hq] at hr0
      subst hr0
      have hb1 : (s.toList == (⟨#[0]⟩ : ByteArray).toList) = true := by rw [hq]; exact beq_self_eq_true _
      have tl : (⟨#[0]⟩ : ByteArray).toList = [0] := ByteArray.toList_mk [0]
      rw [tl] at hb1
      clear hq h0 hi0 ho
      go_enter Try.func48, Try.ntmps48
      go_wp2_with fail
      exact bodyPost_ret (v := .tuple #[.agg #[.bool true, .string ⟨#[]⟩], .int .i64 0]) (by simp [results, Try.results48, go_sem, c0, c1]) rfl ⟨rfl, (Frm.refl _ _).alloc _⟩
    · have hb1 : (s.toList == (⟨#[0]⟩ : ByteArray).toList) = false := toList_ne hq
      have tl : (⟨#[0]⟩ : ByteArray).toList = [0] := ByteArray.toList_mk [0]
      rw [tl] at hb1
      cases ho : one1 s with
      | true =>
        have h1 := one1_size ho
        have hx : (s[0]'(by omega)) = 1 := by
          unfold one1 at ho
          rw [Array.getElem?_eq_getElem (by show 0 < s.size; omega)] at ho
          have := of_decide_eq_true (show decide (s.data[0]'(by show 0 < s.size; omega) = 1) = true by simpa using ho)
          exact this
        have hi1 : ∀ w, (Instr.index 9 (.string s) (.int .i64 0)).run Try.prog w = .ok (.int .u8 1) w := fun w => by rw [hi0, hx]; rfl
        rw [ho, if_pos rfl] at hr0
        clear hi0 hx ho
        by_cases hb : 65537 < s.size
        · rw [if_pos hb] at hr0
          subst hr0
          have e1 : decide (65537 < (s.size : Int)) = true := decide_eq_true (by omega)
          clear hq
          go_enter Try.func48, Try.ntmps48
          go_wp2_with fail
          exact bodyPost_ret (v := .tuple #[.agg #[.bool false, .string ⟨#[]⟩], .int .i64 6]) (by simp [results, Try.results48, go_sem, c0, c1]) rfl ⟨rfl, (Frm.refl _ _).alloc _⟩
        · rw [if_neg hb] at hr0
          subst hr0
          have e1 : decide (65537 < (s.size : Int)) = false := decide_eq_false (by omega)
          clear hq
          go_enter Try.func48, Try.ntmps48
          go_wp2_with fail
          exact bodyPost_ret (v := .tuple #[.agg #[.bool false, .string (s.extract 1 s.size)], .int .i64 0]) (by simp [results, Try.results48, go_sem, c0, c1]) rfl ⟨rfl, (Frm.refl _ _).alloc _⟩
      | false =>
        have hx : (s[0]'(by omega)) ≠ 1 := by
          intro hx
          unfold one1 at ho
          rw [Array.getElem?_eq_getElem (by show 0 < s.size; omega)] at ho
          have : s.data[0]'(by show 0 < s.size; omega) = 1 := hx
          rw [this] at ho
          exact absurd ho (by decide)
        have hx2 : (((s[0]'(by omega)).toNat : Int) == 1) = false := by
          simp only [beq_eq_false_iff_ne, ne_eq]
          intro he
          apply hx
          apply UInt8.toNat_inj.1
          show _ = 1
          omega
        obtain ⟨x, hxx⟩ : ∃ x : Int, x = ((s[0]'(by omega)).toNat : Int) := ⟨_, rfl⟩
        rw [← hxx] at hx2 hi0
        have hx3 : (x != 1) = true := by rw [bne, hx2]; rfl
        rw [ho, if_neg (by decide), if_neg hq] at hr0
        subst hr0
        clear hq hx ho hxx
        go_enter Try.func48, Try.ntmps48
        go_wp2_with fail
        exact bodyPost_ret (v := .tuple #[.agg #[.bool false, .string ⟨#[]⟩], .int .i64 6]) (by simp [results, Try.results48, go_sem, c0, c1]) rfl ⟨rfl, (Frm.refl _ _).alloc _⟩
end Go.Proofs.Ythocjhiapngacaa
