/-
  WideCuts holds: for every text and every list of cuts the law answers true, and both read as they did. No condition.
-/
import Derived.Test.YtokebghephfjhaaCutsA
import Derived.Test.YtokebghephfjhaaSlices
set_option linter.all false
namespace Go.Proofs.Ytokebghephfjhaa
open Go.ChangeShapes Go.WideShapes Go.ChangeAt Go.RowKit
open Go.ChangeMaps (open_string)

theorem Try.cellsStep : Try.prog.cellsOf 38 = 2 := by kernel_rfl

theorem prs_of {P : Program} {e : TypeId} {w : World} {A : Option Addr} {len : Nat} {V : Nat → List Value} (hc : P.cellsOf e = 2) (hV : ∀ i, i < len → ∃ a b : Int, V i = [.int .i64 a, .int .i64 b])
    (h : 0 < len → ∃ b off, A = some ⟨b, off, none⟩ ∧ b < w.heap.size ∧ ∀ i, i < len → ∀ j, j < P.cellsOf e → w.cell? ⟨b, off + i * P.cellsOf e + j, none⟩ = (V i)[j]?) :
    ∃ ks : List (Int × Int), ks.length = len ∧ Prs w w.heap.size A ks := by
  obtain ⟨K, hK⟩ := Go.Deep.choose_lt (α := Int × Int) (p := fun i k => V i = [.int .i64 k.1, .int .i64 k.2]) (fun i hi => by
    obtain ⟨a, b, hab⟩ := hV i hi
    exact ⟨(a, b), hab⟩)
  refine ⟨(List.range len).map K, by simp, ?_⟩
  rcases Nat.eq_zero_or_pos len with h0 | h0
  · subst h0
    exact .inl rfl
  · obtain ⟨b, off, hA, hb, hcell⟩ := h h0
    refine .inr ⟨b, off, hA, hb, fun i hi => ?_⟩
    have hil : i < len := by simpa using hi
    have e0 := hcell i hil 0 (by omega)
    have e1 := hcell i hil 1 (by omega)
    rw [hc, hK i hil] at e0 e1
    simp at e0 e1 ⊢
    exact ⟨e0, e1⟩

set_option maxRecDepth 100000 in
theorem wideCuts_lifted (os : Os) (started : os.Started) (H : Type) (enc : TypeId × Value → H) :
    ReturnsInHanded {} Try.checked os 4 .any (Rows.wideCutsSpec.pre6 enc Try.prog Try.f4 Rows.wideCutsRow.domain false) (Rows.wideCutsSpec.post enc Try.prog Try.f4 false true false false) := by
  refine returnsInHanded_of_change (C := Try.checked) Try.own started (by kernel_rfl) Try.func4
    (ChangeSpec.witness6 (enc := enc) (C := Try.checked) false ⟨#[], #[.string ByteArray.empty, .slice none 0 0], []⟩ 8 (by kernel_rfl) (by kernel_rfl) (by kernel_rfl) (by kernel_rfl)) ?_
  intro W base args ds gs before hval0 hW hcnd _
  have hval : ∀ (j : Nat) t v, Try.f4.params[j]? = some t → args[j]? = some v → Value.okWide Try.prog W .any base t v := hval0
  have hW' := hW
  obtain ⟨p, q, hA0, hV, rfl, hfz, hnd⟩ := hW
  have hA : DataW.TrodAll enc Try.prog W 0 (fun _ => true) true Try.f4.params.toList args.toList ds p := hA0
  rw [Try.params4] at hA hval
  obtain ⟨v0, v1, d0, d1, p0, p1, rfl, rfl, rfl, h0, h1⟩ := trodAll_two hA
  obtain ⟨rfl, rfl⟩ := trodVars_none hV
  clear hA0 hval0
  obtain ⟨s, rfl, rfl, rfl, hs⟩ := open_string Try.underlying9 (hval 0 9 v0 rfl rfl) h0
  obtain ⟨A, len, cap, V, rfl, hlc, hcm, hV1, hV2⟩ := slice_cells Try.underlying36 (hval 1 36 v1 rfl rfl) h1 (by rw [Try.cellsStep]; omega)
  obtain ⟨ks, rfl, hks⟩ := prs_of Try.cellsStep (fun i hi => by
    obtain ⟨n, y, hy⟩ := (hV1 i hi).2
    exact trod_ints2 Try.underlying38 (by kernel_rfl) Try.cellsStep Try.underlying3 Try.underlying3 hy) hV2
  refine (law_WideCuts s A cap ks W hs (by omega) hks).mono fun e W' ⟨he, hb⟩ => ?_
  exact ⟨_, he, law_post (by decide +kernel) rfl rfl hW' rfl hb⟩

theorem WideCuts_holds : Rows.WideCutsSaid :=
  OpenClaim.holds_of_wide 4 Try.f4 rfl rfl rfl rfl rfl rfl rfl ⟨rfl, rfl, rfl, rfl, rfl⟩ rfl rfl rfl rfl rfl (by kernel_rfl) Try.func4 (by kernel_rfl)
    (of_decide_eq_true (by kernel_rfl)) (by unfold Func.isWrapper; first | (rw [if_pos (by decide +kernel)]; kernel_rfl) | (rw [if_neg (by decide +kernel)]; exact ⟨rfl, rfl⟩))
    (fun os started H enc _ => wideCuts_lifted os started H enc)
#print axioms WideCuts_holds
end Go.Proofs.Ytokebghephfjhaa
