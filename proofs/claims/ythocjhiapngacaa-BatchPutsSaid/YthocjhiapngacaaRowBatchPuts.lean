/-
  BatchPuts holds: for every two lists of records the law answers true, and both read as they did. No condition.
-/
import Derived.Test.YthocjhiapngacaaBatI
import Derived.Test.YthocjhiapngacaaOpenG
import Derived.Test.YthocjhiapngacaaFrame
set_option linter.all false
namespace Go.Proofs.Ythocjhiapngacaa
open Go.ChangeShapes Go.WideShapes Go.ChangeAt Go.RowKit
open Go.ChangeMaps (open_string)

set_option maxRecDepth 100000 in
theorem batchPuts_lifted (os : Os) (started : os.Started) (H : Type) (enc : TypeId × Value → H) :
    ReturnsInHanded {} Try.checked os 6 .any (Rows.batchPutsSpec.pre6 enc Try.prog Try.f6 Rows.batchPutsRow.domain false) (Rows.batchPutsSpec.post enc Try.prog Try.f6 false true false false) := by
  refine returnsInHanded_of_change (C := Try.checked) Try.own started (by kernel_rfl) Try.func6
    (ChangeSpec.witness6 (enc := enc) (C := Try.checked) false ⟨#[], #[.slice none 0 0, .slice none 0 0], []⟩ 8 (by kernel_rfl) (by kernel_rfl) (by kernel_rfl) (by kernel_rfl)) ?_
  intro W base args ds gs before hval0 hW hcnd _
  have hval : ∀ (j : Nat) t v, Try.f6.params[j]? = some t → args[j]? = some v → Value.okWide Try.prog W .any base t v := hval0
  have hW' := hW
  obtain ⟨p, q, hA0, hV, rfl, hfz, hnd⟩ := hW
  have hA : DataW.TrodAll enc Try.prog W 0 (fun _ => true) true Try.f6.params.toList args.toList ds p := hA0
  rw [Try.params6] at hA hval
  obtain ⟨v0, v1, d0, d1, p0, p1, rfl, rfl, rfl, h0, h1⟩ := trodAll_two hA
  obtain ⟨rfl, rfl⟩ := trodVars_none hV
  clear hA0 hval0
  obtain ⟨A1, c1, l1, rfl, hl1, ho1, hs1, hR1, hn1⟩ := slice_recs (hval 0 44 v0 rfl rfl) h0
  obtain ⟨A2, c2, l2, rfl, hl2, ho2, hs2, hR2, hn2⟩ := slice_recs (hval 1 44 v1 rfl rfl) h1
  refine (law_BatchPuts A1 A2 c1 c2 l1 l2 W hR1 hR2 ho1 ho2 (fun r hr => by have := hs1 r hr; unfold maxLen at this; omega) (fun r hr => by have := hs2 r hr; unfold maxLen at this; omega) (by unfold maxLen at hl1; omega) (by unfold maxLen at hl2; omega) hn1 hn2).mono fun e W' ⟨he, hb⟩ => ?_
  exact ⟨_, he, law_post (by decide +kernel) rfl rfl hW' rfl hb⟩

theorem BatchPuts_holds : Rows.BatchPutsSaid :=
  OpenClaim.holds_of_wide 6 Try.f6 rfl rfl rfl rfl rfl rfl rfl ⟨rfl, rfl, rfl, rfl, rfl⟩ rfl rfl rfl rfl rfl (by kernel_rfl) Try.func6 (by kernel_rfl)
    (of_decide_eq_true (by kernel_rfl)) (by unfold Func.isWrapper; first | (rw [if_pos (by decide +kernel)]; kernel_rfl) | (rw [if_neg (by decide +kernel)]; exact ⟨rfl, rfl⟩))
    (fun os started H enc _ => batchPuts_lifted os started H enc)
#print axioms BatchPuts_holds
end Go.Proofs.Ythocjhiapngacaa
