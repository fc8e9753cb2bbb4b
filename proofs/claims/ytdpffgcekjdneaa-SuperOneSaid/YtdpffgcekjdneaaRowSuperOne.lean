/-
  SuperOne holds: for every list of crashes and every list of supers the law answers true, and all read as they did. No condition.
-/
import Derived.Test.YtdpffgcekjdneaaSupOne
import Derived.Test.YtdpffgcekjdneaaFrame
set_option linter.all false
namespace Go.Proofs.Ytdpffgcekjdneaa
open Go.ChangeShapes Go.WideShapes Go.ChangeAt Go.RowKit
open Go.ChangeMaps (open_string)

set_option maxRecDepth 100000 in
theorem superOne_lifted (os : Os) (started : os.Started) (H : Type) (enc : TypeId × Value → H) :
    ReturnsInHanded {} Try.checked os 7 .any (Rows.superOneSpec.pre6 enc Try.prog Try.f7 Rows.superOneRow.domain false) (Rows.superOneSpec.post enc Try.prog Try.f7 false true false false) := by
  refine returnsInHanded_of_change (C := Try.checked) Try.own started (by kernel_rfl) Try.func7
    (ChangeSpec.witness6 (enc := enc) (C := Try.checked) false ⟨#[], #[.slice none 0 0, .slice none 0 0], []⟩ 8 (by kernel_rfl) (by kernel_rfl) (by kernel_rfl) (by kernel_rfl)) ?_
  intro W base args ds gs before hval0 hW hcnd _
  have hval : ∀ (j : Nat) t v, Try.f7.params[j]? = some t → args[j]? = some v → Value.okWide Try.prog W .any base t v := hval0
  have hW' := hW
  obtain ⟨p, q, hA0, hV, rfl, hfz, hnd⟩ := hW
  have hA : DataW.TrodAll enc Try.prog W 0 (fun _ => true) true Try.f7.params.toList args.toList ds p := hA0
  rw [Try.params7] at hA hval
  obtain ⟨v0, v1, d0, d1, p0, p1, rfl, rfl, rfl, h0, h1⟩ := trodAll_two hA
  obtain ⟨rfl, rfl⟩ := trodVars_none hV
  clear hA0 hval0
  obtain ⟨A1, len1, cap1, V1, rfl, hlc1, hcm1, hVa1, hVb1⟩ := slice_cells Try.underlying22 (hval 0 22 v0 rfl rfl) h0 (by rw [Try.cellsCrash]; omega)
  obtain ⟨cr, rfl, hcr⟩ := crashes_of Try.cellsCrash (fun i hi => by
    obtain ⟨n, y, hy⟩ := (hVa1 i hi).2
    exact crash_cs Try.underlying49 (by kernel_rfl) Try.cellsCrash Try.underlying3 Try.underlying47 Try.underlying5 Try.cellsU8 hy) hVb1
  obtain ⟨A2, len2, cap2, V2, rfl, hlc2, hcm2, hVa2, hVb2⟩ := slice_cells Try.underlying63 (hval 1 63 v1 rfl rfl) h1 (by rw [Try.cellsSuper]; omega)
  obtain ⟨l, rfl, hl⟩ := sups_of Try.cellsSuper (fun i hi => by
    obtain ⟨n, y, hy⟩ := (hVa2 i hi).2
    exact sup_cs Try.underlying53 (by kernel_rfl) Try.cellsSuper Try.underlying51 Try.underlying3 Try.underlying3 hy) hVb2
  refine (law_SuperOne A1 A2 cap1 cap2 cr l W hcr hl (by unfold maxLen at hcm1; omega) (by unfold maxLen at hcm2; omega)).mono fun e W' ⟨he, hb⟩ => ?_
  exact ⟨_, he, law_post (by decide +kernel) rfl rfl hW' rfl hb⟩

theorem SuperOne_holds : Rows.SuperOneSaid :=
  OpenClaim.holds_of_wide 7 Try.f7 rfl rfl rfl rfl rfl rfl rfl ⟨rfl, rfl, rfl, rfl, rfl⟩ rfl rfl rfl rfl rfl (by kernel_rfl) Try.func7 (by kernel_rfl)
    (of_decide_eq_true (by kernel_rfl)) (by unfold Func.isWrapper; first | (rw [if_pos (by decide +kernel)]; kernel_rfl) | (rw [if_neg (by decide +kernel)]; exact ⟨rfl, rfl⟩))
    (fun os started H enc _ => superOne_lifted os started H enc)
#print axioms SuperOne_holds
end Go.Proofs.Ytdpffgcekjdneaa
