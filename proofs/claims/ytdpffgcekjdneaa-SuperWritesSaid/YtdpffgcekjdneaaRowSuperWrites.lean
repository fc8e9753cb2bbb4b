/-
  SuperWrites holds: for every number of sectors, every list of crashes and every list of supers the law answers true, and all read as they did. No condition.
-/
import Derived.Test.YtdpffgcekjdneaaSupWrites
import Derived.Test.YtdpffgcekjdneaaFrame
set_option linter.all false
namespace Go.Proofs.Ytdpffgcekjdneaa
open Go.ChangeShapes Go.WideShapes Go.ChangeAt Go.RowKit
open Go.ChangeMaps (open_string)

set_option maxRecDepth 100000 in
theorem superWrites_lifted (os : Os) (started : os.Started) (H : Type) (enc : TypeId × Value → H) :
    ReturnsInHanded {} Try.checked os 8 .any (Rows.superWritesSpec.pre6 enc Try.prog Try.f8 Rows.superWritesRow.domain false) (Rows.superWritesSpec.post enc Try.prog Try.f8 false true false false) := by
  refine returnsInHanded_of_change (C := Try.checked) Try.own started (by kernel_rfl) Try.func8
    (ChangeSpec.witness6 (enc := enc) (C := Try.checked) false ⟨#[], #[.int .u8 0, .slice none 0 0, .slice none 0 0], []⟩ 8 (by kernel_rfl) (by kernel_rfl) (by kernel_rfl) (by kernel_rfl)) ?_
  intro W base args ds gs before hval0 hW hcnd _
  have hval : ∀ (j : Nat) t v, Try.f8.params[j]? = some t → args[j]? = some v → Value.okWide Try.prog W .any base t v := hval0
  have hW' := hW
  obtain ⟨p, q, hA0, hV, rfl, hfz, hnd⟩ := hW
  have hA : DataW.TrodAll enc Try.prog W 0 (fun _ => true) true Try.f8.params.toList args.toList ds p := hA0
  rw [Try.params8] at hA hval
  obtain ⟨v0, v1, v2, d0, d1, d2, p0, p1, p2, rfl, rfl, rfl, h0, h1, h2⟩ := trodAll_three hA
  obtain ⟨rfl, rfl⟩ := trodVars_none hV
  clear hA0 hval0
  obtain ⟨a, rfl, rfl, rfl, wa⟩ := open_int Try.underlying5 (hval 0 5 v0 rfl rfl) h0
  have hra : 0 ≤ a ∧ a ≤ 255 := by simpa [Lit.wf, IntKind.min, IntKind.max, IntKind.signed, IntKind.bits] using wa
  obtain ⟨x, rfl⟩ : ∃ x : Nat, a = (x : Int) := ⟨a.toNat, by omega⟩
  obtain ⟨A1, len1, cap1, V1, rfl, hlc1, hcm1, hVa1, hVb1⟩ := slice_cells Try.underlying22 (hval 1 22 v1 rfl rfl) h1 (by rw [Try.cellsCrash]; omega)
  obtain ⟨cr, rfl, hcr⟩ := crashes_of Try.cellsCrash (fun i hi => by
    obtain ⟨n, y, hy⟩ := (hVa1 i hi).2
    exact crash_cs Try.underlying49 (by kernel_rfl) Try.cellsCrash Try.underlying3 Try.underlying47 Try.underlying5 Try.cellsU8 hy) hVb1
  obtain ⟨A2, len2, cap2, V2, rfl, hlc2, hcm2, hVa2, hVb2⟩ := slice_cells Try.underlying63 (hval 2 63 v2 rfl rfl) h2 (by rw [Try.cellsSuper]; omega)
  obtain ⟨l, rfl, hl⟩ := sups_of Try.cellsSuper (fun i hi => by
    obtain ⟨n, y, hy⟩ := (hVa2 i hi).2
    exact sup_cs Try.underlying53 (by kernel_rfl) Try.cellsSuper Try.underlying51 Try.underlying3 Try.underlying3 hy) hVb2
  refine (law_SuperWrites x (by omega) A1 A2 cap1 cap2 cr l W hcr hl (by unfold maxLen at hcm1; omega) (by unfold maxLen at hcm2; omega)).mono fun e W' ⟨he, hb⟩ => ?_
  exact ⟨_, he, law_post (by decide +kernel) rfl rfl hW' rfl hb⟩

theorem SuperWrites_holds : Rows.SuperWritesSaid :=
  OpenClaim.holds_of_wide 8 Try.f8 rfl rfl rfl rfl rfl rfl rfl ⟨rfl, rfl, rfl, rfl, rfl⟩ rfl rfl rfl rfl rfl (by kernel_rfl) Try.func8 (by kernel_rfl)
    (of_decide_eq_true (by kernel_rfl)) (by unfold Func.isWrapper; first | (rw [if_pos (by decide +kernel)]; kernel_rfl) | (rw [if_neg (by decide +kernel)]; exact ⟨rfl, rfl⟩))
    (fun os started H enc _ => superWrites_lifted os started H enc)
#print axioms SuperWrites_holds
end Go.Proofs.Ytdpffgcekjdneaa
