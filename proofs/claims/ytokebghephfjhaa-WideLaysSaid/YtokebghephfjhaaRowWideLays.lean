/-
  WideLays holds: for every number, every width and every list of texts the law answers true, and all read as they did. No condition.
-/
import Derived.Test.YtokebghephfjhaaLaysA
import Derived.Test.YtokebghephfjhaaSlices
set_option linter.all false
namespace Go.Proofs.Ytokebghephfjhaa
open Go.ChangeShapes Go.WideShapes Go.ChangeAt Go.RowKit
open Go.ChangeMaps (open_string)

theorem Try.cellsString : Try.prog.cellsOf 9 = 1 := by kernel_rfl

theorem strs_of {P : Program} {e : TypeId} {w : World} {A : Option Addr} {len : Nat} {V : Nat → List Value} (hc : P.cellsOf e = 1) (hV : ∀ i, i < len → ∃ s : ByteArray, V i = [.string s])
    (h : 0 < len → ∃ b off, A = some ⟨b, off, none⟩ ∧ b < w.heap.size ∧ ∀ i, i < len → ∀ j, j < P.cellsOf e → w.cell? ⟨b, off + i * P.cellsOf e + j, none⟩ = (V i)[j]?) :
    ∃ ss : List ByteArray, ss.length = len ∧ Rd w w.heap.size A (ss.map .string) := by
  obtain ⟨K, hK⟩ := Go.Deep.choose_lt (α := ByteArray) (p := fun i k => V i = [.string k]) hV
  refine ⟨(List.range len).map K, by simp, ?_⟩
  rcases Nat.eq_zero_or_pos len with h0 | h0
  · subst h0
    exact .inl rfl
  · obtain ⟨b, off, hA, hb, hcell⟩ := h h0
    refine .inr ⟨b, off, hA, hb, fun i v hv => ?_⟩
    have hil : i < len := by
      have := (List.getElem?_eq_some_iff.1 hv).1
      simpa using this
    have e0 := hcell i hil 0 (by omega)
    rw [hc, hK i hil] at e0
    simp [hil] at e0 hv
    rw [e0, hv]

theorem law_WideLays (n : Nat) (W : Int) (A : Option Addr) (c len : Nat) (ss : List ByteArray) (w : World) (hn : n < 18446744073709551616) (hA : Rd w w.heap.size A (ss.map .string)) (hl : ss.length = len) (hlc : len ≤ c) (hc : c ≤ maxLen) :
    Calls Try.prog 3 #[.int .u64 n, .int .i64 W, .slice A len c] w fun e w' => e = .returned (.bool true) ∧ Nul w w' := by
  unfold maxLen at hc
  by_cases h20 : len ≤ 20
  · exact law_WideLays_small n W A c len ss w hn (hid hA) (hid hl.symm) h20
  · refine law_WideLays_big n W A c len (ss.take 20) w hn (hid ?_) (hid (by rw [List.length_take]; omega)) (by omega) (by omega) hlc (by omega)
    rw [List.map_take]
    exact rd_take 20 hA

set_option maxRecDepth 100000 in
theorem wideLays_lifted (os : Os) (started : os.Started) (H : Type) (enc : TypeId × Value → H) :
    ReturnsInHanded {} Try.checked os 3 .any (Rows.wideLaysSpec.pre6 enc Try.prog Try.f3 Rows.wideLaysRow.domain false) (Rows.wideLaysSpec.post enc Try.prog Try.f3 false true false false) := by
  refine returnsInHanded_of_change (C := Try.checked) Try.own started (by kernel_rfl) Try.func3
    (ChangeSpec.witness6 (enc := enc) (C := Try.checked) false ⟨#[], #[.int .u64 0, .int .i64 0, .slice none 0 0], []⟩ 8 (by kernel_rfl) (by kernel_rfl) (by kernel_rfl) (by kernel_rfl)) ?_
  intro W base args ds gs before hval0 hW hcnd _
  have hval : ∀ (j : Nat) t v, Try.f3.params[j]? = some t → args[j]? = some v → Value.okWide Try.prog W .any base t v := hval0
  have hW' := hW
  obtain ⟨p, q, hA0, hV, rfl, hfz, hnd⟩ := hW
  have hA : DataW.TrodAll enc Try.prog W 0 (fun _ => true) true Try.f3.params.toList args.toList ds p := hA0
  rw [Try.params3] at hA hval
  obtain ⟨v0, v1, v2, d0, d1, d2, p0, p1, p2, rfl, rfl, rfl, h0, h1, h2⟩ := trodAll_three hA
  obtain ⟨rfl, rfl⟩ := trodVars_none hV
  clear hA0 hval0
  obtain ⟨n0, rfl, rfl, rfl, wn⟩ := open_int Try.underlying22 (hval 0 22 v0 rfl rfl) h0
  obtain ⟨k0, rfl, rfl, rfl, wk⟩ := open_int Try.underlying3 (hval 1 3 v1 rfl rfl) h1
  obtain ⟨A, len, cap, V, rfl, hlc, hcm, hV1, hV2⟩ := slice_cells Try.underlying23 (hval 2 23 v2 rfl rfl) h2 (by rw [Try.cellsString]; omega)
  have hn : 0 ≤ n0 ∧ n0 ≤ 18446744073709551615 := by simpa [Lit.wf, IntKind.min, IntKind.max, IntKind.signed, IntKind.bits] using wn
  obtain ⟨n, rfl⟩ := Int.eq_ofNat_of_zero_le hn.1
  obtain ⟨ss, hl, hss⟩ := strs_of Try.cellsString (fun i hi => by
    obtain ⟨n, y, hy⟩ := (hV1 i hi).2
    obtain ⟨s, hs, _⟩ := DataW.trod_string Try.underlying9 hy
    exact ⟨s, hs⟩) hV2
  refine (law_WideLays n k0 A cap len ss W (by omega) hss hl hlc hcm).mono fun e W' ⟨he, hb⟩ => ?_
  exact ⟨_, he, law_post (by decide +kernel) rfl rfl hW' rfl hb⟩

theorem WideLays_holds : Rows.WideLaysSaid :=
  OpenClaim.holds_of_wide 3 Try.f3 rfl rfl rfl rfl rfl rfl rfl ⟨rfl, rfl, rfl, rfl, rfl⟩ rfl rfl rfl rfl rfl (by kernel_rfl) Try.func3 (by kernel_rfl)
    (of_decide_eq_true (by kernel_rfl)) (by unfold Func.isWrapper; first | (rw [if_pos (by decide +kernel)]; kernel_rfl) | (rw [if_neg (by decide +kernel)]; exact ⟨rfl, rfl⟩))
    (fun os started H enc _ => wideLays_lifted os started H enc)
#print axioms WideLays_holds
end Go.Proofs.Ytokebghephfjhaa
