/-
  A slice that came in, as lists of cells; pairs of whole numbers.
-/
import Derived.Test.YthocjhiapngacaaFrame
import Derived.Deep.Slices
import Derived.Deep.Fields
set_option linter.all false
namespace Go.Proofs.Ythocjhiapngacaa
open Go.ChangeShapes Go.WideShapes Go.ChangeAt Go.RowKit Go.Deep

theorem slice_cells {H : Type} {enc : TypeId × Value → H} {P : Program} {w : World} {base base0 : Nat} {r : Reach} {spare : Nat → Bool} {held : Bool} {t e : TypeId} {v : Value} {d : DataW H} {p : List MemPlace}
    (ht : P.underlying t = some (.slice e)) (hv : Value.okWide P w r base0 t v) (h : DataW.Trod enc P w base spare held t v d p) (hpos : 0 < P.cellsOf e) :
    ∃ (A : Option Addr) (len cap : Nat) (V : Nat → List Value), v = .slice A len cap ∧ len ≤ cap ∧ cap ≤ maxLen ∧
      (∀ i, i < len → (V i).length = P.cellsOf e ∧ ∃ n y, DataW.trod enc P w base spare held n e (V i) = some y) ∧
      (0 < len → ∃ b off, A = some ⟨b, off, none⟩ ∧ b < w.heap.size ∧ ∀ i, i < len → ∀ j, j < P.cellsOf e → w.cell? ⟨b, off + i * P.cellsOf e + j, none⟩ = (V i)[j]?) := by
  obtain ⟨A, len, cap, rfl⟩ := okWide_slice ht hv
  obtain ⟨fuel, hf⟩ := h
  rcases open_slice ht hf with ⟨hcs, _⟩ | ⟨a, len', cap', m, n, D, Pl, hcs, hb, hl, hm, hmm, hx, hi⟩
  · simp [Value.cells] at hcs
    obtain ⟨rfl, rfl, rfl⟩ := hcs
    exact ⟨none, 0, 0, fun _ => [], rfl, Nat.le_refl _, by simp [maxLen], fun i hi => by omega, fun hh => by omega⟩
  · simp [Value.cells] at hcs
    obtain ⟨rfl, rfl, rfl⟩ := hcs
    have hlm : len ≤ m := by rw [hmm]; split <;> omega
    obtain ⟨V, hV⟩ := choose_lt (α := List Value) (p := fun i cs' => w.cells? base (a.add (i * P.cellsOf e)) (P.cellsOf e) = some cs' ∧ DataW.trod enc P w base spare held n e cs' = some (D i, Pl i)) hi
    refine ⟨some a, len, cap, V, rfl, hl, hm, fun i hil => ⟨(World.cells?_some (hV i (by omega)).1).2.1, n, _, (hV i (by omega)).2⟩, fun h0 => ?_⟩
    have hc0 := (World.cells?_some (hV 0 (by omega)).1).2.2 0 hpos
    have hl0 := (World.cells?_some (hV 0 (by omega)).1).2.1
    rw [List.getElem?_eq_getElem (by omega)] at hc0
    obtain ⟨b, off, spot⟩ := a
    have hz : ((⟨b, off, spot⟩ : Addr).add (0 * P.cellsOf e)).add 0 = ⟨b, off, spot⟩ := by simp [Addr.add]
    rw [hz] at hc0
    have hs := World.cell?_spot hc0
    subst hs
    refine ⟨b, off, rfl, World.block_lt_of_cell? w _ hc0, fun i hil j hj => ?_⟩
    have := (World.cells?_some (hV i (by omega)).1).2.2 j hj
    rw [Addr.add_lit, Addr.add_lit] at this
    exact this

/-- Two whole numbers side by side. -/
theorem trod_ints2 {H : Type} {enc : TypeId × Value → H} {P : Program} {w : World} {base : Nat} {spare : Nat → Bool} {held : Bool} {t : TypeId} {f0 f1 : Field} {fuel : Nat} {cs : List Value} {x : DataW H × List MemPlace}
    (ht : P.underlying t = some (.struct #[f0, f1])) (hone : oneCellFields P #[f0, f1] = true) (hc : P.cellsOf t = 2) (h0 : P.underlying f0.type = some (.int .i64)) (h1 : P.underlying f1.type = some (.int .i64))
    (h : DataW.trod enc P w base spare held fuel t cs = some x) : ∃ a b : Int, cs = [.int .i64 a, .int .i64 b] := by
  obtain ⟨xs, n, _, _, hlen, hxl, hf⟩ := DataW.trod_struct ht h
  obtain ⟨o0, k0⟩ := hone_of hone 0 f0 rfl
  obtain ⟨o1, k1⟩ := hone_of hone 1 f1 rfl
  rw [hc] at hlen
  match cs, hlen, xs, hxl with
  | [c0, c1], _, [y0, y1], _ =>
    have e0 := hf 0 f0 rfl
    have e1 := hf 1 f1 rfl
    rw [o0, k0] at e0
    rw [o1, k1] at e1
    obtain ⟨a, ha, _⟩ := DataW.trod_int h0 (x := y0) (by simpa using e0)
    obtain ⟨b, hb, _⟩ := DataW.trod_int h1 (x := y1) (by simpa using e1)
    simp only [List.cons.injEq, and_true] at ha hb
    exact ⟨a, b, by rw [ha, hb]⟩
end Go.Proofs.Ythocjhiapngacaa
