/-
  What came in, opened: a law's calls of areas; texts.
-/
import Derived.Test.YtdpffgcekjdneaaOpenD
import Derived.Test.YtdpffgcekjdneaaAreaDoes
set_option linter.all false
namespace Go.Proofs.Ytdpffgcekjdneaa
open Go.ChangeShapes Go.WideShapes Go.ChangeAt Go.RowKit Go.Deep

theorem Try.cellsAct23 : Try.prog.cellsOf 79 = 4 := by kernel_rfl

section
variable {H : Type} {enc : TypeId × Value → H} {P : Program} {w : World} {base : Nat} {spare : Nat → Bool} {held : Bool}
/-- Three whole numbers and a text side by side. -/
theorem act4_cs {t : TypeId} {f0 f1 f2 f3 : Field} {fuel : Nat} {cs : List Value} {x : DataW H × List MemPlace} (ht : P.underlying t = some (.struct #[f0, f1, f2, f3])) (hone : oneCellFields P #[f0, f1, f2, f3] = true) (hc : P.cellsOf t = 4)
    (h0 : P.underlying f0.type = some (.int .i64)) (h1 : P.underlying f1.type = some (.int .i64)) (h2 : P.underlying f2.type = some (.int .i64)) (h3 : P.underlying f3.type = some .string) (h : DataW.trod enc P w base spare held fuel t cs = some x) :
    ∃ (a b c : Int) (s : ByteArray), cs = [.int .i64 a, .int .i64 b, .int .i64 c, .string s] := by
  obtain ⟨xs, n, _, _, hlen, hxl, hf⟩ := DataW.trod_struct ht h
  obtain ⟨o0, k0⟩ := hone_of hone 0 f0 rfl
  obtain ⟨o1, k1⟩ := hone_of hone 1 f1 rfl
  obtain ⟨o2, k2⟩ := hone_of hone 2 f2 rfl
  obtain ⟨o3, k3⟩ := hone_of hone 3 f3 rfl
  rw [hc] at hlen
  match cs, hlen, xs, hxl with
  | [c0, c1, c2, c3], _, [y0, y1, y2, y3], _ =>
    have e0 := hf 0 f0 rfl
    have e1 := hf 1 f1 rfl
    have e2 := hf 2 f2 rfl
    have e3 := hf 3 f3 rfl
    rw [o0, k0] at e0
    rw [o1, k1] at e1
    rw [o2, k2] at e2
    rw [o3, k3] at e3
    obtain ⟨a, ha, _⟩ := DataW.trod_int h0 (x := y0) (by simpa using e0)
    obtain ⟨b, hb, _⟩ := DataW.trod_int h1 (x := y1) (by simpa using e1)
    obtain ⟨c, hcc, _⟩ := DataW.trod_int h2 (x := y2) (by simpa using e2)
    obtain ⟨s, hs, _⟩ := DataW.trod_string h3 (x := y3) (by simpa using e3)
    simp only [List.cons.injEq, and_true] at ha hb hcc hs
    exact ⟨a, b, c, s, by rw [ha, hb, hcc, hs]⟩

theorem acts4_of {e : TypeId} {A : Option Addr} {len : Nat} {V : Nat → List Value} (hc : P.cellsOf e = 4) (hV : ∀ i, i < len → ∃ (a b c : Int) (s : ByteArray), V i = [.int .i64 a, .int .i64 b, .int .i64 c, .string s])
    (h : 0 < len → ∃ b off, A = some ⟨b, off, none⟩ ∧ b < w.heap.size ∧ ∀ i, i < len → ∀ j, j < P.cellsOf e → w.cell? ⟨b, off + i * P.cellsOf e + j, none⟩ = (V i)[j]?) :
    ∃ l : List (Int × Int × Int × ByteArray), l.length = len ∧ Acts4 w w.heap.size A l := by
  obtain ⟨K, hK⟩ := choose_lt (α := Int × Int × Int × ByteArray) (p := fun i k => V i = [.int .i64 k.1, .int .i64 k.2.1, .int .i64 k.2.2.1, .string k.2.2.2]) (fun i hi => by
    obtain ⟨a, b, c, s, h1⟩ := hV i hi
    exact ⟨(a, b, c, s), h1⟩)
  refine ⟨(List.range len).map K, by simp, ?_⟩
  rcases Nat.eq_zero_or_pos len with h0 | h0
  · subst h0
    exact .inl rfl
  · obtain ⟨b, off, hA, hb, hcell⟩ := h h0
    refine .inr ⟨b, off, hA, hb, fun i hi => ?_⟩
    have hil : i < len := by simpa using hi
    have e0 := hcell i hil 0 (by omega)
    have e1 := hcell i hil 1 (by omega)
    have e2 := hcell i hil 2 (by omega)
    have e3 := hcell i hil 3 (by omega)
    rw [hc, hK i hil] at e0 e1 e2 e3
    have eK : ((List.range len).map K)[i] = K i := by simp
    rw [eK]
    exact ⟨by simpa using e0, by simpa using e1, by simpa using e2, by simpa using e3⟩

/-- Texts. -/
theorem strs_of {e : TypeId} {A : Option Addr} {len : Nat} {V : Nat → List Value} (hc : P.cellsOf e = 1) (hV : ∀ i, i < len → ∃ s : ByteArray, V i = [.string s])
    (h : 0 < len → ∃ b off, A = some ⟨b, off, none⟩ ∧ b < w.heap.size ∧ ∀ i, i < len → ∀ j, j < P.cellsOf e → w.cell? ⟨b, off + i * P.cellsOf e + j, none⟩ = (V i)[j]?) :
    ∃ l : List ByteArray, l.length = len ∧ Rd w w.heap.size A (l.map .string) := by
  obtain ⟨K, hK⟩ := choose_lt (α := ByteArray) (p := fun i k => V i = [.string k]) hV
  refine ⟨(List.range len).map K, by simp, ?_⟩
  rcases Nat.eq_zero_or_pos len with h0 | h0
  · subst h0
    exact .inl rfl
  · obtain ⟨b, off, hA, hb, hcell⟩ := h h0
    refine .inr ⟨b, off, hA, hb, fun i v hv => ?_⟩
    have hil : i < len := by
      rcases Nat.lt_or_ge i len with hh | hh
      · exact hh
      · rw [List.getElem?_eq_none (by simpa using hh)] at hv; cases hv
    have e0 := hcell i hil 0 (by omega)
    rw [hc, hK i hil] at e0
    have eK : v = .string (K i) := by
      rw [List.getElem?_map, List.getElem?_map, List.getElem?_range hil] at hv
      simpa using hv.symm
    rw [eK]
    simpa using e0
end
end Go.Proofs.Ytdpffgcekjdneaa
