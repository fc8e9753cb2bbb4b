/-
  What came in, opened: supers.
-/
import Derived.Test.YtdpffgcekjdneaaOpenD
import Derived.Test.YtdpffgcekjdneaaSupJ
import Derived.Lib.SmallJoins
set_option linter.all false
namespace Go.Proofs.Ytdpffgcekjdneaa
open Go.ChangeShapes Go.WideShapes Go.ChangeAt Go.RowKit Go.Deep

theorem Try.cellsSuper : Try.prog.cellsOf 53 = 3 := by kernel_rfl

/-- Supers that a slice reads, below block B. -/
def SupsAt (w : World) (B : Nat) (A : Option Addr) (l : List (Int × Int × Int)) : Prop :=
  l = [] ∨ ∃ g off, A = some ⟨g, off, none⟩ ∧ g < B ∧ ∀ (i : Nat) (h : i < l.length), w.cell? ⟨g, off + i * 3, none⟩ = some (.int .u64 l[i].1) ∧ w.cell? ⟨g, off + i * 3 + 1, none⟩ = some (.int .i64 l[i].2.1) ∧ w.cell? ⟨g, off + i * 3 + 2, none⟩ = some (.int .i64 l[i].2.2)
theorem SupsAt.frm {T : Nat → Prop} {w w' : World} {B : Nat} {A : Option Addr} {l : List (Int × Int × Int)} (h : SupsAt w B A l) (hf : Frm T w w') (hT : ∀ k, k < B → ¬ T k) : SupsAt w' B A l := by
  rcases h with h | ⟨g, off, hA, hg, hc⟩
  · exact .inl h
  · refine .inr ⟨g, off, hA, hg, fun i hi => ?_⟩
    obtain ⟨h1, h2, h3⟩ := hc i hi
    exact ⟨cell_frm h1 hf (hT g hg), cell_frm h2 hf (hT g hg), cell_frm h3 hf (hT g hg)⟩
theorem SupsAt.at_ {w : World} {B : Nat} {A : Option Addr} {l : List (Int × Int × Int)} (h : SupsAt w B A l) {i : Nat} (hi : i < l.length) :
    ∃ g off, A = some ⟨g, off, none⟩ ∧ g < B ∧ w.cell? ⟨g, off + i * 3, none⟩ = some (.int .u64 l[i].1) ∧ w.cell? ⟨g, off + i * 3 + 1, none⟩ = some (.int .i64 l[i].2.1) ∧ w.cell? ⟨g, off + i * 3 + 2, none⟩ = some (.int .i64 l[i].2.2) := by
  rcases h with rfl | ⟨g, off, hA, hg, hc⟩
  · simp at hi
  · exact ⟨g, off, hA, hg, hc i hi⟩

section
variable {H : Type} {enc : TypeId × Value → H} {P : Program} {w : World} {base : Nat} {spare : Nat → Bool} {held : Bool}
/-- A number and two whole numbers side by side. -/
theorem sup_cs {t : TypeId} {f0 f1 f2 : Field} {fuel : Nat} {cs : List Value} {x : DataW H × List MemPlace} (ht : P.underlying t = some (.struct #[f0, f1, f2])) (hone : oneCellFields P #[f0, f1, f2] = true) (hc : P.cellsOf t = 3)
    (h0 : P.underlying f0.type = some (.int .u64)) (h1 : P.underlying f1.type = some (.int .i64)) (h2 : P.underlying f2.type = some (.int .i64)) (h : DataW.trod enc P w base spare held fuel t cs = some x) :
    ∃ (a b c : Int), cs = [.int .u64 a, .int .i64 b, .int .i64 c] := by
  obtain ⟨xs, n, _, _, hlen, hxl, hf⟩ := DataW.trod_struct ht h
  obtain ⟨o0, k0⟩ := hone_of hone 0 f0 rfl
  obtain ⟨o1, k1⟩ := hone_of hone 1 f1 rfl
  obtain ⟨o2, k2⟩ := hone_of hone 2 f2 rfl
  rw [hc] at hlen
  match cs, hlen, xs, hxl with
  | [c0, c1, c2], _, [y0, y1, y2], _ =>
    have e0 := hf 0 f0 rfl
    have e1 := hf 1 f1 rfl
    have e2 := hf 2 f2 rfl
    rw [o0, k0] at e0
    rw [o1, k1] at e1
    rw [o2, k2] at e2
    obtain ⟨a, ha, _⟩ := DataW.trod_int h0 (x := y0) (by simpa using e0)
    obtain ⟨b, hb, _⟩ := DataW.trod_int h1 (x := y1) (by simpa using e1)
    obtain ⟨c, hcc, _⟩ := DataW.trod_int h2 (x := y2) (by simpa using e2)
    simp only [List.cons.injEq, and_true] at ha hb hcc
    exact ⟨a, b, c, by rw [ha, hb, hcc]⟩
theorem sups_of {e : TypeId} {A : Option Addr} {len : Nat} {V : Nat → List Value} (hc : P.cellsOf e = 3) (hV : ∀ i, i < len → ∃ (a b c : Int), V i = [.int .u64 a, .int .i64 b, .int .i64 c])
    (h : 0 < len → ∃ b off, A = some ⟨b, off, none⟩ ∧ b < w.heap.size ∧ ∀ i, i < len → ∀ j, j < P.cellsOf e → w.cell? ⟨b, off + i * P.cellsOf e + j, none⟩ = (V i)[j]?) :
    ∃ l : List (Int × Int × Int), l.length = len ∧ SupsAt w w.heap.size A l := by
  obtain ⟨K, hK⟩ := choose_lt (α := Int × Int × Int) (p := fun i k => V i = [.int .u64 k.1, .int .i64 k.2.1, .int .i64 k.2.2]) (fun i hi => by
    obtain ⟨a, b, c, h1⟩ := hV i hi
    exact ⟨(a, b, c), h1⟩)
  refine ⟨(List.range len).map K, by simp, ?_⟩
  rcases Nat.eq_zero_or_pos len with h0 | h0
  · subst h0
    exact .inl rfl
  · obtain ⟨b, off, hA, hb, hcell⟩ := h h0
    refine .inr ⟨b, off, hA, hb, fun i hi => ?_⟩
    have hil : i < len := by simpa using hi
    have e0 := hcell i hil 0 (by omega)
    have e1 := hcell i hil 1 (by omega)
    have e2 := hcell i hil 2 (by omega)
    rw [hc, hK i hil] at e0 e1 e2
    have eK : ((List.range len).map K)[i] = K i := by simp
    rw [eK]
    exact ⟨by simpa using e0, by simpa using e1, by simpa using e2⟩
/-- A super by value. -/
theorem open_sup {r : Reach} {b0 : Nat} {t : TypeId} {f0 f1 f2 : Field} {v : Value} {d : DataW H} {p : List MemPlace} (hs : P.underlying t = some (.struct #[f0, f1, f2])) (hone : oneCellFields P #[f0, f1, f2] = true) (hC : P.cellsOf t = 3)
    (h0 : P.underlying f0.type = some (.int .u64)) (h1 : P.underlying f1.type = some (.int .i64)) (h2 : P.underlying f2.type = some (.int .i64))
    (hv : Value.okWide P w r b0 t v) (h : DataW.Trod enc P w base spare held t v d p) : ∃ (g : Nat) (a l : Int), v = .agg #[.int .u64 g, .int .i64 a, .int .i64 l] := by
  obtain ⟨v0, v1, v2, y0, y1, y2, n, rfl, _, _, e0, e1, e2⟩ := Joins.open_agg3 hs hone hC hv h
  obtain ⟨a, ha, _, hw⟩ := DataW.trod_int h0 e0
  obtain ⟨b, hb, _⟩ := DataW.trod_int h1 e1
  obtain ⟨c, hcc, _⟩ := DataW.trod_int h2 e2
  have hr : 0 ≤ a := by
    have : 0 ≤ a ∧ a ≤ 18446744073709551615 := by simpa [Lit.wf, IntKind.min, IntKind.max, IntKind.signed, IntKind.bits] using hw
    exact this.1
  obtain ⟨g, rfl⟩ := Int.eq_ofNat_of_zero_le hr
  simp only [List.cons.injEq, and_true] at ha hb hcc
  exact ⟨g, b, c, by rw [ha, hb, hcc]⟩
end
end Go.Proofs.Ytdpffgcekjdneaa
