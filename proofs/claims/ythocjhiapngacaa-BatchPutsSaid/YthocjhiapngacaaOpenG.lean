/-
  What came in, opened: slices of records.
-/
import Derived.Test.YthocjhiapngacaaOpenR
set_option linter.all false
namespace Go.Proofs.Ythocjhiapngacaa
open Go.ChangeShapes Go.WideShapes Go.ChangeAt Go.RowKit Go.Deep

instance : Inhabited Rcd := ⟨⟨0, [], false, ⟨#[]⟩, [], 0⟩⟩
theorem slice_recs {H : Type} {enc : TypeId × Value → H} {w : World} {base base0 : Nat} {r : Reach} {spare : Nat → Bool} {held : Bool} {v : Value} {d : DataW H} {p : List MemPlace}
    (hv : Value.okWide Try.prog w r base0 44 v) (h : DataW.Trod enc Try.prog w base spare held 44 v d p) :
    ∃ (A : Option Addr) (cap : Nat) (rs : List Rcd), v = .slice A rs.length cap ∧ rs.length ≤ maxLen ∧ OkR rs ∧ (∀ q ∈ rs, q.val.size ≤ maxLen) ∧ RdR w (fun _ => True) A rs ∧ (A = none → rs = [] ∧ cap = 0) := by
  obtain ⟨A, len, cap, rfl⟩ := okWide_slice Try.underlying44 hv
  obtain ⟨fuel, hf⟩ := h
  rcases open_slice Try.underlying44 hf with ⟨hcs, _⟩ | ⟨a, len', cap', m, n, D, Pl, hcs, hb, hl, hm, hmm, hx, hi⟩
  · simp [Value.cells] at hcs
    obtain ⟨rfl, rfl, rfl⟩ := hcs
    exact ⟨none, 0, [], rfl, Nat.zero_le _, fun _ h => (by cases h), fun _ h => (by cases h), .inl rfl, fun _ => ⟨rfl, rfl⟩⟩
  · simp [Value.cells] at hcs
    obtain ⟨rfl, rfl, rfl⟩ := hcs
    have hlm : len ≤ m := by rw [hmm]; split <;> omega
    obtain ⟨V, hV⟩ := choose_lt (α := List Value) (p := fun i cs' => w.cells? base (a.add (i * Try.prog.cellsOf 28)) (Try.prog.cellsOf 28) = some cs' ∧ DataW.trod enc Try.prog w base spare held n 28 cs' = some (D i, Pl i)) hi
    obtain ⟨K, hK⟩ := choose_lt (α := Rcd) (n := len) (p := fun i q => q.ok ∧ q.val.size ≤ maxLen ∧ V i = recL q) (fun i hil => rec_cs (hV i (by omega)).2)
    have hmem : ∀ q ∈ (List.range len).map K, q.ok ∧ q.val.size ≤ maxLen := fun q hq => by
      obtain ⟨i, hi, rfl⟩ := List.mem_map.1 hq
      have := hK i (List.mem_range.1 hi)
      exact ⟨this.1, this.2.1⟩
    refine ⟨some a, cap, (List.range len).map K, by simp, by simp; omega, fun q hq => (hmem q hq).1, fun q hq => (hmem q hq).2, ?_, fun hh => by cases hh⟩
    rcases Nat.eq_zero_or_pos len with h0 | h0
    · exact .inl (by rw [h0]; rfl)
    · have hpos : 0 < Try.prog.cellsOf 28 := by rw [Try.cellsRec]; omega
      have hc0 := (World.cells?_some (hV 0 (by omega)).1).2.2 0 hpos
      have hl0 := (World.cells?_some (hV 0 (by omega)).1).2.1
      rw [List.getElem?_eq_getElem (by omega)] at hc0
      obtain ⟨b, off, spot⟩ := a
      have hz : ((⟨b, off, spot⟩ : Addr).add (0 * Try.prog.cellsOf 28)).add 0 = ⟨b, off, spot⟩ := by simp [Addr.add]
      rw [hz] at hc0
      have hs := World.cell?_spot hc0
      subst hs
      refine .inr ⟨b, off, rfl, True.intro, World.block_lt_of_cell? w _ hc0, fun i q hq j u hu => ?_⟩
      have hil : i < len := by
        have := (List.getElem?_eq_some_iff.1 hq).1
        simpa using this
      have hqk : q = K i := by
        rw [List.getElem?_map, List.getElem?_range hil] at hq
        simpa using hq.symm
      obtain ⟨k1, k2, k3⟩ := hK i hil
      have hj : j < 68 := by
        have := (List.getElem?_eq_some_iff.1 hu).1
        rw [hqk, recL_length k1] at this
        exact this
      have := (World.cells?_some (hV i (by omega)).1).2.2 j (by rw [Try.cellsRec]; exact hj)
      rw [Addr.add_lit, Addr.add_lit, Try.cellsRec, k3, ← hqk, hu] at this
      exact this
end Go.Proofs.Ythocjhiapngacaa
