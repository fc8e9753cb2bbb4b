/-
  What came in, opened: a key, an entry, a sum and a number.
-/
import Derived.Test.YthocjhiapngacaaOpenR
import Derived.Test.YthocjhiapngacaaRecV
set_option linter.all false
namespace Go.Proofs.Ythocjhiapngacaa
open Go.ChangeShapes Go.WideShapes Go.ChangeAt Go.RowKit Go.Deep

theorem Try.cellsFour : Try.prog.cellsOf 40 = 67 := by kernel_rfl
theorem four_fields : Try.prog.underlying 40 = some (.struct (Try.prog.fieldsOf 40)) := by kernel_rfl
theorem four_flist : (Try.prog.fieldsOf 40).toList.map (fun f => (f.name, f.type, f.offset)) = [("K", 23, 0), ("X", 25, 32), ("Y", 26, 34), ("N", 3, 66)] := by kernel_rfl

section
variable {H : Type} {enc : TypeId × Value → H} {w : World} {base : Nat} {spare : Nat → Bool} {held : Bool}
theorem cut4 (cs : List Value) : cs = cs.take 32 ++ ((cs.drop 32).take 2 ++ ((cs.drop 34).take 32 ++ cs.drop 66)) := by
  have e1 : cs.drop 34 = (cs.drop 34).take 32 ++ cs.drop 66 := by
    have := (List.take_append_drop 32 (cs.drop 34)).symm
    rwa [List.drop_drop] at this
  have e2 : cs.drop 32 = (cs.drop 32).take 2 ++ cs.drop 34 := by
    have := (List.take_append_drop 2 (cs.drop 32)).symm
    rwa [List.drop_drop] at this
  rw [← e1, ← e2, List.take_append_drop]
theorem four_cs {fuel : Nat} {cs : List Value} {x : DataW H × List MemPlace} (h : DataW.trod enc Try.prog w base spare held fuel 40 cs = some x) :
    ∃ (k : List UInt8) (d : Bool) (v : ByteArray) (y : List UInt8) (n : Int), k.length = 32 ∧ y.length = 32 ∧ cs = fourL k d v y n := by
  obtain ⟨xs, m, _, _, hl, hxl, hf⟩ := DataW.trod_struct four_fields h
  rw [Try.cellsFour] at hl
  obtain ⟨fs, hfs⟩ : ∃ fs, (Try.prog.fieldsOf 40).toList = fs := ⟨_, rfl⟩
  have hfl := four_flist
  rw [hfs] at hfl
  have hxl' : xs.length = fs.length := by rw [hxl, ← hfs]; simp
  have hf' : ∀ (i : Nat) (f : Field), fs[i]? = some f → DataW.trod enc Try.prog w base spare held m f.type ((cs.drop f.offset).take (Try.prog.cellsOf f.type)) = xs[i]? := fun i f hi => hf i f (by rw [← Array.getElem?_toList, hfs]; exact hi)
  match fs, hfl, xs, hxl' with
  | [f1, f2, f3, f4], hfl, [y1, y2, y3, y4], _ =>
    simp only [List.map_cons, List.map_nil, List.cons.injEq, Prod.mk.injEq, and_true] at hfl
    obtain ⟨⟨n1, t1, o1⟩, ⟨n2, t2, o2⟩, ⟨n3, t3, o3⟩, ⟨n4, t4, o4⟩⟩ := hfl
    have e1 := hf' 0 f1 rfl
    have e2 := hf' 1 f2 rfl
    have e3 := hf' 2 f3 rfl
    have e4 := hf' 3 f4 rfl
    rw [t1, o1, Try.cellsKey] at e1
    rw [t2, o2, Try.cellsEnt] at e2
    rw [t3, o3, Try.cellsSum] at e3
    rw [t4, o4, Try.cellsInt] at e4
    obtain ⟨k, hk, hkk⟩ := arr_cs key_array Try.cellsKey (x := y1) e1
    obtain ⟨d, v, _, hv⟩ := ent_cs (x := y2) e2
    obtain ⟨s, hs, hss⟩ := arr_cs sum_array Try.cellsSum (x := y3) e3
    obtain ⟨b, hb, _⟩ := DataW.trod_int Try.underlying3 (x := y4) e4
    refine ⟨k, d, v, s, b, hk, hs, ?_⟩
    have h5 := cut4 cs
    rw [List.drop_zero] at hkk
    rw [List.take_of_length_le (by rw [List.length_drop]; omega)] at hb
    rw [hkk, hv, hss, hb] at h5
    exact h5
theorem open_four {r : Reach} {b0 : Nat} {v : Value} {d : DataW H} {p : List MemPlace} (hv : Value.okWide Try.prog w r b0 40 v) (h : DataW.Trod enc Try.prog w base spare held 40 v d p) :
    ∃ (k : List UInt8) (x : Bool) (u : ByteArray) (y : List UInt8) (n : Int), k.length = 32 ∧ y.length = 32 ∧ v = .agg (fourL k x u y n).toArray := by
  obtain ⟨cs, rfl, hsz⟩ := okWide_struct four_fields hv
  obtain ⟨fuel, hf⟩ := h
  obtain ⟨k, x, u, y, n, hk, hy, hcs⟩ := four_cs hf
  refine ⟨k, x, u, y, n, hk, hy, ?_⟩
  have e : cs.toList = fourL k x u y n := by simpa [Value.cells] using hcs
  rw [← e]
end
end Go.Proofs.Ythocjhiapngacaa
