/-
  What came in, opened: records, by value and in slices; a key, an entry, a sum and a number.
-/
import Derived.Test.YthocjhiapngacaaSlices
import Derived.Test.YthocjhiapngacaaRecR
import Derived.OpenShut
set_option linter.all false
namespace Go.Proofs.Ythocjhiapngacaa
open Go.ChangeShapes Go.WideShapes Go.ChangeAt Go.RowKit Go.Deep

theorem Try.cellsU8 : Try.prog.cellsOf 5 = 1 := by kernel_rfl
theorem Try.cellsInt : Try.prog.cellsOf 3 = 1 := by kernel_rfl
theorem Try.cellsBool : Try.prog.cellsOf 4 = 1 := by kernel_rfl
theorem Try.cellsStr : Try.prog.cellsOf 9 = 1 := by kernel_rfl
theorem Try.cellsKey : Try.prog.cellsOf 23 = 32 := by kernel_rfl
theorem Try.cellsSum : Try.prog.cellsOf 26 = 32 := by kernel_rfl
theorem Try.cellsEnt : Try.prog.cellsOf 25 = 2 := by kernel_rfl
theorem Try.cellsRec : Try.prog.cellsOf 28 = 68 := by kernel_rfl

section
variable {H : Type} {enc : TypeId × Value → H} {w : World} {base : Nat} {spare : Nat → Bool} {held : Bool}

/-- Thirty-two bytes. -/
theorem arr_cs {t : TypeId} {fuel : Nat} {cs : List Value} {x : DataW H × List MemPlace} (ht : Try.prog.underlying t = some (.array 32 5)) (hc : Try.prog.cellsOf t = 32) (h : DataW.trod enc Try.prog w base spare held fuel t cs = some x) :
    ∃ k : List UInt8, k.length = 32 ∧ cs = keyL k := by
  obtain ⟨xs, m, _, _, hl, hxl, hf⟩ := DataW.trod_array ht h
  rw [hc] at hl
  obtain ⟨K, hK⟩ := choose_lt (α := UInt8) (n := 32) (p := fun i b => cs[i]? = some (byteV b)) (fun i hi => by
    have h1 := hf i hi
    rw [Try.cellsU8, Nat.mul_one, List.getElem?_eq_getElem (by omega)] at h1
    obtain ⟨a, ha, _, hw⟩ := DataW.trod_int Try.underlying5 h1
    have hr : 0 ≤ a ∧ a ≤ 255 := by simpa [Lit.wf, IntKind.min, IntKind.max, IntKind.signed, IntKind.bits] using hw
    refine ⟨UInt8.ofNat a.toNat, ?_⟩
    have e : ((cs.drop i).take 1)[0]? = some (.int .u8 a) := by rw [ha]; rfl
    rw [List.getElem?_take_of_lt (by omega), List.getElem?_drop, Nat.add_zero] at e
    rw [e]
    unfold byteV
    have : (UInt8.ofNat a.toNat).toNat = a.toNat := by
      simp; omega
    rw [this]
    congr 2
    omega)
  refine ⟨(List.range 32).map K, by simp, ?_⟩
  apply List.ext_getElem?
  intro i
  by_cases hi : i < 32
  · rw [hK i hi, keyL, List.getElem?_map, List.getElem?_map, List.getElem?_range hi]
    rfl
  · rw [List.getElem?_eq_none (by omega), List.getElem?_eq_none (by rw [keyL_length]; simp; omega)]

theorem ent_cs {fuel : Nat} {cs : List Value} {x : DataW H × List MemPlace} (h : DataW.trod enc Try.prog w base spare held fuel 25 cs = some x) :
    ∃ (d : Bool) (v : ByteArray), v.size ≤ maxLen ∧ cs = entL d v := by
  obtain ⟨xs, m, _, _, hl, hxl, hf⟩ := DataW.trod_struct ent_fields h
  rw [Try.cellsEnt] at hl
  obtain ⟨fs, hfs⟩ : ∃ fs, (Try.prog.fieldsOf 25).toList = fs := ⟨_, rfl⟩
  have hfl := ent_flist
  rw [hfs] at hfl
  have hxl' : xs.length = fs.length := by rw [hxl, ← hfs]; simp
  have hf' : ∀ (i : Nat) (f : Field), fs[i]? = some f → DataW.trod enc Try.prog w base spare held m f.type ((cs.drop f.offset).take (Try.prog.cellsOf f.type)) = xs[i]? := fun i f hi => hf i f (by rw [← Array.getElem?_toList, hfs]; exact hi)
  match fs, hfl, cs, hl, xs, hxl' with
  | [f0, f1], hfl, [c0, c1], _, [y0, y1], _ =>
    simp only [List.map_cons, List.map_nil, List.cons.injEq, Prod.mk.injEq, and_true] at hfl
    obtain ⟨⟨n0, t0, o0⟩, ⟨n1, t1, o1⟩⟩ := hfl
    have e0 := hf' 0 f0 rfl
    have e1 := hf' 1 f1 rfl
    rw [t0, o0, Try.cellsBool] at e0
    rw [t1, o1, Try.cellsStr] at e1
    obtain ⟨d, hd, _⟩ := DataW.trod_bool Try.underlying4 (x := y0) e0
    obtain ⟨v, hv, _, hz⟩ := DataW.trod_string Try.underlying9 (x := y1) e1
    simp only [List.drop_zero, List.take_succ_cons, List.take_zero, List.drop_succ_cons, List.cons.injEq, and_true] at hd hv
    exact ⟨d, v, hz, by rw [hd, hv]; rfl⟩

theorem cut5 (cs : List Value) : cs = cs.take 1 ++ ((cs.drop 1).take 32 ++ ((cs.drop 33).take 2 ++ ((cs.drop 35).take 32 ++ cs.drop 67))) := by
  have e1 : cs.drop 35 = (cs.drop 35).take 32 ++ cs.drop 67 := by
    have := (List.take_append_drop 32 (cs.drop 35)).symm
    rwa [List.drop_drop] at this
  have e2 : cs.drop 33 = (cs.drop 33).take 2 ++ cs.drop 35 := by
    have := (List.take_append_drop 2 (cs.drop 33)).symm
    rwa [List.drop_drop] at this
  have e3 : cs.drop 1 = (cs.drop 1).take 32 ++ cs.drop 33 := by
    have := (List.take_append_drop 32 (cs.drop 1)).symm
    rwa [List.drop_drop] at this
  rw [← e1, ← e2, ← e3, List.take_append_drop]

/-- A record's cells. -/
theorem rec_cs {fuel : Nat} {cs : List Value} {x : DataW H × List MemPlace} (h : DataW.trod enc Try.prog w base spare held fuel 28 cs = some x) :
    ∃ r : Rcd, r.ok ∧ r.val.size ≤ maxLen ∧ cs = recL r := by
  obtain ⟨xs, m, _, _, hl, hxl, hf⟩ := DataW.trod_struct rec_fields h
  rw [Try.cellsRec] at hl
  obtain ⟨fs, hfs⟩ : ∃ fs, (Try.prog.fieldsOf 28).toList = fs := ⟨_, rfl⟩
  have hfl := rec_flist
  rw [hfs] at hfl
  have hxl' : xs.length = fs.length := by rw [hxl, ← hfs]; simp
  have hf' : ∀ (i : Nat) (f : Field), fs[i]? = some f → DataW.trod enc Try.prog w base spare held m f.type ((cs.drop f.offset).take (Try.prog.cellsOf f.type)) = xs[i]? := fun i f hi => hf i f (by rw [← Array.getElem?_toList, hfs]; exact hi)
  match fs, hfl, xs, hxl' with
  | [f0, f1, f2, f3, f4], hfl, [y0, y1, y2, y3, y4], _ =>
    simp only [List.map_cons, List.map_nil, List.cons.injEq, Prod.mk.injEq, and_true] at hfl
    obtain ⟨⟨n0, t0, o0⟩, ⟨n1, t1, o1⟩, ⟨n2, t2, o2⟩, ⟨n3, t3, o3⟩, ⟨n4, t4, o4⟩⟩ := hfl
    have e0 := hf' 0 f0 rfl
    have e1 := hf' 1 f1 rfl
    have e2 := hf' 2 f2 rfl
    have e3 := hf' 3 f3 rfl
    have e4 := hf' 4 f4 rfl
    rw [t0, o0, Try.cellsInt] at e0
    rw [t1, o1, Try.cellsKey] at e1
    rw [t2, o2, Try.cellsEnt] at e2
    rw [t3, o3, Try.cellsSum] at e3
    rw [t4, o4, Try.cellsInt] at e4
    obtain ⟨a, ha, _⟩ := DataW.trod_int Try.underlying3 (x := y0) e0
    obtain ⟨k, hk, hkk⟩ := arr_cs key_array Try.cellsKey (x := y1) e1
    obtain ⟨d, v, hz, hv⟩ := ent_cs (x := y2) e2
    obtain ⟨s, hs, hss⟩ := arr_cs sum_array Try.cellsSum (x := y3) e3
    obtain ⟨b, hb, _⟩ := DataW.trod_int Try.underlying3 (x := y4) e4
    refine ⟨⟨a, k, d, v, s, b⟩, ⟨hk, hs⟩, hz, ?_⟩
    have h5 := cut5 cs
    rw [List.drop_zero] at ha
    rw [List.take_of_length_le (by rw [List.length_drop]; omega)] at hb
    rw [ha, hkk, hv, hss, hb] at h5
    exact h5

/-- A record by value. -/
theorem open_rec {r : Reach} {b0 : Nat} {v : Value} {d : DataW H} {p : List MemPlace} (hv : Value.okWide Try.prog w r b0 28 v) (h : DataW.Trod enc Try.prog w base spare held 28 v d p) :
    ∃ q : Rcd, q.ok ∧ q.val.size ≤ maxLen ∧ v = .agg (recL q).toArray := by
  obtain ⟨cs, rfl, hsz⟩ := okWide_struct rec_fields hv
  obtain ⟨fuel, hf⟩ := h
  obtain ⟨q, hq, hz, hcs⟩ := rec_cs hf
  refine ⟨q, hq, hz, ?_⟩
  have e : cs.toList = recL q := by simpa [Value.cells] using hcs
  rw [← e]
end
end Go.Proofs.Ythocjhiapngacaa
