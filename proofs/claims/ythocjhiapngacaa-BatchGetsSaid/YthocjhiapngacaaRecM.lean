/-
  Records in memory: their cells, two of them compared.
-/
import Derived.Test.YthocjhiapngacaaWideF
import Derived.Stop.BytesEq
import Derived.Deep.MidRow
import Derived.Laws.Tables
set_option linter.all false
namespace Go.Proofs.Ythocjhiapngacaa
open Go.RowKit

/-- A record. -/
structure Rcd where
  kind : Int
  key : List UInt8
  dead : Bool
  val : ByteArray
  sum : List UInt8
  n : Int
/-- Its key and its sum are of 32 bytes. -/
def Rcd.ok (r : Rcd) : Prop := r.key.length = 32 ∧ r.sum.length = 32
def keyL (k : List UInt8) : List Value := k.map byteV
def entL (d : Bool) (v : ByteArray) : List Value := [.bool d, .string v]
def recL (r : Rcd) : List Value := .int .i64 r.kind :: (keyL r.key ++ (entL r.dead r.val ++ (keyL r.sum ++ [Value.int .i64 r.n])))

theorem keyL_length (k : List UInt8) : (keyL k).length = k.length := by simp [keyL]
theorem recL_length {r : Rcd} (h : r.ok) : (recL r).length = 68 := by
  simp [recL, keyL_length, entL, h.1, h.2]
theorem recL_kind (r : Rcd) : (recL r)[0]? = some (.int .i64 r.kind) := rfl
theorem recL_key {r : Rcd} (h : r.ok) : ((recL r).drop 1).take 32 = keyL r.key := by
  show (keyL r.key ++ _).take 32 = _
  exact List.take_left' (by rw [keyL_length]; exact h.1)
theorem recL_ent {r : Rcd} (h : r.ok) : ((recL r).drop 33).take 2 = entL r.dead r.val := by
  show ((keyL r.key ++ (entL r.dead r.val ++ (keyL r.sum ++ [Value.int .i64 r.n]))).drop 32).take 2 = _
  rw [List.drop_left' (by rw [keyL_length]; exact h.1)]
  rfl
theorem recL_sum {r : Rcd} (h : r.ok) : ((recL r).drop 35).take 32 = keyL r.sum := by
  show ((keyL r.key ++ (entL r.dead r.val ++ (keyL r.sum ++ [Value.int .i64 r.n]))).drop (32 + 2)).take 32 = _
  rw [← List.drop_drop, List.drop_left' (by rw [keyL_length]; exact h.1)]
  show ((keyL r.sum ++ [Value.int .i64 r.n])).take 32 = _
  exact List.take_left' (by rw [keyL_length]; exact h.2)
theorem recL_n {r : Rcd} (h : r.ok) : (recL r)[67]? = some (.int .i64 r.n) := by
  show (keyL r.key ++ (entL r.dead r.val ++ (keyL r.sum ++ [Value.int .i64 r.n])))[66]? = _
  rw [List.getElem?_append_right (by rw [keyL_length, h.1]; omega), keyL_length, h.1]
  show (keyL r.sum ++ [Value.int .i64 r.n])[32]? = _
  rw [List.getElem?_append_right (by rw [keyL_length, h.2]; omega), keyL_length, h.2]
  rfl
theorem recL_dead {r : Rcd} (h : r.ok) : (recL r)[33]? = some (.bool r.dead) := by
  show (keyL r.key ++ (entL r.dead r.val ++ (keyL r.sum ++ [Value.int .i64 r.n])))[32]? = _
  rw [List.getElem?_append_right (by rw [keyL_length, h.1]; omega), keyL_length, h.1]
  rfl
theorem recL_val {r : Rcd} (h : r.ok) : (recL r)[34]? = some (.string r.val) := by
  show (keyL r.key ++ (entL r.dead r.val ++ (keyL r.sum ++ [Value.int .i64 r.n])))[33]? = _
  rw [List.getElem?_append_right (by rw [keyL_length, h.1]; omega), keyL_length, h.1]
  rfl
theorem keyL_one (k : List UInt8) : ∀ v ∈ keyL k, v.oneCell' = true := fun v hv => by
  simp only [keyL, List.mem_map] at hv
  obtain ⟨b, _, rfl⟩ := hv
  rfl
theorem recL_one (r : Rcd) : ∀ v ∈ recL r, v.oneCell' = true := fun v hv => by
  simp only [recL, entL, List.mem_cons, List.mem_append, List.not_mem_nil, or_false] at hv
  rcases hv with rfl | hv | (rfl | rfl) | hv | rfl
  · rfl
  · exact keyL_one _ v hv
  · rfl
  · rfl
  · exact keyL_one _ v hv
  · rfl

/-- What of a row lies at a place. -/
theorem Blk.range {w : World} {g : Nat} {t : TypeId} {cs : List Value} (h : Blk w g t cs) (o n : Nat) : w.rangeAt g o ((cs.drop o).take n) := fun j v hv => by
  rw [h.cell]
  have hj : j < n := by
    rcases Nat.lt_or_ge j n with hh | hh
    · exact hh
    · rw [List.getElem?_eq_none (by rw [List.length_take]; omega)] at hv; cases hv
  rw [List.getElem?_take_of_lt hj, List.getElem?_drop] at hv
  exact hv

/-- Two records are one. -/
def recB (r q : Rcd) : Bool := r.kind == q.kind && (r.key == q.key && ((r.dead == q.dead && r.val.toList == q.val.toList) && (r.sum == q.sum && r.n == q.n)))
theorem recB_iff (r q : Rcd) : recB r q = true ↔ r = q := by
  obtain ⟨a, b, c, d, e, f⟩ := r
  obtain ⟨a', b', c', d', e', f'⟩ := q
  have hd : d.toList = d'.toList ↔ d = d' := by
    constructor
    · intro h
      apply ByteArray.ext
      have := congrArg List.toArray h
      simpa [ByteArray.toList_eq] using this
    · rintro rfl; rfl
  simp only [recB, Bool.and_eq_true, beq_iff_eq, Rcd.mk.injEq, hd]
  constructor
  · rintro ⟨h1, h2, ⟨h3, h4⟩, h5, h6⟩
    exact ⟨h1, h2, h3, h4, h5, h6⟩
  · rintro ⟨h1, h2, h3, h4, h5, h6⟩
    exact ⟨h1, h2, ⟨h3, h4⟩, h5, h6⟩

theorem rec_fields : Try.prog.underlying 28 = some (.struct (Try.prog.fieldsOf 28)) := by kernel_rfl
theorem rec_held : Try.prog.stoodInHeld 28 = false := by kernel_rfl
theorem rec_flist : (Try.prog.fieldsOf 28).toList.map (fun f => (f.name, f.type, f.offset)) = [("Kind", 3, 0), ("Key", 23, 1), ("Entry", 25, 33), ("Sum", 26, 35), ("N", 3, 67)] := by kernel_rfl
theorem ent_fields : Try.prog.underlying 25 = some (.struct (Try.prog.fieldsOf 25)) := by kernel_rfl
theorem ent_held : Try.prog.stoodInHeld 25 = false := by kernel_rfl
theorem ent_flist : (Try.prog.fieldsOf 25).toList.map (fun f => (f.name, f.type, f.offset)) = [("Dead", 4, 0), ("Value", 9, 1)] := by kernel_rfl
theorem size_rec : (Try.prog.info? 28).map (·.size) = some 68 := by kernel_rfl
theorem size_key : (Try.prog.info? 23).map (·.size) = some 32 := by kernel_rfl
theorem size_sum : (Try.prog.info? 26).map (·.size) = some 32 := by kernel_rfl
theorem size_ent : (Try.prog.info? 25).map (·.size) = some 2 := by kernel_rfl
theorem size_u8 (w : World) : (sizeOf 5).run Try.prog w = .ok 1 w := by kernel_rfl
theorem key_array : Try.prog.underlying 23 = some (.array 32 5) := by kernel_rfl
theorem sum_array : Try.prog.underlying 26 = some (.array 32 5) := by kernel_rfl

theorem part_row {P : Program} {t : TypeId} {d : TypeDesc} {n : Nat} (hu : P.underlying t = some d) (hd : d.isRow = true) (hi : (P.info? t).map (·.size) = some n) (cs : List Value) (o : Nat) (w : World) :
    (part t cs.toArray o).run P w = .ok (.agg ((cs.drop o).take n).toArray) w := by
  have hagg : (isAgg t).run P w = .ok true w := by
    unfold isAgg
    rw [Sem.run_bind, run_underlying hu w]
    cases d <;> simp_all
  cases hq : P.info? t with
  | none => simp [hq] at hi
  | some i =>
    have hs : i.size = n := by simpa [hq] using hi
    simp only [part, Sem.run_bind, hagg, Result.andThen_ok, if_true, sizeOf, typeInfo, run_program]
    simp [hq, hs, Sem.run_bind, List.extract_eq_drop_take, List.drop_take]
theorem part_cell {P : Program} {t : TypeId} {d : TypeDesc} (hu : P.underlying t = some d) (hd : d.isRow = false) (cs : List Value) (o : Nat) (v : Value) (h : cs[o]? = some v) (w : World) :
    (part t cs.toArray o).run P w = .ok v w := by
  have hagg : (isAgg t).run P w = .ok false w := by
    unfold isAgg
    rw [Sem.run_bind, run_underlying hu w]
    cases d <;> simp_all [TypeDesc.isRow]
  simp [part, Sem.run_bind, hagg, h]
end Go.Proofs.Ythocjhiapngacaa
