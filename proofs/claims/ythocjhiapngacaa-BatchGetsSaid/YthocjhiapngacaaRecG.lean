/-
  Parts of a record's block written.
-/
import Derived.Test.YthocjhiapngacaaRecF
set_option linter.all false
namespace Go.Proofs.Ythocjhiapngacaa
open Go.RowKit

theorem Blk.setCells {g : Nat} {t : TypeId} : ∀ (vs : List Value) (o : Nat) (cs : List Value) (w : World), Blk w g t cs → o + vs.length ≤ cs.length → Blk (w.setCells g o vs) g t (cs.take o ++ vs ++ cs.drop (o + vs.length))
  | [], o, cs, w, h, _ => by
    simp only [World.setCells, List.append_nil, List.length_nil, Nat.add_zero, List.take_append_drop]
    exact h
  | v :: r, o, cs, w, h, hl => by
    simp only [List.length_cons] at hl
    have := Blk.setCells r (o + 1) (cs.set o v) (w.setCell ⟨g, o, none⟩ v) (h.put o v) (by rw [List.length_set]; omega)
    simp only [World.setCells]
    have e : (cs.set o v).take (o + 1) ++ r ++ (cs.set o v).drop (o + 1 + r.length) = cs.take o ++ (v :: r) ++ cs.drop (o + (v :: r).length) := by
      rw [List.take_set, List.drop_set_of_lt (by omega), List.take_succ_eq_append_getElem (by omega), List.set_append_right _ _ (by rw [List.length_take]; omega), List.length_take, Nat.min_eq_left (by omega), Nat.sub_self, List.set_cons_zero, List.length_cons, show o + 1 + r.length = o + (r.length + 1) by omega]
      simp
    rw [e] at this
    exact this
theorem Blk.setCellsFar {g b : Nat} {t : TypeId} {cs : List Value} (hb : g ≠ b) : ∀ (vs : List Value) (o : Nat) (w : World), Blk w g t cs → Blk (w.setCells b o vs) g t cs
  | [], _, _, h => h
  | v :: r, o, w, h => Blk.setCellsFar hb r (o + 1) _ (h.far hb v)
theorem Frm.setCells {S : Nat → Prop} {a : World} {b : Nat} (hb : a.heap.size ≤ b ∨ S b) : ∀ (vs : List Value) (o : Nat) (w : World), Frm S a w → Frm S a (w.setCells b o vs)
  | [], _, _, h => h
  | v :: r, o, w, h => Frm.setCells hb r (o + 1) _ (h.setCell hb v)
theorem Blk.there {w : World} {g : Nat} {t : TypeId} {cs : List Value} (h : Blk w g t cs) (o n : Nat) (hn : o + n ≤ cs.length) : w.there g o n := fun j hj =>
  ⟨by rw [h.cell, List.getElem?_eq_getElem (by omega)]; rfl, h.frozen _⟩

theorem recL_setKey {r : Rcd} (hr : r.ok) {k : List UInt8} (hk : k.length = 32) : (recL r).take 1 ++ keyL k ++ (recL r).drop (1 + (keyL k).length) = recL { r with key := k } := by
  rw [keyL_length, hk]
  have h := hr.1
  simp only [recL, List.take_succ_cons, List.take_zero, List.drop_succ_cons, Nat.reduceAdd]
  rw [List.drop_left' (by rw [keyL_length, h])]
  simp
theorem recL_setEnt {r : Rcd} (hr : r.ok) (d : Bool) (v : ByteArray) : (recL r).take 33 ++ entL d v ++ (recL r).drop (33 + (entL d v).length) = recL { r with dead := d, val := v } := by
  have h := hr.1
  have hl : (keyL r.key).length = 32 := by rw [keyL_length, h]
  have e1 : (recL r).take 33 = .int .i64 r.kind :: keyL r.key := by
    simp only [recL]
    rw [show (33 : Nat) = 32 + 1 from rfl, List.take_succ_cons, List.take_append_of_le_length (by omega), List.take_of_length_le (by omega)]
  have e2 : (recL r).drop (33 + (entL d v).length) = keyL r.sum ++ [Value.int .i64 r.n] := by
    simp only [recL, show (33 + (entL d v).length) = (32 + 2) + 1 from rfl, List.drop_succ_cons]
    rw [← List.drop_drop, List.drop_left' hl]
    rfl
  rw [e1, e2]
  simp [recL]
theorem recL_setSum {r : Rcd} (hr : r.ok) {k : List UInt8} (hk : k.length = 32) : (recL r).take 35 ++ keyL k ++ (recL r).drop (35 + (keyL k).length) = recL { r with sum := k } := by
  have hl : (keyL r.key).length = 32 := by rw [keyL_length, hr.1]
  have hl2 : (keyL r.sum).length = 32 := by rw [keyL_length, hr.2]
  have e1 : (recL r).take 35 = .int .i64 r.kind :: (keyL r.key ++ entL r.dead r.val) := by
    simp only [recL, show (35 : Nat) = 34 + 1 from rfl, List.take_succ_cons]
    rw [← List.append_assoc, List.take_append_of_le_length (by rw [List.length_append, hl]; show 34 ≤ 32 + 2; omega), List.take_of_length_le (by rw [List.length_append, hl]; show 32 + 2 ≤ 34; omega)]
  have e2 : (recL r).drop (35 + (keyL k).length) = [Value.int .i64 r.n] := by
    rw [keyL_length, hk]
    simp only [recL, show (35 + 32 : Nat) = 66 + 1 from rfl, List.drop_succ_cons]
    rw [← List.append_assoc, ← List.append_assoc, List.drop_append_of_le_length (by simp [hl, hl2, entL]), List.drop_of_length_le (by simp [hl, hl2, entL])]
    rfl
  rw [e1, e2]
  simp [recL]
theorem recL_setN {r : Rcd} (hr : r.ok) (n : Int) : (recL r).set 67 (.int .i64 n) = recL { r with n := n } := by
  have hl : (keyL r.key).length = 32 := by rw [keyL_length, hr.1]
  have hl2 : (keyL r.sum).length = 32 := by rw [keyL_length, hr.2]
  simp only [recL, show (67 : Nat) = 66 + 1 from rfl, List.set_cons_succ]
  rw [← List.append_assoc, ← List.append_assoc, List.set_append_right _ _ (by simp [hl, hl2, entL])]
  simp [hl, hl2, entL]
end Go.Proofs.Ythocjhiapngacaa
