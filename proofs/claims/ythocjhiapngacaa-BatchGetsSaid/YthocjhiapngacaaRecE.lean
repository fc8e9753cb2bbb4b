/-
  Records compared; records built.
-/
import Derived.Test.YthocjhiapngacaaRecM
set_option linter.all false
namespace Go.Proofs.Ythocjhiapngacaa
open Go.RowKit

theorem keyL_cell (k : List UInt8) : keyL k = k.map Extern.Stop.cell := rfl
set_option maxRecDepth 100000 in
theorem ent_equal (n : Nat) (d d' : Bool) (v v' : ByteArray) (w : World) : (Op.equalIn (n + 2) 25 (.agg (entL d v).toArray) (.agg (entL d' v').toArray)).run Try.prog w = .ok (d == d' && v.toList == v'.toList) w := by
  rw [run_equalIn_agg w (n + 1) _ _ _ ent_fields ent_held]
  obtain ⟨fs, hfs⟩ : ∃ fs, (Try.prog.fieldsOf 25).toList = fs := ⟨_, rfl⟩
  have hl := ent_flist
  rw [hfs] at hl ⊢
  match fs, hl with
  | [f0, f1], hl =>
    simp only [List.map_cons, List.map_nil, List.cons.injEq, Prod.mk.injEq, and_true] at hl
    obtain ⟨⟨n0, t0, o0⟩, ⟨n1, t1, o1⟩⟩ := hl
    have p0 := fun d v w => part_cell (P := Try.prog) Try.underlying4 rfl (entL d v) 0 (.bool d) rfl w
    have p1 := fun d v w => part_cell (P := Try.prog) Try.underlying9 rfl (entL d v) 1 (.string v) rfl w
    have q0 := fun a b w => run_equalIn_bool' (P := Try.prog) w n 4 a b Try.underlying4
    have q1 := fun a b w => run_equalIn_string (P := Try.prog) w n 9 a b Try.underlying9
    simp only [Op.eqFields, n0, n1, t0, t1, o0, o1]
    rw [if_pos (by decide), Sem.run_bind, p0, Result.andThen_ok, Sem.run_bind, p0, Result.andThen_ok, Sem.run_bind, q0, Result.andThen_ok]
    cases hg : (d == d') with
    | false => rw [if_pos (by rfl)]; rfl
    | true =>
      rw [if_neg (by decide), if_pos (by decide), Sem.run_bind, p1, Result.andThen_ok, Sem.run_bind, p1, Result.andThen_ok, Sem.run_bind, q1, Result.andThen_ok]
      cases ha : (v.toList == v'.toList) with
      | false => rw [if_pos (by rfl)]; rfl
      | true => rw [if_neg (by decide)]; rfl

set_option maxRecDepth 100000 in
theorem rec_equal {r q : Rcd} (hr : r.ok) (hq : q.ok) (w : World) : (Op.equalIn 10000 28 (.agg (recL r).toArray) (.agg (recL q).toArray)).run Try.prog w = .ok (recB r q) w := by
  rw [run_equalIn_agg w 9999 _ _ _ rec_fields rec_held]
  obtain ⟨fs, hfs⟩ : ∃ fs, (Try.prog.fieldsOf 28).toList = fs := ⟨_, rfl⟩
  have hl := rec_flist
  rw [hfs] at hl ⊢
  match fs, hl with
  | [f0, f1, f2, f3, f4], hl =>
    simp only [List.map_cons, List.map_nil, List.cons.injEq, Prod.mk.injEq, and_true] at hl
    obtain ⟨⟨n0, t0, o0⟩, ⟨n1, t1, o1⟩, ⟨n2, t2, o2⟩, ⟨n3, t3, o3⟩, ⟨n4, t4, o4⟩⟩ := hl
    have p0 := fun (r : Rcd) w => part_cell (P := Try.prog) Try.underlying3 rfl (recL r) 0 (.int .i64 r.kind) rfl w
    have p1 := fun (r : Rcd) (h : r.ok) w => part_row (P := Try.prog) key_array rfl size_key (recL r) 1 w
    have p2 := fun (r : Rcd) (h : r.ok) w => part_row (P := Try.prog) ent_fields rfl size_ent (recL r) 33 w
    have p3 := fun (r : Rcd) (h : r.ok) w => part_row (P := Try.prog) sum_array rfl size_sum (recL r) 35 w
    have p4 := fun (r : Rcd) (h : r.ok) w => part_cell (P := Try.prog) Try.underlying3 rfl (recL r) 67 (.int .i64 r.n) (recL_n h) w
    have q0 := fun a b w => run_equalIn_int (P := Try.prog) w 9998 3 .i64 .i64 a b Try.underlying3
    have q1 := fun w => run_equalIn_bytes (P := Try.prog) w 9997 23 5 32 key_array Try.underlying5 size_u8 r.key q.key hr.1 hq.1
    have q2 := fun w => ent_equal 9997 r.dead q.dead r.val q.val w
    have q3 := fun w => run_equalIn_bytes (P := Try.prog) w 9997 26 5 32 sum_array Try.underlying5 size_u8 r.sum q.sum hr.2 hq.2
    simp only [Op.eqFields, n0, n1, n2, n3, n4, t0, t1, t2, t3, t4, o0, o1, o2, o3, o4]
    unfold recB
    rw [if_pos (by decide), Sem.run_bind, p0, Result.andThen_ok, Sem.run_bind, p0, Result.andThen_ok, Sem.run_bind, q0, Result.andThen_ok]
    cases hg : (r.kind == q.kind) with
    | false => rw [if_pos (by rfl)]; rfl
    | true =>
      rw [if_neg (by decide), if_pos (by decide), Sem.run_bind, p1 r hr, Result.andThen_ok, Sem.run_bind, p1 q hq, Result.andThen_ok, recL_key hr, recL_key hq, Sem.run_bind, keyL_cell, keyL_cell, q1, Result.andThen_ok]
      cases ha : (r.key == q.key) with
      | false => rw [if_pos (by rfl)]; rfl
      | true =>
        rw [if_neg (by decide), if_pos (by decide), Sem.run_bind, p2 r hr, Result.andThen_ok, Sem.run_bind, p2 q hq, Result.andThen_ok, recL_ent hr, recL_ent hq, Sem.run_bind, q2, Result.andThen_ok]
        cases he : (r.dead == q.dead && r.val.toList == q.val.toList) with
        | false => rw [if_pos (by rfl)]; rfl
        | true =>
          rw [if_neg (by decide), if_pos (by decide), Sem.run_bind, p3 r hr, Result.andThen_ok, Sem.run_bind, p3 q hq, Result.andThen_ok, recL_sum hr, recL_sum hq, Sem.run_bind, keyL_cell, keyL_cell, q3, Result.andThen_ok]
          cases hs : (r.sum == q.sum) with
          | false => rw [if_pos (by rfl)]; rfl
          | true =>
            rw [if_neg (by decide), if_pos (by decide), Sem.run_bind, p4 r hr, Result.andThen_ok, Sem.run_bind, p4 q hq, Result.andThen_ok, Sem.run_bind, q0, Result.andThen_ok]
            cases hn : (r.n == q.n) with
            | false => rw [if_pos (by rfl)]; rfl
            | true => rw [if_neg (by decide)]; rfl

theorem rec_eql {r q : Rcd} (hr : r.ok) (hq : q.ok) (w : World) : (binOp .eql 28 (.agg (recL r).toArray) (.agg (recL q).toArray)).run Try.prog w = .ok (.bool (recB r q)) w := by
  rw [run_eql_struct, rec_equal hr hq]
  rfl
theorem rec_neq {r q : Rcd} (hr : r.ok) (hq : q.ok) (w : World) : (binOp .neq 28 (.agg (recL r).toArray) (.agg (recL q).toArray)).run Try.prog w = .ok (.bool (!recB r q)) w := by
  rw [run_neq_struct, rec_equal hr hq]
  rfl
theorem ent_neq (d d' : Bool) (v v' : ByteArray) (w : World) : (binOp .neq 25 (.agg (entL d v).toArray) (.agg (entL d' v').toArray)).run Try.prog w = .ok (.bool (!(d == d' && v.toList == v'.toList))) w := by
  rw [run_neq_struct, ent_equal 9998]
  rfl
theorem key_neq {k k' : List UInt8} (hk : k.length = 32) (hk' : k'.length = 32) (w : World) : (binOp .neq 23 (.agg (keyL k).toArray) (.agg (keyL k').toArray)).run Try.prog w = .ok (.bool (!(k == k'))) w := by
  rw [run_neq_struct, keyL_cell, keyL_cell, run_equalIn_bytes w 9998 23 5 32 key_array Try.underlying5 size_u8 k k' hk hk']
  rfl
theorem sum_neq {k k' : List UInt8} (hk : k.length = 32) (hk' : k'.length = 32) (w : World) : (binOp .neq 26 (.agg (keyL k).toArray) (.agg (keyL k').toArray)).run Try.prog w = .ok (.bool (!(k == k'))) w := by
  rw [run_neq_struct, keyL_cell, keyL_cell, run_equalIn_bytes w 9998 26 5 32 sum_array Try.underlying5 size_u8 k k' hk hk']
  rfl

/-- Thirty-two zero bytes. -/
def zero32 : List UInt8 := List.replicate 32 0
theorem list32 {α : Type} {l : List α} (h : l.length = 32) : ∃ b0 b1 b2 b3 b4 b5 b6 b7 b8 b9 b10 b11 b12 b13 b14 b15 b16 b17 b18 b19 b20 b21 b22 b23 b24 b25 b26 b27 b28 b29 b30 b31, l = [b0, b1, b2, b3, b4, b5, b6, b7, b8, b9, b10, b11, b12, b13, b14, b15, b16, b17, b18, b19, b20, b21, b22, b23, b24, b25, b26, b27, b28, b29, b30, b31] := by
  match l, h with
  | [b0, b1, b2, b3, b4, b5, b6, b7, b8, b9, b10, b11, b12, b13, b14, b15, b16, b17, b18, b19, b20, b21, b22, b23, b24, b25, b26, b27, b28, b29, b30, b31], _ => exact ⟨_, _, _, _, _, _, _, _, _, _, _, _, _, _, _, _, _, _, _, _, _, _, _, _, _, _, _, _, _, _, _, _, rfl⟩

set_option maxRecDepth 100000 in
/-- A record of a key and an entry. -/
theorem built_key (x : Int) (k : List UInt8) (d : Bool) (v : ByteArray) (hk : k.length = 32) : Try.prog.built 28 [(0, .int .i64 x), (1, .agg (keyL k).toArray), (2, .agg (entL d v).toArray)] = some (recL ⟨x, k, d, v, zero32, 0⟩).toArray := by
  obtain ⟨b0, b1, b2, b3, b4, b5, b6, b7, b8, b9, b10, b11, b12, b13, b14, b15, b16, b17, b18, b19, b20, b21, b22, b23, b24, b25, b26, b27, b28, b29, b30, b31, rfl⟩ := list32 hk
  kernel_rfl
set_option maxRecDepth 100000 in
theorem built_sum (x : Int) (k : List UInt8) (hk : k.length = 32) : Try.prog.built 28 [(0, .int .i64 x), (3, .agg (keyL k).toArray)] = some (recL ⟨x, zero32, false, ⟨#[]⟩, k, 0⟩).toArray := by
  obtain ⟨b0, b1, b2, b3, b4, b5, b6, b7, b8, b9, b10, b11, b12, b13, b14, b15, b16, b17, b18, b19, b20, b21, b22, b23, b24, b25, b26, b27, b28, b29, b30, b31, rfl⟩ := list32 hk
  kernel_rfl
theorem built_n (x n : Int) : Try.prog.built 28 [(0, .int .i64 x), (4, .int .i64 n)] = some (recL ⟨x, zero32, false, ⟨#[]⟩, zero32, n⟩).toArray := by kernel_rfl
theorem built_kind (x : Int) : Try.prog.built 28 [(0, .int .i64 x)] = some (recL ⟨x, zero32, false, ⟨#[]⟩, zero32, 0⟩).toArray := by kernel_rfl
theorem built_zero : Try.prog.built 28 [] = some (recL ⟨0, zero32, false, ⟨#[]⟩, zero32, 0⟩).toArray := by kernel_rfl
end Go.Proofs.Ythocjhiapngacaa
