/-
  Walks: two supers compared.
-/
import Derived.Test.YtdpffgcekjdneaaSupI
import Derived.Laws.StructEq
set_option linter.all false
namespace Go.Proofs.Ytdpffgcekjdneaa
open Go.RowKit

theorem sup_fields : Try.prog.underlying 53 = some (.struct (Try.prog.fieldsOf 53)) := by kernel_rfl
theorem sup_held : Try.prog.stoodInHeld 53 = false := by kernel_rfl
theorem sup_flist : (Try.prog.fieldsOf 53).toList.map (fun f => (f.name, f.type, f.offset)) = [("Gen", 51, 0), ("Area", 3, 1), ("Len", 3, 2)] := by kernel_rfl

set_option maxRecDepth 100000 in
theorem sup_equal (g a l g' a' l' : Int) (w : World) : (Op.equalIn 10000 53 (.agg #[.int .u64 g, .int .i64 a, .int .i64 l]) (.agg #[.int .u64 g', .int .i64 a', .int .i64 l'])).run Try.prog w = .ok (g == g' && (a == a' && l == l')) w := by
  rw [run_equalIn_agg w 9999 _ _ _ sup_fields sup_held]
  obtain ⟨fs, hfs⟩ : ∃ fs, (Try.prog.fieldsOf 53).toList = fs := ⟨_, rfl⟩
  have hl := sup_flist
  rw [hfs] at hl ⊢
  match fs, hl with
  | [f0, f1, f2], hl =>
    simp only [List.map_cons, List.map_nil, List.cons.injEq, Prod.mk.injEq, and_true] at hl
    obtain ⟨⟨n0, t0, o0⟩, ⟨n1, t1, o1⟩, ⟨n2, t2, o2⟩⟩ := hl
    have p0 : ∀ (x : Int) (y z : Value) (w : World), (part 51 #[.int .u64 x, y, z] 0).run Try.prog w = .ok (.int .u64 x) w := fun x y z w => by kernel_rfl
    have p1 : ∀ (x : Int) (y z : Value) (w : World), (part 3 #[y, .int .i64 x, z] 1).run Try.prog w = .ok (.int .i64 x) w := fun x y z w => by kernel_rfl
    have p2 : ∀ (x : Int) (y z : Value) (w : World), (part 3 #[y, z, .int .i64 x] 2).run Try.prog w = .ok (.int .i64 x) w := fun x y z w => by kernel_rfl
    have q0 := fun a b w => run_equalIn_int (P := Try.prog) w 9998 51 .u64 .u64 a b Try.underlying51
    have q1 := fun a b w => run_equalIn_int (P := Try.prog) w 9998 3 .i64 .i64 a b Try.underlying3
    simp only [Op.eqFields, n0, n1, n2, t0, t1, t2, o0, o1, o2]
    rw [if_pos (by decide), Sem.run_bind, p0, Result.andThen_ok, Sem.run_bind, p0, Result.andThen_ok, Sem.run_bind, q0, Result.andThen_ok]
    cases hg : (g == g') with
    | false => rw [if_pos (by rfl)]; rfl
    | true =>
      rw [if_neg (by decide), if_pos (by decide), Sem.run_bind, p1, Result.andThen_ok, Sem.run_bind, p1, Result.andThen_ok, Sem.run_bind, q1, Result.andThen_ok]
      cases ha : (a == a') with
      | false => rw [if_pos (by rfl)]; rfl
      | true =>
        rw [if_neg (by decide), if_pos (by decide), Sem.run_bind, p2, Result.andThen_ok, Sem.run_bind, p2, Result.andThen_ok, Sem.run_bind, q1, Result.andThen_ok]
        cases hl' : (l == l') with
        | false => rw [if_pos (by rfl)]; rfl
        | true => rw [if_neg (by decide)]; rfl

theorem sup_eql (g a l g' a' l' : Int) (w : World) : (binOp .eql 53 (.agg #[.int .u64 g, .int .i64 a, .int .i64 l]) (.agg #[.int .u64 g', .int .i64 a', .int .i64 l'])).run Try.prog w = .ok (.bool (g == g' && (a == a' && l == l'))) w := by
  rw [run_eql_struct, sup_equal]
  rfl
theorem sup_neq (g a l g' a' l' : Int) (w : World) : (binOp .neq 53 (.agg #[.int .u64 g, .int .i64 a, .int .i64 l]) (.agg #[.int .u64 g', .int .i64 a', .int .i64 l'])).run Try.prog w = .ok (.bool (!(g == g' && (a == a' && l == l')))) w := by
  rw [run_neq_struct, sup_equal]
  rfl
end Go.Proofs.Ytdpffgcekjdneaa
