/-
  Walks: texts within a text.
-/
import Derived.Test.YthocjhiapngacaaWideD
import Derived.Lib.AppendStr
import Derived.Deep.RegionLaw
set_option linter.all false
namespace Go.Proofs.Ythocjhiapngacaa
open Go.RowKit

theorem step_append_str {P : Program} {ops : Array Oper} {o : Oper} {a : Act} {w : World} {K : Act → World → Prop} {Q : Exit → Act → World → Prop} {E : Prop} (hgd : o.guard = none) (sl x : Operand) (t u : TypeId)
    (ho : o.op = .call { callee := .builtin .append, args := #[sl, x], argTypes := #[t, u] })
    (base : Nat) (e : TypeId) (i : TypeInfo) (ht : P.underlying t = some (.slice e)) (hu : P.underlying u = some .string) (hi : P.info? e = some i) (hz : i.zero = some (.int .u8 0))
    (hsize : i.size = 1) (hby : i.bytes = 1)
    (v : Value) (n : Nat) (xs : List Value) (hs : a.eval sl = v) (hown : w.ownsRow base e 1 v n xs) (s : ByteArray) (hx : a.eval x = .string s)
    (hbytes : n + s.size ≤ 140737488355328) (hbase : base ≤ w.heap.size)
    (h : ∀ v' w', w'.ownsRow base e 1 v' (n + s.size) (xs ++ Lib.strCells s) → w.grownBy w' v.ownBlock → K (a.put o.dst v') w') :
    if Region.wanted o (yielded ops a.tmps) = true then Oper.wp P o a w K Q else E := by
  have hw : Region.wanted o (yielded ops a.tmps) = true := by simp [Region.wanted, hgd]
  rw [if_pos hw]
  obtain ⟨v', w', hr, h2, h3, _⟩ := Lib.run_append_own_string (P := P) w base t u o.type e i ht hu hi hz hsize hby v n xs hown s (by simp only [maxLen]; omega) hbytes hbase
  unfold Oper.wp execOp
  simp only [ho, resolve, invoke, builtin, Sem.run_bind, Sem.run_pure, Result.andThen_ok, List.map_toArray, List.map_cons, List.map_nil, hs, hx, hr]
  exact h v' w' h2 h3

theorem Try.infoU8 : (Try.prog.info? 5).map (fun i => (i.zero, i.size, i.bytes)) = some (some (.int .u8 0), 1, 1) := by kernel_rfl

/-- The bytes of a text within a text, as cells. -/
def textCells (s : ByteArray) : List Value := Lib.strCells (numS s.size 4) ++ Lib.strCells s

set_option maxHeartbeats 400000 in
theorem texts_lay (B g : Nat) (s : ByteArray) (v : Value) (n : Nat) (xs : List Value) (w : World) (hB : B ≤ g) (hg : Blk w g 64 [v]) (hown : w.ownsRow B 5 1 v n xs)
    (hs : n + 4 + s.size ≤ 140737488351232) :
    Calls Try.prog 59 #[.string s, .pointer (some ⟨g, 0, none⟩)] w fun e w' =>
      e = .returned (.tuple #[]) ∧ ∃ v', Blk w' g 64 [v'] ∧ w'.ownsRow B 5 1 v' (n + 4 + s.size) (xs ++ textCells s) ∧ Frm (B ≤ ·) w w' := by
  obtain ⟨i0, hi, hz0, hz1, hz2⟩ := info_parts Try.infoU8
  have hc : w.cell? ⟨g, 0, none⟩ = some v := hg.cell 0
  have hsz : s.size ≤ 140737488351232 := by omega
  have hBg : B ≤ w.heap.size := by have := hg.lt; omega
  have Hw := hid (IntWalk.u64_in (s.size : Int) (by omega))
  go_enter Try.func59, Try.ntmps59
  go_wp2_with fail
  go_region_law (first
    | (have _h := hown2
       refine step_append_str rfl (.tmp 8) (.tmp 9) _ _ rfl B 5 i0 Try.underlying64 Try.underlying9 hi hz0 hz1 hz2 v1 (n + (numS s.size 4).size) _ rfl hown2 s rfl (by rw [numS_size]; omega) (Nat.le_trans hBg hf2.size) ?_
       intro v2 w3 hown3 hgr2
       obtain ⟨A2, c2, rfl⟩ := own_shape hown3
       have hg3 := hg2.grown hgr2 (own_ne hown2 hg2 (by decide))
       have hf3 := hf2.own hown2 hgr2
       have hc3 : w3.cell? ⟨g, 0, none⟩ = some v := hg3.cell 0
       have hz3 : w3.frozen? ⟨g, 0, none⟩ = false := hg3.frozen 0)
    | (have _h := hown1
       refine step_append_str rfl (.tmp 3) (.tmp 7) _ _ rfl B 5 i0 Try.underlying64 Try.underlying9 hi hz0 hz1 hz2 v n xs rfl hown1 (numS s.size 4) rfl (by rw [numS_size]; omega) (Nat.le_trans hBg hf1'.size) ?_
       intro v1 w2 hown2 hgr1
       have hg2 := hg1.grown hgr1 (own_ne hown1 hg1 (by decide))
       have hf2 := hf1'.own hown1 hgr1)
    | (go_simp
       go_at_call 33
       rw [Hw.out]
       refine (wide_Num_core s.size 4 _ (by omega) (by omega)).mono ?_
       rintro e w1 ⟨rfl, hf1⟩
       have hg1 := Blk.nul (Blk.drew hg) hf1
       have hc1 : w1.cell? ⟨g, 0, none⟩ = some v := hg1.cell 0
       have hown1 := own_nul (World.ownsRow.drew hown) hf1
       have hf1' : Frm (B ≤ ·) w w1 := (Frm.drew (Frm.refl _ w)).nul hf1))
  all_goals
    go_end0
    refine ⟨rfl, _, hg3.put 0 _, ?_, hf3.setCell (p := ⟨g, 0, none⟩) (.inr hB) _⟩
    have h4 := own_far hown3 (p := ⟨g, 0, none⟩) (own_ne hown3 hg3 (by decide)) (.slice A2 (n + (numS s.size 4).size + s.size) c2)
    rw [numS_size, List.append_assoc] at h4
    exact h4
end Go.Proofs.Ythocjhiapngacaa
