/-
  Walks: the law of a super's sector.
-/
import Derived.Test.YtdpffgcekjdneaaSupK
set_option linter.all false
namespace Go.Proofs.Ytdpffgcekjdneaa
open Go.RowKit

set_option maxRecDepth 100000 in
set_option maxHeartbeats 1000000 in
theorem sputs_awake (g a l : Int) (t : ByteArray) (w : World) (h : 300 < t.size) : Calls Try.prog 6 #[.agg #[.int .u64 g, .int .i64 a, .int .i64 l], .string t] w fun e w' => e = .returned (.bool true) ∧ Nul w w' := by
  have e1 : decide (300 < (t.size : Int)) = true := decide_eq_true (by omega)
  clear h
  go_enter Try.func6, Try.ntmps6
  go_wp2_with fail
  refine (awake22 _).mono ?_
  rintro e w1 ⟨rfl, hf⟩
  go_wp2_with fail
  go_ret
  exact ⟨rfl, ((Frm.refl _ w).alloc _).nul hf⟩

set_option maxRecDepth 100000 in
set_option maxHeartbeats 2000000 in
theorem sputs_bad0 (g a l : Int) (t : ByteArray) (w : World) (h : t.size ≤ 300) (yg ya yl : Nat) (hr : supR t = (⟨yg, ya, yl⟩, 0)) (hsb : supB g a l = false) : Calls Try.prog 6 #[.agg #[.int .u64 g, .int .i64 a, .int .i64 l], .string t] w fun e w' => e = .returned (.bool true) ∧ Nul w w' := by
  have e1 : decide (300 < (t.size : Int)) = false := decide_eq_false (by omega)
  have HGt : Hid (∀ w, Calls Try.prog 33 #[.string t] w fun r w' => r = .returned (.tuple #[.agg #[.int .u64 (yg : Int), .int .i64 (ya : Int), .int .i64 (yl : Int)], .int .i64 0]) ∧ Nul w w') := hid (fun w => by
    have h := sup_Get t w (by omega)
    rw [hr] at h
    exact h)
  have HRt : Hid (∀ w, Calls Try.prog 34 #[.string t] w fun r w' => r = .returned (.tuple #[.agg #[.int .u64 (yg : Int), .int .i64 (ya : Int), .int .i64 (yl : Int)], .bool true]) ∧ Nul w w') := hid (fun w => by
    have h := ref_SGet t w (by omega)
    rw [hr] at h
    exact h)
  have heq : ∀ w, (binOp .eql 53 (.agg #[.int .u64 (yg : Int), .int .i64 (ya : Int), .int .i64 (yl : Int)]) (.agg #[.int .u64 (yg : Int), .int .i64 (ya : Int), .int .i64 (yl : Int)])).run Try.prog w = .ok (.bool true) w := fun w => by rw [sup_eql]; simp
  clear h hr
  have HPu := hid (fun w => sup_Put_bad g a l w hsb)
  have HMy := hid (fun w => ref_May g a l w)
  have HCk := hid (fun w => sup_Check g a l w)
  rw [hsb] at HMy HCk
  clear hsb
  go_enter Try.func6, Try.ntmps6
  go_wp2_with fail
  have HX := hid (Blk.new w 53 [.int .u64 g, .int .i64 a, .int .i64 l])
  refine (HPu.out _).mono ?_
  rintro e w1 ⟨rfl, hf⟩
  have H1 := hid hf
  clear hf
  have b0 : w1.cell? ⟨w.heap.size, 0, none⟩ = some (.int .u64 g) := (HX.out.nul H1.out).cell 0
  have b1 : w1.cell? ⟨w.heap.size, 1, none⟩ = some (.int .i64 a) := (HX.out.nul H1.out).cell 1
  have b2 : w1.cell? ⟨w.heap.size, 2, none⟩ = some (.int .i64 l) := (HX.out.nul H1.out).cell 2
  have bl : w.heap.size < w1.heap.size := (HX.out.nul H1.out).lt
  go_wp2_with fail
  refine (HMy.out _).mono ?_
  rintro e w2 ⟨rfl, hf⟩
  have H2 := hid (H1.out.nul hf)
  clear hf
  have c0 : w2.cell? ⟨w.heap.size, 0, none⟩ = some (.int .u64 g) := (HX.out.nul H2.out).cell 0
  have c1 : w2.cell? ⟨w.heap.size, 1, none⟩ = some (.int .i64 a) := (HX.out.nul H2.out).cell 1
  have c2 : w2.cell? ⟨w.heap.size, 2, none⟩ = some (.int .i64 l) := (HX.out.nul H2.out).cell 2
  have cl : w.heap.size < w2.heap.size := (HX.out.nul H2.out).lt
  clear b0 b1 b2 bl
  go_wp2_with fail
  refine (HCk.out _).mono ?_
  rintro e w3 ⟨rfl, hf⟩
  have H3 := hid (H2.out.nul hf)
  clear hf
  clear c0 c1 c2 cl
  go_wp2_with fail
  refine (HGt.out _).mono ?_
  rintro e w4 ⟨rfl, hf⟩
  have H4 := hid (H3.out.nul hf)
  clear hf
  have HBy := hid (Blk.new w4 53 [.int .u64 yg, .int .i64 ya, .int .i64 yl])
  go_wp2_with fail
  refine (HRt.out _).mono ?_
  rintro e w5 ⟨rfl, hf⟩
  have H5 := hid ((H4.out.alloc (.cells #[.int .u64 yg, .int .i64 ya, .int .i64 yl] 53)).nul hf)
  have HBy1 := hid (HBy.out.nul hf)
  clear hf
  have HBz := hid (Blk.new w5 53 [.int .u64 yg, .int .i64 ya, .int .i64 yl])
  go_wp2_with fail
  refine (awake22 _).mono ?_
  rintro e w6 ⟨rfl, hf⟩
  have H6 := hid ((H5.out.alloc (.cells #[.int .u64 yg, .int .i64 ya, .int .i64 yl] 53)).nul hf)
  have hby := (HBy1.out.alloc (.cells #[.int .u64 yg, .int .i64 ya, .int .i64 yl] 53)).nul hf
  have hbz := HBz.out.nul hf
  have yy0 : w6.cell? ⟨w4.heap.size, 0, none⟩ = some (.int .u64 yg) := (hby).cell 0
  have yy1 : w6.cell? ⟨w4.heap.size, 1, none⟩ = some (.int .i64 ya) := (hby).cell 1
  have yy2 : w6.cell? ⟨w4.heap.size, 2, none⟩ = some (.int .i64 yl) := (hby).cell 2
  have yyl : w4.heap.size < w6.heap.size := (hby).lt
  have zz0 : w6.cell? ⟨w5.heap.size, 0, none⟩ = some (.int .u64 yg) := (hbz).cell 0
  have zz1 : w6.cell? ⟨w5.heap.size, 1, none⟩ = some (.int .i64 ya) := (hbz).cell 1
  have zz2 : w6.cell? ⟨w5.heap.size, 2, none⟩ = some (.int .i64 yl) := (hbz).cell 2
  have zzl : w5.heap.size < w6.heap.size := (hbz).lt
  clear hf hby hbz
  go_wp2_with fail
  go_ret
  exact ⟨rfl, ((Frm.refl _ w).alloc _).nul H6.out⟩

set_option maxRecDepth 100000 in
set_option maxHeartbeats 2000000 in
theorem sputs_good0 (g a l : Nat) (t : ByteArray) (w : World) (h : t.size ≤ 300) (yg ya yl : Nat) (hr : supR t = (⟨yg, ya, yl⟩, 0)) (hsb : supB g a l = true) : Calls Try.prog 6 #[.agg #[.int .u64 g, .int .i64 a, .int .i64 l], .string t] w fun e w' => e = .returned (.bool true) ∧ Nul w w' := by
  have e1 : decide (300 < (t.size : Int)) = false := decide_eq_false (by omega)
  have HGt : Hid (∀ w, Calls Try.prog 33 #[.string t] w fun r w' => r = .returned (.tuple #[.agg #[.int .u64 (yg : Int), .int .i64 (ya : Int), .int .i64 (yl : Int)], .int .i64 0]) ∧ Nul w w') := hid (fun w => by
    have h := sup_Get t w (by omega)
    rw [hr] at h
    exact h)
  have HRt : Hid (∀ w, Calls Try.prog 34 #[.string t] w fun r w' => r = .returned (.tuple #[.agg #[.int .u64 (yg : Int), .int .i64 (ya : Int), .int .i64 (yl : Int)], .bool true]) ∧ Nul w w') := hid (fun w => by
    have h := ref_SGet t w (by omega)
    rw [hr] at h
    exact h)
  have heq : ∀ w, (binOp .eql 53 (.agg #[.int .u64 (yg : Int), .int .i64 (ya : Int), .int .i64 (yl : Int)]) (.agg #[.int .u64 (yg : Int), .int .i64 (ya : Int), .int .i64 (yl : Int)])).run Try.prog w = .ok (.bool true) w := fun w => by rw [sup_eql]; simp
  clear h hr
  obtain ⟨g0, g1, a0, a1, l0, l1⟩ := supB_true hsb
  have HPu := hid (fun w => sup_Put_go g a l w hsb (by omega) (by omega) (by omega))
  have HRu := hid (fun w => ref_SPut g a l w (by omega) (by omega) (by omega))
  have HMy := hid (fun w => ref_May (g : Int) a l w)
  have HCk := hid (fun w => sup_Check (g : Int) a l w)
  have HGx : Hid (∀ w, Calls Try.prog 33 #[.string (supS g a l)] w fun r w' => r = .returned (.tuple #[.agg #[.int .u64 (g : Int), .int .i64 (a : Int), .int .i64 (l : Int)], .int .i64 0]) ∧ Nul w w') := hid (fun w => by
    have h := sup_Get (supS g a l) w (by rw [supS_size]; omega)
    rw [supR_supS hsb] at h
    exact h)
  rw [hsb] at HMy HCk
  have hne : ∀ w, (binOp .neq 53 (.agg #[.int .u64 (g : Int), .int .i64 (a : Int), .int .i64 (l : Int)]) (.agg #[.int .u64 (g : Int), .int .i64 (a : Int), .int .i64 (l : Int)])).run Try.prog w = .ok (.bool false) w := fun w => by rw [sup_neq]; simp
  generalize supS g a l = x at HPu HRu HGx
  clear hsb g0 g1 a0 a1 l0 l1
  go_enter Try.func6, Try.ntmps6
  go_wp2_with fail
  have HX := hid (Blk.new w 53 [.int .u64 (g : Int), .int .i64 (a : Int), .int .i64 (l : Int)])
  refine (HPu.out _).mono ?_
  rintro e w1 ⟨rfl, hf⟩
  have H1 := hid hf
  clear hf
  have b0 : w1.cell? ⟨w.heap.size, 0, none⟩ = some (.int .u64 (g : Int)) := (HX.out.nul H1.out).cell 0
  have b1 : w1.cell? ⟨w.heap.size, 1, none⟩ = some (.int .i64 (a : Int)) := (HX.out.nul H1.out).cell 1
  have b2 : w1.cell? ⟨w.heap.size, 2, none⟩ = some (.int .i64 (l : Int)) := (HX.out.nul H1.out).cell 2
  have bl : w.heap.size < w1.heap.size := (HX.out.nul H1.out).lt
  go_wp2_with fail
  refine (HMy.out _).mono ?_
  rintro e w2 ⟨rfl, hf⟩
  have H2 := hid (H1.out.nul hf)
  clear hf
  have c0 : w2.cell? ⟨w.heap.size, 0, none⟩ = some (.int .u64 (g : Int)) := (HX.out.nul H2.out).cell 0
  have c1 : w2.cell? ⟨w.heap.size, 1, none⟩ = some (.int .i64 (a : Int)) := (HX.out.nul H2.out).cell 1
  have c2 : w2.cell? ⟨w.heap.size, 2, none⟩ = some (.int .i64 (l : Int)) := (HX.out.nul H2.out).cell 2
  have cl : w.heap.size < w2.heap.size := (HX.out.nul H2.out).lt
  clear b0 b1 b2 bl
  go_wp2_with fail
  refine (HCk.out _).mono ?_
  rintro e w3 ⟨rfl, hf⟩
  have H3 := hid (H2.out.nul hf)
  clear hf
  have b0 : w3.cell? ⟨w.heap.size, 0, none⟩ = some (.int .u64 (g : Int)) := (HX.out.nul H3.out).cell 0
  have b1 : w3.cell? ⟨w.heap.size, 1, none⟩ = some (.int .i64 (a : Int)) := (HX.out.nul H3.out).cell 1
  have b2 : w3.cell? ⟨w.heap.size, 2, none⟩ = some (.int .i64 (l : Int)) := (HX.out.nul H3.out).cell 2
  have bl : w.heap.size < w3.heap.size := (HX.out.nul H3.out).lt
  clear c0 c1 c2 cl
  go_wp2_with fail
  refine (HRu.out _).mono ?_
  rintro e w4 ⟨rfl, hf⟩
  have H4 := hid (H3.out.nul hf)
  clear hf
  have c0 : w4.cell? ⟨w.heap.size, 0, none⟩ = some (.int .u64 (g : Int)) := (HX.out.nul H4.out).cell 0
  have c1 : w4.cell? ⟨w.heap.size, 1, none⟩ = some (.int .i64 (a : Int)) := (HX.out.nul H4.out).cell 1
  have c2 : w4.cell? ⟨w.heap.size, 2, none⟩ = some (.int .i64 (l : Int)) := (HX.out.nul H4.out).cell 2
  have cl : w.heap.size < w4.heap.size := (HX.out.nul H4.out).lt
  clear b0 b1 b2 bl
  go_wp2_with fail
  refine (HGx.out _).mono ?_
  rintro e w5 ⟨rfl, hf⟩
  have H5 := hid (H4.out.nul hf)
  clear hf
  have b0 : w5.cell? ⟨w.heap.size, 0, none⟩ = some (.int .u64 (g : Int)) := (HX.out.nul H5.out).cell 0
  have b1 : w5.cell? ⟨w.heap.size, 1, none⟩ = some (.int .i64 (a : Int)) := (HX.out.nul H5.out).cell 1
  have b2 : w5.cell? ⟨w.heap.size, 2, none⟩ = some (.int .i64 (l : Int)) := (HX.out.nul H5.out).cell 2
  have bl : w.heap.size < w5.heap.size := (HX.out.nul H5.out).lt
  clear c0 c1 c2 cl
  go_wp2_with fail
  refine (HGt.out _).mono ?_
  rintro e w6 ⟨rfl, hf⟩
  have H6 := hid ((H5.out.alloc (.cells #[.int .u64 (g : Int), .int .i64 (a : Int), .int .i64 (l : Int)] 53)).nul hf)
  clear hf b0 b1 b2 bl
  have HBy := hid (Blk.new w6 53 [.int .u64 yg, .int .i64 ya, .int .i64 yl])
  go_wp2_with fail
  refine (HRt.out _).mono ?_
  rintro e w7 ⟨rfl, hf⟩
  have H7 := hid ((H6.out.alloc (.cells #[.int .u64 yg, .int .i64 ya, .int .i64 yl] 53)).nul hf)
  have HBy1 := hid (HBy.out.nul hf)
  clear hf
  have HBz := hid (Blk.new w7 53 [.int .u64 yg, .int .i64 ya, .int .i64 yl])
  go_wp2_with fail
  refine (awake22 _).mono ?_
  rintro e w8 ⟨rfl, hf⟩
  have H8 := hid ((H7.out.alloc (.cells #[.int .u64 yg, .int .i64 ya, .int .i64 yl] 53)).nul hf)
  have hby := (HBy1.out.alloc (.cells #[.int .u64 yg, .int .i64 ya, .int .i64 yl] 53)).nul hf
  have hbz := HBz.out.nul hf
  have yy0 : w8.cell? ⟨w6.heap.size, 0, none⟩ = some (.int .u64 yg) := (hby).cell 0
  have yy1 : w8.cell? ⟨w6.heap.size, 1, none⟩ = some (.int .i64 ya) := (hby).cell 1
  have yy2 : w8.cell? ⟨w6.heap.size, 2, none⟩ = some (.int .i64 yl) := (hby).cell 2
  have yyl : w6.heap.size < w8.heap.size := (hby).lt
  have zz0 : w8.cell? ⟨w7.heap.size, 0, none⟩ = some (.int .u64 yg) := (hbz).cell 0
  have zz1 : w8.cell? ⟨w7.heap.size, 1, none⟩ = some (.int .i64 ya) := (hbz).cell 1
  have zz2 : w8.cell? ⟨w7.heap.size, 2, none⟩ = some (.int .i64 yl) := (hbz).cell 2
  have zzl : w7.heap.size < w8.heap.size := (hbz).lt
  clear hf hby hbz
  go_wp2_with fail
  go_ret
  exact ⟨rfl, ((Frm.refl _ w).alloc _).nul H8.out⟩

set_option maxRecDepth 100000 in
set_option maxHeartbeats 2000000 in
theorem sputs_bad6 (g a l : Int) (t : ByteArray) (w : World) (h : t.size ≤ 300) (yg ya yl : Nat) (hr : supR t = (⟨yg, ya, yl⟩, 6)) (hsb : supB g a l = false) : Calls Try.prog 6 #[.agg #[.int .u64 g, .int .i64 a, .int .i64 l], .string t] w fun e w' => e = .returned (.bool true) ∧ Nul w w' := by
  have e1 : decide (300 < (t.size : Int)) = false := decide_eq_false (by omega)
  have HGt : Hid (∀ w, Calls Try.prog 33 #[.string t] w fun r w' => r = .returned (.tuple #[.agg #[.int .u64 (yg : Int), .int .i64 (ya : Int), .int .i64 (yl : Int)], .int .i64 6]) ∧ Nul w w') := hid (fun w => by
    have h := sup_Get t w (by omega)
    rw [hr] at h
    exact h)
  have HRt : Hid (∀ w, Calls Try.prog 34 #[.string t] w fun r w' => r = .returned (.tuple #[.agg #[.int .u64 (yg : Int), .int .i64 (ya : Int), .int .i64 (yl : Int)], .bool false]) ∧ Nul w w') := hid (fun w => by
    have h := ref_SGet t w (by omega)
    rw [hr] at h
    exact h)
  have heq : ∀ w, (binOp .eql 53 (.agg #[.int .u64 (yg : Int), .int .i64 (ya : Int), .int .i64 (yl : Int)]) (.agg #[.int .u64 (yg : Int), .int .i64 (ya : Int), .int .i64 (yl : Int)])).run Try.prog w = .ok (.bool true) w := fun w => by rw [sup_eql]; simp
  clear h hr
  have HPu := hid (fun w => sup_Put_bad g a l w hsb)
  have HMy := hid (fun w => ref_May g a l w)
  have HCk := hid (fun w => sup_Check g a l w)
  rw [hsb] at HMy HCk
  clear hsb
  go_enter Try.func6, Try.ntmps6
  go_wp2_with fail
  have HX := hid (Blk.new w 53 [.int .u64 g, .int .i64 a, .int .i64 l])
  refine (HPu.out _).mono ?_
  rintro e w1 ⟨rfl, hf⟩
  have H1 := hid hf
  clear hf
  have b0 : w1.cell? ⟨w.heap.size, 0, none⟩ = some (.int .u64 g) := (HX.out.nul H1.out).cell 0
  have b1 : w1.cell? ⟨w.heap.size, 1, none⟩ = some (.int .i64 a) := (HX.out.nul H1.out).cell 1
  have b2 : w1.cell? ⟨w.heap.size, 2, none⟩ = some (.int .i64 l) := (HX.out.nul H1.out).cell 2
  have bl : w.heap.size < w1.heap.size := (HX.out.nul H1.out).lt
  go_wp2_with fail
  refine (HMy.out _).mono ?_
  rintro e w2 ⟨rfl, hf⟩
  have H2 := hid (H1.out.nul hf)
  clear hf
  have c0 : w2.cell? ⟨w.heap.size, 0, none⟩ = some (.int .u64 g) := (HX.out.nul H2.out).cell 0
  have c1 : w2.cell? ⟨w.heap.size, 1, none⟩ = some (.int .i64 a) := (HX.out.nul H2.out).cell 1
  have c2 : w2.cell? ⟨w.heap.size, 2, none⟩ = some (.int .i64 l) := (HX.out.nul H2.out).cell 2
  have cl : w.heap.size < w2.heap.size := (HX.out.nul H2.out).lt
  clear b0 b1 b2 bl
  go_wp2_with fail
  refine (HCk.out _).mono ?_
  rintro e w3 ⟨rfl, hf⟩
  have H3 := hid (H2.out.nul hf)
  clear hf
  clear c0 c1 c2 cl
  go_wp2_with fail
  refine (HGt.out _).mono ?_
  rintro e w4 ⟨rfl, hf⟩
  have H4 := hid (H3.out.nul hf)
  clear hf
  have HBy := hid (Blk.new w4 53 [.int .u64 yg, .int .i64 ya, .int .i64 yl])
  go_wp2_with fail
  refine (HRt.out _).mono ?_
  rintro e w5 ⟨rfl, hf⟩
  have H5 := hid ((H4.out.alloc (.cells #[.int .u64 yg, .int .i64 ya, .int .i64 yl] 53)).nul hf)
  have HBy1 := hid (HBy.out.nul hf)
  clear hf
  have HBz := hid (Blk.new w5 53 [.int .u64 yg, .int .i64 ya, .int .i64 yl])
  go_wp2_with fail
  refine (awake22 _).mono ?_
  rintro e w6 ⟨rfl, hf⟩
  have H6 := hid ((H5.out.alloc (.cells #[.int .u64 yg, .int .i64 ya, .int .i64 yl] 53)).nul hf)
  have hby := (HBy1.out.alloc (.cells #[.int .u64 yg, .int .i64 ya, .int .i64 yl] 53)).nul hf
  have hbz := HBz.out.nul hf
  have yy0 : w6.cell? ⟨w4.heap.size, 0, none⟩ = some (.int .u64 yg) := (hby).cell 0
  have yy1 : w6.cell? ⟨w4.heap.size, 1, none⟩ = some (.int .i64 ya) := (hby).cell 1
  have yy2 : w6.cell? ⟨w4.heap.size, 2, none⟩ = some (.int .i64 yl) := (hby).cell 2
  have yyl : w4.heap.size < w6.heap.size := (hby).lt
  have zz0 : w6.cell? ⟨w5.heap.size, 0, none⟩ = some (.int .u64 yg) := (hbz).cell 0
  have zz1 : w6.cell? ⟨w5.heap.size, 1, none⟩ = some (.int .i64 ya) := (hbz).cell 1
  have zz2 : w6.cell? ⟨w5.heap.size, 2, none⟩ = some (.int .i64 yl) := (hbz).cell 2
  have zzl : w5.heap.size < w6.heap.size := (hbz).lt
  clear hf hby hbz
  go_wp2_with fail
  go_ret
  exact ⟨rfl, ((Frm.refl _ w).alloc _).nul H6.out⟩

set_option maxRecDepth 100000 in
set_option maxHeartbeats 2000000 in
theorem sputs_good6 (g a l : Nat) (t : ByteArray) (w : World) (h : t.size ≤ 300) (yg ya yl : Nat) (hr : supR t = (⟨yg, ya, yl⟩, 6)) (hsb : supB g a l = true) : Calls Try.prog 6 #[.agg #[.int .u64 g, .int .i64 a, .int .i64 l], .string t] w fun e w' => e = .returned (.bool true) ∧ Nul w w' := by
  have e1 : decide (300 < (t.size : Int)) = false := decide_eq_false (by omega)
  have HGt : Hid (∀ w, Calls Try.prog 33 #[.string t] w fun r w' => r = .returned (.tuple #[.agg #[.int .u64 (yg : Int), .int .i64 (ya : Int), .int .i64 (yl : Int)], .int .i64 6]) ∧ Nul w w') := hid (fun w => by
    have h := sup_Get t w (by omega)
    rw [hr] at h
    exact h)
  have HRt : Hid (∀ w, Calls Try.prog 34 #[.string t] w fun r w' => r = .returned (.tuple #[.agg #[.int .u64 (yg : Int), .int .i64 (ya : Int), .int .i64 (yl : Int)], .bool false]) ∧ Nul w w') := hid (fun w => by
    have h := ref_SGet t w (by omega)
    rw [hr] at h
    exact h)
  have heq : ∀ w, (binOp .eql 53 (.agg #[.int .u64 (yg : Int), .int .i64 (ya : Int), .int .i64 (yl : Int)]) (.agg #[.int .u64 (yg : Int), .int .i64 (ya : Int), .int .i64 (yl : Int)])).run Try.prog w = .ok (.bool true) w := fun w => by rw [sup_eql]; simp
  clear h hr
  obtain ⟨g0, g1, a0, a1, l0, l1⟩ := supB_true hsb
  have HPu := hid (fun w => sup_Put_go g a l w hsb (by omega) (by omega) (by omega))
  have HRu := hid (fun w => ref_SPut g a l w (by omega) (by omega) (by omega))
  have HMy := hid (fun w => ref_May (g : Int) a l w)
  have HCk := hid (fun w => sup_Check (g : Int) a l w)
  have HGx : Hid (∀ w, Calls Try.prog 33 #[.string (supS g a l)] w fun r w' => r = .returned (.tuple #[.agg #[.int .u64 (g : Int), .int .i64 (a : Int), .int .i64 (l : Int)], .int .i64 0]) ∧ Nul w w') := hid (fun w => by
    have h := sup_Get (supS g a l) w (by rw [supS_size]; omega)
    rw [supR_supS hsb] at h
    exact h)
  rw [hsb] at HMy HCk
  have hne : ∀ w, (binOp .neq 53 (.agg #[.int .u64 (g : Int), .int .i64 (a : Int), .int .i64 (l : Int)]) (.agg #[.int .u64 (g : Int), .int .i64 (a : Int), .int .i64 (l : Int)])).run Try.prog w = .ok (.bool false) w := fun w => by rw [sup_neq]; simp
  generalize supS g a l = x at HPu HRu HGx
  clear hsb g0 g1 a0 a1 l0 l1
  go_enter Try.func6, Try.ntmps6
  go_wp2_with fail
  have HX := hid (Blk.new w 53 [.int .u64 (g : Int), .int .i64 (a : Int), .int .i64 (l : Int)])
  refine (HPu.out _).mono ?_
  rintro e w1 ⟨rfl, hf⟩
  have H1 := hid hf
  clear hf
  have b0 : w1.cell? ⟨w.heap.size, 0, none⟩ = some (.int .u64 (g : Int)) := (HX.out.nul H1.out).cell 0
  have b1 : w1.cell? ⟨w.heap.size, 1, none⟩ = some (.int .i64 (a : Int)) := (HX.out.nul H1.out).cell 1
  have b2 : w1.cell? ⟨w.heap.size, 2, none⟩ = some (.int .i64 (l : Int)) := (HX.out.nul H1.out).cell 2
  have bl : w.heap.size < w1.heap.size := (HX.out.nul H1.out).lt
  go_wp2_with fail
  refine (HMy.out _).mono ?_
  rintro e w2 ⟨rfl, hf⟩
  have H2 := hid (H1.out.nul hf)
  clear hf
  have c0 : w2.cell? ⟨w.heap.size, 0, none⟩ = some (.int .u64 (g : Int)) := (HX.out.nul H2.out).cell 0
  have c1 : w2.cell? ⟨w.heap.size, 1, none⟩ = some (.int .i64 (a : Int)) := (HX.out.nul H2.out).cell 1
  have c2 : w2.cell? ⟨w.heap.size, 2, none⟩ = some (.int .i64 (l : Int)) := (HX.out.nul H2.out).cell 2
  have cl : w.heap.size < w2.heap.size := (HX.out.nul H2.out).lt
  clear b0 b1 b2 bl
  go_wp2_with fail
  refine (HCk.out _).mono ?_
  rintro e w3 ⟨rfl, hf⟩
  have H3 := hid (H2.out.nul hf)
  clear hf
  have b0 : w3.cell? ⟨w.heap.size, 0, none⟩ = some (.int .u64 (g : Int)) := (HX.out.nul H3.out).cell 0
  have b1 : w3.cell? ⟨w.heap.size, 1, none⟩ = some (.int .i64 (a : Int)) := (HX.out.nul H3.out).cell 1
  have b2 : w3.cell? ⟨w.heap.size, 2, none⟩ = some (.int .i64 (l : Int)) := (HX.out.nul H3.out).cell 2
  have bl : w.heap.size < w3.heap.size := (HX.out.nul H3.out).lt
  clear c0 c1 c2 cl
  go_wp2_with fail
  refine (HRu.out _).mono ?_
  rintro e w4 ⟨rfl, hf⟩
  have H4 := hid (H3.out.nul hf)
  clear hf
  have c0 : w4.cell? ⟨w.heap.size, 0, none⟩ = some (.int .u64 (g : Int)) := (HX.out.nul H4.out).cell 0
  have c1 : w4.cell? ⟨w.heap.size, 1, none⟩ = some (.int .i64 (a : Int)) := (HX.out.nul H4.out).cell 1
  have c2 : w4.cell? ⟨w.heap.size, 2, none⟩ = some (.int .i64 (l : Int)) := (HX.out.nul H4.out).cell 2
  have cl : w.heap.size < w4.heap.size := (HX.out.nul H4.out).lt
  clear b0 b1 b2 bl
  go_wp2_with fail
  refine (HGx.out _).mono ?_
  rintro e w5 ⟨rfl, hf⟩
  have H5 := hid (H4.out.nul hf)
  clear hf
  have b0 : w5.cell? ⟨w.heap.size, 0, none⟩ = some (.int .u64 (g : Int)) := (HX.out.nul H5.out).cell 0
  have b1 : w5.cell? ⟨w.heap.size, 1, none⟩ = some (.int .i64 (a : Int)) := (HX.out.nul H5.out).cell 1
  have b2 : w5.cell? ⟨w.heap.size, 2, none⟩ = some (.int .i64 (l : Int)) := (HX.out.nul H5.out).cell 2
  have bl : w.heap.size < w5.heap.size := (HX.out.nul H5.out).lt
  clear c0 c1 c2 cl
  go_wp2_with fail
  refine (HGt.out _).mono ?_
  rintro e w6 ⟨rfl, hf⟩
  have H6 := hid ((H5.out.alloc (.cells #[.int .u64 (g : Int), .int .i64 (a : Int), .int .i64 (l : Int)] 53)).nul hf)
  clear hf b0 b1 b2 bl
  have HBy := hid (Blk.new w6 53 [.int .u64 yg, .int .i64 ya, .int .i64 yl])
  go_wp2_with fail
  refine (HRt.out _).mono ?_
  rintro e w7 ⟨rfl, hf⟩
  have H7 := hid ((H6.out.alloc (.cells #[.int .u64 yg, .int .i64 ya, .int .i64 yl] 53)).nul hf)
  have HBy1 := hid (HBy.out.nul hf)
  clear hf
  have HBz := hid (Blk.new w7 53 [.int .u64 yg, .int .i64 ya, .int .i64 yl])
  go_wp2_with fail
  refine (awake22 _).mono ?_
  rintro e w8 ⟨rfl, hf⟩
  have H8 := hid ((H7.out.alloc (.cells #[.int .u64 yg, .int .i64 ya, .int .i64 yl] 53)).nul hf)
  have hby := (HBy1.out.alloc (.cells #[.int .u64 yg, .int .i64 ya, .int .i64 yl] 53)).nul hf
  have hbz := HBz.out.nul hf
  have yy0 : w8.cell? ⟨w6.heap.size, 0, none⟩ = some (.int .u64 yg) := (hby).cell 0
  have yy1 : w8.cell? ⟨w6.heap.size, 1, none⟩ = some (.int .i64 ya) := (hby).cell 1
  have yy2 : w8.cell? ⟨w6.heap.size, 2, none⟩ = some (.int .i64 yl) := (hby).cell 2
  have yyl : w6.heap.size < w8.heap.size := (hby).lt
  have zz0 : w8.cell? ⟨w7.heap.size, 0, none⟩ = some (.int .u64 yg) := (hbz).cell 0
  have zz1 : w8.cell? ⟨w7.heap.size, 1, none⟩ = some (.int .i64 ya) := (hbz).cell 1
  have zz2 : w8.cell? ⟨w7.heap.size, 2, none⟩ = some (.int .i64 yl) := (hbz).cell 2
  have zzl : w7.heap.size < w8.heap.size := (hbz).lt
  clear hf hby hbz
  go_wp2_with fail
  go_ret
  exact ⟨rfl, ((Frm.refl _ w).alloc _).nul H8.out⟩

theorem law_SuperPuts (g : Nat) (a l : Int) (t : ByteArray) (w : World) : Calls Try.prog 6 #[.agg #[.int .u64 g, .int .i64 a, .int .i64 l], .string t] w fun e w' => e = .returned (.bool true) ∧ Nul w w' := by
  by_cases h : 300 < t.size
  · exact sputs_awake g a l t w h
  · obtain ⟨⟨⟨yg, ya, yl⟩, e⟩, hr⟩ : ∃ x, supR t = x := ⟨_, rfl⟩
    have h2 := supR_two t
    rw [hr] at h2
    have he : e = 0 ∨ e = 6 := by
      rcases h2 with ⟨h3, _⟩ | ⟨h3, _⟩
      · exact .inl h3
      · exact .inr h3
    cases hsb : supB g a l with
    | false =>
      rcases he with rfl | rfl
      · exact sputs_bad0 g a l t w (by omega) yg ya yl hr hsb
      · exact sputs_bad6 g a l t w (by omega) yg ya yl hr hsb
    | true =>
      obtain ⟨_, _, a0, a1, l0, l1⟩ := supB_true hsb
      obtain ⟨a, rfl⟩ : ∃ k : Nat, a = (k : Int) := ⟨a.toNat, by omega⟩
      obtain ⟨l, rfl⟩ : ∃ k : Nat, l = (k : Int) := ⟨l.toNat, by omega⟩
      rcases he with rfl | rfl
      · exact sputs_good0 g a l t w (by omega) yg ya yl hr hsb
      · exact sputs_good6 g a l t w (by omega) yg ya yl hr hsb
end Go.Proofs.Ytdpffgcekjdneaa
