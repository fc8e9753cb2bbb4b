/-
  Walks: a record laid, the document's.
-/
import Derived.Test.YthocjhiapngacaaRecI
set_option linter.all false
namespace Go.Proofs.Ythocjhiapngacaa
open Go.RowKit

set_option maxRecDepth 100000 in
set_option maxHeartbeats 1000000 in
theorem ref_Put_1 (k : List UInt8) (d : Bool) (v : ByteArray) (w : World) (hk : k.length = 32) (hv : v.size ≤ 140737488350000) :
    Calls Try.prog 13 #[.agg (recL ⟨1, k, d, v, zero32, 0⟩).toArray] w fun e w' => e = .returned (.string ((numS 1 1 ++ ⟨k.toArray⟩) ++ entPut d v)) ∧ Nul w w' := by
  have hrk : Rcd.ok ⟨1, k, d, v, zero32, 0⟩ := by first | exact ⟨hk, rfl⟩ | exact ⟨rfl, hk⟩ | exact ⟨rfl, rfl⟩
  obtain ⟨r, hr⟩ : ∃ r : Rcd, r = ⟨1, k, d, v, zero32, 0⟩ := ⟨_, rfl⟩
  rw [← hr] at hrk
  have HB := hid (Blk.new w 28 (recL r))
  have HX : Hid (∀ w', Blk w' w.heap.size 28 (recL r) → w'.cell? ⟨w.heap.size, 0, none⟩ = some (.int .i64 r.kind) ∧ World.rangeAt w' w.heap.size 1 (keyL r.key) ∧ World.rangeAt w' w.heap.size 33 (entL r.dead r.val) ∧ World.rangeAt w' w.heap.size 35 (keyL r.sum) ∧ w'.cell? ⟨w.heap.size, 67, none⟩ = some (.int .i64 r.n)) := hid (fun w' h => ⟨h.cell 0, range_key hrk h, range_ent hrk h, range_sum hrk h, by rw [h.cell, recL_n hrk]⟩)
  rw [← hr]
  have HC0 : Hid (∀ w', Blk w' w.heap.size 28 (recL r) → w'.cell? ⟨w.heap.size, 0, none⟩ = some (.int .i64 1)) := hid (fun w' h => by have := (HX.out w' h).1; rw [hr] at this; exact this)
  have HN : Hid (∀ w, Calls Try.prog 45 #[.int .u64 1, .int .i64 1] w fun e w' => e = .returned (.string (numS 1 1)) ∧ Nul w w') := hid (fun w => r01_Num 1 1 w (by omega) (by omega))
  have HBy := hid (fun w => ref_Bytes k w hk)
  have HE := hid (fun w => ref_EPut d v w (by omega))
  have hse : (entPut d v).size ≤ v.size + 1 := entPut_size d v
  have hsn := numS_size 1 1
  have hsk := size_key32 hk
  have hadd1 : ∀ w, (Op.stringOp .add (numS 1 1) ⟨k.toArray⟩).run Try.prog w = .ok (.string (numS 1 1 ++ ⟨k.toArray⟩)) w := fun w => run_string_add_sum _ _ _ (by omega)
  have hadd2 : ∀ w, (Op.stringOp .add (numS 1 1 ++ ⟨k.toArray⟩) (entPut d v)).run Try.prog w = .ok (.string ((numS 1 1 ++ ⟨k.toArray⟩) ++ entPut d v)) w := fun w => run_string_add_sum _ _ _ (by rw [ByteArray.size_append]; omega)
  have Hkl : Hid ((Try.prog.info? 23).map (·.size) = some (keyL k).length) := hid (by rw [size_key, keyL_length, hk])
  have HE1 : Hid (∀ w', Blk w' w.heap.size 28 (recL r) → World.rangeAt w' w.heap.size 1 (keyL k) ∧ w'.cell? ⟨w.heap.size, 33, none⟩ = some (.bool d) ∧ w'.cell? ⟨w.heap.size, 34, none⟩ = some (.string v)) := hid (fun w' h => by have g := HX.out w' h; rw [hr] at g; exact ⟨g.2.1, g.2.2.1 0 _ rfl, g.2.2.1 1 _ rfl⟩)
  clear hrk hk hv hse hsn hsk hr
  generalize hn1 : numS 1 1 = n1 at HN hadd1 hadd2 ⊢
  generalize hk1 : (⟨k.toArray⟩ : ByteArray) = kk at HBy hadd1 hadd2 ⊢
  generalize hs1 : n1 ++ kk = s1 at hadd1 hadd2 ⊢
  generalize he1 : entPut d v = ee at HE hadd2 ⊢
  generalize ht1 : s1 ++ ee = tt at hadd2 ⊢
  clear hn1 hk1 hs1 he1 ht1
  go_enter Try.func13, Try.ntmps13
  have c00 := HC0.out _ HB.out
  go_wp2_with fail
  refine (HN.out _).mono ?_
  rintro e w1 ⟨rfl, hf⟩
  have H1 : Hid (Blk w1 w.heap.size 28 (recL r) ∧ Nul w w1) := hid ⟨HB.out.nul hf, ((Frm.refl _ w).alloc _).nul hf⟩
  have c0 := HC0.out _ H1.out.1
  clear hf c00
  go_wp2_with fail
  have hku := key_array
  have hks := Hkl.out
  go_region_held3 (fun w' => World.rangeAt w' w.heap.size 1 (keyL k) ∧ w'.cell? ⟨w.heap.size, 33, none⟩ = some (.bool d) ∧ w'.cell? ⟨w.heap.size, 34, none⟩ = some (.string v)) (first
    | exact HE1.out _ H3.out.1
    | exact HE1.out _ H2.out.1
    | exact HE1.out _ H1.out.1.drew) (first
    | (go_at_call 46
       with_reducible refine (HBy.out _).mono ?_
       rintro e w2 ⟨rfl, hf⟩
       have H2 : Hid (Blk w2 w.heap.size 28 (recL r) ∧ Nul w w2) := hid ⟨H1.out.1.drew.nul hf, H1.out.2.drew.nul hf⟩
       clear hf)
    | (go_at_call 47
       with_reducible refine (HE.out _).mono ?_
       rintro e w3 ⟨rfl, hf⟩
       have H3 : Hid (Blk w3 w.heap.size 28 (recL r) ∧ Nul w w3) := hid ⟨H2.out.1.nul hf, H2.out.2.nul hf⟩
       clear hf))
  go_wp2_with fail
  go_ret
  exact ⟨rfl, H3.out.2⟩
set_option maxRecDepth 100000 in
set_option maxHeartbeats 1000000 in
theorem ref_Put_2 (k : List UInt8) (d : Bool) (v : ByteArray) (w : World) (hk : k.length = 32) (hv : v.size ≤ 140737488350000) :
    Calls Try.prog 13 #[.agg (recL ⟨2, k, d, v, zero32, 0⟩).toArray] w fun e w' => e = .returned (.string ((numS 2 1 ++ ⟨k.toArray⟩) ++ entPut d v)) ∧ Nul w w' := by
  have hrk : Rcd.ok ⟨2, k, d, v, zero32, 0⟩ := by first | exact ⟨hk, rfl⟩ | exact ⟨rfl, hk⟩ | exact ⟨rfl, rfl⟩
  obtain ⟨r, hr⟩ : ∃ r : Rcd, r = ⟨2, k, d, v, zero32, 0⟩ := ⟨_, rfl⟩
  rw [← hr] at hrk
  have HB := hid (Blk.new w 28 (recL r))
  have HX : Hid (∀ w', Blk w' w.heap.size 28 (recL r) → w'.cell? ⟨w.heap.size, 0, none⟩ = some (.int .i64 r.kind) ∧ World.rangeAt w' w.heap.size 1 (keyL r.key) ∧ World.rangeAt w' w.heap.size 33 (entL r.dead r.val) ∧ World.rangeAt w' w.heap.size 35 (keyL r.sum) ∧ w'.cell? ⟨w.heap.size, 67, none⟩ = some (.int .i64 r.n)) := hid (fun w' h => ⟨h.cell 0, range_key hrk h, range_ent hrk h, range_sum hrk h, by rw [h.cell, recL_n hrk]⟩)
  rw [← hr]
  have HC0 : Hid (∀ w', Blk w' w.heap.size 28 (recL r) → w'.cell? ⟨w.heap.size, 0, none⟩ = some (.int .i64 2)) := hid (fun w' h => by have := (HX.out w' h).1; rw [hr] at this; exact this)
  have HN : Hid (∀ w, Calls Try.prog 45 #[.int .u64 2, .int .i64 1] w fun e w' => e = .returned (.string (numS 2 1)) ∧ Nul w w') := hid (fun w => r01_Num 2 1 w (by omega) (by omega))
  have HBy := hid (fun w => ref_Bytes k w hk)
  have HE := hid (fun w => ref_EPut d v w (by omega))
  have hse : (entPut d v).size ≤ v.size + 1 := entPut_size d v
  have hsn := numS_size 2 1
  have hsk := size_key32 hk
  have hadd1 : ∀ w, (Op.stringOp .add (numS 2 1) ⟨k.toArray⟩).run Try.prog w = .ok (.string (numS 2 1 ++ ⟨k.toArray⟩)) w := fun w => run_string_add_sum _ _ _ (by omega)
  have hadd2 : ∀ w, (Op.stringOp .add (numS 2 1 ++ ⟨k.toArray⟩) (entPut d v)).run Try.prog w = .ok (.string ((numS 2 1 ++ ⟨k.toArray⟩) ++ entPut d v)) w := fun w => run_string_add_sum _ _ _ (by rw [ByteArray.size_append]; omega)
  have Hkl : Hid ((Try.prog.info? 23).map (·.size) = some (keyL k).length) := hid (by rw [size_key, keyL_length, hk])
  have HE1 : Hid (∀ w', Blk w' w.heap.size 28 (recL r) → World.rangeAt w' w.heap.size 1 (keyL k) ∧ w'.cell? ⟨w.heap.size, 33, none⟩ = some (.bool d) ∧ w'.cell? ⟨w.heap.size, 34, none⟩ = some (.string v)) := hid (fun w' h => by have g := HX.out w' h; rw [hr] at g; exact ⟨g.2.1, g.2.2.1 0 _ rfl, g.2.2.1 1 _ rfl⟩)
  clear hrk hk hv hse hsn hsk hr
  generalize hn1 : numS 2 1 = n1 at HN hadd1 hadd2 ⊢
  generalize hk1 : (⟨k.toArray⟩ : ByteArray) = kk at HBy hadd1 hadd2 ⊢
  generalize hs1 : n1 ++ kk = s1 at hadd1 hadd2 ⊢
  generalize he1 : entPut d v = ee at HE hadd2 ⊢
  generalize ht1 : s1 ++ ee = tt at hadd2 ⊢
  clear hn1 hk1 hs1 he1 ht1
  go_enter Try.func13, Try.ntmps13
  have c00 := HC0.out _ HB.out
  go_wp2_with fail
  refine (HN.out _).mono ?_
  rintro e w1 ⟨rfl, hf⟩
  have H1 : Hid (Blk w1 w.heap.size 28 (recL r) ∧ Nul w w1) := hid ⟨HB.out.nul hf, ((Frm.refl _ w).alloc _).nul hf⟩
  have c0 := HC0.out _ H1.out.1
  clear hf c00
  go_wp2_with fail
  have hku := key_array
  have hks := Hkl.out
  go_region_held3 (fun w' => World.rangeAt w' w.heap.size 1 (keyL k) ∧ w'.cell? ⟨w.heap.size, 33, none⟩ = some (.bool d) ∧ w'.cell? ⟨w.heap.size, 34, none⟩ = some (.string v)) (first
    | exact HE1.out _ H3.out.1
    | exact HE1.out _ H2.out.1
    | exact HE1.out _ H1.out.1.drew) (first
    | (go_at_call 46
       with_reducible refine (HBy.out _).mono ?_
       rintro e w2 ⟨rfl, hf⟩
       have H2 : Hid (Blk w2 w.heap.size 28 (recL r) ∧ Nul w w2) := hid ⟨H1.out.1.drew.nul hf, H1.out.2.drew.nul hf⟩
       clear hf)
    | (go_at_call 47
       with_reducible refine (HE.out _).mono ?_
       rintro e w3 ⟨rfl, hf⟩
       have H3 : Hid (Blk w3 w.heap.size 28 (recL r) ∧ Nul w w3) := hid ⟨H2.out.1.nul hf, H2.out.2.nul hf⟩
       clear hf))
  go_wp2_with fail
  go_ret
  exact ⟨rfl, H3.out.2⟩
set_option maxRecDepth 100000 in
set_option maxHeartbeats 1000000 in
theorem ref_Put_3 (k : List UInt8) (w : World) (hk : k.length = 32) :
    Calls Try.prog 13 #[.agg (recL ⟨3, zero32, false, ⟨#[]⟩, k, 0⟩).toArray] w fun e w' => e = .returned (.string (numS 3 1 ++ ⟨k.toArray⟩)) ∧ Nul w w' := by
  have hrk : Rcd.ok ⟨3, zero32, false, ⟨#[]⟩, k, 0⟩ := by first | exact ⟨hk, rfl⟩ | exact ⟨rfl, hk⟩ | exact ⟨rfl, rfl⟩
  obtain ⟨r, hr⟩ : ∃ r : Rcd, r = ⟨3, zero32, false, ⟨#[]⟩, k, 0⟩ := ⟨_, rfl⟩
  rw [← hr] at hrk
  have HB := hid (Blk.new w 28 (recL r))
  have HX : Hid (∀ w', Blk w' w.heap.size 28 (recL r) → w'.cell? ⟨w.heap.size, 0, none⟩ = some (.int .i64 r.kind) ∧ World.rangeAt w' w.heap.size 1 (keyL r.key) ∧ World.rangeAt w' w.heap.size 33 (entL r.dead r.val) ∧ World.rangeAt w' w.heap.size 35 (keyL r.sum) ∧ w'.cell? ⟨w.heap.size, 67, none⟩ = some (.int .i64 r.n)) := hid (fun w' h => ⟨h.cell 0, range_key hrk h, range_ent hrk h, range_sum hrk h, by rw [h.cell, recL_n hrk]⟩)
  rw [← hr]
  have HC0 : Hid (∀ w', Blk w' w.heap.size 28 (recL r) → w'.cell? ⟨w.heap.size, 0, none⟩ = some (.int .i64 3)) := hid (fun w' h => by have := (HX.out w' h).1; rw [hr] at this; exact this)
  have HN : Hid (∀ w, Calls Try.prog 45 #[.int .u64 3, .int .i64 1] w fun e w' => e = .returned (.string (numS 3 1)) ∧ Nul w w') := hid (fun w => r01_Num 3 1 w (by omega) (by omega))
  have HBy := hid (fun w => ref_Bytes k w hk)
  have hsn := numS_size 3 1
  have hsk := size_key32 hk
  have hadd1 : ∀ w, (Op.stringOp .add (numS 3 1) ⟨k.toArray⟩).run Try.prog w = .ok (.string (numS 3 1 ++ ⟨k.toArray⟩)) w := fun w => run_string_add_sum _ _ _ (by omega)
  have HE1 : Hid (∀ w', Blk w' w.heap.size 28 (recL r) → World.rangeAt w' w.heap.size 35 (keyL k)) := hid (fun w' h => by have := (HX.out w' h).2.2.2.1; rw [hr] at this; exact this)
  have Hsl : Hid ((Try.prog.info? 26).map (·.size) = some (keyL k).length) := hid (by rw [size_sum, keyL_length, hk])
  clear hrk hk hsn hsk hr
  generalize hn1 : numS 3 1 = n1 at HN hadd1 ⊢
  generalize hk1 : (⟨k.toArray⟩ : ByteArray) = kk at HBy hadd1 ⊢
  generalize hs1 : n1 ++ kk = s1 at hadd1 ⊢
  clear hn1 hk1 hs1
  go_enter Try.func13, Try.ntmps13
  have c00 := HC0.out _ HB.out
  go_wp2_with fail
  refine (HN.out _).mono ?_
  rintro e w1 ⟨rfl, hf⟩
  have H1 : Hid (Blk w1 w.heap.size 28 (recL r) ∧ Nul w w1) := hid ⟨HB.out.nul hf, ((Frm.refl _ w).alloc _).nul hf⟩
  have c0 := HC0.out _ H1.out.1
  clear hf c00
  go_wp2_with (first
    | (with_reducible refine wpList_load_mid rfl 26 (.tmp 24) rfl w.heap.size 35 rfl (keyL k) _ (HE1.out _ H1.out.1) sum_array rfl Hsl.out ?_))
  refine (HBy.out _).mono ?_
  rintro e w3 ⟨rfl, hf⟩
  have H3 : Hid (Nul w w3) := hid (H1.out.2.nul hf)
  clear hf
  go_wp2_with fail
  go_ret
  exact ⟨rfl, H3.out⟩
set_option maxRecDepth 100000 in
set_option maxHeartbeats 1000000 in
theorem ref_Put_4 (k : List UInt8) (w : World) (hk : k.length = 32) :
    Calls Try.prog 13 #[.agg (recL ⟨4, zero32, false, ⟨#[]⟩, k, 0⟩).toArray] w fun e w' => e = .returned (.string (numS 4 1 ++ ⟨k.toArray⟩)) ∧ Nul w w' := by
  have hrk : Rcd.ok ⟨4, zero32, false, ⟨#[]⟩, k, 0⟩ := by first | exact ⟨hk, rfl⟩ | exact ⟨rfl, hk⟩ | exact ⟨rfl, rfl⟩
  obtain ⟨r, hr⟩ : ∃ r : Rcd, r = ⟨4, zero32, false, ⟨#[]⟩, k, 0⟩ := ⟨_, rfl⟩
  rw [← hr] at hrk
  have HB := hid (Blk.new w 28 (recL r))
  have HX : Hid (∀ w', Blk w' w.heap.size 28 (recL r) → w'.cell? ⟨w.heap.size, 0, none⟩ = some (.int .i64 r.kind) ∧ World.rangeAt w' w.heap.size 1 (keyL r.key) ∧ World.rangeAt w' w.heap.size 33 (entL r.dead r.val) ∧ World.rangeAt w' w.heap.size 35 (keyL r.sum) ∧ w'.cell? ⟨w.heap.size, 67, none⟩ = some (.int .i64 r.n)) := hid (fun w' h => ⟨h.cell 0, range_key hrk h, range_ent hrk h, range_sum hrk h, by rw [h.cell, recL_n hrk]⟩)
  rw [← hr]
  have HC0 : Hid (∀ w', Blk w' w.heap.size 28 (recL r) → w'.cell? ⟨w.heap.size, 0, none⟩ = some (.int .i64 4)) := hid (fun w' h => by have := (HX.out w' h).1; rw [hr] at this; exact this)
  have HN : Hid (∀ w, Calls Try.prog 45 #[.int .u64 4, .int .i64 1] w fun e w' => e = .returned (.string (numS 4 1)) ∧ Nul w w') := hid (fun w => r01_Num 4 1 w (by omega) (by omega))
  have HBy := hid (fun w => ref_Bytes k w hk)
  have hsn := numS_size 4 1
  have hsk := size_key32 hk
  have hadd1 : ∀ w, (Op.stringOp .add (numS 4 1) ⟨k.toArray⟩).run Try.prog w = .ok (.string (numS 4 1 ++ ⟨k.toArray⟩)) w := fun w => run_string_add_sum _ _ _ (by omega)
  have HE1 : Hid (∀ w', Blk w' w.heap.size 28 (recL r) → World.rangeAt w' w.heap.size 35 (keyL k)) := hid (fun w' h => by have := (HX.out w' h).2.2.2.1; rw [hr] at this; exact this)
  have Hsl : Hid ((Try.prog.info? 26).map (·.size) = some (keyL k).length) := hid (by rw [size_sum, keyL_length, hk])
  clear hrk hk hsn hsk hr
  generalize hn1 : numS 4 1 = n1 at HN hadd1 ⊢
  generalize hk1 : (⟨k.toArray⟩ : ByteArray) = kk at HBy hadd1 ⊢
  generalize hs1 : n1 ++ kk = s1 at hadd1 ⊢
  clear hn1 hk1 hs1
  go_enter Try.func13, Try.ntmps13
  have c00 := HC0.out _ HB.out
  go_wp2_with fail
  refine (HN.out _).mono ?_
  rintro e w1 ⟨rfl, hf⟩
  have H1 : Hid (Blk w1 w.heap.size 28 (recL r) ∧ Nul w w1) := hid ⟨HB.out.nul hf, ((Frm.refl _ w).alloc _).nul hf⟩
  have c0 := HC0.out _ H1.out.1
  clear hf c00
  go_wp2_with (first
    | (with_reducible refine wpList_load_mid rfl 26 (.tmp 24) rfl w.heap.size 35 rfl (keyL k) _ (HE1.out _ H1.out.1) sum_array rfl Hsl.out ?_))
  refine (HBy.out _).mono ?_
  rintro e w3 ⟨rfl, hf⟩
  have H3 : Hid (Nul w w3) := hid (H1.out.2.nul hf)
  clear hf
  go_wp2_with fail
  go_ret
  exact ⟨rfl, H3.out⟩
set_option maxRecDepth 100000 in
set_option maxHeartbeats 1000000 in
theorem ref_Put_5 (m : Nat) (w : World) (hm : m ≤ 1048576) :
    Calls Try.prog 13 #[.agg (recL ⟨5, zero32, false, ⟨#[]⟩, zero32, (m : Int)⟩).toArray] w fun e w' => e = .returned (.string (numS 5 1 ++ numS m 4)) ∧ Nul w w' := by
  have hrk : Rcd.ok ⟨5, zero32, false, ⟨#[]⟩, zero32, (m : Int)⟩ := by first | exact ⟨hk, rfl⟩ | exact ⟨rfl, hk⟩ | exact ⟨rfl, rfl⟩
  obtain ⟨r, hr⟩ : ∃ r : Rcd, r = ⟨5, zero32, false, ⟨#[]⟩, zero32, (m : Int)⟩ := ⟨_, rfl⟩
  rw [← hr] at hrk
  have HB := hid (Blk.new w 28 (recL r))
  have HX : Hid (∀ w', Blk w' w.heap.size 28 (recL r) → w'.cell? ⟨w.heap.size, 0, none⟩ = some (.int .i64 r.kind) ∧ World.rangeAt w' w.heap.size 1 (keyL r.key) ∧ World.rangeAt w' w.heap.size 33 (entL r.dead r.val) ∧ World.rangeAt w' w.heap.size 35 (keyL r.sum) ∧ w'.cell? ⟨w.heap.size, 67, none⟩ = some (.int .i64 r.n)) := hid (fun w' h => ⟨h.cell 0, range_key hrk h, range_ent hrk h, range_sum hrk h, by rw [h.cell, recL_n hrk]⟩)
  rw [← hr]
  have HC0 : Hid (∀ w', Blk w' w.heap.size 28 (recL r) → w'.cell? ⟨w.heap.size, 0, none⟩ = some (.int .i64 5)) := hid (fun w' h => by have := (HX.out w' h).1; rw [hr] at this; exact this)
  have HN : Hid (∀ w, Calls Try.prog 45 #[.int .u64 5, .int .i64 1] w fun e w' => e = .returned (.string (numS 5 1)) ∧ Nul w w') := hid (fun w => r01_Num 5 1 w (by omega) (by omega))
  have HE2 : Hid (∀ w, Calls Try.prog 45 #[.int .u64 m, .int .i64 4] w fun e w' => e = .returned (.string (numS m 4)) ∧ Nul w w') := hid (fun w => r01_Num m 4 w (by omega) (by omega))
  have hsn := numS_size 5 1
  have hsk := numS_size m 4
  have hwr : IntKind.u64.wrap (m : Int) = (m : Int) := IntWalk.u64_in _ (by omega)
  have hadd1 : ∀ w, (Op.stringOp .add (numS 5 1) (numS m 4)).run Try.prog w = .ok (.string (numS 5 1 ++ numS m 4)) w := fun w => run_string_add_sum _ _ _ (by omega)
  have HE1 : Hid (∀ w', Blk w' w.heap.size 28 (recL r) → w'.cell? ⟨w.heap.size, 67, none⟩ = some (.int .i64 (m : Int))) := hid (fun w' h => by have := (HX.out w' h).2.2.2.2; rw [hr] at this; exact this)
  clear hrk hsn hsk hr
  generalize hn1 : numS 5 1 = n1 at HN hadd1 ⊢
  generalize hk1 : numS m 4 = kk at HE2 hadd1 ⊢
  generalize hs1 : n1 ++ kk = s1 at hadd1 ⊢
  clear hn1 hk1 hs1
  go_enter Try.func13, Try.ntmps13
  have c00 := HC0.out _ HB.out
  go_wp2_with fail
  refine (HN.out _).mono ?_
  rintro e w1 ⟨rfl, hf⟩
  have H1 : Hid (Blk w1 w.heap.size 28 (recL r) ∧ Nul w w1) := hid ⟨HB.out.nul hf, ((Frm.refl _ w).alloc _).nul hf⟩
  have c0 := HC0.out _ H1.out.1
  clear hf c00
  have c67 := HE1.out _ H1.out.1
  go_wp2_with fail
  refine (HE2.out _).mono ?_
  rintro e w3 ⟨rfl, hf⟩
  have H3 : Hid (Nul w w3) := hid (H1.out.2.nul hf)
  clear hf
  go_wp2_with fail
  go_ret
  exact ⟨rfl, H3.out⟩

theorem ref_Put (r : Rcd) (w : World) (hrk : r.ok) (hv : r.val.size ≤ 140737488350000) (hg : recGood r = true) :
    Calls Try.prog 13 #[.agg (recL r).toArray] w fun e w' => e = .returned (.string (recS r)) ∧ Nul w w' := by
  rcases recGood_shape hg with ⟨k, d, v, h | h, he⟩ | ⟨k, h | h⟩ | ⟨m, h, hm⟩
  · subst h; exact ref_Put_1 k d v w hrk.1 hv
  · subst h; exact ref_Put_2 k d v w hrk.1 hv
  · subst h; exact ref_Put_3 k w hrk.2
  · subst h; exact ref_Put_4 k w hrk.2
  · subst h; exact ref_Put_5 m w hm
end Go.Proofs.Ythocjhiapngacaa
