/-
  Walks: a record laid.
-/
import Derived.Test.YthocjhiapngacaaRecD
set_option linter.all false
namespace Go.Proofs.Ythocjhiapngacaa
open Go.RowKit

/-- A record's bytes. -/
def recS (r : Rcd) : ByteArray :=
  if r.kind = 1 then (numS 1 1 ++ ⟨r.key.toArray⟩) ++ entPut r.dead r.val
  else if r.kind = 2 then (numS 2 1 ++ ⟨r.key.toArray⟩) ++ entPut r.dead r.val
  else if r.kind = 3 then numS 3 1 ++ ⟨r.sum.toArray⟩
  else if r.kind = 4 then numS 4 1 ++ ⟨r.sum.toArray⟩
  else numS 5 1 ++ numS r.n.toNat 4

/-- The text of bytes in the midst of a block. -/
theorem text_range (w : World) (g o : Nat) (k : List UInt8) (hk : k.length = 32) (h : w.rangeAt g o (keyL k)) :
    (convert 64 9 (.slice (some ⟨g, o, none⟩) 32 32)).run Try.prog w = .ok (.string ⟨k.toArray⟩) w := by
  have := run_convert_bytes_back (P := Try.prog) w 64 9 5 ⟨g, o, none⟩ 32 k Try.underlying64 Try.underlying5 Try.underlying9 (fun j hj => by
    have e : (⟨g, o, none⟩ : Addr).add j = ⟨g, o + j, none⟩ := Addr.add_mid g o j
    rw [e]
    refine h j _ ?_
    simp [keyL, byteV, hj])
  rwa [hk] at this
theorem size_key32 {k : List UInt8} (hk : k.length = 32) : (⟨k.toArray⟩ : ByteArray).size = 32 := by
  show k.toArray.size = 32
  rw [List.size_toArray, hk]
set_option maxRecDepth 100000 in
set_option maxHeartbeats 1000000 in
theorem rec_Put_1 (k : List UInt8) (d : Bool) (v : ByteArray) (w : World) (hk : k.length = 32) (hv : v.size ≤ 140737488350000) (hc : entChk d v = 0) (hchk : recChk ⟨1, k, d, v, zero32, 0⟩ = 0) :
    Calls Try.prog 9 #[.agg (recL ⟨1, k, d, v, zero32, 0⟩).toArray] w fun e w' => e = .returned (.tuple #[.string ((numS 1 1 ++ ⟨k.toArray⟩) ++ entPut d v), .int .i64 0]) ∧ Nul w w' := by
  have hv : v.size ≤ 9223372036854775807 := by omega
  have hv' : v.size ≤ 140737488350000 := by assumption
  have hrk : Rcd.ok ⟨1, k, d, v, zero32, 0⟩ := by first | exact ⟨hk, rfl⟩ | exact ⟨rfl, hk⟩ | exact ⟨rfl, rfl⟩
  have HC := hid (fun w => rec_Check ⟨1, k, d, v, zero32, 0⟩ w hrk (by first | exact hv | (show (0 : Nat) ≤ _; omega)))
  rw [hchk] at HC
  obtain ⟨r, hr⟩ : ∃ r : Rcd, r = ⟨1, k, d, v, zero32, 0⟩ := ⟨_, rfl⟩
  rw [← hr] at hrk
  have HB := hid (Blk.new w 28 (recL r))
  have hl := hid (recL_length hrk)
  have HX : Hid (∀ w', Blk w' w.heap.size 28 (recL r) → w'.cell? ⟨w.heap.size, 0, none⟩ = some (.int .i64 r.kind) ∧ World.rangeAt w' w.heap.size 1 (keyL r.key) ∧ World.rangeAt w' w.heap.size 33 (entL r.dead r.val) ∧ World.rangeAt w' w.heap.size 35 (keyL r.sum) ∧ w'.cell? ⟨w.heap.size, 67, none⟩ = some (.int .i64 r.n)) := hid (fun w' h => ⟨h.cell 0, range_key hrk h, range_ent hrk h, range_sum hrk h, by rw [h.cell, recL_n hrk]⟩)
  rw [← hr]
  have HC2 : Hid (∀ w, Calls Try.prog 11 #[.agg (recL r).toArray] w fun e w' => e = .returned (.int .i64 0) ∧ Nul w w') := hid (by rw [hr]; exact HC.out)
  clear HC

  have HN : Hid (∀ w, Calls Try.prog 33 #[.int .u64 1, .int .i64 1] w fun e w' => e = .returned (.string (numS 1 1)) ∧ Nul w w') := hid (fun w => wide_Num_core 1 1 w (by omega) (by omega))
  have HE := hid (fun w => ent_Put d v w (by omega))
  rw [hc] at HE
  have HE2 : Hid (∀ w, Calls Try.prog 34 #[.agg #[.bool d, .string v]] w fun e w' => e = .returned (.tuple #[.string (entPut d v), .int .i64 0]) ∧ Nul w w') := hid HE.out
  clear HE
  have hse : (entPut d v).size ≤ v.size + 1 := entPut_size d v
  have hsn := numS_size 1 1
  have hsk := size_key32 hk
  have hadd1 : ∀ w, (Op.stringOp .add (numS 1 1) ⟨k.toArray⟩).run Try.prog w = .ok (.string (numS 1 1 ++ ⟨k.toArray⟩)) w := fun w => run_string_add_sum _ _ _ (by omega)
  have hadd2 : ∀ w, (Op.stringOp .add (numS 1 1 ++ ⟨k.toArray⟩) (entPut d v)).run Try.prog w = .ok (.string ((numS 1 1 ++ ⟨k.toArray⟩) ++ entPut d v)) w := fun w => run_string_add_sum _ _ _ (by rw [ByteArray.size_append]; omega)
  have HT : Hid (∀ w', Blk w' w.heap.size 28 (recL r) → (convert 64 9 (.slice (some ⟨w.heap.size, 1, none⟩) 32 32)).run Try.prog w' = .ok (.string ⟨k.toArray⟩) w') := hid (fun w' h => text_range w' w.heap.size 1 k hk (by have := (HX.out w' h).2.1; rw [hr] at this; exact this))
  have HE1 : Hid (∀ w', Blk w' w.heap.size 28 (recL r) → World.rangeAt w' w.heap.size 33 (entL d v)) := hid (fun w' h => by have := (HX.out w' h).2.2.1; rw [hr] at this; exact this)
  have HC0 : Hid (∀ w', Blk w' w.heap.size 28 (recL r) → w'.cell? ⟨w.heap.size, 0, none⟩ = some (.int .i64 1)) := hid (fun w' h => by have := (HX.out w' h).1; rw [hr] at this; exact this)
  clear hrk hk hv hv' hc hchk hse hsn hsk hr
  generalize hn1 : numS 1 1 = n1 at HN hadd1 hadd2 ⊢
  generalize hk1 : (⟨k.toArray⟩ : ByteArray) = kk at HT hadd1 hadd2 ⊢
  generalize hs1 : n1 ++ kk = s1 at hadd1 hadd2 ⊢
  generalize he1 : entPut d v = ee at HE2 hadd2 ⊢
  generalize ht1 : s1 ++ ee = tt at hadd2 ⊢
  clear hn1 hk1 hs1 he1 ht1
  go_enter Try.func9, Try.ntmps9
  go_wp2_with (first
    | (with_reducible refine wpList_load_blk rfl 28 (.tmp 1) rfl w.heap.size rfl 28 (recL r) 68 _ HB.out rec_fields rfl size_rec hl.out ?_))
  refine (HC2.out _).mono ?_
  rintro e w1 ⟨rfl, hf⟩
  have H1 : Hid (Blk w1 w.heap.size 28 (recL r) ∧ Nul w w1) := hid ⟨HB.out.nul hf, ((Frm.refl _ w).alloc _).nul hf⟩
  have c0 := HC0.out _ H1.out.1
  clear hf
  go_wp2_with fail
  refine (HN.out _).mono ?_
  rintro e w2 ⟨rfl, hf⟩
  have H2 : Hid (Blk w2 w.heap.size 28 (recL r) ∧ Nul w w2) := hid ⟨H1.out.1.nul hf, H1.out.2.nul hf⟩
  have c0' := HC0.out _ H2.out.1
  clear hf
  have c33 : w2.cell? ⟨w.heap.size, 33, none⟩ = some (.bool d) := HE1.out _ H2.out.1 0 _ rfl
  have c34 : w2.cell? ⟨w.heap.size, 34, none⟩ = some (.string v) := HE1.out _ H2.out.1 1 _ rfl
  go_wp2_with fail
  refine (HE2.out _).mono ?_
  rintro e w3 ⟨rfl, hf⟩
  have H3 : Hid (Blk w3 w.heap.size 28 (recL r) ∧ Nul w w3) := hid ⟨H2.out.1.nul hf, H2.out.2.nul hf⟩
  have ht := HT.out _ H3.out.1
  clear hf
  go_wp2_with fail
  go_ret2
  exact ⟨rfl, H3.out.2⟩
set_option maxRecDepth 100000 in
set_option maxHeartbeats 1000000 in
theorem rec_Put_2 (k : List UInt8) (d : Bool) (v : ByteArray) (w : World) (hk : k.length = 32) (hv : v.size ≤ 140737488350000) (hc : entChk d v = 0) (hchk : recChk ⟨2, k, d, v, zero32, 0⟩ = 0) :
    Calls Try.prog 9 #[.agg (recL ⟨2, k, d, v, zero32, 0⟩).toArray] w fun e w' => e = .returned (.tuple #[.string ((numS 2 1 ++ ⟨k.toArray⟩) ++ entPut d v), .int .i64 0]) ∧ Nul w w' := by
  have hv : v.size ≤ 9223372036854775807 := by omega
  have hv' : v.size ≤ 140737488350000 := by assumption
  have hrk : Rcd.ok ⟨2, k, d, v, zero32, 0⟩ := by first | exact ⟨hk, rfl⟩ | exact ⟨rfl, hk⟩ | exact ⟨rfl, rfl⟩
  have HC := hid (fun w => rec_Check ⟨2, k, d, v, zero32, 0⟩ w hrk (by first | exact hv | (show (0 : Nat) ≤ _; omega)))
  rw [hchk] at HC
  obtain ⟨r, hr⟩ : ∃ r : Rcd, r = ⟨2, k, d, v, zero32, 0⟩ := ⟨_, rfl⟩
  rw [← hr] at hrk
  have HB := hid (Blk.new w 28 (recL r))
  have hl := hid (recL_length hrk)
  have HX : Hid (∀ w', Blk w' w.heap.size 28 (recL r) → w'.cell? ⟨w.heap.size, 0, none⟩ = some (.int .i64 r.kind) ∧ World.rangeAt w' w.heap.size 1 (keyL r.key) ∧ World.rangeAt w' w.heap.size 33 (entL r.dead r.val) ∧ World.rangeAt w' w.heap.size 35 (keyL r.sum) ∧ w'.cell? ⟨w.heap.size, 67, none⟩ = some (.int .i64 r.n)) := hid (fun w' h => ⟨h.cell 0, range_key hrk h, range_ent hrk h, range_sum hrk h, by rw [h.cell, recL_n hrk]⟩)
  rw [← hr]
  have HC2 : Hid (∀ w, Calls Try.prog 11 #[.agg (recL r).toArray] w fun e w' => e = .returned (.int .i64 0) ∧ Nul w w') := hid (by rw [hr]; exact HC.out)
  clear HC

  have HN : Hid (∀ w, Calls Try.prog 33 #[.int .u64 2, .int .i64 1] w fun e w' => e = .returned (.string (numS 2 1)) ∧ Nul w w') := hid (fun w => wide_Num_core 2 1 w (by omega) (by omega))
  have HE := hid (fun w => ent_Put d v w (by omega))
  rw [hc] at HE
  have HE2 : Hid (∀ w, Calls Try.prog 34 #[.agg #[.bool d, .string v]] w fun e w' => e = .returned (.tuple #[.string (entPut d v), .int .i64 0]) ∧ Nul w w') := hid HE.out
  clear HE
  have hse : (entPut d v).size ≤ v.size + 1 := entPut_size d v
  have hsn := numS_size 2 1
  have hsk := size_key32 hk
  have hadd1 : ∀ w, (Op.stringOp .add (numS 2 1) ⟨k.toArray⟩).run Try.prog w = .ok (.string (numS 2 1 ++ ⟨k.toArray⟩)) w := fun w => run_string_add_sum _ _ _ (by omega)
  have hadd2 : ∀ w, (Op.stringOp .add (numS 2 1 ++ ⟨k.toArray⟩) (entPut d v)).run Try.prog w = .ok (.string ((numS 2 1 ++ ⟨k.toArray⟩) ++ entPut d v)) w := fun w => run_string_add_sum _ _ _ (by rw [ByteArray.size_append]; omega)
  have HT : Hid (∀ w', Blk w' w.heap.size 28 (recL r) → (convert 64 9 (.slice (some ⟨w.heap.size, 1, none⟩) 32 32)).run Try.prog w' = .ok (.string ⟨k.toArray⟩) w') := hid (fun w' h => text_range w' w.heap.size 1 k hk (by have := (HX.out w' h).2.1; rw [hr] at this; exact this))
  have HE1 : Hid (∀ w', Blk w' w.heap.size 28 (recL r) → World.rangeAt w' w.heap.size 33 (entL d v)) := hid (fun w' h => by have := (HX.out w' h).2.2.1; rw [hr] at this; exact this)
  have HC0 : Hid (∀ w', Blk w' w.heap.size 28 (recL r) → w'.cell? ⟨w.heap.size, 0, none⟩ = some (.int .i64 2)) := hid (fun w' h => by have := (HX.out w' h).1; rw [hr] at this; exact this)
  clear hrk hk hv hv' hc hchk hse hsn hsk hr
  generalize hn1 : numS 2 1 = n1 at HN hadd1 hadd2 ⊢
  generalize hk1 : (⟨k.toArray⟩ : ByteArray) = kk at HT hadd1 hadd2 ⊢
  generalize hs1 : n1 ++ kk = s1 at hadd1 hadd2 ⊢
  generalize he1 : entPut d v = ee at HE2 hadd2 ⊢
  generalize ht1 : s1 ++ ee = tt at hadd2 ⊢
  clear hn1 hk1 hs1 he1 ht1
  go_enter Try.func9, Try.ntmps9
  go_wp2_with (first
    | (with_reducible refine wpList_load_blk rfl 28 (.tmp 1) rfl w.heap.size rfl 28 (recL r) 68 _ HB.out rec_fields rfl size_rec hl.out ?_))
  refine (HC2.out _).mono ?_
  rintro e w1 ⟨rfl, hf⟩
  have H1 : Hid (Blk w1 w.heap.size 28 (recL r) ∧ Nul w w1) := hid ⟨HB.out.nul hf, ((Frm.refl _ w).alloc _).nul hf⟩
  have c0 := HC0.out _ H1.out.1
  clear hf
  go_wp2_with fail
  refine (HN.out _).mono ?_
  rintro e w2 ⟨rfl, hf⟩
  have H2 : Hid (Blk w2 w.heap.size 28 (recL r) ∧ Nul w w2) := hid ⟨H1.out.1.nul hf, H1.out.2.nul hf⟩
  have c0' := HC0.out _ H2.out.1
  clear hf
  have c33 : w2.cell? ⟨w.heap.size, 33, none⟩ = some (.bool d) := HE1.out _ H2.out.1 0 _ rfl
  have c34 : w2.cell? ⟨w.heap.size, 34, none⟩ = some (.string v) := HE1.out _ H2.out.1 1 _ rfl
  go_wp2_with fail
  refine (HE2.out _).mono ?_
  rintro e w3 ⟨rfl, hf⟩
  have H3 : Hid (Blk w3 w.heap.size 28 (recL r) ∧ Nul w w3) := hid ⟨H2.out.1.nul hf, H2.out.2.nul hf⟩
  have ht := HT.out _ H3.out.1
  clear hf
  go_wp2_with fail
  go_ret2
  exact ⟨rfl, H3.out.2⟩
set_option maxRecDepth 100000 in
set_option maxHeartbeats 1000000 in
theorem rec_Put_3 (k : List UInt8) (w : World) (hk : k.length = 32) (hchk : recChk ⟨3, zero32, false, ⟨#[]⟩, k, 0⟩ = 0) :
    Calls Try.prog 9 #[.agg (recL ⟨3, zero32, false, ⟨#[]⟩, k, 0⟩).toArray] w fun e w' => e = .returned (.tuple #[.string (numS 3 1 ++ ⟨k.toArray⟩), .int .i64 0]) ∧ Nul w w' := by
  have hrk : Rcd.ok ⟨3, zero32, false, ⟨#[]⟩, k, 0⟩ := by first | exact ⟨hk, rfl⟩ | exact ⟨rfl, hk⟩ | exact ⟨rfl, rfl⟩
  have HC := hid (fun w => rec_Check ⟨3, zero32, false, ⟨#[]⟩, k, 0⟩ w hrk (by first | exact hv | (show (0 : Nat) ≤ _; omega)))
  rw [hchk] at HC
  obtain ⟨r, hr⟩ : ∃ r : Rcd, r = ⟨3, zero32, false, ⟨#[]⟩, k, 0⟩ := ⟨_, rfl⟩
  rw [← hr] at hrk
  have HB := hid (Blk.new w 28 (recL r))
  have hl := hid (recL_length hrk)
  have HX : Hid (∀ w', Blk w' w.heap.size 28 (recL r) → w'.cell? ⟨w.heap.size, 0, none⟩ = some (.int .i64 r.kind) ∧ World.rangeAt w' w.heap.size 1 (keyL r.key) ∧ World.rangeAt w' w.heap.size 33 (entL r.dead r.val) ∧ World.rangeAt w' w.heap.size 35 (keyL r.sum) ∧ w'.cell? ⟨w.heap.size, 67, none⟩ = some (.int .i64 r.n)) := hid (fun w' h => ⟨h.cell 0, range_key hrk h, range_ent hrk h, range_sum hrk h, by rw [h.cell, recL_n hrk]⟩)
  rw [← hr]
  have HC2 : Hid (∀ w, Calls Try.prog 11 #[.agg (recL r).toArray] w fun e w' => e = .returned (.int .i64 0) ∧ Nul w w') := hid (by rw [hr]; exact HC.out)
  clear HC
  have HN : Hid (∀ w, Calls Try.prog 33 #[.int .u64 3, .int .i64 1] w fun e w' => e = .returned (.string (numS 3 1)) ∧ Nul w w') := hid (fun w => wide_Num_core 3 1 w (by omega) (by omega))
  have HE2 := hid (fun w => sum_Text k w hk)
  have hsn := numS_size 3 1
  have hsk := size_key32 hk
  have hadd1 : ∀ w, (Op.stringOp .add (numS 3 1) ⟨k.toArray⟩).run Try.prog w = .ok (.string (numS 3 1 ++ ⟨k.toArray⟩)) w := fun w => run_string_add_sum _ _ _ (by omega)
  have HE1 : Hid (∀ w', Blk w' w.heap.size 28 (recL r) → World.rangeAt w' w.heap.size 35 (keyL k)) := hid (fun w' h => by have := (HX.out w' h).2.2.2.1; rw [hr] at this; exact this)
  have Hsl : Hid ((Try.prog.info? 26).map (·.size) = some (keyL k).length) := hid (by rw [size_sum, keyL_length, hk])
  have HC0 : Hid (∀ w', Blk w' w.heap.size 28 (recL r) → w'.cell? ⟨w.heap.size, 0, none⟩ = some (.int .i64 3)) := hid (fun w' h => by have := (HX.out w' h).1; rw [hr] at this; exact this)
  clear hrk hk hchk hsn hsk hr
  generalize hn1 : numS 3 1 = n1 at HN hadd1 ⊢
  generalize hk1 : (⟨k.toArray⟩ : ByteArray) = kk at HE2 hadd1 ⊢
  generalize hs1 : n1 ++ kk = s1 at hadd1 ⊢
  clear hn1 hk1 hs1
  go_enter Try.func9, Try.ntmps9
  go_wp2_with (first
    | (with_reducible refine wpList_load_blk rfl 28 (.tmp 1) rfl w.heap.size rfl 28 (recL r) 68 _ HB.out rec_fields rfl size_rec hl.out ?_))
  refine (HC2.out _).mono ?_
  rintro e w1 ⟨rfl, hf⟩
  have H1 : Hid (Blk w1 w.heap.size 28 (recL r) ∧ Nul w w1) := hid ⟨HB.out.nul hf, ((Frm.refl _ w).alloc _).nul hf⟩
  have c0 := HC0.out _ H1.out.1
  clear hf
  go_wp2_with fail
  refine (HN.out _).mono ?_
  rintro e w2 ⟨rfl, hf⟩
  have H2 : Hid (Blk w2 w.heap.size 28 (recL r) ∧ Nul w w2) := hid ⟨H1.out.1.nul hf, H1.out.2.nul hf⟩
  have c0' := HC0.out _ H2.out.1
  clear hf
  go_wp2_with (first
    | (with_reducible refine wpList_load_mid rfl 26 (.tmp 44) rfl w.heap.size 35 rfl (keyL k) _ (HE1.out _ H2.out.1) sum_array rfl Hsl.out ?_))
  refine (HE2.out _).mono ?_
  rintro e w3 ⟨rfl, hf⟩
  have H3 : Hid (Blk w3 w.heap.size 28 (recL r) ∧ Nul w w3) := hid ⟨H2.out.1.nul hf, H2.out.2.nul hf⟩
  clear hf
  go_wp2_with fail
  go_ret2
  exact ⟨rfl, H3.out.2⟩
set_option maxRecDepth 100000 in
set_option maxHeartbeats 1000000 in
theorem rec_Put_4 (k : List UInt8) (w : World) (hk : k.length = 32) (hchk : recChk ⟨4, zero32, false, ⟨#[]⟩, k, 0⟩ = 0) :
    Calls Try.prog 9 #[.agg (recL ⟨4, zero32, false, ⟨#[]⟩, k, 0⟩).toArray] w fun e w' => e = .returned (.tuple #[.string (numS 4 1 ++ ⟨k.toArray⟩), .int .i64 0]) ∧ Nul w w' := by
  have hrk : Rcd.ok ⟨4, zero32, false, ⟨#[]⟩, k, 0⟩ := by first | exact ⟨hk, rfl⟩ | exact ⟨rfl, hk⟩ | exact ⟨rfl, rfl⟩
  have HC := hid (fun w => rec_Check ⟨4, zero32, false, ⟨#[]⟩, k, 0⟩ w hrk (by first | exact hv | (show (0 : Nat) ≤ _; omega)))
  rw [hchk] at HC
  obtain ⟨r, hr⟩ : ∃ r : Rcd, r = ⟨4, zero32, false, ⟨#[]⟩, k, 0⟩ := ⟨_, rfl⟩
  rw [← hr] at hrk
  have HB := hid (Blk.new w 28 (recL r))
  have hl := hid (recL_length hrk)
  have HX : Hid (∀ w', Blk w' w.heap.size 28 (recL r) → w'.cell? ⟨w.heap.size, 0, none⟩ = some (.int .i64 r.kind) ∧ World.rangeAt w' w.heap.size 1 (keyL r.key) ∧ World.rangeAt w' w.heap.size 33 (entL r.dead r.val) ∧ World.rangeAt w' w.heap.size 35 (keyL r.sum) ∧ w'.cell? ⟨w.heap.size, 67, none⟩ = some (.int .i64 r.n)) := hid (fun w' h => ⟨h.cell 0, range_key hrk h, range_ent hrk h, range_sum hrk h, by rw [h.cell, recL_n hrk]⟩)
  rw [← hr]
  have HC2 : Hid (∀ w, Calls Try.prog 11 #[.agg (recL r).toArray] w fun e w' => e = .returned (.int .i64 0) ∧ Nul w w') := hid (by rw [hr]; exact HC.out)
  clear HC
  have HN : Hid (∀ w, Calls Try.prog 33 #[.int .u64 4, .int .i64 1] w fun e w' => e = .returned (.string (numS 4 1)) ∧ Nul w w') := hid (fun w => wide_Num_core 4 1 w (by omega) (by omega))
  have HE2 := hid (fun w => sum_Text k w hk)
  have hsn := numS_size 4 1
  have hsk := size_key32 hk
  have hadd1 : ∀ w, (Op.stringOp .add (numS 4 1) ⟨k.toArray⟩).run Try.prog w = .ok (.string (numS 4 1 ++ ⟨k.toArray⟩)) w := fun w => run_string_add_sum _ _ _ (by omega)
  have HE1 : Hid (∀ w', Blk w' w.heap.size 28 (recL r) → World.rangeAt w' w.heap.size 35 (keyL k)) := hid (fun w' h => by have := (HX.out w' h).2.2.2.1; rw [hr] at this; exact this)
  have Hsl : Hid ((Try.prog.info? 26).map (·.size) = some (keyL k).length) := hid (by rw [size_sum, keyL_length, hk])
  have HC0 : Hid (∀ w', Blk w' w.heap.size 28 (recL r) → w'.cell? ⟨w.heap.size, 0, none⟩ = some (.int .i64 4)) := hid (fun w' h => by have := (HX.out w' h).1; rw [hr] at this; exact this)
  clear hrk hk hchk hsn hsk hr
  generalize hn1 : numS 4 1 = n1 at HN hadd1 ⊢
  generalize hk1 : (⟨k.toArray⟩ : ByteArray) = kk at HE2 hadd1 ⊢
  generalize hs1 : n1 ++ kk = s1 at hadd1 ⊢
  clear hn1 hk1 hs1
  go_enter Try.func9, Try.ntmps9
  go_wp2_with (first
    | (with_reducible refine wpList_load_blk rfl 28 (.tmp 1) rfl w.heap.size rfl 28 (recL r) 68 _ HB.out rec_fields rfl size_rec hl.out ?_))
  refine (HC2.out _).mono ?_
  rintro e w1 ⟨rfl, hf⟩
  have H1 : Hid (Blk w1 w.heap.size 28 (recL r) ∧ Nul w w1) := hid ⟨HB.out.nul hf, ((Frm.refl _ w).alloc _).nul hf⟩
  have c0 := HC0.out _ H1.out.1
  clear hf
  go_wp2_with fail
  refine (HN.out _).mono ?_
  rintro e w2 ⟨rfl, hf⟩
  have H2 : Hid (Blk w2 w.heap.size 28 (recL r) ∧ Nul w w2) := hid ⟨H1.out.1.nul hf, H1.out.2.nul hf⟩
  have c0' := HC0.out _ H2.out.1
  clear hf
  go_wp2_with (first
    | (with_reducible refine wpList_load_mid rfl 26 (.tmp 44) rfl w.heap.size 35 rfl (keyL k) _ (HE1.out _ H2.out.1) sum_array rfl Hsl.out ?_))
  refine (HE2.out _).mono ?_
  rintro e w3 ⟨rfl, hf⟩
  have H3 : Hid (Blk w3 w.heap.size 28 (recL r) ∧ Nul w w3) := hid ⟨H2.out.1.nul hf, H2.out.2.nul hf⟩
  clear hf
  go_wp2_with fail
  go_ret2
  exact ⟨rfl, H3.out.2⟩
set_option maxRecDepth 100000 in
set_option maxHeartbeats 1000000 in
theorem rec_Put_5 (m : Nat) (w : World) (hm : m ≤ 1048576) (hchk : recChk ⟨5, zero32, false, ⟨#[]⟩, zero32, (m : Int)⟩ = 0) :
    Calls Try.prog 9 #[.agg (recL ⟨5, zero32, false, ⟨#[]⟩, zero32, (m : Int)⟩).toArray] w fun e w' => e = .returned (.tuple #[.string (numS 5 1 ++ numS m 4), .int .i64 0]) ∧ Nul w w' := by
  have hrk : Rcd.ok ⟨5, zero32, false, ⟨#[]⟩, zero32, (m : Int)⟩ := by first | exact ⟨hk, rfl⟩ | exact ⟨rfl, hk⟩ | exact ⟨rfl, rfl⟩
  have HC := hid (fun w => rec_Check ⟨5, zero32, false, ⟨#[]⟩, zero32, (m : Int)⟩ w hrk (by first | exact hv | (show (0 : Nat) ≤ _; omega)))
  rw [hchk] at HC
  obtain ⟨r, hr⟩ : ∃ r : Rcd, r = ⟨5, zero32, false, ⟨#[]⟩, zero32, (m : Int)⟩ := ⟨_, rfl⟩
  rw [← hr] at hrk
  have HB := hid (Blk.new w 28 (recL r))
  have hl := hid (recL_length hrk)
  have HX : Hid (∀ w', Blk w' w.heap.size 28 (recL r) → w'.cell? ⟨w.heap.size, 0, none⟩ = some (.int .i64 r.kind) ∧ World.rangeAt w' w.heap.size 1 (keyL r.key) ∧ World.rangeAt w' w.heap.size 33 (entL r.dead r.val) ∧ World.rangeAt w' w.heap.size 35 (keyL r.sum) ∧ w'.cell? ⟨w.heap.size, 67, none⟩ = some (.int .i64 r.n)) := hid (fun w' h => ⟨h.cell 0, range_key hrk h, range_ent hrk h, range_sum hrk h, by rw [h.cell, recL_n hrk]⟩)
  rw [← hr]
  have HC2 : Hid (∀ w, Calls Try.prog 11 #[.agg (recL r).toArray] w fun e w' => e = .returned (.int .i64 0) ∧ Nul w w') := hid (by rw [hr]; exact HC.out)
  clear HC
  have HN : Hid (∀ w, Calls Try.prog 33 #[.int .u64 5, .int .i64 1] w fun e w' => e = .returned (.string (numS 5 1)) ∧ Nul w w') := hid (fun w => wide_Num_core 5 1 w (by omega) (by omega))
  have HE2 : Hid (∀ w, Calls Try.prog 33 #[.int .u64 m, .int .i64 4] w fun e w' => e = .returned (.string (numS m 4)) ∧ Nul w w') := hid (fun w => wide_Num_core m 4 w (by omega) (by omega))
  have hsn := numS_size 5 1
  have hsk := numS_size m 4
  have hwr : IntKind.u64.wrap (m : Int) = (m : Int) := IntWalk.u64_in _ (by omega)
  have hadd1 : ∀ w, (Op.stringOp .add (numS 5 1) (numS m 4)).run Try.prog w = .ok (.string (numS 5 1 ++ numS m 4)) w := fun w => run_string_add_sum _ _ _ (by omega)
  have HE1 : Hid (∀ w', Blk w' w.heap.size 28 (recL r) → w'.cell? ⟨w.heap.size, 67, none⟩ = some (.int .i64 (m : Int))) := hid (fun w' h => by have := (HX.out w' h).2.2.2.2; rw [hr] at this; exact this)
  have HC0 : Hid (∀ w', Blk w' w.heap.size 28 (recL r) → w'.cell? ⟨w.heap.size, 0, none⟩ = some (.int .i64 5)) := hid (fun w' h => by have := (HX.out w' h).1; rw [hr] at this; exact this)
  clear hrk hchk hsn hsk hr
  generalize hn1 : numS 5 1 = n1 at HN hadd1 ⊢
  generalize hk1 : numS m 4 = kk at HE2 hadd1 ⊢
  generalize hs1 : n1 ++ kk = s1 at hadd1 ⊢
  clear hn1 hk1 hs1
  go_enter Try.func9, Try.ntmps9
  go_wp2_with (first
    | (with_reducible refine wpList_load_blk rfl 28 (.tmp 1) rfl w.heap.size rfl 28 (recL r) 68 _ HB.out rec_fields rfl size_rec hl.out ?_))
  refine (HC2.out _).mono ?_
  rintro e w1 ⟨rfl, hf⟩
  have H1 : Hid (Blk w1 w.heap.size 28 (recL r) ∧ Nul w w1) := hid ⟨HB.out.nul hf, ((Frm.refl _ w).alloc _).nul hf⟩
  have c0 := HC0.out _ H1.out.1
  clear hf
  go_wp2_with fail
  refine (HN.out _).mono ?_
  rintro e w2 ⟨rfl, hf⟩
  have H2 : Hid (Blk w2 w.heap.size 28 (recL r) ∧ Nul w w2) := hid ⟨H1.out.1.nul hf, H1.out.2.nul hf⟩
  have c0' := HC0.out _ H2.out.1
  have c67 := HE1.out _ H2.out.1
  clear hf
  go_wp2_with fail
  refine (HE2.out _).mono ?_
  rintro e w3 ⟨rfl, hf⟩
  have H3 : Hid (Nul w w3) := hid (H2.out.2.nul hf)
  clear hf
  go_wp2_with fail
  go_ret2
  exact ⟨rfl, H3.out⟩
set_option maxRecDepth 100000 in
set_option maxHeartbeats 1000000 in
theorem rec_Put_bad (r : Rcd) (w : World) (hrk : r.ok) (hv : r.val.size ≤ 140737488350000) (hchk : recChk r = 2) :
    Calls Try.prog 9 #[.agg (recL r).toArray] w fun e w' => e = .returned (.tuple #[.string ⟨#[]⟩, .int .i64 2]) ∧ Nul w w' := by
  have HC2 := hid (fun w => rec_Check r w hrk (by omega))
  rw [hchk] at HC2
  have HB := hid (Blk.new w 28 (recL r))
  have hl := hid (recL_length hrk)
  clear hrk hv hchk
  go_enter Try.func9, Try.ntmps9
  go_wp2_with (first
    | (with_reducible refine wpList_load_blk rfl 28 (.tmp 1) rfl w.heap.size rfl 28 (recL r) 68 _ HB.out rec_fields rfl size_rec hl.out ?_))
  refine (HC2.out _).mono ?_
  rintro e w1 ⟨rfl, hf⟩
  have H1 : Hid (Blk w1 w.heap.size 28 (recL r) ∧ Nul w w1) := hid ⟨HB.out.nul hf, ((Frm.refl _ w).alloc _).nul hf⟩
  clear hf
  go_wp2_with fail
  go_ret2
  exact ⟨rfl, H1.out.2⟩

theorem recChk_cases (r : Rcd) : (recGood r = true ∧ recChk r = 0) ∨ (recGood r = false ∧ recChk r = 2) := by
  unfold recChk
  cases recGood r
  · exact .inr ⟨rfl, rfl⟩
  · exact .inl ⟨rfl, rfl⟩
/-- The records that may be. -/
theorem recGood_shape {r : Rcd} (h : recGood r = true) :
    (∃ k d v, (r = ⟨1, k, d, v, zero32, 0⟩ ∨ r = ⟨2, k, d, v, zero32, 0⟩) ∧ entChk d v = 0) ∨ (∃ k, r = ⟨3, zero32, false, ⟨#[]⟩, k, 0⟩ ∨ r = ⟨4, zero32, false, ⟨#[]⟩, k, 0⟩) ∨ (∃ m : Nat, r = ⟨5, zero32, false, ⟨#[]⟩, zero32, (m : Int)⟩ ∧ m ≤ 1048576) := by
  unfold recGood at h
  rw [Bool.and_eq_true, recB_iff] at h
  obtain ⟨h1, h2⟩ := h
  unfold recWant at h1 h2
  by_cases g1 : r.kind = 1
  · rw [if_pos g1] at h1 h2
    exact .inl ⟨_, _, _, .inl h2, by simpa using h1⟩
  rw [if_neg g1] at h1 h2
  by_cases g2 : r.kind = 2
  · rw [if_pos g2] at h1 h2
    exact .inl ⟨_, _, _, .inr h2, by simpa using h1⟩
  rw [if_neg g2] at h1 h2
  by_cases g3 : r.kind = 3
  · rw [if_pos g3] at h2
    exact .inr (.inl ⟨_, .inl h2⟩)
  rw [if_neg g3] at h1 h2
  by_cases g4 : r.kind = 4
  · rw [if_pos g4] at h2
    exact .inr (.inl ⟨_, .inr h2⟩)
  rw [if_neg g4] at h1 h2
  by_cases g5 : r.kind = 5
  · rw [if_pos g5] at h1 h2
    simp only [Bool.and_eq_true, decide_eq_true_eq] at h1
    obtain ⟨m, hm⟩ := Int.eq_ofNat_of_zero_le h1.1
    refine .inr (.inr ⟨m, ?_, by omega⟩)
    rw [← hm]
    exact h2
  rw [if_neg g5] at h1
  cases h1

theorem rec_Put (r : Rcd) (w : World) (hrk : r.ok) (hv : r.val.size ≤ 140737488350000) :
    Calls Try.prog 9 #[.agg (recL r).toArray] w fun e w' => e = .returned (.tuple #[.string (if recGood r then recS r else ⟨#[]⟩), .int .i64 (recChk r)]) ∧ Nul w w' := by
  rcases recChk_cases r with ⟨hg, hc⟩ | ⟨hg, hc⟩
  · rw [hg, hc, if_pos rfl]
    rcases recGood_shape hg with ⟨k, d, v, h | h, he⟩ | ⟨k, h | h⟩ | ⟨m, h, hm⟩
    · subst h; exact rec_Put_1 k d v w hrk.1 hv he hc
    · subst h; exact rec_Put_2 k d v w hrk.1 hv he hc
    · subst h; exact rec_Put_3 k w hrk.2 hc
    · subst h; exact rec_Put_4 k w hrk.2 hc
    · subst h; exact rec_Put_5 m w hm hc
  · rw [hg, hc]
    exact rec_Put_bad r w hrk hv hc
end Go.Proofs.Ythocjhiapngacaa
