/-
  Walks: laying a super.
-/
import Derived.Test.YtdpffgcekjdneaaSupA
set_option linter.all false
namespace Go.Proofs.Ytdpffgcekjdneaa
open Go.RowKit

theorem zeros_any {P : Program} (src dst e : TypeId) (hs : P.underlying src = some (.slice e)) (he : P.underlying e = some (.int .u8)) (hd : P.underlying dst = some .string) (w : World) (n c : Nat) (cs : Array Value) (hcs : cs = (List.replicate n (Value.int .u8 0)).toArray) :
    (convert src dst (.slice (some ⟨w.heap.size, 0, none⟩) n c)).run P (w.alloc (.cells cs e)) = .ok (.string (zeroS n)) (w.alloc (.cells cs e)) := zeros_string src dst e hs he hd w n c cs hcs

set_option maxRecDepth 100000 in
set_option maxHeartbeats 1000000 in
theorem sup_Put_bad (g a l : Int) (w : World) (h : supB g a l = false) :
    Calls Try.prog 29 #[.agg #[.int .u64 g, .int .i64 a, .int .i64 l]] w fun e w' => e = .returned (.tuple #[.string ⟨#[]⟩, .int .i64 3]) ∧ Nul w w' := by
  have HC := hid (fun w => sup_Check g a l w)
  rw [h] at HC
  clear h
  go_enter Try.func29, Try.ntmps29
  go_wp2_with fail
  refine (HC.out _).mono ?_
  rintro e w1 ⟨rfl, hf⟩
  have H1 := hid (((Frm.refl (fun _ => False) w).alloc (.cells #[.int .u64 g, .int .i64 a, .int .i64 l] 53)).nul hf)
  clear hf
  go_wp2_with fail
  go_ret2
  exact ⟨rfl, H1.out⟩

set_option maxRecDepth 100000 in
set_option maxHeartbeats 1000000 in
theorem sup_Put_go (g a l : Nat) (w : World) (h : supB g a l = true) (hg : g < 18446744073709551616) (ha : a < 18446744073709551616) (hl : l < 18446744073709551616) :
    Calls Try.prog 29 #[.agg #[.int .u64 g, .int .i64 a, .int .i64 l]] w fun e w' => e = .returned (.tuple #[.string (supS g a l), .int .i64 0]) ∧ Nul w w' := by
  have HC := hid (fun w => sup_Check g a l w)
  rw [h] at HC
  have HN8 : Hid (∀ w, Calls Try.prog 55 #[.int .u64 (g : Int), .int .i64 8] w fun e w' => e = .returned (.string (numS g 8)) ∧ Nul w w') := hid (fun w => wide_Num_core g 8 w hg (by omega))
  have HN1 : Hid (∀ w, Calls Try.prog 55 #[.int .u64 (a : Int), .int .i64 1] w fun e w' => e = .returned (.string (numS a 1)) ∧ Nul w w') := hid (fun w => wide_Num_core a 1 w ha (by omega))
  have HN4 : Hid (∀ w, Calls Try.prog 55 #[.int .u64 (l : Int), .int .i64 4] w fun e w' => e = .returned (.string (numS l 4)) ∧ Nul w w') := hid (fun w => wide_Num_core l 4 w hl (by omega))
  have w1 : IntKind.u64.wrap (a : Int) = (a : Int) := IntWalk.u64_in _ (by omega)
  have w2 : IntKind.u64.wrap (l : Int) = (l : Int) := IntWalk.u64_in _ (by omega)
  have hs := supS_14 g a l
  obtain ⟨N, hN⟩ : ∃ N, 114 = N := ⟨_, rfl⟩
  have hS : supS g a l = (⟨#[83]⟩ ++ numS g 8 ++ numS a 1 ++ numS l 4) ++ zeroS N := by
    unfold supS fullS
    rw [hs, ← hN]
  rw [hS]
  have s8 := numS_size g 8
  have s1 := numS_size a 1
  have s4 := numS_size l 4
  clear h hS hg ha hl
  generalize numS g 8 = x8 at *
  generalize numS a 1 = x1 at *
  generalize numS l 4 = x4 at *
  have hadd1 : ∀ w, (Op.stringOp .add ⟨#[83]⟩ x8).run Try.prog w = .ok (.string (⟨#[83]⟩ ++ x8)) w := fun w => run_string_add_sum _ _ _ (by have : (⟨#[83]⟩ : ByteArray).size = 1 := rfl; omega)
  have z1 : ((⟨#[83]⟩ : ByteArray) ++ x8).size = 9 := by rw [ByteArray.size_append, s8]; rfl
  generalize (⟨#[83]⟩ : ByteArray) ++ x8 = y1 at *
  have hadd2 : ∀ w, (Op.stringOp .add y1 x1).run Try.prog w = .ok (.string (y1 ++ x1)) w := fun w => run_string_add_sum _ _ _ (by omega)
  generalize y1 ++ x1 = y2 at *
  have hadd3 : ∀ w, (Op.stringOp .add y2 x4).run Try.prog w = .ok (.string (y2 ++ x4)) w := fun w => run_string_add_sum _ _ _ (by rw [ByteArray.size_append] at hs; omega)
  generalize y2 ++ x4 = y3 at *
  have hadd4 : ∀ w, (Op.stringOp .add y3 (zeroS N)).run Try.prog w = .ok (.string (y3 ++ zeroS N)) w := fun w => run_string_add_sum _ _ _ (by rw [zeroS_size]; omega)
  have hi : (128 : Int) - y3.size = (N : Int) := by omega
  have hmk := run_make_row' (P := Try.prog) 47 5 (.int .u8 0) 1 Try.underlying47 info_u8 rfl .i64 .i64 N (by omega) (by omega)
  rw [← hi] at hmk
  have hcv := fun w => zeros_string (P := Try.prog) 47 9 5 Try.underlying47 Try.underlying5 Try.underlying9 w N N (madeCells #[.int .u8 0] N) (by rw [← toList_madeCells_one])
  have hy3 : y3.size ≤ 128 := by omega
  clear s8 s1 s4 z1 hs hi hN
  go_enter Try.func29, Try.ntmps29
  go_wp2_with fail
  have HX : Hid (∀ w4, Nul (w.alloc (.cells #[.int .u64 g, .int .i64 a, .int .i64 l] 53)) w4 → w4.cell? ⟨w.heap.size, 0, none⟩ = some (.int .u64 g) ∧ w4.cell? ⟨w.heap.size, 1, none⟩ = some (.int .i64 a) ∧ w4.cell? ⟨w.heap.size, 2, none⟩ = some (.int .i64 l)) := hid (fun w4 hf => by
    have h := (Blk.new w 53 [.int .u64 g, .int .i64 a, .int .i64 l]).nul hf
    exact ⟨h.cell 0, h.cell 1, h.cell 2⟩)
  refine (HC.out _).mono ?_
  rintro e w1 ⟨rfl, hf⟩
  have H1 := hid hf
  clear hf
  go_wp2_with fail
  go_region_held3 (fun w' => w'.cell? ⟨w.heap.size, 0, none⟩ = some (.int .u64 g) ∧ w'.cell? ⟨w.heap.size, 1, none⟩ = some (.int .i64 a) ∧ w'.cell? ⟨w.heap.size, 2, none⟩ = some (.int .i64 l)) (first
    | exact HX.out _ H4.out
    | exact HX.out _ H3.out
    | exact HX.out _ H2.out
    | exact HX.out _ (H1.out.drew)) (first
    | (go_at_call 55
       with_reducible refine (HN8.out _).mono ?_
       rintro e w2 ⟨rfl, hf⟩
       have H2 := hid ((H1.out.drew).nul hf)
       clear hf)
    | (go_at_call 55
       with_reducible refine (HN1.out _).mono ?_
       rintro e w3 ⟨rfl, hf⟩
       have H3 := hid (H2.out.nul hf)
       clear hf)
    | (go_at_call 55
       with_reducible refine (HN4.out _).mono ?_
       rintro e w4 ⟨rfl, hf⟩
       have H4 := hid (H3.out.nul hf)
       clear hf))
  have H5 := hid ((((Frm.refl (fun _ => False) w).alloc (.cells #[.int .u64 g, .int .i64 a, .int .i64 l] 53))).nul H4.out)
  go_wp2_with fail
  go_ret2
  exact ⟨rfl, H5.out.alloc _⟩
end Go.Proofs.Ytdpffgcekjdneaa
