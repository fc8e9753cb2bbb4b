/-
  Walks: laying a super, as the document says; reading one.
-/
import Derived.Test.YtdpffgcekjdneaaSupB
set_option linter.all false
namespace Go.Proofs.Ytdpffgcekjdneaa
open Go.RowKit

set_option maxRecDepth 100000 in
set_option maxHeartbeats 1000000 in
theorem ref_SPut (g a l : Nat) (w : World) (hg : g < 18446744073709551616) (ha : a < 18446744073709551616) (hl : l < 18446744073709551616) :
    Calls Try.prog 32 #[.agg #[.int .u64 g, .int .i64 a, .int .i64 l]] w fun e w' => e = .returned (.string (supS g a l)) ∧ Nul w w' := by
  have HN8 : Hid (∀ w, Calls Try.prog 56 #[.int .u64 (g : Int), .int .i64 8] w fun e w' => e = .returned (.string (numS g 8)) ∧ Nul w w') := hid (fun w => r01_Num g 8 w (by omega) hg)
  have HN1 : Hid (∀ w, Calls Try.prog 56 #[.int .u64 (a : Int), .int .i64 1] w fun e w' => e = .returned (.string (numS a 1)) ∧ Nul w w') := hid (fun w => r01_Num a 1 w (by omega) ha)
  have HN4 : Hid (∀ w, Calls Try.prog 56 #[.int .u64 (l : Int), .int .i64 4] w fun e w' => e = .returned (.string (numS l 4)) ∧ Nul w w') := hid (fun w => r01_Num l 4 w (by omega) hl)
  have w1 : IntKind.u64.wrap (a : Int) = (a : Int) := IntWalk.u64_in _ (by omega)
  have w2 : IntKind.u64.wrap (l : Int) = (l : Int) := IntWalk.u64_in _ (by omega)
  have hs := supS_14 g a l
  have hS : supS g a l = fullS (⟨#[83]⟩ ++ numS g 8 ++ numS a 1 ++ numS l 4) := rfl
  rw [hS]
  have s8 := numS_size g 8
  have s1 := numS_size a 1
  have s4 := numS_size l 4
  clear hS hg ha hl
  generalize numS g 8 = x8 at *
  generalize numS a 1 = x1 at *
  generalize numS l 4 = x4 at *
  have hadd1 : ∀ w, (Op.stringOp .add ⟨#[83]⟩ x8).run Try.prog w = .ok (.string (⟨#[83]⟩ ++ x8)) w := fun w => run_string_add_sum _ _ _ (by have : (⟨#[83]⟩ : ByteArray).size = 1 := rfl; omega)
  have z1 : ((⟨#[83]⟩ : ByteArray) ++ x8).size = 9 := by rw [ByteArray.size_append, s8]; rfl
  generalize (⟨#[83]⟩ : ByteArray) ++ x8 = y1 at *
  have hadd2 : ∀ w, (Op.stringOp .add y1 x1).run Try.prog w = .ok (.string (y1 ++ x1)) w := fun w => run_string_add_sum _ _ _ (by omega)
  generalize y1 ++ x1 = y2 at *
  have hadd3 : ∀ w, (Op.stringOp .add y2 x4).run Try.prog w = .ok (.string (y2 ++ x4)) w := fun w => run_string_add_sum _ _ _ (by rw [ByteArray.size_append] at hs; omega)
  generalize y2 ++ x4 = y3 at *
  have HFu := hid (ref_Full y3)
  clear s8 s1 s4 z1 hs
  go_enter Try.func32, Try.ntmps32
  go_wp2_with fail
  have HX : Hid (∀ w4, Nul (w.alloc (.cells #[.int .u64 g, .int .i64 a, .int .i64 l] 53)) w4 → w4.cell? ⟨w.heap.size, 0, none⟩ = some (.int .u64 g) ∧ w4.cell? ⟨w.heap.size, 1, none⟩ = some (.int .i64 a) ∧ w4.cell? ⟨w.heap.size, 2, none⟩ = some (.int .i64 l)) := hid (fun w4 hf => by
    have h := (Blk.new w 53 [.int .u64 g, .int .i64 a, .int .i64 l]).nul hf
    exact ⟨h.cell 0, h.cell 1, h.cell 2⟩)
  have H1 : Hid (Nul (w.alloc (.cells #[.int .u64 g, .int .i64 a, .int .i64 l] 53)) (w.alloc (.cells #[.int .u64 g, .int .i64 a, .int .i64 l] 53))) := hid (Frm.refl _ _)
  go_region_held3 (fun w' => w'.cell? ⟨w.heap.size, 0, none⟩ = some (.int .u64 g) ∧ w'.cell? ⟨w.heap.size, 1, none⟩ = some (.int .i64 a) ∧ w'.cell? ⟨w.heap.size, 2, none⟩ = some (.int .i64 l)) (first
    | exact HX.out _ H4.out
    | exact HX.out _ H3.out
    | exact HX.out _ H2.out
    | exact HX.out _ (H1.out.drew)) (first
    | (go_at_call 56
       with_reducible refine (HN8.out _).mono ?_
       rintro e w2 ⟨rfl, hf⟩
       have H2 := hid ((H1.out.drew).nul hf)
       clear hf)
    | (go_at_call 56
       with_reducible refine (HN1.out _).mono ?_
       rintro e w3 ⟨rfl, hf⟩
       have H3 := hid (H2.out.nul hf)
       clear hf)
    | (go_at_call 56
       with_reducible refine (HN4.out _).mono ?_
       rintro e w4 ⟨rfl, hf⟩
       have H4 := hid (H3.out.nul hf)
       clear hf)
    | (go_at_call 15
       with_reducible refine (HFu.out _).mono ?_
       rintro e w' ⟨rfl, rfl⟩))
  have H5 := hid ((((Frm.refl (fun _ => False) w).alloc (.cells #[.int .u64 g, .int .i64 a, .int .i64 l] 53))).nul H4.out)
  go_wp2_with fail
  go_ret
  exact ⟨rfl, H5.out⟩

/-- A super out of a sector: what stands there. -/
structure Sup where
  g : Nat
  a : Nat
  l : Nat
def Sup.zero : Sup := ⟨0, 0, 0⟩
def supV (s : Sup) : Value := .agg #[.int .u64 s.g, .int .i64 s.a, .int .i64 s.l]
/-- What the bytes of a sector say. -/
def supP (t : ByteArray) : Sup := ⟨wval (t.extract 1 9), wval (t.extract 9 10), wval (t.extract 10 14)⟩
/-- The super of a sector. -/
def supOf (t : ByteArray) : Option Sup := if t.size = 128 ∧ supB (supP t).g (supP t).a (supP t).l = true ∧ supS (supP t).g (supP t).a (supP t).l = t then some (supP t) else none

/-- The closure that takes a number as an int. -/
theorem sup_Get1 (g b : Nat) (s : ByteArray) (e n : Int) (w : World) (hg : Blk w g 97 [.pointer (some ⟨b, 0, none⟩)]) (hc : CutAt w b s e) (hs : s.size ≤ 140737488351232) (hb : (numC s e n).1 < 9223372036854775808) :
    Calls Try.prog 59 #[.int .i64 n, .pointer (some ⟨g, 0, none⟩)] w fun r w' =>
      r = .returned (.int .i64 (numC s e n).1) ∧ CutAt w' b (numC s e n).2.1 (numC s e n).2.2 ∧ One b w w' := by
  have hcell : w.cell? ⟨g, 0, none⟩ = some (.pointer (some ⟨b, 0, none⟩)) := hg.cell 0
  have HN := hid (cut_Num b s e n w hc hs)
  have hwr : IntKind.i64.wrap ((numC s e n).1 : Int) = ((numC s e n).1 : Int) := IntWalk.i64_in _ (by omega)
  generalize numC s e n = x at HN hwr ⊢
  obtain ⟨v, s', e'⟩ := x
  clear hg hc hb
  go_enter Try.func59, Try.ntmps59
  go_wp2_with fail
  refine HN.out.mono ?_
  rintro e w1 ⟨rfl, hc1, hf1⟩
  go_wp2_with fail
  go_ret
  exact ⟨rfl, hc1, hf1⟩
end Go.Proofs.Ytdpffgcekjdneaa
