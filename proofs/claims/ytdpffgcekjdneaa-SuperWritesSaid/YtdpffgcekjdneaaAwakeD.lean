/-
  Walks: what must come at any rate of a disk; the law of a nil disk.
-/
import Derived.Test.YtdpffgcekjdneaaDiskI
set_option linter.all false
namespace Go.Proofs.Ytdpffgcekjdneaa
open Go.RowKit

theorem nw_Write {B : Nat} {w : World} {b N : Nat} {d : Dk} (h : DiskIn (B ≤ ·) w b N d) (hB : B ≤ w.heap.size) (hN : N ≤ 100000) (s : Int) (x : ByteArray) :
    Calls Try.prog 17 #[.pointer (some ⟨b, 0, none⟩), .int .i64 s, .string x] w fun e w' => e = .returned (.int .i64 (d.write s x).1) ∧ DiskIn (B ≤ ·) w' b (N + 1) (d.write s x).2 ∧ Frm (B ≤ ·) w w' := by
  refine (in_Write h hN s x).mono ?_
  rintro e w' ⟨rfl, hD, hf⟩
  exact ⟨rfl, hD.mono (fun k _ hk => by rcases hk with hk | hk; exact hk; exact Nat.le_trans hB hk.1), hf⟩

theorem index_first (r : ByteArray) (c : UInt8) (h1 : r.size = 128) (h2 : r.data[0]? = some c) (w : World) : (Instr.index 9 (.string r) (.int .i64 0)).run Try.prog w = .ok (.int .u8 c.toNat) w := by
  rw [run_index_string w _ _ _ _ Try.underlying9, dif_pos ⟨by omega, by omega⟩]
  have e : r[(0 : Int).toNat]'(by rw [h1]; decide) = c := by
    have h3 := (Array.getElem?_eq_some_iff.1 h2).2
    exact h3
  rw [e]

theorem Frm.news {w0 a w' : World} (h : Nul w0 a) (h' : Frm (w0.heap.size ≤ ·) a w') : Nul w0 w' := h.next h' fun k hk hB => absurd hB (by show ¬ w0.heap.size ≤ k; omega)
theorem ext_none {w0 w w' : World} (hs : w0.heap.size ≤ w.heap.size) (k : Nat) (hk : ext (fun _ => False) w w' k) : w0.heap.size ≤ k := by
  rcases hk with hk | hk
  · exact hk.elim
  · exact Nat.le_trans hs hk.1

def awCr : List (Int × List UInt8) := [(2, []), (4, [1])]
def aw1 : Dk := ((dk0 4 awCr).write 1 ⟨#[120]⟩).2
def aw2 : Dk := aw1.flush.2
def aw3 : Dk := (aw2.write 2 ⟨#[121]⟩).2
def aw4 : Dk := { aw3 with down := false }
def aw5 : Dk := (aw4.write 2 ⟨#[122]⟩).2
def aw6 : Dk := aw5.flush.2
def aw7 : Dk := { aw6 with down := false }
theorem aw_1 : ((dk0 4 awCr).write 1 ⟨#[120]⟩).1 = 0 ∧ aw1.flush.1 = 0 ∧ (aw2.write 2 ⟨#[121]⟩).1 = 12 ∧ aw3.down = true := by decide +kernel
theorem aw_2 : ((aw4.read 1).1.size = 128 ∧ (aw4.read 1).1.data[0]? = some 120 ∧ (aw4.read 1).2 = 0) ∧ (aw4.read 2).1.size = 128 ∧ (aw4.read 2).1.data[0]? = some 0 ∧ (aw4.read 2).2 = 0 := by decide +kernel
theorem aw_3 : aw5.flush.1 = 12 ∧ (aw7.read 2).1.size = 128 ∧ (aw7.read 2).1.data[0]? = some 122 ∧ (aw7.read 2).2 = 0 := by decide +kernel

/-- The two crashes, where they are made. -/
theorem awCr_at (w : World) : CrashesAt ((w.alloc (.cells #[.int .u8 1] 5)).alloc (.cells #[.int .i64 2, .slice none 0 0, .int .i64 4, .slice (some ⟨w.heap.size, 0, none⟩) 1 1] 49)) (fun k => w.heap.size ≤ k) (some ⟨w.heap.size + 1, 0, none⟩) awCr := by
  have h1 : Blk ((w.alloc (.cells #[.int .u8 1] 5)).alloc (.cells #[.int .i64 2, .slice none 0 0, .int .i64 4, .slice (some ⟨w.heap.size, 0, none⟩) 1 1] 49)) w.heap.size 5 [.int .u8 1] := (Blk.new w 5 [.int .u8 1]).alloc _
  have h2 : Blk ((w.alloc (.cells #[.int .u8 1] 5)).alloc (.cells #[.int .i64 2, .slice none 0 0, .int .i64 4, .slice (some ⟨w.heap.size, 0, none⟩) 1 1] 49)) (w.heap.size + 1) 49 [.int .i64 2, .slice none 0 0, .int .i64 4, .slice (some ⟨w.heap.size, 0, none⟩) 1 1] := Blk.new_at (w.alloc (.cells #[.int .u8 1] 5)) 49 [.int .i64 2, .slice none 0 0, .int .i64 4, .slice (some ⟨w.heap.size, 0, none⟩) 1 1] (by simp)
  refine .inr ⟨_, _, rfl, by omega, fun i hi => ?_⟩
  match i, hi with
  | 0, _ => exact ⟨h2.cell 0, none, 0, h2.cell 1, Nat.le_refl _, .inl rfl⟩
  | 1, _ => exact ⟨h2.cell 2, _, 1, h2.cell 3, Nat.le_refl _, .inr ⟨w.heap.size, 0, rfl, by omega, fun j hj => by
      match j, hj with
      | 0, _ => exact h1.cell 0⟩⟩

set_option maxRecDepth 100000 in
set_option maxHeartbeats 2000000 in
theorem awake21 (w : World) : Calls Try.prog 13 #[] w fun e w' => e = .returned (.bool true) ∧ Nul w w' := by
  obtain ⟨⟨r1, r2, r3⟩, s1, s2, s3⟩ := aw_2
  obtain ⟨t0, t1, t2, t3⟩ := aw_3
  obtain ⟨u1, u2, u3, u4⟩ := aw_1
  have ix1 : ∀ w : World, (Instr.index 9 (.string (aw4.read 1).1) (.int .i64 0)).run Try.prog w = .ok (.int .u8 120) w := index_first (aw4.read 1).1 120 r1 r2
  have ix2 : ∀ w : World, (Instr.index 9 (.string (aw4.read 2).1) (.int .i64 0)).run Try.prog w = .ok (.int .u8 0) w := index_first (aw4.read 2).1 0 s1 s2
  have ix3 : ∀ w : World, (Instr.index 9 (.string (aw7.read 2).1) (.int .i64 0)).run Try.prog w = .ok (.int .u8 122) w := index_first (aw7.read 2).1 122 t1 t2
  have l1 : 0 < (aw4.read 1).1.size := by rw [r1]; decide
  have l2 : 0 < (aw4.read 2).1.size := by rw [s1]; decide
  have l3 : 0 < (aw7.read 2).1.size := by rw [t1]; decide
  generalize q1 : (aw4.read 1).1 = x1 at ix1 l1
  generalize q2 : (aw4.read 2).1 = x2 at ix2 l2
  generalize q3 : (aw7.read 2).1 = x3 at ix3 l3
  have Q1 := hid q1
  have Q2 := hid q2
  have Q3 := hid q3
  have R3 := hid r3
  have S3 := hid s3
  have T3 := hid t3
  have T0 := hid t0
  have U1 := hid u1
  have U2 := hid u2
  have U3 := hid u3
  have U4 := hid u4
  have HA := hid (awCr_at w)
  clear q1 q2 q3 r1 r2 r3 s1 s2 s3 t0 t1 t2 t3 u1 u2 u3 u4
  go_enter Try.func13, Try.ntmps13
  go_wp2_with fail
  refine (in_New (n := 4) HA.out (by omega) (by omega) (by decide) (by decide)).mono ?_
  rintro e w1 ⟨b, rfl, hD, hf⟩
  have H1 : Hid (DiskIn (w.heap.size ≤ ·) w1 b 0 (dk0 4 awCr) ∧ Nul w w1) := hid (And.intro (hD.mono (T := (w.heap.size ≤ ·)) (fun k _ hk => ext_none (by simp; omega) k hk)) ((((Frm.refl (fun _ => False) w).alloc _).alloc _).nul hf))
  clear hD hf HA
  go_wp2_with fail
  refine (nw_Write H1.out.1 H1.out.2.size (by omega) 1 ⟨#[120]⟩).mono ?_
  rintro e w2 ⟨he, hD, hf⟩
  rw [U1.out] at he
  subst he
  have H2 : Hid (DiskIn (w.heap.size ≤ ·) w2 b 1 aw1 ∧ Nul w w2) := hid (And.intro hD (H1.out.2.news hf))
  clear hD hf
  go_wp2_with fail
  refine (in_Flush H2.out.1 (by omega)).mono ?_
  rintro e w3 ⟨he, hD, hf⟩
  rw [U2.out] at he
  subst he
  have H3 : Hid (DiskIn (w.heap.size ≤ ·) w3 b 2 aw2 ∧ Nul w w3) := hid (And.intro hD (H2.out.2.news hf))
  clear hD hf
  go_wp2_with fail
  refine (nw_Write H3.out.1 H3.out.2.size (by omega) 2 ⟨#[121]⟩).mono ?_
  rintro e w4 ⟨he, hD, hf⟩
  rw [U3.out] at he
  subst he
  have H4 : Hid (DiskIn (w.heap.size ≤ ·) w4 b 3 aw3 ∧ Nul w w4) := hid (And.intro hD (H3.out.2.news hf))
  clear hD hf
  go_wp2_with fail
  refine (in_Down H4.out.1).mono ?_
  rintro e w' ⟨he, rfl⟩
  rw [U4.out] at he
  subst he
  go_wp2_with fail
  refine (in_Power H4.out.1).mono ?_
  rintro e w5 ⟨he, hD, hf⟩
  subst he
  have H5 : Hid (DiskIn (w.heap.size ≤ ·) w5 b 3 aw4 ∧ Nul w w5) := hid (And.intro hD (H4.out.2.news hf))
  clear hD hf
  go_wp2_with fail
  refine (in_Read H5.out.1 (by omega) 1).mono ?_
  rintro e w6 ⟨he, hf⟩
  rw [Q1.out, R3.out] at he
  subst he
  have H6 : Hid (DiskIn (w.heap.size ≤ ·) w6 b 3 aw4 ∧ Nul w w6) := hid (And.intro (H5.out.1.nul hf) (H5.out.2.nul hf))
  clear hf
  go_wp2_with fail
  refine (in_Read H6.out.1 (by omega) 2).mono ?_
  rintro e w7 ⟨he, hf⟩
  rw [Q2.out, S3.out] at he
  subst he
  have H7 : Hid (DiskIn (w.heap.size ≤ ·) w7 b 3 aw4 ∧ Nul w w7) := hid (And.intro (H6.out.1.nul hf) (H6.out.2.nul hf))
  clear hf
  go_wp2_with fail
  refine (nw_Write H7.out.1 H7.out.2.size (by omega) 2 ⟨#[122]⟩).mono ?_
  rintro e w8 ⟨he, hD, hf⟩
  subst he
  have H8 : Hid (DiskIn (w.heap.size ≤ ·) w8 b 4 aw5 ∧ Nul w w8) := hid (And.intro hD (H7.out.2.news hf))
  clear hD hf
  go_wp2_with fail
  refine (in_Flush H8.out.1 (by omega)).mono ?_
  rintro e w9 ⟨he, hD, hf⟩
  rw [T0.out] at he
  subst he
  have H9 : Hid (DiskIn (w.heap.size ≤ ·) w9 b 5 aw6 ∧ Nul w w9) := hid (And.intro hD (H8.out.2.news hf))
  clear hD hf
  go_wp2_with fail
  refine (in_Power H9.out.1).mono ?_
  rintro e w10 ⟨he, hD, hf⟩
  subst he
  have H10 : Hid (DiskIn (w.heap.size ≤ ·) w10 b 5 aw7 ∧ Nul w w10) := hid (And.intro hD (H9.out.2.news hf))
  clear hD hf
  go_wp2_with fail
  refine (in_Read H10.out.1 (by omega) 2).mono ?_
  rintro e w11 ⟨he, hf⟩
  rw [Q3.out, T3.out] at he
  subst he
  have H11 : Hid (DiskIn (w.heap.size ≤ ·) w11 b 5 aw7 ∧ Nul w w11) := hid (And.intro (H10.out.1.nul hf) (H10.out.2.nul hf))
  clear hf
  go_wp2_with fail
  go_ret
  exact ⟨rfl, H11.out.2⟩
end Go.Proofs.Ytdpffgcekjdneaa
