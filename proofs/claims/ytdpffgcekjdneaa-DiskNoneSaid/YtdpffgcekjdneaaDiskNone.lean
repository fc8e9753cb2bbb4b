/-
  Walks: the law of a nil disk.
-/
import Derived.Test.YtdpffgcekjdneaaAwakeD
set_option linter.all false
namespace Go.Proofs.Ytdpffgcekjdneaa
open Go.RowKit

def noneCr : List (Int × List UInt8) := [(0, [])]
def non1 : Dk := (dk0 3 noneCr).flush.2
theorem non_1 : (dk0 3 noneCr).flush.1 = 12 ∧ non1.down = true ∧ non1.ops = 1 := by decide +kernel
theorem non_read (a : Int) : non1.read a = (ByteArray.empty, 12) := by
  unfold Dk.read; rw [if_pos non_1.2.1]
theorem non_write (a : Int) (s : ByteArray) : non1.write a s = (12, non1) := by
  unfold Dk.write; rw [if_pos non_1.2.1]
theorem non_flush : non1.flush = (12, non1) := by
  unfold Dk.flush; rw [if_pos non_1.2.1]
theorem noneCr_at (w : World) : CrashesAt (w.alloc (.cells #[.int .i64 0, .slice none 0 0] 49)) (fun k => w.heap.size ≤ k) (some ⟨w.heap.size, 0, none⟩) noneCr := by
  have h2 := Blk.new w 49 [.int .i64 0, .slice none 0 0]
  refine .inr ⟨_, _, rfl, by omega, fun i hi => ?_⟩
  match i, hi with
  | 0, _ => exact ⟨h2.cell 0, none, 0, h2.cell 1, Nat.le_refl _, .inl rfl⟩

set_option maxRecDepth 100000 in
set_option maxHeartbeats 2000000 in
theorem law_DiskNone (a : Int) (s : ByteArray) (w : World) : Calls Try.prog 5 #[.int .i64 a, .string s] w fun e w' => e = .returned (.bool true) ∧ Nul w w' := by
  by_cases hs : 200 < s.size
  · have hd : decide (200 < (s.size : Int)) = true := decide_eq_true (by omega)
    go_enter Try.func5, Try.ntmps5
    go_wp2_with fail
    refine (awake21 _).mono ?_
    rintro e w1 ⟨rfl, hf⟩
    go_wp2_with fail
    go_ret
    exact ⟨rfl, hf⟩
  · have hd : decide (200 < (s.size : Int)) = false := decide_eq_false (by omega)
    obtain ⟨u1, u2, u3⟩ := non_1
    have U1 := hid u1
    have U3 := hid u3
    have HA := hid (noneCr_at w)
    clear u1 u2 u3
    go_enter Try.func5, Try.ntmps5
    go_wp2_with fail
    refine (disk_Read_nil a _).mono ?_
    rintro e w' ⟨rfl, rfl⟩
    go_wp2_with fail
    refine (disk_Power_nil _).mono ?_
    rintro e w' ⟨rfl, rfl⟩
    go_wp2_with fail
    refine (in_New (n := 3) HA.out (by omega) (by omega) (by decide) (by decide)).mono ?_
    rintro e w1 ⟨b, rfl, hD, hf⟩
    have H1 : Hid (DiskIn (w.heap.size ≤ ·) w1 b 0 (dk0 3 noneCr) ∧ Nul w w1) := hid (And.intro (hD.mono (T := (w.heap.size ≤ ·)) (fun k _ hk => ext_none (by simp) k hk)) (((Frm.refl (fun _ => False) w).alloc _).nul hf))
    clear hD hf HA
    go_wp2_with fail
    refine (in_Flush H1.out.1 (by omega)).mono ?_
    rintro e w2 ⟨he, hD, hf⟩
    rw [U1.out] at he
    subst he
    have H2 : Hid (DiskIn (w.heap.size ≤ ·) w2 b 1 non1 ∧ Nul w w2) := hid (And.intro hD (H1.out.2.news hf))
    clear hD hf
    go_wp2_with fail
    refine (in_Read H2.out.1 (by omega) a).mono ?_
    rintro e w3 ⟨he, hf⟩
    rw [non_read] at he
    subst he
    have H3 : Hid (DiskIn (w.heap.size ≤ ·) w3 b 1 non1 ∧ Nul w w3) := hid (And.intro (H2.out.1.nul hf) (H2.out.2.nul hf))
    clear hf
    go_wp2_with fail
    refine (awake21 _).mono ?_
    rintro e w4 ⟨rfl, hf⟩
    have H4 : Hid (DiskIn (w.heap.size ≤ ·) w4 b 1 non1 ∧ Nul w w4) := hid (And.intro (H3.out.1.nul hf) (H3.out.2.nul hf))
    clear hf
    go_wp2_with fail
    refine (disk_Write_nil a s _).mono ?_
    rintro e w' ⟨rfl, rfl⟩
    go_wp2_with fail
    refine (disk_Flush_nil _).mono ?_
    rintro e w' ⟨rfl, rfl⟩
    go_wp2_with fail
    refine (disk_Down_nil _).mono ?_
    rintro e w' ⟨rfl, rfl⟩
    go_wp2_with fail
    refine (disk_Sectors_nil _).mono ?_
    rintro e w' ⟨rfl, rfl⟩
    go_wp2_with fail
    refine (disk_Ops_nil _).mono ?_
    rintro e w' ⟨rfl, rfl⟩
    go_wp2_with fail
    refine (disk_Waiting_nil _).mono ?_
    rintro e w' ⟨rfl, rfl⟩
    go_wp2_with fail
    refine (nw_Write H4.out.1 H4.out.2.size (by omega) a s).mono ?_
    rintro e w5 ⟨he, hD, hf⟩
    rw [non_write] at he hD
    subst he
    have H5 : Hid (DiskIn (w.heap.size ≤ ·) w5 b 2 non1 ∧ Nul w w5) := hid (And.intro hD (H4.out.2.news hf))
    clear hD hf
    go_wp2_with fail
    refine (in_Flush H5.out.1 (by omega)).mono ?_
    rintro e w6 ⟨he, hD, hf⟩
    rw [non_flush] at he hD
    subst he
    have H6 : Hid (DiskIn (w.heap.size ≤ ·) w6 b 3 non1 ∧ Nul w w6) := hid (And.intro hD (H5.out.2.news hf))
    clear hD hf
    go_wp2_with fail
    refine (in_Ops H6.out.1).mono ?_
    rintro e w' ⟨he, rfl⟩
    rw [U3.out] at he
    subst he
    go_wp2_with fail
    go_ret
    exact ⟨rfl, H6.out.2⟩
end Go.Proofs.Ytdpffgcekjdneaa
