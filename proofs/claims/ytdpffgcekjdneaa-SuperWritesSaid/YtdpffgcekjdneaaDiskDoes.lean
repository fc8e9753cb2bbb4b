/-
  Walks: the law of a disk's calls.
-/
import Derived.Test.YtdpffgcekjdneaaBoth
import Derived.Deep.RegionHeld3
set_option linter.all false
namespace Go.Proofs.Ytdpffgcekjdneaa
open Go.RowKit

set_option maxRecDepth 100000 in
set_option maxHeartbeats 2000000 in
theorem does_awake (n : Int) (A0 A1 : Option Addr) (c0 c1 len : Nat) (cr : List (Int × List UInt8)) (S : Nat → Prop) (w : World) (hA : CrashesAt w S A0 cr) (hl : cr.length ≤ 9223372036854775807) (h : lightB cr = false ∨ (40 < n ∧ n ≤ 65536)) :
    Calls Try.prog 4 #[.int .i64 n, .slice A0 cr.length c0, .slice A1 len c1] w fun e w' => e = .returned (.bool true) ∧ Nul w w' := by
  have HL := hid (light_is S A0 c0 cr w hA hl)
  clear hA
  cases hlt : lightB cr with
  | false =>
    rw [hlt] at HL
    clear h hlt
    go_enter Try.func4, Try.ntmps4
    go_wp2_with fail
    refine HL.out.mono ?_
    rintro e w1 ⟨rfl, rfl⟩
    go_wp2_with fail
    refine (awake21 _).mono ?_
    rintro e w1 ⟨rfl, hf⟩
    go_wp2_with fail
    go_ret
    exact ⟨rfl, hf⟩
  | true =>
    rw [hlt] at HL h
    have h2 : 40 < n ∧ n ≤ 65536 := by
      rcases h with h | h
      · cases h
      · exact h
    have d1 : decide (40 < n) = true := decide_eq_true h2.1
    have d2 : decide (n ≤ 65536) = true := decide_eq_true h2.2
    clear h hlt h2
    go_enter Try.func4, Try.ntmps4
    go_wp2_with fail
    refine HL.out.mono ?_
    rintro e w1 ⟨rfl, rfl⟩
    go_wp2_with fail
    refine (awake21 _).mono ?_
    rintro e w1 ⟨rfl, hf⟩
    go_wp2_with fail
    go_ret
    exact ⟨rfl, hf⟩

set_option maxRecDepth 100000 in
set_option maxHeartbeats 2000000 in
theorem does_range (n : Int) (A0 A1 : Option Addr) (c0 c1 len : Nat) (cr : List (Int × List UInt8)) (S : Nat → Prop) (w : World) (hA : CrashesAt w S A0 cr) (hl : cr.length ≤ 9223372036854775807) (hlt : lightB cr = true) (h : n < 1 ∨ 65536 < n) :
    Calls Try.prog 4 #[.int .i64 n, .slice A0 cr.length c0, .slice A1 len c1] w fun e w' => e = .returned (.bool true) ∧ Nul w w' := by
  have HL := hid (light_is S A0 c0 cr w hA hl)
  rw [hlt] at HL
  have HR := hid (fun w => in_New_range n A0 cr.length c0 w h)
  clear hA hlt
  rcases h with h | h
  · have d1 : decide (40 < n) = false := decide_eq_false (by omega)
    have d3 : decide (n < 1) = true := decide_eq_true (by omega)
    clear h
    go_enter Try.func4, Try.ntmps4
    go_wp2_with fail
    refine HL.out.mono ?_
    rintro e w1 ⟨rfl, rfl⟩
    go_wp2_with fail
    refine (awake21 _).mono ?_
    rintro e w1 ⟨rfl, hf⟩
    go_wp2_with fail
    refine (HR.out _).mono ?_
    rintro e w1 ⟨rfl, rfl⟩
    go_wp2_with fail
    go_ret
    exact ⟨rfl, hf⟩
  · have d1 : decide (40 < n) = true := decide_eq_true (by omega)
    have d2 : decide (n ≤ 65536) = false := decide_eq_false (by omega)
    have d3 : decide (n < 1) = false := decide_eq_false (by omega)
    have d4 : decide (65536 < n) = true := decide_eq_true (by omega)
    clear h
    go_enter Try.func4, Try.ntmps4
    go_wp2_with fail
    refine HL.out.mono ?_
    rintro e w1 ⟨rfl, rfl⟩
    go_wp2_with fail
    refine (awake21 _).mono ?_
    rintro e w1 ⟨rfl, hf⟩
    go_wp2_with fail
    refine (HR.out _).mono ?_
    rintro e w1 ⟨rfl, rfl⟩
    go_wp2_with fail
    go_ret
    exact ⟨rfl, hf⟩

/-- All from B on but one block. -/
def Hole (B g : Nat) : Nat → Prop := fun k => B ≤ k ∧ k ≠ g

set_option maxRecDepth 100000 in
set_option maxHeartbeats 4000000 in
theorem does_go (n : Nat) (A0 A1 : Option Addr) (c0 c1 : Nat) (cr : List (Int × List UInt8)) (l : List (Int × Int × ByteArray)) (w : World) (hA : CrashesAt w (· < w.heap.size) A0 cr) (hB : ActsAt w w.heap.size A1 l) (hl : cr.length ≤ 9223372036854775807) (hll : l.length ≤ 9223372036854775807) (hlt : lightB cr = true) (hn1 : 1 ≤ n) (hn2 : n ≤ 40) :
    Calls Try.prog 4 #[.int .i64 n, .slice A0 cr.length c0, .slice A1 l.length c1] w fun e w' => e = .returned (.bool true) ∧ Nul w w' := by
  have HL := hid (light_is _ A0 c0 cr w hA hl)
  have hlb := of_decide_eq_true hlt
  rw [hlt] at HL
  have HC := hid hlb
  have HA := hid hA
  have HB := hid hB
  have d1 : decide (40 < (n : Int)) = false := decide_eq_false (by omega)
  have d3 : decide ((n : Int) < 1) = false := decide_eq_false (by omega)
  have d4 : decide (65536 < (n : Int)) = false := decide_eq_false (by omega)
  clear hA hlt hlb hB
  go_enter Try.func4, Try.ntmps4
  go_wp2_with fail
  refine HL.out.mono ?_
  rintro e w1 ⟨rfl, rfl⟩
  go_wp2_with fail
  refine (awake21 _).mono ?_
  rintro e w1 ⟨rfl, hf1⟩
  go_wp2_with fail
  refine (in_New (HA.out.frm hf1 (fun _ _ h => h)) hn1 (by omega) (by have := HC.out.1; omega) (fun p hp => by have := HC.out.2 p hp; omega)).mono ?_
  rintro e w2 ⟨b1, rfl, hD2, hf2⟩
  have H2 := hid (And.intro hD2 (And.intro hf1 hf2))
  clear hD2 hf1 hf2
  go_wp2_with fail
  refine (in_Sectors H2.out.1).mono ?_
  rintro e w' ⟨rfl, rfl⟩
  have hdk : (dk0 n cr).n = n := rfl
  rw [hdk]
  go_wp2_with fail
  refine (ref_New (· < w.heap.size) n A0 c0 cr w2 (HA.out.frm (H2.out.2.1.nul H2.out.2.2) (fun _ _ h => h)) (fun k hk => by have hk' : k < w.heap.size := hk; have := (H2.out.2.1.nul H2.out.2.2).size; omega) (by omega)).mono ?_
  rintro e w3 ⟨b2, rfl, hR3, hf3⟩
  have H3 : Hid (Both (w.heap.size ≤ ·) w.heap.size w3 b1 b2 0 (dk0 n cr) (dk0 n cr) ∧ Nul w w3) := hid (by
    have hs := (H2.out.2.1.nul H2.out.2.2).size
    have hs1 := H2.out.2.1.size
    have hs3 := hf3.size
    have hok0 : (dk0 n cr).okn 0 := by
      obtain ⟨_, _, _, _, _, h⟩ := H2.out.1
      exact h
    refine ⟨⟨fun k => w.heap.size ≤ k ∧ k < w2.heap.size, _, (H2.out.1.mono (fun k hk h => ?_)).nul hf3, hR3, fun k hk hF => ?_, fun k hk => ⟨hk.1, ?_⟩, fun k hk => ?_, fun k hk => hk, hok0, fun p hp => ?_⟩, (H2.out.2.1.nul H2.out.2.2).nul hf3⟩
    · rcases h with h | h
      · exact h.elim
      · exact ⟨by omega, h.2⟩
    · have := hk.2; have := hF.1; omega
    · have := hk.2; omega
    · have := hk.1; show w.heap.size ≤ k; omega
    · simp [dk0] at hp)
  clear hR3 hf3
  go_wp2_with fail
  go_loopg [10, 11, 12, 13, 14, 15, 16] l.length (fun m i _ _ _ _ _ _ wr => ∃ (k N : Nat) (d : Dk), k + m = l.length ∧ k ≤ 60 ∧ i = .int .i64 k ∧ N ≤ 2 * k ∧ Both (w.heap.size ≤ ·) w.heap.size wr b1 b2 N d d ∧ Nul w wr)
  case atStart => exact ⟨0, 0, _, by omega, by omega, rfl, by omega, H3.out.1, H3.out.2⟩
  case round =>
    obtain ⟨k, N, d, hk, hk60, rfl, hN, hV, hf⟩ := hrel
    have Hk := hid hk
    have HV := hid (And.intro hV hf)
    clear hk hV hf
    by_cases hlt : k < l.length
    · by_cases h60 : k < 60
      · have e1 : decide ((k : Int) < (l.length : Int)) = true := decide_eq_true (by omega)
        have e2 : decide ((k : Int) < 60) = true := decide_eq_true (by omega)
        have hN2 : N ≤ 99990 := by omega
        have hBs : w.heap.size ≤ wr.heap.size := HV.out.2.size
        obtain ⟨ga, oa, rfl, q0, q1, q2⟩ := (HB.out.frm HV.out.2 (fun _ _ h => h)).at_ hlt
        generalize l[k] = x at q0 q1 q2
        obtain ⟨kind, at_, s⟩ := x
        have q0' : wr.cell? ⟨ga, oa + k * 3, none⟩ = some (.int .i64 kind) := q0
        have q1' : wr.cell? ⟨ga, oa + k * 3 + 1, none⟩ = some (.int .i64 at_) := q1
        have q2' : wr.cell? ⟨ga, oa + k * 3 + 2, none⟩ = some (.string s) := q2
        clear q0 q1 q2
        have HX : Hid (Blk (wr.alloc (.cells #[.int .i64 kind, .int .i64 at_, .string s] 34)) wr.heap.size 34 [.int .i64 kind, .int .i64 at_, .string s]) := hid (Blk.new wr _ _)
        have HT : Hid (Both (Hole w.heap.size wr.heap.size) w.heap.size (wr.alloc (.cells #[.int .i64 kind, .int .i64 at_, .string s] 34)) b1 b2 N d d ∧ Nul wr (wr.alloc (.cells #[.int .i64 kind, .int .i64 at_, .string s] 34))) := hid ⟨(HV.out.1.mono (T' := Hole w.heap.size wr.heap.size) (fun k hk h => ⟨h, by omega⟩) (fun k hk => hk.1)).nul ((Frm.refl _ wr).alloc _), (Frm.refl _ wr).alloc _⟩
        by_cases hs : 200 < s.size
        · have hs1 : decide (200 < (s.size : Int)) = true := decide_eq_true (by omega)
          go_wp2_with fail
          go_ret
          exact ⟨rfl, HV.out.2.alloc _⟩
        · have hs1 : decide (200 < (s.size : Int)) = false := decide_eq_false (by omega)
          clear hs
          have HnT : Hid (¬ Hole w.heap.size wr.heap.size wr.heap.size) := hid (fun h => h.2 rfl)
          have HXc : Hid (∀ w4 : World, Frm (Hole w.heap.size wr.heap.size) (wr.alloc (.cells #[.int .i64 kind, .int .i64 at_, .string s] 34)) w4 → w4.cell? ⟨wr.heap.size, 1, none⟩ = some (.int .i64 at_) ∧ w4.cell? ⟨wr.heap.size, 2, none⟩ = some (.string s)) := hid (fun w4 hf => by
            have h := Blk.frm (g := wr.heap.size) HX.out hf HnT.out
            exact ⟨h.cell 1, h.cell 2⟩)
          have HTn : Hid (∀ w' : World, (wr.alloc (.cells #[.int .i64 kind, .int .i64 at_, .string s] 34)).heap.size ≤ w'.heap.size → ∀ k, w'.heap.size ≤ k → Hole w.heap.size wr.heap.size k) := hid (fun w' h k hk => by
            have h2 : (wr.alloc (.cells #[.int .i64 kind, .int .i64 at_, .string s] 34)).heap.size = wr.heap.size + 1 := by simp
            constructor <;> omega)
          have HBn : Hid (∀ w' : World, (wr.alloc (.cells #[.int .i64 kind, .int .i64 at_, .string s] 34)).heap.size ≤ w'.heap.size → w.heap.size ≤ w'.heap.size) := hid (fun w' h => by
            have h2 : (wr.alloc (.cells #[.int .i64 kind, .int .i64 at_, .string s] 34)).heap.size = wr.heap.size + 1 := by simp
            omega)
          have HN1 : Hid (N + 1 ≤ 99999) := hid (by omega)
          have Hbd := hid (fun (a : Int) (x : ByteArray) => bd_Write (HT.out.1.nul ((Frm.refl (fun _ => False) _).drew)) (HTn.out _ (Nat.le_refl _)) (HBn.out _ (Nat.le_refl _)) (by omega) a x)
          by_cases k1 : kind = 1
          · subst k1
            go_wp2_with fail
            go_region_held3 (fun w' => w'.cell? ⟨wr.heap.size, 1, none⟩ = some (.int .i64 at_) ∧ w'.cell? ⟨wr.heap.size, 2, none⟩ = some (.string s)) (first
              | exact HXc.out _ ((Frm.refl _ _).drew)
              | exact HXc.out _ (((Frm.refl _ _).drew).trans H4.out.2)
              | exact HXc.out _ ((((Frm.refl _ _).drew).trans H4.out.2).trans H5.out.2)) (first
              | (go_at_call 17
                 refine (Hbd.out at_ s).mono ?_
                 rintro e w4 ⟨rfl, hb4, hf4⟩
                 have H4 := hid (And.intro hb4 hf4)
                 have Hbr := hid (br_Write H4.out.1 (HTn.out _ H4.out.2.size) (HBn.out _ H4.out.2.size) HN1.out at_ s)
                 clear hb4 hf4)
              | (go_at_call 22
                 refine Hbr.out.mono ?_
                 rintro e w5 ⟨rfl, hb5, hf5⟩
                 have H5 := hid (And.intro hb5 hf5)
                 clear hb5 hf5))
            generalize hd' : (d.write at_ s).2 = d' at H5
            obtain ⟨f3, f4, AW, cW, f1⟩ := br_cells H5.out.1
            clear Hbr Hbd HT HX q0' q1' q2'
            go_wp2_with fail
            go_quiet (first
              | (go_at_call 25; exact quiet_l (bd_Ops (H5.out.1.nul ((Frm.refl (fun _ => False) _).drewN _))))
              | (go_at_call 26; exact quiet_l (bd_Down (H5.out.1.nul ((Frm.refl (fun _ => False) _).drewN _))))
              | (go_at_call 27; exact quiet_l (bd_Waiting (H5.out.1.nul ((Frm.refl (fun _ => False) _).drewN _)))))
            go_wp2_with fail
            go_roundg (gk - 1)
            case rel =>
              exact ⟨k + 1, N + 2, d', by have := Hk.out; omega, by omega, by go_num, by omega, (H5.out.1.mono (T' := (w.heap.size ≤ ·)) (fun k _ h => h.1) (fun k hk => hk)).nul ((Frm.refl _ _).drewN _), ((((HV.out.2.alloc _).news ((((Frm.refl _ _).drew).trans H4.out.2).trans H5.out.2 |>.mono fun k _ h => h.1))).drewN _)⟩
            case measure => have := Hk.out; omega
          · have b1' : (kind == 1) = false := by simpa using k1
            by_cases k2 : kind = 2
            · subst k2
              clear k1 b1'
              go_wp2_with fail
              go_region_held3 (fun w' => w'.cell? ⟨wr.heap.size, 1, none⟩ = some (.int .i64 at_) ∧ w'.cell? ⟨wr.heap.size, 2, none⟩ = some (.string s)) (first
                | exact HXc.out _ ((Frm.refl _ _).drew)
                | exact HXc.out _ (((Frm.refl _ _).drew).trans H4.out.2)
                | exact HXc.out _ ((((Frm.refl _ _).drew).trans H4.out.2).trans H5.out.2)) (first
                | (go_at_call 17
                   refine (Hbd.out at_ s).mono ?_
                   rintro e w4 ⟨rfl, hb4, hf4⟩
                   have H4 := hid (And.intro hb4 hf4)
                   have Hbr := hid (br_Write H4.out.1 (HTn.out _ H4.out.2.size) (HBn.out _ H4.out.2.size) HN1.out at_ s)
                   clear hb4 hf4)
                | (go_at_call 22
                   refine Hbr.out.mono ?_
                   rintro e w5 ⟨rfl, hb5, hf5⟩
                   have H5 := hid (And.intro hb5 hf5)
                   clear hb5 hf5))
              generalize hd' : (d.write at_ s).2 = d' at H5
              obtain ⟨f3, f4, AW, cW, f1⟩ := br_cells H5.out.1
              clear Hbr Hbd HT HX q0' q1' q2'
              go_wp2_with fail
              go_quiet (first
                | (go_at_call 25; exact quiet_l (bd_Ops (H5.out.1.nul ((Frm.refl (fun _ => False) _).drewN _))))
                | (go_at_call 26; exact quiet_l (bd_Down (H5.out.1.nul ((Frm.refl (fun _ => False) _).drewN _))))
                | (go_at_call 27; exact quiet_l (bd_Waiting (H5.out.1.nul ((Frm.refl (fun _ => False) _).drewN _)))))
              go_wp2_with fail
              go_roundg (gk - 1)
              case rel =>
                exact ⟨k + 1, N + 2, d', by have := Hk.out; omega, by omega, by go_num, by omega, (H5.out.1.mono (T' := (w.heap.size ≤ ·)) (fun k _ h => h.1) (fun k hk => hk)).nul ((Frm.refl _ _).drewN _), ((((HV.out.2.alloc _).news ((((Frm.refl _ _).drew).trans H4.out.2).trans H5.out.2 |>.mono fun k _ h => h.1))).drewN _)⟩
              case measure => have := Hk.out; omega
            · have b2' : (kind == 2) = false := by simpa using k2
              by_cases k3 : kind = 3
              · subst k3
                clear k1 b1' k2 b2'
                have Hbf := hid (bd_Flush HT.out.1 (by omega))
                go_wp2_with fail
                clear q0' q1' q2'
                refine Hbf.out.mono ?_
                rintro e w4 ⟨rfl, hb4, hf4⟩
                have H4 := hid (And.intro hb4 hf4)
                have Hbr := hid (br_Flush H4.out.1 HN1.out)
                clear hb4 hf4
                go_wp2_with fail
                refine Hbr.out.mono ?_
                rintro e w5 ⟨rfl, hb5, hf5⟩
                have H5 := hid (And.intro hb5 hf5)
                clear hb5 hf5
                generalize hd' : d.flush.2 = d' at H5
                obtain ⟨f3, f4, AW, cW, f1⟩ := br_cells H5.out.1
                clear Hbr Hbf Hbd HT HX
                go_wp2_with fail
                go_quiet (first
                  | (go_at_call 25; exact quiet_l (bd_Ops (H5.out.1.nul ((Frm.refl (fun _ => False) _).drewN _))))
                  | (go_at_call 26; exact quiet_l (bd_Down (H5.out.1.nul ((Frm.refl (fun _ => False) _).drewN _))))
                  | (go_at_call 27; exact quiet_l (bd_Waiting (H5.out.1.nul ((Frm.refl (fun _ => False) _).drewN _)))))
                go_wp2_with fail
                go_roundg (gk - 1)
                case rel =>
                  exact ⟨k + 1, N + 2, d', by have := Hk.out; omega, by omega, by go_num, by omega, (H5.out.1.mono (T' := (w.heap.size ≤ ·)) (fun k _ h => h.1) (fun k hk => hk)).nul ((Frm.refl _ _).drewN _), ((((HV.out.2.alloc _).news ((H4.out.2.trans H5.out.2).mono fun k _ h => h.1))).drewN _)⟩
                case measure => have := Hk.out; omega
              · have b3' : (kind == 3) = false := by simpa using k3
                by_cases k4 : kind = 4
                · subst k4
                  clear k1 b1' k2 b2' k3 b3'
                  have Hbp := hid (bd_Power HT.out.1)
                  go_wp2_with fail
                  clear q0' q1' q2'
                  refine Hbp.out.mono ?_
                  rintro e w4 ⟨rfl, hb4, hf4⟩
                  have H4 := hid (And.intro hb4 hf4)
                  obtain ⟨⟨u, p4⟩, z4, hb5, hf5⟩ := br_Power hb4
                  have H5 := hid (And.intro hb5 hf5)
                  clear hb4 hf4 hb5 hf5
                  go_wp2_with fail
                  clear p4 z4
                  generalize hd' : ({ d with down := false } : Dk) = d' at H5
                  generalize hw5 : w4.setCell ⟨b2, 4, none⟩ (.bool false) = w5 at H5 ⊢
                  obtain ⟨f3, f4, AW, cW, f1⟩ := br_cells H5.out.1
                  clear Hbp Hbd HT HX hw5
                  go_wp2_with fail
                  go_quiet (first
                    | (go_at_call 25; exact quiet_l (bd_Ops (H5.out.1.nul ((Frm.refl (fun _ => False) _).drewN _))))
                    | (go_at_call 26; exact quiet_l (bd_Down (H5.out.1.nul ((Frm.refl (fun _ => False) _).drewN _))))
                    | (go_at_call 27; exact quiet_l (bd_Waiting (H5.out.1.nul ((Frm.refl (fun _ => False) _).drewN _)))))
                  go_wp2_with fail
                  go_roundg (gk - 1)
                  case rel =>
                    exact ⟨k + 1, N, d', by have := Hk.out; omega, by omega, by go_num, by omega, (H5.out.1.mono (T' := (w.heap.size ≤ ·)) (fun k _ h => h.1) (fun k hk => hk)).nul ((Frm.refl _ _).drewN _), ((((HV.out.2.alloc _).news ((H4.out.2.trans H5.out.2).mono fun k _ h => h.1))).drewN _)⟩
                  case measure => have := Hk.out; omega
                · have b4' : (kind == 4) = false := by simpa using k4
                  clear k1 k2 k3 k4
                  go_wp2_with fail
                  clear q0' q1' q2'
                  refine (bd_Read HT.out.1 (by omega) at_).mono ?_
                  rintro e w4 ⟨rfl, hf4⟩
                  have H4 := hid (And.intro (HT.out.1.nul hf4) hf4)
                  have a1 : w4.cell? ⟨wr.heap.size, 1, none⟩ = some (.int .i64 at_) := (HX.out.nul hf4).cell 1
                  have Hbr := hid (br_Read H4.out.1 (by omega) at_)
                  clear hf4
                  generalize hr : d.read at_ = r at Hbr ⊢
                  go_wp2_with fail
                  refine Hbr.out.mono ?_
                  rintro e w5 ⟨rfl, rfl⟩
                  obtain ⟨f3, f4, AW, cW, f1⟩ := br_cells H4.out.1
                  clear Hbr Hbd HT HX
                  go_wp2_with fail
                  go_quiet (first
                    | (go_at_call 25; exact quiet_l (bd_Ops (H4.out.1.nul ((Frm.refl (fun _ => False) _).drewN _))))
                    | (go_at_call 26; exact quiet_l (bd_Down (H4.out.1.nul ((Frm.refl (fun _ => False) _).drewN _))))
                    | (go_at_call 27; exact quiet_l (bd_Waiting (H4.out.1.nul ((Frm.refl (fun _ => False) _).drewN _)))))
                  go_wp2_with fail
                  go_roundg (gk - 1)
                  case rel =>
                    exact ⟨k + 1, N, d, by have := Hk.out; omega, by omega, by go_num, by omega, (H4.out.1.mono (T' := (w.heap.size ≤ ·)) (fun k _ h => h.1) (fun k hk => hk)).nul ((Frm.refl _ _).drewN _), ((((HV.out.2.alloc _).news ((Frm.of_nul H4.out.2) : Frm (w.heap.size ≤ ·) _ _))).drewN _)⟩
                  case measure => have := Hk.out; omega
      · have e1 : decide ((k : Int) < (l.length : Int)) = true := decide_eq_true (by omega)
        have e2 : decide ((k : Int) < 60) = false := decide_eq_false (by omega)
        go_wp2_with fail
        go_ret
        exact ⟨rfl, HV.out.2⟩
    · have e1 : decide ((k : Int) < (l.length : Int)) = false := decide_eq_false (by omega)
      go_wp2_with fail
      go_ret
      exact ⟨rfl, HV.out.2⟩
end Go.Proofs.Ytdpffgcekjdneaa
