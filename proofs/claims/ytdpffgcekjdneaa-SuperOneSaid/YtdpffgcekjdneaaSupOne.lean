/-
  Walks: the law that one of both supers is the newest.
-/
import Derived.Test.YtdpffgcekjdneaaSupL
import Derived.Test.YtdpffgcekjdneaaOpenS
import Derived.Test.YtdpffgcekjdneaaAreaDoes
import Derived.StillTailTactics
set_option linter.all false
namespace Go.Proofs.Ytdpffgcekjdneaa
open Go.RowKit

section
variable {B g : Nat} {w : World} {b N : Nat} {d : Dk}
theorem hole_SWrite (h : DiskIn (Hole B g) w b N d) (hB : B ≤ w.heap.size) (hg : g < w.heap.size) (hN : N + 2 ≤ 99999) (a l : Int) :
    Calls Try.prog 35 #[.pointer (some ⟨b, 0, none⟩), .int .i64 a, .int .i64 l] w fun e w' =>
      e = .returned (.int .i64 (d.swrite a l).1) ∧ DiskIn (Hole B g) w' b (N + 2) (d.swrite a l).2 ∧ Frm (Hole B g) w w' := by
  refine (sup_Write h hN a l).mono ?_
  rintro e w' ⟨rfl, hD, hf⟩
  refine ⟨rfl, hD.mono (fun k _ hk => ?_), hf⟩
  rcases hk with hk | hk
  · exact hk
  · exact ⟨by omega, by omega⟩
end

set_option maxRecDepth 100000 in
set_option maxHeartbeats 1000000 in
theorem sone_awake (A0 A1 : Option Addr) (c0 c1 len : Nat) (cr : List (Int × List UInt8)) (S : Nat → Prop) (w : World) (hA : CrashesAt w S A0 cr) (hl : cr.length ≤ 9223372036854775807) (h : lightB cr = false) :
    Calls Try.prog 7 #[.slice A0 cr.length c0, .slice A1 len c1] w fun e w' => e = .returned (.bool true) ∧ Nul w w' := by
  have HL := hid (light_is S A0 c0 cr w hA hl)
  rw [h] at HL
  clear hA h
  go_enter Try.func7, Try.ntmps7
  go_wp2_with fail
  refine HL.out.mono ?_
  rintro e w1 ⟨rfl, rfl⟩
  go_wp2_with fail
  refine (awake22 _).mono ?_
  rintro e w1 ⟨rfl, hf⟩
  go_wp2_with fail
  go_ret
  exact ⟨rfl, hf⟩

set_option maxRecDepth 100000 in
set_option maxHeartbeats 4000000 in
theorem sone_go (A0 A1 : Option Addr) (c0 c1 : Nat) (cr : List (Int × List UInt8)) (l : List (Int × Int × Int)) (w : World) (hA : CrashesAt w (· < w.heap.size) A0 cr) (hB : SupsAt w w.heap.size A1 l) (hl : cr.length ≤ 9223372036854775807) (hll : l.length ≤ 9223372036854775807) (hlt : lightB cr = true) :
    Calls Try.prog 7 #[.slice A0 cr.length c0, .slice A1 l.length c1] w fun e w' => e = .returned (.bool true) ∧ Nul w w' := by
  have HL := hid (light_is _ A0 c0 cr w hA hl)
  have hlb := of_decide_eq_true hlt
  rw [hlt] at HL
  have HC := hid hlb
  have HA := hid hA
  have HB := hid hB
  clear hA hlt hlb hB
  go_enter Try.func7, Try.ntmps7
  go_wp2_with fail
  refine HL.out.mono ?_
  rintro e w1 ⟨rfl, rfl⟩
  go_wp2_with fail
  refine (awake22 _).mono ?_
  rintro e w1 ⟨rfl, hf1⟩
  have HN1 := hid hf1
  clear hf1
  go_wp2_with fail
  refine (in_New (n := 3) (HA.out.frm HN1.out (fun _ _ h => h)) (by omega) (by omega) (by have := HC.out.1; omega) (fun p hp => by have := HC.out.2 p hp; omega)).mono ?_
  rintro e w2 ⟨b, rfl, hD2, hf2⟩
  have H2 : Hid (DiskIn (Hole w.heap.size w2.heap.size) w2 b 0 (dk0 3 cr) ∧ Nul w w2) := hid (And.intro (hD2.mono (T := Hole w.heap.size w2.heap.size) (fun k hk h => ⟨ext_none HN1.out.size k h, by omega⟩)) (HN1.out.nul hf2))
  clear hD2 hf2
  go_wp2_with fail
  have Hs := hid (one_new cr)
  go_loopg [8, 9, 10, 11, 12, 13] l.length (fun m i _ _ _ _ _ wr => ∃ (k N : Nat) (d : Dk) (was : Sup), k + m = l.length ∧ k ≤ 30 ∧ i = .int .i64 k ∧ N ≤ 30 * k ∧ OneD d was ∧ DiskIn (Hole w.heap.size w2.heap.size) wr b N d ∧ Blk wr w2.heap.size 53 [.int .u64 was.g, .int .i64 was.a, .int .i64 was.l] ∧ Nul w wr)
  case atStart => exact ⟨0, 0, _, _, by omega, by omega, rfl, by omega, Hs.out, H2.out.1.alloc' _, Blk.new w2 53 [.int .u64 0, .int .i64 0, .int .i64 0], H2.out.2.alloc _⟩
  case round =>
    obtain ⟨k, N, d, was, hk, hk30, rfl, hN, hS, hD, hBw, hf⟩ := hrel
    have Hk := hid hk
    have HV := hid (And.intro hD (And.intro hBw hf))
    have HSt := hid hS
    clear hk hD hf hBw hS
    by_cases hlt : k < l.length
    · by_cases h30 : k < 30
      · have e1 : decide ((k : Int) < (l.length : Int)) = true := decide_eq_true (by omega)
        have e2 : decide ((k : Int) < 30) = true := decide_eq_true (by omega)
        obtain ⟨ga, oa, rfl, hgb, q0, q1, q2⟩ := (HB.out.frm HV.out.2.2 (fun _ _ h => h)).at_ hlt
        generalize l[k] = y at q0 q1 q2
        obtain ⟨gen, ar, le⟩ := y
        have q1' : wr.cell? ⟨ga, oa + k * 3 + 1, none⟩ = some (.int .i64 ar) := q1
        have q2' : wr.cell? ⟨ga, oa + k * 3 + 2, none⟩ = some (.int .i64 le) := q2
        have HQ : Hid (∀ w', Nul wr w' → w'.cell? ⟨ga, oa + k * 3 + 1, none⟩ = some (.int .i64 ar) ∧ w'.cell? ⟨ga, oa + k * 3 + 2, none⟩ = some (.int .i64 le)) := hid (fun w' hf => ⟨(hf.cell (p := ⟨ga, oa + k * 3 + 1, none⟩) (by have := HV.out.2.2.size; show ga < _; omega) (fun h => h)).trans q1, (hf.cell (p := ⟨ga, oa + k * 3 + 2, none⟩) (by have := HV.out.2.2.size; show ga < _; omega) (fun h => h)).trans q2⟩)
        have HQ0 : Hid (∀ w', Nul w w' → Frm (Hole w.heap.size w2.heap.size) wr w' → w'.cell? ⟨ga, oa + k * 3 + 1, none⟩ = some (.int .i64 ar) ∧ w'.cell? ⟨ga, oa + k * 3 + 2, none⟩ = some (.int .i64 le)) := hid (fun w' _ hf => ⟨(hf.cell (p := ⟨ga, oa + k * 3 + 1, none⟩) (by have := HV.out.2.2.size; show ga < _; omega) (fun h => by have := h.1; simp at this; omega)).trans q1, (hf.cell (p := ⟨ga, oa + k * 3 + 2, none⟩) (by have := HV.out.2.2.size; show ga < _; omega) (fun h => by have := h.1; simp at this; omega)).trans q2⟩)
        have Hgb : Hid (ga < w.heap.size) := hid hgb
        clear q0 q1 q2 hgb
        have hstep := one_step HV.out.1.sz HSt.out ar le
        have hg2 : w2.heap.size < wr.heap.size := HV.out.2.1.lt
        have Hg2 := hid hg2
        have HWr := hid (hole_SWrite (w := wr.drew) (HV.out.1.nul ((Frm.refl (fun _ => False) _).drew)) HV.out.2.2.size Hg2.out (by omega) ar le)
        obtain ⟨r, hr⟩ : ∃ r, d.swrite ar le = r := ⟨_, rfl⟩
        rw [hr] at hstep HWr
        obtain ⟨c, d'⟩ := r
        have Hstep := hid hstep
        clear hstep hr hg2
        go_wp2_with fail
        go_region_held3 (fun w' => w'.cell? ⟨ga, oa + k * 3 + 1, none⟩ = some (.int .i64 ar) ∧ w'.cell? ⟨ga, oa + k * 3 + 2, none⟩ = some (.int .i64 le)) (first
          | exact HQ0.out _ H4.out.2.1 H4.out.2.2
          | exact HQ.out _ ((Frm.refl _ _).drew)) (first
          | (go_at_call 35
             refine HWr.out.mono ?_
             rintro e w4 ⟨rfl, hD4, hf4⟩
             have H4 : Hid (DiskIn (Hole w.heap.size w2.heap.size) w4 b (N + 2) d' ∧ Nul w w4 ∧ Frm (Hole w.heap.size w2.heap.size) wr w4) := hid ⟨hD4, HV.out.2.2.news ((((Frm.refl _ wr).drew).trans hf4).mono fun k _ h => h.1), ((Frm.refl _ wr).drew).trans hf4⟩
             clear hD4 hf4))
        clear HWr
        obtain ⟨g, sa, sl⟩ := was
        have hu1 : IntKind.u64.wrap ((g : Int) + 1) = (g : Int) + 1 := IntWalk.u64_in _ (by have := newest_g d; rw [HSt.out.new] at this; simp only at this; omega)
        have hgc : ((g + 1 : Nat) : Int) = (g : Int) + 1 := by omega
        have H5p := hid (in_Power H4.out.1)
        have hB4 := HV.out.2.1.frm H4.out.2.2 (fun h => h.2 rfl)
        have HB4 := hid hB4
        clear hB4
        go_wp2_with fail
        refine H5p.out.mono ?_
        rintro e w5 ⟨rfl, hD5, hf5⟩
        have H5 : Hid (DiskIn (Hole w.heap.size w2.heap.size) w5 b (N + 2) { d' with down := false } ∧ Blk w5 w2.heap.size 53 [.int .u64 g, .int .i64 sa, .int .i64 sl] ∧ Nul w w5 ∧ Frm (Hole w.heap.size w2.heap.size) wr w5) := hid ⟨hD5, HB4.out.frm hf5 (fun h => h.2 rfl), H4.out.2.1.news (hf5.mono fun k _ h => h.1), H4.out.2.2.trans hf5⟩
        clear hD5 hf5 H5p
        rcases Hstep.out with ⟨A, L, rfl, rfl, hone⟩ | ⟨hc, hone⟩
        · obtain ⟨at_, e, hR, he⟩ := one_R hone
          obtain rfl : e = 0 := by
            rcases he with h | ⟨_, h⟩
            · exact h
            · have := congrArg Sup.g h
              simp [Sup.zero] at this
          have Hone := hid hone
          have hne : ∀ w, (binOp .neq 53 (.agg #[.int .u64 ((g : Int) + 1), .int .i64 (A : Int), .int .i64 (L : Int)]) (.agg #[.int .u64 ((g : Int) + 1), .int .i64 (A : Int), .int .i64 (L : Int)])).run Try.prog w = .ok (.bool false) w := fun w => by rw [sup_neq]; simp
          clear hone he Hstep
          have HNw := hid (sup_Newest H5.out.1 (by omega))
          rw [hR] at HNw
          simp only [supV] at HNw
          rw [hgc] at HNw
          clear hR
          go_wp2_with fail
          refine HNw.out.mono ?_
          rintro e w6 ⟨rfl, hf6⟩
          have H6 : Hid (DiskIn (Hole w.heap.size w2.heap.size) w6 b (N + 2) { d' with down := false } ∧ Blk w6 w2.heap.size 53 [.int .u64 g, .int .i64 sa, .int .i64 sl] ∧ Nul w w6 ∧ Frm (Hole w.heap.size w2.heap.size) wr w6) := hid ⟨H5.out.1.nul hf6, H5.out.2.1.nul hf6, H5.out.2.2.1.nul hf6, H5.out.2.2.2.nul hf6⟩
          clear hf6 HNw
          have H7 : Hid (DiskIn (Hole w.heap.size w2.heap.size) (w6.alloc (.cells #[.int .u64 ((g : Int) + 1), .int .i64 (A : Int), .int .i64 (L : Int)] 53)) b (N + 2) { d' with down := false } ∧ Blk (w6.alloc (.cells #[.int .u64 ((g : Int) + 1), .int .i64 (A : Int), .int .i64 (L : Int)] 53)) w2.heap.size 53 [.int .u64 g, .int .i64 sa, .int .i64 sl] ∧ Blk (w6.alloc (.cells #[.int .u64 ((g : Int) + 1), .int .i64 (A : Int), .int .i64 (L : Int)] 53)) w6.heap.size 53 [.int .u64 ((g : Int) + 1), .int .i64 (A : Int), .int .i64 (L : Int)] ∧ Nul w (w6.alloc (.cells #[.int .u64 ((g : Int) + 1), .int .i64 (A : Int), .int .i64 (L : Int)] 53)) ∧ Frm (Hole w.heap.size w2.heap.size) wr (w6.alloc (.cells #[.int .u64 ((g : Int) + 1), .int .i64 (A : Int), .int .i64 (L : Int)] 53))) := hid ⟨H6.out.1.alloc' _, H6.out.2.1.alloc _, Blk.new w6 53 [.int .u64 ((g : Int) + 1), .int .i64 (A : Int), .int .i64 (L : Int)], H6.out.2.2.1.alloc _, H6.out.2.2.2.alloc _⟩
          go_wp2_with fail
          generalize (w6.alloc (.cells #[.int .u64 ((g : Int) + 1), .int .i64 (A : Int), .int .i64 (L : Int)] 53)) = w7 at H7 ⊢
          have cw0 : w7.cell? ⟨w2.heap.size, 0, none⟩ = some (.int .u64 g) := H7.out.2.1.cell 0
          obtain ⟨q1', q2'⟩ := HQ0.out w7 H7.out.2.2.2.1 H7.out.2.2.2.2
          have HK : Hid (∀ w', Nul w7 w' → w'.cell? ⟨w2.heap.size, 0, none⟩ = some (.int .u64 g) ∧ w'.cell? ⟨ga, oa + k * 3 + 1, none⟩ = some (.int .i64 (A : Int)) ∧ w'.cell? ⟨ga, oa + k * 3 + 2, none⟩ = some (.int .i64 (L : Int))) := hid (fun w' hf => ⟨(H7.out.2.1.nul hf).cell 0, HQ0.out w' (H7.out.2.2.2.1.nul hf) (H7.out.2.2.2.2.nul hf)⟩)
          clear cw0 q1' q2'
          go_region_held3 (fun w' => w'.cell? ⟨w2.heap.size, 0, none⟩ = some (.int .u64 g) ∧ w'.cell? ⟨ga, oa + k * 3 + 1, none⟩ = some (.int .i64 (A : Int)) ∧ w'.cell? ⟨ga, oa + k * 3 + 2, none⟩ = some (.int .i64 (L : Int))) (first
            | exact HK.out _ ((Frm.refl _ _).drew)
            | exact HK.out _ (((Frm.refl _ _).alloc _).drew)) (fail)
          all_goals
            have s0 : w7.cell? ⟨w6.heap.size, 0, none⟩ = some (.int .u64 ((g : Int) + 1)) := H7.out.2.2.1.cell 0
            have s1 : w7.cell? ⟨w6.heap.size, 1, none⟩ = some (.int .i64 (A : Int)) := H7.out.2.2.1.cell 1
            have s2 : w7.cell? ⟨w6.heap.size, 2, none⟩ = some (.int .i64 (L : Int)) := H7.out.2.2.1.cell 2
            have sl' : w6.heap.size < w7.heap.size := H7.out.2.2.1.lt
            have cw1 : w7.cell? ⟨w2.heap.size, 1, none⟩ = some (.int .i64 sa) := H7.out.2.1.cell 1
            have cw2 : w7.cell? ⟨w2.heap.size, 2, none⟩ = some (.int .i64 sl) := H7.out.2.1.cell 2
            have cwl : w2.heap.size < w7.heap.size := H7.out.2.1.lt
            have z0 : w7.frozen? ⟨w2.heap.size, 0, none⟩ = false := H7.out.2.1.frozen 0
            have z1 : w7.frozen? ⟨w2.heap.size, 1, none⟩ = false := H7.out.2.1.frozen 1
            have z2 : w7.frozen? ⟨w2.heap.size, 2, none⟩ = false := H7.out.2.1.frozen 2
            clear q1' q2'
            by_cases hc : c = 0
            · subst hc
              go_wp2_with fail
              go_roundg (gk - 1)
              case rel =>
                refine ⟨k + 1, N + 2, { d' with down := false }, ⟨g + 1, A, L⟩, by have := Hk.out; omega, by omega, by go_num, by omega, Hone.out, ?_, ?_, ?_⟩
                · exact H7.out.1.frm ((((((Frm.refl (fun k => k = w2.heap.size) w7).setCell (p := ⟨w2.heap.size, 0, none⟩) (.inr rfl) _).setCell (p := ⟨w2.heap.size, 1, none⟩) (.inr rfl) _).setCell (p := ⟨w2.heap.size, 2, none⟩) (.inr rfl) _).alloc _).drew) (fun j hj e => hj.2 e)
                · have h := ((((H7.out.2.1.put 0 (.int .u64 ((g : Int) + 1))).put 1 (.int .i64 (A : Int))).put 2 (.int .i64 (L : Int))).alloc (.cells #[.int .u64 ((g : Int) + 1), .int .i64 (A : Int), .int .i64 (L : Int)] 53)).drew
                  rw [← hgc] at h
                  exact h
                · have hw2 : w.heap.size ≤ w2.heap.size := H2.out.2.size
                  exact ((((H7.out.2.2.2.1.setCell (p := ⟨w2.heap.size, 0, none⟩) (.inl hw2) _).setCell (p := ⟨w2.heap.size, 1, none⟩) (.inl hw2) _).setCell (p := ⟨w2.heap.size, 2, none⟩) (.inl hw2) _).alloc _).drew
              case measure => have := Hk.out; omega
            · have hc0 : (c == 0) = false := by simpa using hc
              clear hc
              go_wp2_with fail
              go_roundg (gk - 1)
              case rel =>
                refine ⟨k + 1, N + 2, { d' with down := false }, ⟨g + 1, A, L⟩, by have := Hk.out; omega, by omega, by go_num, by omega, Hone.out, ?_, ?_, ?_⟩
                · exact H7.out.1.frm ((((((Frm.refl (fun k => k = w2.heap.size) w7).setCell (p := ⟨w2.heap.size, 0, none⟩) (.inr rfl) _).setCell (p := ⟨w2.heap.size, 1, none⟩) (.inr rfl) _).setCell (p := ⟨w2.heap.size, 2, none⟩) (.inr rfl) _).alloc _).drew) (fun j hj e => hj.2 e)
                · have h := ((((H7.out.2.1.put 0 (.int .u64 ((g : Int) + 1))).put 1 (.int .i64 (A : Int))).put 2 (.int .i64 (L : Int))).alloc (.cells #[.int .u64 ((g : Int) + 1), .int .i64 (A : Int), .int .i64 (L : Int)] 53)).drew
                  rw [← hgc] at h
                  exact h
                · have hw2 : w.heap.size ≤ w2.heap.size := H2.out.2.size
                  exact ((((H7.out.2.2.2.1.setCell (p := ⟨w2.heap.size, 0, none⟩) (.inl hw2) _).setCell (p := ⟨w2.heap.size, 1, none⟩) (.inl hw2) _).setCell (p := ⟨w2.heap.size, 2, none⟩) (.inl hw2) _).alloc _).drew
              case measure => have := Hk.out; omega
        · obtain ⟨at_, e, hR, he⟩ := one_R hone
          have Hone := hid hone
          have hc0 : (c == 0) = false := by simpa using hc
          have hn1 : ∀ w, (binOp .neq 53 (.agg #[.int .u64 (g : Int), .int .i64 (sa : Int), .int .i64 (sl : Int)]) (.agg #[.int .u64 ((g : Int) + 1), .int .i64 ar, .int .i64 le])).run Try.prog w = .ok (.bool true) w := fun w => by rw [sup_neq]; simp; omega
          have hn2 : ∀ w, (binOp .neq 53 (.agg #[.int .u64 (g : Int), .int .i64 (sa : Int), .int .i64 (sl : Int)]) (.agg #[.int .u64 (g : Int), .int .i64 (sa : Int), .int .i64 (sl : Int)])).run Try.prog w = .ok (.bool false) w := fun w => by rw [sup_neq]; simp
          clear hone hc Hstep
          clear hgc
          have HNw := hid (sup_Newest H5.out.1 (by omega))
          rw [hR] at HNw
          simp only [supV] at HNw
          clear hR
          go_wp2_with fail
          refine HNw.out.mono ?_
          rintro e w6 ⟨rfl, hf6⟩
          have H6 : Hid (DiskIn (Hole w.heap.size w2.heap.size) w6 b (N + 2) { d' with down := false } ∧ Blk w6 w2.heap.size 53 [.int .u64 g, .int .i64 sa, .int .i64 sl] ∧ Nul w w6 ∧ Frm (Hole w.heap.size w2.heap.size) wr w6) := hid ⟨H5.out.1.nul hf6, H5.out.2.1.nul hf6, H5.out.2.2.1.nul hf6, H5.out.2.2.2.nul hf6⟩
          clear hf6 HNw
          have H7 : Hid (DiskIn (Hole w.heap.size w2.heap.size) (w6.alloc (.cells #[.int .u64 (g : Int), .int .i64 (sa : Int), .int .i64 (sl : Int)] 53)) b (N + 2) { d' with down := false } ∧ Blk (w6.alloc (.cells #[.int .u64 (g : Int), .int .i64 (sa : Int), .int .i64 (sl : Int)] 53)) w2.heap.size 53 [.int .u64 g, .int .i64 sa, .int .i64 sl] ∧ Blk (w6.alloc (.cells #[.int .u64 (g : Int), .int .i64 (sa : Int), .int .i64 (sl : Int)] 53)) w6.heap.size 53 [.int .u64 (g : Int), .int .i64 (sa : Int), .int .i64 (sl : Int)] ∧ Nul w (w6.alloc (.cells #[.int .u64 (g : Int), .int .i64 (sa : Int), .int .i64 (sl : Int)] 53)) ∧ Frm (Hole w.heap.size w2.heap.size) wr (w6.alloc (.cells #[.int .u64 (g : Int), .int .i64 (sa : Int), .int .i64 (sl : Int)] 53))) := hid ⟨H6.out.1.alloc' _, H6.out.2.1.alloc _, Blk.new w6 53 [.int .u64 (g : Int), .int .i64 (sa : Int), .int .i64 (sl : Int)], H6.out.2.2.1.alloc _, H6.out.2.2.2.alloc _⟩
          go_wp2_with fail
          generalize (w6.alloc (.cells #[.int .u64 (g : Int), .int .i64 (sa : Int), .int .i64 (sl : Int)] 53)) = w7 at H7 ⊢
          have cw0 : w7.cell? ⟨w2.heap.size, 0, none⟩ = some (.int .u64 g) := H7.out.2.1.cell 0
          obtain ⟨q1', q2'⟩ := HQ0.out w7 H7.out.2.2.2.1 H7.out.2.2.2.2
          have HK : Hid (∀ w', Nul w7 w' → w'.cell? ⟨w2.heap.size, 0, none⟩ = some (.int .u64 g) ∧ w'.cell? ⟨ga, oa + k * 3 + 1, none⟩ = some (.int .i64 ar) ∧ w'.cell? ⟨ga, oa + k * 3 + 2, none⟩ = some (.int .i64 le)) := hid (fun w' hf => ⟨(H7.out.2.1.nul hf).cell 0, HQ0.out w' (H7.out.2.2.2.1.nul hf) (H7.out.2.2.2.2.nul hf)⟩)
          clear cw0 q1' q2'
          go_region_held3 (fun w' => w'.cell? ⟨w2.heap.size, 0, none⟩ = some (.int .u64 g) ∧ w'.cell? ⟨ga, oa + k * 3 + 1, none⟩ = some (.int .i64 ar) ∧ w'.cell? ⟨ga, oa + k * 3 + 2, none⟩ = some (.int .i64 le)) (first
            | exact HK.out _ ((Frm.refl _ _).drew)
            | exact HK.out _ (((Frm.refl _ _).alloc _).drew)) (fail)
          all_goals
            have s0 : w7.cell? ⟨w6.heap.size, 0, none⟩ = some (.int .u64 (g : Int)) := H7.out.2.2.1.cell 0
            have s1 : w7.cell? ⟨w6.heap.size, 1, none⟩ = some (.int .i64 (sa : Int)) := H7.out.2.2.1.cell 1
            have s2 : w7.cell? ⟨w6.heap.size, 2, none⟩ = some (.int .i64 (sl : Int)) := H7.out.2.2.1.cell 2
            have sl' : w6.heap.size < w7.heap.size := H7.out.2.2.1.lt
            have cw1 : w7.cell? ⟨w2.heap.size, 1, none⟩ = some (.int .i64 sa) := H7.out.2.1.cell 1
            have cw2 : w7.cell? ⟨w2.heap.size, 2, none⟩ = some (.int .i64 sl) := H7.out.2.1.cell 2
            have cwl : w2.heap.size < w7.heap.size := H7.out.2.1.lt
            have z0 : w7.frozen? ⟨w2.heap.size, 0, none⟩ = false := H7.out.2.1.frozen 0
            have z1 : w7.frozen? ⟨w2.heap.size, 1, none⟩ = false := H7.out.2.1.frozen 1
            have z2 : w7.frozen? ⟨w2.heap.size, 2, none⟩ = false := H7.out.2.1.frozen 2
            clear q1' q2'
            rcases he with rfl | ⟨rfl, hz⟩
            · go_wp2_with fail
              go_roundg (gk - 1)
              case rel =>
                refine ⟨k + 1, N + 2, { d' with down := false }, ⟨g, sa, sl⟩, by have := Hk.out; omega, by omega, by go_num, by omega, Hone.out, ?_, ?_, ?_⟩
                · exact H7.out.1.frm ((((((Frm.refl (fun k => k = w2.heap.size) w7).setCell (p := ⟨w2.heap.size, 0, none⟩) (.inr rfl) _).setCell (p := ⟨w2.heap.size, 1, none⟩) (.inr rfl) _).setCell (p := ⟨w2.heap.size, 2, none⟩) (.inr rfl) _).alloc _).drew) (fun j hj e => hj.2 e)
                · have h := ((((H7.out.2.1.put 0 (.int .u64 (g : Int))).put 1 (.int .i64 (sa : Int))).put 2 (.int .i64 (sl : Int))).alloc (.cells #[.int .u64 ((g : Int) + 1), .int .i64 ar, .int .i64 le] 53)).drew
                  skip
                  exact h
                · have hw2 : w.heap.size ≤ w2.heap.size := H2.out.2.size
                  exact ((((H7.out.2.2.2.1.setCell (p := ⟨w2.heap.size, 0, none⟩) (.inl hw2) _).setCell (p := ⟨w2.heap.size, 1, none⟩) (.inl hw2) _).setCell (p := ⟨w2.heap.size, 2, none⟩) (.inl hw2) _).alloc _).drew
              case measure => have := Hk.out; omega
            · have hg0 : g = 0 := congrArg Sup.g hz
              have hg1 : decide ((0 : Int) < (g : Int)) = false := decide_eq_false (by omega)
              have hg2 : decide (0 < g) = false := decide_eq_false (by omega)
              have hg3 : g ≤ 0 := by omega
              clear hz hg0
              go_wp2_with fail
              go_roundg (gk - 1)
              case rel =>
                refine ⟨k + 1, N + 2, { d' with down := false }, ⟨g, sa, sl⟩, by have := Hk.out; omega, by omega, by go_num, by omega, Hone.out, ?_, ?_, ?_⟩
                · exact H7.out.1.frm ((((((Frm.refl (fun k => k = w2.heap.size) w7).setCell (p := ⟨w2.heap.size, 0, none⟩) (.inr rfl) _).setCell (p := ⟨w2.heap.size, 1, none⟩) (.inr rfl) _).setCell (p := ⟨w2.heap.size, 2, none⟩) (.inr rfl) _).alloc _).drew) (fun j hj e => hj.2 e)
                · have h := ((((H7.out.2.1.put 0 (.int .u64 (g : Int))).put 1 (.int .i64 (sa : Int))).put 2 (.int .i64 (sl : Int))).alloc (.cells #[.int .u64 ((g : Int) + 1), .int .i64 ar, .int .i64 le] 53)).drew
                  skip
                  exact h
                · have hw2 : w.heap.size ≤ w2.heap.size := H2.out.2.size
                  exact ((((H7.out.2.2.2.1.setCell (p := ⟨w2.heap.size, 0, none⟩) (.inl hw2) _).setCell (p := ⟨w2.heap.size, 1, none⟩) (.inl hw2) _).setCell (p := ⟨w2.heap.size, 2, none⟩) (.inl hw2) _).alloc _).drew
              case measure => have := Hk.out; omega
      · have e1 : decide ((k : Int) < (l.length : Int)) = true := decide_eq_true (by omega)
        have e2 : decide ((k : Int) < 30) = false := decide_eq_false (by omega)
        go_wp2_with fail
        go_ret
        exact ⟨rfl, HV.out.2.2⟩
    · have e1 : decide ((k : Int) < (l.length : Int)) = false := decide_eq_false (by omega)
      go_wp2_with fail
      go_ret
      exact ⟨rfl, HV.out.2.2⟩

theorem law_SuperOne (A0 A1 : Option Addr) (c0 c1 : Nat) (cr : List (Int × List UInt8)) (l : List (Int × Int × Int)) (w : World) (hA : CrashesAt w (· < w.heap.size) A0 cr) (hB : SupsAt w w.heap.size A1 l) (hl : cr.length ≤ 9223372036854775807) (hll : l.length ≤ 9223372036854775807) :
    Calls Try.prog 7 #[.slice A0 cr.length c0, .slice A1 l.length c1] w fun e w' => e = .returned (.bool true) ∧ Nul w w' := by
  cases hlt : lightB cr with
  | false => exact sone_awake A0 A1 c0 c1 _ cr _ w hA hl hlt
  | true => exact sone_go A0 A1 c0 c1 cr l w hA hB hl hll hlt
end Go.Proofs.Ytdpffgcekjdneaa
