/-
  Walks: the law of every call on any area.
-/
import Derived.Test.YtdpffgcekjdneaaAreaG
import Derived.Test.YtdpffgcekjdneaaDiskDoes
set_option linter.all false
namespace Go.Proofs.Ytdpffgcekjdneaa
open Go.RowKit

/-- Calls of a law: kind, area, length, text. -/
def Acts4 (w : World) (B : Nat) (A : Option Addr) (l : List (Int × Int × Int × ByteArray)) : Prop :=
  l = [] ∨ ∃ g off, A = some ⟨g, off, none⟩ ∧ g < B ∧ ∀ (i : Nat) (h : i < l.length), w.cell? ⟨g, off + i * 4, none⟩ = some (.int .i64 l[i].1) ∧ w.cell? ⟨g, off + i * 4 + 1, none⟩ = some (.int .i64 l[i].2.1) ∧ w.cell? ⟨g, off + i * 4 + 2, none⟩ = some (.int .i64 l[i].2.2.1) ∧ w.cell? ⟨g, off + i * 4 + 3, none⟩ = some (.string l[i].2.2.2)
theorem Acts4.frm {T : Nat → Prop} {w w' : World} {B : Nat} {A : Option Addr} {l : List (Int × Int × Int × ByteArray)} (h : Acts4 w B A l) (hf : Frm T w w') (hT : ∀ k, k < B → ¬ T k) : Acts4 w' B A l := by
  rcases h with h | ⟨g, off, hA, hg, hc⟩
  · exact .inl h
  · refine .inr ⟨g, off, hA, hg, fun i hi => ?_⟩
    obtain ⟨h1, h2, h3, h4⟩ := hc i hi
    exact ⟨cell_frm h1 hf (hT g hg), cell_frm h2 hf (hT g hg), cell_frm h3 hf (hT g hg), cell_frm h4 hf (hT g hg)⟩
theorem Acts4.at_ {w : World} {B : Nat} {A : Option Addr} {l : List (Int × Int × Int × ByteArray)} (h : Acts4 w B A l) {i : Nat} (hi : i < l.length) :
    ∃ g off, A = some ⟨g, off, none⟩ ∧ w.cell? ⟨g, off + i * 4, none⟩ = some (.int .i64 l[i].1) ∧ w.cell? ⟨g, off + i * 4 + 1, none⟩ = some (.int .i64 l[i].2.1) ∧ w.cell? ⟨g, off + i * 4 + 2, none⟩ = some (.int .i64 l[i].2.2.1) ∧ w.cell? ⟨g, off + i * 4 + 3, none⟩ = some (.string l[i].2.2.2) := by
  rcases h with rfl | ⟨g, off, hA, hg, hc⟩
  · simp at hi
  · exact ⟨g, off, hA, hc i hi⟩

theorem writes_n : ∀ (l : List (Int × ByteArray)) (d : Dk), (d.writes l).2.n = d.n
  | [], d => rfl
  | p :: l, d => by
    unfold Dk.writes
    split
    · rw [writes_n l, write_n]
    · exact write_n _ _ _
theorem append_n (d : Dk) (a len : Int) (s : ByteArray) : (d.append a len s).2.n = d.n := by
  unfold Dk.append
  split
  · split
    · rfl
    · exact writes_n _ _
  · rfl
theorem flush_n (d : Dk) : d.flush.2.n = d.n := by
  unfold Dk.flush
  split
  · rfl
  · simp only
    split <;> exact crash_n d
theorem append_bad {d : Dk} {a len : Int} {s : ByteArray} {c : Int} (h : d.chk a len = c) (hc : c ≠ 0) : d.append a len s = (c, d) := by
  unfold Dk.append
  rw [h, if_neg hc]
theorem aread_bad {d : Dk} {a len : Int} {c : Int} (h : d.chk a len = c) (hc : c ≠ 0) : d.aread a len = (⟨#[]⟩, c) := by
  unfold Dk.aread
  rw [h, if_neg hc]
  rfl
theorem aread_good {d : Dk} {a len : Int} (h : d.chk a len = 0) : d.aread a len = (d.head (d.first a) len.toNat, 0) := by
  unfold Dk.aread
  rw [if_pos h]

theorem in_New_eq {S : Nat → Prop} {n c : Nat} {x : Int} {A : Option Addr} {cr : List (Int × List UInt8)} {w : World} (hx : x = n) (hA : CrashesAt w S A cr) (hn1 : 1 ≤ n) (hn2 : n ≤ 65536) (hcl : cr.length ≤ 100000) (hml : ∀ p ∈ cr, p.2.length ≤ 100000) :
    Calls Try.prog 14 #[.int .i64 x, .slice A cr.length c] w fun e w' => ∃ b, e = .returned (.tuple #[.pointer (some ⟨b, 0, none⟩), .int .i64 0]) ∧ DiskIn (ext (fun _ => False) w w') w' b 0 (dk0 n cr) ∧ Nul w w' := by
  subst hx
  exact in_New hA hn1 hn2 hcl hml
theorem ref_New_eq (S : Nat → Prop) (n : Nat) (x : Int) (hx : x = n) (A : Option Addr) (c : Nat) (cr : List (Int × List UInt8)) (w : World) (hA : CrashesAt w S A cr) (hS : ∀ k, S k → k < w.heap.size) (hn2 : n ≤ 65536) :
    Calls Try.prog 21 #[.int .i64 x, .slice A cr.length c] w fun e w' => ∃ b, e = .returned (.pointer (some ⟨b, 0, none⟩)) ∧ RefAt w' (fun k => w.heap.size ≤ k ∧ k < w'.heap.size) S b (dk0 n cr) ∧ Nul w w' := by
  subst hx
  exact ref_New S n A c cr w hA hS hn2
theorem bd_Room' {T : Nat → Prop} {B b1 b2 N : Nat} {w : World} {d1 d2 : Dk} (h : Both T B w b1 b2 N d1 d2) :
    Calls Try.prog 46 #[.pointer (some ⟨b1, 0, none⟩)] w fun e w' => e = .returned (.int .i64 (128 * (d1.cnt : Int))) ∧ w = w' := by
  have h2 := bd_Room h
  rw [show ((128 * d1.cnt : Nat) : Int) = 128 * (d1.cnt : Int) from by omega] at h2
  exact h2

set_option maxRecDepth 100000 in
set_option maxHeartbeats 2000000 in
theorem adoes_awake (x : Int) (A0 A1 : Option Addr) (c0 c1 len : Nat) (cr : List (Int × List UInt8)) (S : Nat → Prop) (w : World) (hA : CrashesAt w S A0 cr) (hl : cr.length ≤ 9223372036854775807) (h : lightB cr = false) :
    Calls Try.prog 11 #[.int .u8 x, .slice A0 cr.length c0, .slice A1 len c1] w fun e w' => e = .returned (.bool true) ∧ Nul w w' := by
  have HL := hid (light_is S A0 c0 cr w hA hl)
  rw [h] at HL
  clear hA h
  go_enter Try.func11, Try.ntmps11
  go_wp2_with fail
  refine HL.out.mono ?_
  rintro e w1 ⟨rfl, rfl⟩
  go_wp2_with fail
  refine (awake23 _).mono ?_
  rintro e w1 ⟨rfl, hf⟩
  go_wp2_with fail
  go_ret
  exact ⟨rfl, hf⟩

set_option maxRecDepth 100000 in
set_option maxHeartbeats 8000000 in
theorem adoes_go (x r : Nat) (hx : x < 256) (hr : x % 14 = r) (A0 A1 : Option Addr) (c0 c1 : Nat) (cr : List (Int × List UInt8)) (l : List (Int × Int × Int × ByteArray)) (w : World) (hA : CrashesAt w (· < w.heap.size) A0 cr) (hB : Acts4 w w.heap.size A1 l) (hl : cr.length ≤ 9223372036854775807) (hll : l.length ≤ 9223372036854775807) (hlt : lightB cr = true) :
    Calls Try.prog 11 #[.int .u8 x, .slice A0 cr.length c0, .slice A1 l.length c1] w fun e w' => e = .returned (.bool true) ∧ Nul w w' := by
  have HL := hid (light_is _ A0 c0 cr w hA hl)
  have hlb := of_decide_eq_true hlt
  rw [hlt] at HL
  have HC := hid hlb
  have HA := hid hA
  have HB := hid hB
  have hxr : (x : Int) % 14 = (r : Int) := by omega
  have hrb : r < 14 := by omega
  clear hA hlt hlb hB hr
  go_enter Try.func11, Try.ntmps11
  go_wp2_with fail
  refine HL.out.mono ?_
  rintro e w1 ⟨rfl, rfl⟩
  go_wp2_with fail
  refine (awake23 _).mono ?_
  rintro e w1 ⟨rfl, hf1⟩
  have HN1 := hid hf1
  clear hf1
  go_wp2_with fail
  refine (in_New_eq (n := r + 1) (x := (r : Int) + 1) (by omega) (HA.out.frm HN1.out (fun _ _ h => h)) (by omega) (by omega) (by have := HC.out.1; omega) (fun p hp => by have := HC.out.2 p hp; omega)).mono ?_
  rintro e w2 ⟨b1, rfl, hD2, hf2⟩
  have H2 := hid (And.intro hD2 (And.intro HN1.out hf2))
  clear hD2 hf2
  go_wp2_with fail
  refine (ref_New_eq (· < w.heap.size) (r + 1) ((r : Int) + 1) (by omega) A0 c0 cr w2 (HA.out.frm (H2.out.2.1.nul H2.out.2.2) (fun _ _ h => h)) (fun k hk => by have hk' : k < w.heap.size := hk; have := (H2.out.2.1.nul H2.out.2.2).size; omega) (by omega)).mono ?_
  rintro e w3 ⟨b2, rfl, hR3, hf3⟩
  have H3 : Hid (Both (w.heap.size ≤ ·) w.heap.size w3 b1 b2 0 (dk0 (r + 1) cr) (dk0 (r + 1) cr) ∧ Nul w w3) := hid (by
    have hs := (H2.out.2.1.nul H2.out.2.2).size
    have hs1 := H2.out.2.1.size
    have hs3 := hf3.size
    have hok0 : (dk0 (r + 1) cr).okn 0 := H2.out.1.sz
    refine ⟨⟨fun k => w.heap.size ≤ k ∧ k < w2.heap.size, _, (H2.out.1.mono (fun k hk h => ?_)).nul hf3, hR3, fun k hk hF => ?_, fun k hk => ⟨hk.1, ?_⟩, fun k hk => ?_, fun k hk => hk, hok0, full_new _ _⟩, (H2.out.2.1.nul H2.out.2.2).nul hf3⟩
    · rcases h with h | h
      · exact h.elim
      · exact ⟨by omega, h.2⟩
    · have := hk.2; have := hF.1; omega
    · have := hk.2; omega
    · have := hk.1; show w.heap.size ≤ k; omega)
  have Hdn : Hid ((dk0 (r + 1) cr).n = r + 1) := hid rfl
  generalize dk0 (r + 1) cr = dz at H3 Hdn
  clear hR3 hf3
  go_wp2_with fail
  go_loopg [11, 12, 13, 14, 15, 16, 17] l.length (fun m i _ _ _ _ _ _ wr => ∃ (k N : Nat) (d : Dk), k + m = l.length ∧ k ≤ 40 ∧ i = .int .i64 k ∧ N ≤ 30 * k ∧ d.n = r + 1 ∧ Both (w.heap.size ≤ ·) w.heap.size wr b1 b2 N d d ∧ Nul w wr)
  case atStart => exact ⟨0, 0, dz, by omega, by omega, rfl, by omega, Hdn.out, H3.out.1, H3.out.2⟩
  case round =>
    obtain ⟨k, N, d, hk, hk40, rfl, hN, hdn, hV, hf⟩ := hrel
    have Hk := hid hk
    have HV := hid (And.intro hV hf)
    have Hdn := hid hdn
    clear hk hV hf hdn
    by_cases hlt : k < l.length
    · by_cases h40 : k < 40
      · have e1 : decide ((k : Int) < (l.length : Int)) = true := decide_eq_true (by omega)
        have e2 : decide ((k : Int) < 40) = true := decide_eq_true (by omega)
        have hN2 : N ≤ 99000 := by omega
        have hBs : w.heap.size ≤ wr.heap.size := HV.out.2.size
        obtain ⟨ga, oa, rfl, q0, q1, q2, q3⟩ := (HB.out.frm HV.out.2 (fun _ _ h => h)).at_ hlt
        generalize l[k] = y at q0 q1 q2 q3
        obtain ⟨kind, ar, le, s⟩ := y
        have q0' : wr.cell? ⟨ga, oa + k * 4, none⟩ = some (.int .i64 kind) := q0
        have q1' : wr.cell? ⟨ga, oa + k * 4 + 1, none⟩ = some (.int .i64 ar) := q1
        have q2' : wr.cell? ⟨ga, oa + k * 4 + 2, none⟩ = some (.int .i64 le) := q2
        have q3' : wr.cell? ⟨ga, oa + k * 4 + 3, none⟩ = some (.string s) := q3
        clear q0 q1 q2 q3
        have HX : Hid (Blk (wr.alloc (.cells #[.int .i64 kind, .int .i64 ar, .int .i64 le, .string s] 79)) wr.heap.size 79 [.int .i64 kind, .int .i64 ar, .int .i64 le, .string s]) := hid (Blk.new wr _ _)
        have HT : Hid (Both (Hole w.heap.size wr.heap.size) w.heap.size (wr.alloc (.cells #[.int .i64 kind, .int .i64 ar, .int .i64 le, .string s] 79)) b1 b2 N d d) := hid ((HV.out.1.mono (T' := (Hole w.heap.size wr.heap.size)) (fun k hk h => ⟨h, by omega⟩) (fun k hk => hk.1)).nul ((Frm.refl _ wr).alloc _))
        by_cases hs : 1000 < s.size
        · have hs1 : decide (1000 < (s.size : Int)) = true := decide_eq_true (by omega)
          go_wp2_with fail
          go_ret
          exact ⟨rfl, HV.out.2.alloc _⟩
        · have hs1 : decide (1000 < (s.size : Int)) = false := decide_eq_false (by omega)
          have HnT : Hid (¬ (Hole w.heap.size wr.heap.size) wr.heap.size) := hid (fun h => h.2 rfl)
          have HXc : Hid (∀ w4 : World, Frm (Hole w.heap.size wr.heap.size) (wr.alloc (.cells #[.int .i64 kind, .int .i64 ar, .int .i64 le, .string s] 79)) w4 → w4.cell? ⟨wr.heap.size, 1, none⟩ = some (.int .i64 ar) ∧ w4.cell? ⟨wr.heap.size, 2, none⟩ = some (.int .i64 le) ∧ w4.cell? ⟨wr.heap.size, 3, none⟩ = some (.string s)) := hid (fun w4 hf => by
            have h := Blk.frm (g := wr.heap.size) HX.out hf HnT.out
            exact ⟨h.cell 1, h.cell 2, h.cell 3⟩)
          have hsz1 : (wr.alloc (.cells #[.int .i64 kind, .int .i64 ar, .int .i64 le, .string s] 79)).heap.size = wr.heap.size + 1 := by simp
          have HTn : Hid (∀ w' : World, (wr.alloc (.cells #[.int .i64 kind, .int .i64 ar, .int .i64 le, .string s] 79)).heap.size ≤ w'.heap.size → ∀ k, w'.heap.size ≤ k → (Hole w.heap.size wr.heap.size) k) := hid (fun w' h k hk => by
            constructor <;> omega)
          have HBn : Hid (∀ w' : World, (wr.alloc (.cells #[.int .i64 kind, .int .i64 ar, .int .i64 le, .string s] 79)).heap.size ≤ w'.heap.size → w.heap.size ≤ w'.heap.size) := hid (fun w' h => by omega)
          clear hsz1
          have Hck := hid (br_Check HT.out ar le)
          obtain ⟨f30, f40, AW0, cW0, f10⟩ := br_cells HT.out
          clear f30 f10
          cases hdd : d.down with
          | true =>
            have Hchk : Hid (d.chk ar le = 12) := hid (by rw [chk_chkR, hdd, if_pos rfl])
            have HcN : Hid ((12 : Int) ≠ 0) := hid (by decide)
            rw [hdd] at f40
            clear hdd
            generalize d.chkR ar le = cr0 at Hck
            by_cases k1 : kind = 1
            · subst k1
              have Hap := hid (bd_AAppend HT.out (HTn.out _ (Nat.le_refl _)) (HBn.out _ (Nat.le_refl _)) (by have := Hdn.out; omega) HT.out.sz.2.2 ar le s)
              rw [append_bad Hchk.out HcN.out] at Hap
              go_wp2_with fail
              refine Hck.out.mono ?_
              rintro e w' ⟨rfl, rfl⟩
              go_wp2_with fail
              clear q0' q1' q2' q3' f40
              refine Hap.out.mono ?_
              rintro e w4 ⟨rfl, hb4, hf4⟩
              obtain ⟨x1, x2, x3⟩ := HXc.out _ hf4
              have H4 := hid (And.intro hb4 hf4)
              clear hb4 hf4
              obtain ⟨d', hd'⟩ : ∃ d', d' = d := ⟨_, rfl⟩
              rw [← hd'] at H4 Hdn
              clear hd' Hap
              have h128 : IntKind.i64.wrap (128 * (d'.cnt : Int)) = 128 * (d'.cnt : Int) := IntWalk.i64_in _ (by have := H4.out.1.sz.1.1; unfold Dk.cnt; omega)
              obtain ⟨f3, f4, AW, cW, f1⟩ := br_cells H4.out.1
              go_wp2_with fail
              go_quiet (first
                | (go_at_call 25; exact quiet_l (bd_Ops (H4.out.1.nul ((Frm.refl (fun _ => False) _).drewN _))))
                | (go_at_call 46; exact quiet_l (bd_Room' (H4.out.1.nul ((Frm.refl (fun _ => False) _).drewN _))))
                | (go_at_call 47; exact quiet_l (br_Count (H4.out.1.nul ((Frm.refl (fun _ => False) _).drewN _)))))
              clear h128
              go_wp2_with fail
              go_roundg (gk - 1)
              case rel =>
                exact ⟨k + 1, N + d'.n, d', by have := Hk.out; omega, by omega, by go_num, by have := Hdn.out; omega, Hdn.out, (H4.out.1.mono (T' := (w.heap.size ≤ ·)) (fun k _ h => h.1) (fun k hk => hk)).nul ((Frm.refl _ _).drewN _), (((HV.out.2.alloc _).news (H4.out.2.mono fun k _ h => h.1))).drewN _⟩
              case measure => have := Hk.out; omega
            · have b1' : (kind == 1) = false := by simpa using k1
              by_cases k2 : kind = 2
              · subst k2
                have Hap := hid (bd_AAppend HT.out (HTn.out _ (Nat.le_refl _)) (HBn.out _ (Nat.le_refl _)) (by have := Hdn.out; omega) HT.out.sz.2.2 ar le s)
                rw [append_bad Hchk.out HcN.out] at Hap
                go_wp2_with fail
                refine Hck.out.mono ?_
                rintro e w' ⟨rfl, rfl⟩
                go_wp2_with fail
                clear q0' q1' q2' q3' f40
                refine Hap.out.mono ?_
                rintro e w4 ⟨rfl, hb4, hf4⟩
                obtain ⟨x1, x2, x3⟩ := HXc.out _ hf4
                have H4 := hid (And.intro hb4 hf4)
                clear hb4 hf4
                obtain ⟨d', hd'⟩ : ∃ d', d' = d := ⟨_, rfl⟩
                rw [← hd'] at H4 Hdn
                clear hd' Hap
                have h128 : IntKind.i64.wrap (128 * (d'.cnt : Int)) = 128 * (d'.cnt : Int) := IntWalk.i64_in _ (by have := H4.out.1.sz.1.1; unfold Dk.cnt; omega)
                obtain ⟨f3, f4, AW, cW, f1⟩ := br_cells H4.out.1
                go_wp2_with fail
                go_quiet (first
                  | (go_at_call 25; exact quiet_l (bd_Ops (H4.out.1.nul ((Frm.refl (fun _ => False) _).drewN _))))
                  | (go_at_call 46; exact quiet_l (bd_Room' (H4.out.1.nul ((Frm.refl (fun _ => False) _).drewN _))))
                  | (go_at_call 47; exact quiet_l (br_Count (H4.out.1.nul ((Frm.refl (fun _ => False) _).drewN _)))))
                clear h128
                go_wp2_with fail
                go_roundg (gk - 1)
                case rel =>
                  exact ⟨k + 1, N + d'.n, d', by have := Hk.out; omega, by omega, by go_num, by have := Hdn.out; omega, Hdn.out, (H4.out.1.mono (T' := (w.heap.size ≤ ·)) (fun k _ h => h.1) (fun k hk => hk)).nul ((Frm.refl _ _).drewN _), (((HV.out.2.alloc _).news (H4.out.2.mono fun k _ h => h.1))).drewN _⟩
                case measure => have := Hk.out; omega
              · have b2' : (kind == 2) = false := by simpa using k2
                by_cases k3 : kind = 3
                · subst k3
                  have Hfl := hid (bd_Flush HT.out (by omega))
                  have HflN := hid (flush_n d)
                  go_wp2_with fail
                  refine Hck.out.mono ?_
                  rintro e w' ⟨rfl, rfl⟩
                  go_wp2_with fail
                  clear q0' q1' q2' q3' f40
                  refine Hfl.out.mono ?_
                  rintro e w4 ⟨rfl, hb4, hf4⟩
                  have H4 := hid (And.intro hb4 hf4)
                  clear hb4 hf4
                  have Hbr := hid (br_Flush H4.out.1 (by omega))
                  go_wp2_with fail
                  refine Hbr.out.mono ?_
                  rintro e w5 ⟨rfl, hb5, hf5⟩
                  have H5 : Hid (Both (Hole w.heap.size wr.heap.size) w.heap.size w5 b1 b2 (N + 1 + 1) d.flush.2 d.flush.2 ∧ Frm (Hole w.heap.size wr.heap.size) (wr.alloc (.cells #[.int .i64 3, .int .i64 ar, .int .i64 le, .string s] 79)) w5) := hid (And.intro hb5 (H4.out.2.trans hf5))
                  clear hb5 hf5 Hbr Hfl
                  have Hdn' := hid (HflN.out.trans Hdn.out)
                  generalize hd' : d.flush.2 = d' at H5 Hdn'
                  have h128 : IntKind.i64.wrap (128 * (d'.cnt : Int)) = 128 * (d'.cnt : Int) := IntWalk.i64_in _ (by have := H5.out.1.sz.1.1; unfold Dk.cnt; omega)
                  obtain ⟨f3, f4, AW, cW, f1⟩ := br_cells H5.out.1
                  go_wp2_with fail
                  go_quiet (first
                    | (go_at_call 25; exact quiet_l (bd_Ops (H5.out.1.nul ((Frm.refl (fun _ => False) _).drewN _))))
                    | (go_at_call 46; exact quiet_l (bd_Room' (H5.out.1.nul ((Frm.refl (fun _ => False) _).drewN _))))
                    | (go_at_call 47; exact quiet_l (br_Count (H5.out.1.nul ((Frm.refl (fun _ => False) _).drewN _)))))
                  clear h128
                  go_wp2_with fail
                  go_roundg (gk - 1)
                  case rel =>
                    exact ⟨k + 1, N + 1 + 1, d', by have := Hk.out; omega, by omega, by go_num, by have := Hdn.out; omega, Hdn'.out, (H5.out.1.mono (T' := (w.heap.size ≤ ·)) (fun k _ h => h.1) (fun k hk => hk)).nul ((Frm.refl _ _).drewN _), (((HV.out.2.alloc _).news (H5.out.2.mono fun k _ h => h.1))).drewN _⟩
                  case measure => have := Hk.out; omega
                · have b3' : (kind == 3) = false := by simpa using k3
                  by_cases k4 : kind = 4
                  · subst k4
                    have Hpo := hid (bd_Power HT.out)
                    go_wp2_with fail
                    refine Hck.out.mono ?_
                    rintro e w' ⟨rfl, rfl⟩
                    go_wp2_with fail
                    clear q0' q1' q2' q3' f40
                    refine Hpo.out.mono ?_
                    rintro e w4 ⟨rfl, hb4, hf4⟩
                    obtain ⟨⟨u, p4⟩, z4, hb5, hf5⟩ := br_Power hb4
                    have H5 : Hid (Both (Hole w.heap.size wr.heap.size) w.heap.size (w4.setCell ⟨b2, 4, none⟩ (.bool false)) b1 b2 N { d with down := false } { d with down := false } ∧ Frm (Hole w.heap.size wr.heap.size) (wr.alloc (.cells #[.int .i64 4, .int .i64 ar, .int .i64 le, .string s] 79)) (w4.setCell ⟨b2, 4, none⟩ (.bool false))) := hid (And.intro hb5 (hf4.trans hf5))
                    clear hb4 hf4 hb5 hf5 Hpo
                    go_wp2_with fail
                    clear p4 z4
                    have Hdn' : Hid (({ d with down := false } : Dk).n = r + 1) := hid Hdn.out
                    generalize hd' : ({ d with down := false } : Dk) = d' at H5 Hdn'
                    generalize hw5 : w4.setCell ⟨b2, 4, none⟩ (.bool false) = w5 at H5 ⊢
                    clear hw5
                    have h128 : IntKind.i64.wrap (128 * (d'.cnt : Int)) = 128 * (d'.cnt : Int) := IntWalk.i64_in _ (by have := H5.out.1.sz.1.1; unfold Dk.cnt; omega)
                    obtain ⟨f3, f4, AW, cW, f1⟩ := br_cells H5.out.1
                    go_wp2_with fail
                    go_quiet (first
                      | (go_at_call 25; exact quiet_l (bd_Ops (H5.out.1.nul ((Frm.refl (fun _ => False) _).drewN _))))
                      | (go_at_call 46; exact quiet_l (bd_Room' (H5.out.1.nul ((Frm.refl (fun _ => False) _).drewN _))))
                      | (go_at_call 47; exact quiet_l (br_Count (H5.out.1.nul ((Frm.refl (fun _ => False) _).drewN _)))))
                    clear h128
                    go_wp2_with fail
                    go_roundg (gk - 1)
                    case rel =>
                      exact ⟨k + 1, N, d', by have := Hk.out; omega, by omega, by go_num, by have := Hdn.out; omega, Hdn'.out, (H5.out.1.mono (T' := (w.heap.size ≤ ·)) (fun k _ h => h.1) (fun k hk => hk)).nul ((Frm.refl _ _).drewN _), (((HV.out.2.alloc _).news (H5.out.2.mono fun k _ h => h.1))).drewN _⟩
                    case measure => have := Hk.out; omega
                  · have b4' : (kind == 4) = false := by simpa using k4
                    clear k1 k2 k3 k4
                    have Hrd := hid (bd_ARead HT.out (by omega) HT.out.sz.2.2 ar le)
                    rw [aread_bad Hchk.out HcN.out] at Hrd
                    go_wp2_with fail
                    refine Hck.out.mono ?_
                    rintro e w' ⟨rfl, rfl⟩
                    go_wp2_with fail
                    clear q0' q1' q2' q3' f40
                    refine Hrd.out.mono ?_
                    rintro e w4 ⟨rfl, hf4⟩
                    have H4 : Hid (Both (Hole w.heap.size wr.heap.size) w.heap.size w4 b1 b2 N d d ∧ Frm (Hole w.heap.size wr.heap.size) (wr.alloc (.cells #[.int .i64 kind, .int .i64 ar, .int .i64 le, .string s] 79)) w4) := hid (And.intro (HT.out.nul hf4) (Frm.of_nul hf4))
                    clear hf4 Hrd
                    obtain ⟨d', hd'⟩ : ∃ d', d' = d := ⟨_, rfl⟩
                    rw [← hd'] at H4 Hdn
                    clear hd'
                    have h128 : IntKind.i64.wrap (128 * (d'.cnt : Int)) = 128 * (d'.cnt : Int) := IntWalk.i64_in _ (by have := H4.out.1.sz.1.1; unfold Dk.cnt; omega)
                    obtain ⟨f3, f4, AW, cW, f1⟩ := br_cells H4.out.1
                    go_wp2_with fail
                    go_quiet (first
                      | (go_at_call 25; exact quiet_l (bd_Ops (H4.out.1.nul ((Frm.refl (fun _ => False) _).drewN _))))
                      | (go_at_call 46; exact quiet_l (bd_Room' (H4.out.1.nul ((Frm.refl (fun _ => False) _).drewN _))))
                      | (go_at_call 47; exact quiet_l (br_Count (H4.out.1.nul ((Frm.refl (fun _ => False) _).drewN _)))))
                    clear h128
                    go_wp2_with fail
                    go_roundg (gk - 1)
                    case rel =>
                      exact ⟨k + 1, N, d', by have := Hk.out; omega, by omega, by go_num, by have := Hdn.out; omega, Hdn.out, (H4.out.1.mono (T' := (w.heap.size ≤ ·)) (fun k _ h => h.1) (fun k hk => hk)).nul ((Frm.refl _ _).drewN _), (((HV.out.2.alloc _).news (H4.out.2.mono fun k _ h => h.1))).drewN _⟩
                    case measure => have := Hk.out; omega
          | false =>
            have Hchk0 : Hid (d.chk ar le = d.chkR ar le) := hid (by rw [chk_chkR, hdd, if_neg (by decide)])
            rw [hdd] at f40
            clear hdd
            generalize d.chkR ar le = cr0 at Hck Hchk0
            by_cases hcc : cr0 = 0
            · subst hcc
              have Hchk : Hid (d.chk ar le = 0) := Hchk0
              by_cases k1 : kind = 1
              · subst k1
                have Hap := hid (bd_AAppend HT.out (HTn.out _ (Nat.le_refl _)) (HBn.out _ (Nat.le_refl _)) (by have := Hdn.out; omega) HT.out.sz.2.2 ar le s)
                have HapN := hid (append_n d ar le s)
                go_wp2_with fail
                refine Hck.out.mono ?_
                rintro e w' ⟨rfl, rfl⟩
                go_wp2_with fail
                clear q0' q1' q2' q3' f40
                refine Hap.out.mono ?_
                rintro e w4 ⟨rfl, hb4, hf4⟩
                obtain ⟨x1, x2, x3⟩ := HXc.out _ hf4
                have H4 := hid (And.intro hb4 hf4)
                clear hb4 hf4
                have Hbr := hid (br_AAppend H4.out.1 (HTn.out _ H4.out.2.size) (HBn.out _ H4.out.2.size) (by have := Hdn.out; omega) ar le s Hchk.out (by omega))
                go_wp2_with fail
                refine Hbr.out.mono ?_
                rintro e w5 ⟨rfl, hb5, hf5⟩
                have H5 : Hid (Both (Hole w.heap.size wr.heap.size) w.heap.size w5 b1 b2 (N + d.n + d.n) (d.append ar le s).2 (d.append ar le s).2 ∧ Frm (Hole w.heap.size wr.heap.size) (wr.alloc (.cells #[.int .i64 1, .int .i64 ar, .int .i64 le, .string s] 79)) w5) := hid (And.intro hb5 (H4.out.2.trans hf5))
                clear hb5 hf5 Hbr Hap
                have Hdn' := hid (HapN.out.trans Hdn.out)
                generalize hd' : (d.append ar le s).2 = d' at H5 Hdn'
                have h128 : IntKind.i64.wrap (128 * (d'.cnt : Int)) = 128 * (d'.cnt : Int) := IntWalk.i64_in _ (by have := H5.out.1.sz.1.1; unfold Dk.cnt; omega)
                obtain ⟨f3, f4, AW, cW, f1⟩ := br_cells H5.out.1
                go_wp2_with fail
                go_quiet (first
                  | (go_at_call 25; exact quiet_l (bd_Ops (H5.out.1.nul ((Frm.refl (fun _ => False) _).drewN _))))
                  | (go_at_call 46; exact quiet_l (bd_Room' (H5.out.1.nul ((Frm.refl (fun _ => False) _).drewN _))))
                  | (go_at_call 47; exact quiet_l (br_Count (H5.out.1.nul ((Frm.refl (fun _ => False) _).drewN _)))))
                clear h128
                go_wp2_with fail
                go_roundg (gk - 1)
                case rel =>
                  exact ⟨k + 1, N + d.n + d.n, d', by have := Hk.out; omega, by omega, by go_num, by have := Hdn.out; omega, Hdn'.out, (H5.out.1.mono (T' := (w.heap.size ≤ ·)) (fun k _ h => h.1) (fun k hk => hk)).nul ((Frm.refl _ _).drewN _), (((HV.out.2.alloc _).news (H5.out.2.mono fun k _ h => h.1))).drewN _⟩
                case measure => have := Hk.out; omega
              · have b1' : (kind == 1) = false := by simpa using k1
                by_cases k2 : kind = 2
                · subst k2
                  have Hap := hid (bd_AAppend HT.out (HTn.out _ (Nat.le_refl _)) (HBn.out _ (Nat.le_refl _)) (by have := Hdn.out; omega) HT.out.sz.2.2 ar le s)
                  have HapN := hid (append_n d ar le s)
                  go_wp2_with fail
                  refine Hck.out.mono ?_
                  rintro e w' ⟨rfl, rfl⟩
                  go_wp2_with fail
                  clear q0' q1' q2' q3' f40
                  refine Hap.out.mono ?_
                  rintro e w4 ⟨rfl, hb4, hf4⟩
                  obtain ⟨x1, x2, x3⟩ := HXc.out _ hf4
                  have H4 := hid (And.intro hb4 hf4)
                  clear hb4 hf4
                  have Hbr := hid (br_AAppend H4.out.1 (HTn.out _ H4.out.2.size) (HBn.out _ H4.out.2.size) (by have := Hdn.out; omega) ar le s Hchk.out (by omega))
                  go_wp2_with fail
                  refine Hbr.out.mono ?_
                  rintro e w5 ⟨rfl, hb5, hf5⟩
                  have H5 : Hid (Both (Hole w.heap.size wr.heap.size) w.heap.size w5 b1 b2 (N + d.n + d.n) (d.append ar le s).2 (d.append ar le s).2 ∧ Frm (Hole w.heap.size wr.heap.size) (wr.alloc (.cells #[.int .i64 2, .int .i64 ar, .int .i64 le, .string s] 79)) w5) := hid (And.intro hb5 (H4.out.2.trans hf5))
                  clear hb5 hf5 Hbr Hap
                  have Hdn' := hid (HapN.out.trans Hdn.out)
                  generalize hd' : (d.append ar le s).2 = d' at H5 Hdn'
                  have h128 : IntKind.i64.wrap (128 * (d'.cnt : Int)) = 128 * (d'.cnt : Int) := IntWalk.i64_in _ (by have := H5.out.1.sz.1.1; unfold Dk.cnt; omega)
                  obtain ⟨f3, f4, AW, cW, f1⟩ := br_cells H5.out.1
                  go_wp2_with fail
                  go_quiet (first
                    | (go_at_call 25; exact quiet_l (bd_Ops (H5.out.1.nul ((Frm.refl (fun _ => False) _).drewN _))))
                    | (go_at_call 46; exact quiet_l (bd_Room' (H5.out.1.nul ((Frm.refl (fun _ => False) _).drewN _))))
                    | (go_at_call 47; exact quiet_l (br_Count (H5.out.1.nul ((Frm.refl (fun _ => False) _).drewN _)))))
                  clear h128
                  go_wp2_with fail
                  go_roundg (gk - 1)
                  case rel =>
                    exact ⟨k + 1, N + d.n + d.n, d', by have := Hk.out; omega, by omega, by go_num, by have := Hdn.out; omega, Hdn'.out, (H5.out.1.mono (T' := (w.heap.size ≤ ·)) (fun k _ h => h.1) (fun k hk => hk)).nul ((Frm.refl _ _).drewN _), (((HV.out.2.alloc _).news (H5.out.2.mono fun k _ h => h.1))).drewN _⟩
                  case measure => have := Hk.out; omega
                · have b2' : (kind == 2) = false := by simpa using k2
                  by_cases k3 : kind = 3
                  · subst k3
                    have Hfl := hid (bd_Flush HT.out (by omega))
                    have HflN := hid (flush_n d)
                    go_wp2_with fail
                    refine Hck.out.mono ?_
                    rintro e w' ⟨rfl, rfl⟩
                    go_wp2_with fail
                    clear q0' q1' q2' q3' f40
                    refine Hfl.out.mono ?_
                    rintro e w4 ⟨rfl, hb4, hf4⟩
                    have H4 := hid (And.intro hb4 hf4)
                    clear hb4 hf4
                    have Hbr := hid (br_Flush H4.out.1 (by omega))
                    go_wp2_with fail
                    refine Hbr.out.mono ?_
                    rintro e w5 ⟨rfl, hb5, hf5⟩
                    have H5 : Hid (Both (Hole w.heap.size wr.heap.size) w.heap.size w5 b1 b2 (N + 1 + 1) d.flush.2 d.flush.2 ∧ Frm (Hole w.heap.size wr.heap.size) (wr.alloc (.cells #[.int .i64 3, .int .i64 ar, .int .i64 le, .string s] 79)) w5) := hid (And.intro hb5 (H4.out.2.trans hf5))
                    clear hb5 hf5 Hbr Hfl
                    have Hdn' := hid (HflN.out.trans Hdn.out)
                    generalize hd' : d.flush.2 = d' at H5 Hdn'
                    have h128 : IntKind.i64.wrap (128 * (d'.cnt : Int)) = 128 * (d'.cnt : Int) := IntWalk.i64_in _ (by have := H5.out.1.sz.1.1; unfold Dk.cnt; omega)
                    obtain ⟨f3, f4, AW, cW, f1⟩ := br_cells H5.out.1
                    go_wp2_with fail
                    go_quiet (first
                      | (go_at_call 25; exact quiet_l (bd_Ops (H5.out.1.nul ((Frm.refl (fun _ => False) _).drewN _))))
                      | (go_at_call 46; exact quiet_l (bd_Room' (H5.out.1.nul ((Frm.refl (fun _ => False) _).drewN _))))
                      | (go_at_call 47; exact quiet_l (br_Count (H5.out.1.nul ((Frm.refl (fun _ => False) _).drewN _)))))
                    clear h128
                    go_wp2_with fail
                    go_roundg (gk - 1)
                    case rel =>
                      exact ⟨k + 1, N + 1 + 1, d', by have := Hk.out; omega, by omega, by go_num, by have := Hdn.out; omega, Hdn'.out, (H5.out.1.mono (T' := (w.heap.size ≤ ·)) (fun k _ h => h.1) (fun k hk => hk)).nul ((Frm.refl _ _).drewN _), (((HV.out.2.alloc _).news (H5.out.2.mono fun k _ h => h.1))).drewN _⟩
                    case measure => have := Hk.out; omega
                  · have b3' : (kind == 3) = false := by simpa using k3
                    by_cases k4 : kind = 4
                    · subst k4
                      have Hpo := hid (bd_Power HT.out)
                      go_wp2_with fail
                      refine Hck.out.mono ?_
                      rintro e w' ⟨rfl, rfl⟩
                      go_wp2_with fail
                      clear q0' q1' q2' q3' f40
                      refine Hpo.out.mono ?_
                      rintro e w4 ⟨rfl, hb4, hf4⟩
                      obtain ⟨⟨u, p4⟩, z4, hb5, hf5⟩ := br_Power hb4
                      have H5 : Hid (Both (Hole w.heap.size wr.heap.size) w.heap.size (w4.setCell ⟨b2, 4, none⟩ (.bool false)) b1 b2 N { d with down := false } { d with down := false } ∧ Frm (Hole w.heap.size wr.heap.size) (wr.alloc (.cells #[.int .i64 4, .int .i64 ar, .int .i64 le, .string s] 79)) (w4.setCell ⟨b2, 4, none⟩ (.bool false))) := hid (And.intro hb5 (hf4.trans hf5))
                      clear hb4 hf4 hb5 hf5 Hpo
                      go_wp2_with fail
                      clear p4 z4
                      have Hdn' : Hid (({ d with down := false } : Dk).n = r + 1) := hid Hdn.out
                      generalize hd' : ({ d with down := false } : Dk) = d' at H5 Hdn'
                      generalize hw5 : w4.setCell ⟨b2, 4, none⟩ (.bool false) = w5 at H5 ⊢
                      clear hw5
                      have h128 : IntKind.i64.wrap (128 * (d'.cnt : Int)) = 128 * (d'.cnt : Int) := IntWalk.i64_in _ (by have := H5.out.1.sz.1.1; unfold Dk.cnt; omega)
                      obtain ⟨f3, f4, AW, cW, f1⟩ := br_cells H5.out.1
                      go_wp2_with fail
                      go_quiet (first
                        | (go_at_call 25; exact quiet_l (bd_Ops (H5.out.1.nul ((Frm.refl (fun _ => False) _).drewN _))))
                        | (go_at_call 46; exact quiet_l (bd_Room' (H5.out.1.nul ((Frm.refl (fun _ => False) _).drewN _))))
                        | (go_at_call 47; exact quiet_l (br_Count (H5.out.1.nul ((Frm.refl (fun _ => False) _).drewN _)))))
                      clear h128
                      go_wp2_with fail
                      go_roundg (gk - 1)
                      case rel =>
                        exact ⟨k + 1, N, d', by have := Hk.out; omega, by omega, by go_num, by have := Hdn.out; omega, Hdn'.out, (H5.out.1.mono (T' := (w.heap.size ≤ ·)) (fun k _ h => h.1) (fun k hk => hk)).nul ((Frm.refl _ _).drewN _), (((HV.out.2.alloc _).news (H5.out.2.mono fun k _ h => h.1))).drewN _⟩
                      case measure => have := Hk.out; omega
                    · have b4' : (kind == 4) = false := by simpa using k4
                      clear k1 k2 k3 k4
                      have Hrd := hid (bd_ARead HT.out (by omega) HT.out.sz.2.2 ar le)
                      rw [aread_good Hchk.out] at Hrd
                      have Hrr := hid (fun w' (hf : Nul _ w') => br_ARead (HT.out.nul hf) (by omega) ar le Hchk.out)
                      generalize d.head (d.first ar) le.toNat = y at Hrd Hrr
                      go_wp2_with fail
                      refine Hck.out.mono ?_
                      rintro e w' ⟨rfl, rfl⟩
                      go_wp2_with fail
                      clear q0' q1' q2' q3' f40
                      refine Hrd.out.mono ?_
                      rintro e w4 ⟨rfl, hf4⟩
                      obtain ⟨x1, x2, x3⟩ := HXc.out _ (Frm.of_nul hf4)
                      have H4 : Hid (Both (Hole w.heap.size wr.heap.size) w.heap.size w4 b1 b2 N d d ∧ Frm (Hole w.heap.size wr.heap.size) (wr.alloc (.cells #[.int .i64 kind, .int .i64 ar, .int .i64 le, .string s] 79)) w4) := hid (And.intro (HT.out.nul hf4) (Frm.of_nul hf4))
                      have Hrr2 := hid (Hrr.out _ hf4)
                      clear hf4 Hrd
                      go_wp2_with fail
                      refine Hrr2.out.mono ?_
                      rintro e w' ⟨rfl, rfl⟩
                      obtain ⟨d', hd'⟩ : ∃ d', d' = d := ⟨_, rfl⟩
                      rw [← hd'] at H4 Hdn
                      clear hd' Hrr Hrr2
                      have h128 : IntKind.i64.wrap (128 * (d'.cnt : Int)) = 128 * (d'.cnt : Int) := IntWalk.i64_in _ (by have := H4.out.1.sz.1.1; unfold Dk.cnt; omega)
                      obtain ⟨f3, f4, AW, cW, f1⟩ := br_cells H4.out.1
                      go_wp2_with fail
                      go_quiet (first
                        | (go_at_call 25; exact quiet_l (bd_Ops (H4.out.1.nul ((Frm.refl (fun _ => False) _).drewN _))))
                        | (go_at_call 46; exact quiet_l (bd_Room' (H4.out.1.nul ((Frm.refl (fun _ => False) _).drewN _))))
                        | (go_at_call 47; exact quiet_l (br_Count (H4.out.1.nul ((Frm.refl (fun _ => False) _).drewN _)))))
                      clear h128
                      go_wp2_with fail
                      go_roundg (gk - 1)
                      case rel =>
                        exact ⟨k + 1, N, d', by have := Hk.out; omega, by omega, by go_num, by have := Hdn.out; omega, Hdn.out, (H4.out.1.mono (T' := (w.heap.size ≤ ·)) (fun k _ h => h.1) (fun k hk => hk)).nul ((Frm.refl _ _).drewN _), (((HV.out.2.alloc _).news (H4.out.2.mono fun k _ h => h.1))).drewN _⟩
                      case measure => have := Hk.out; omega
            · have g1 : (cr0 == 0) = false := by simpa using hcc
              have g2 : (cr0 != 0) = true := by simpa using hcc
              have Hchk : Hid (d.chk ar le = cr0) := Hchk0
              have HcN := hid hcc
              clear hcc
              by_cases k1 : kind = 1
              · subst k1
                have Hap := hid (bd_AAppend HT.out (HTn.out _ (Nat.le_refl _)) (HBn.out _ (Nat.le_refl _)) (by have := Hdn.out; omega) HT.out.sz.2.2 ar le s)
                rw [append_bad Hchk.out HcN.out] at Hap
                go_wp2_with fail
                refine Hck.out.mono ?_
                rintro e w' ⟨rfl, rfl⟩
                go_wp2_with fail
                clear q0' q1' q2' q3' f40
                refine Hap.out.mono ?_
                rintro e w4 ⟨rfl, hb4, hf4⟩
                obtain ⟨x1, x2, x3⟩ := HXc.out _ hf4
                have H4 := hid (And.intro hb4 hf4)
                clear hb4 hf4
                obtain ⟨d', hd'⟩ : ∃ d', d' = d := ⟨_, rfl⟩
                rw [← hd'] at H4 Hdn
                clear hd' Hap
                have h128 : IntKind.i64.wrap (128 * (d'.cnt : Int)) = 128 * (d'.cnt : Int) := IntWalk.i64_in _ (by have := H4.out.1.sz.1.1; unfold Dk.cnt; omega)
                obtain ⟨f3, f4, AW, cW, f1⟩ := br_cells H4.out.1
                go_wp2_with fail
                go_quiet (first
                  | (go_at_call 25; exact quiet_l (bd_Ops (H4.out.1.nul ((Frm.refl (fun _ => False) _).drewN _))))
                  | (go_at_call 46; exact quiet_l (bd_Room' (H4.out.1.nul ((Frm.refl (fun _ => False) _).drewN _))))
                  | (go_at_call 47; exact quiet_l (br_Count (H4.out.1.nul ((Frm.refl (fun _ => False) _).drewN _)))))
                clear h128
                go_wp2_with fail
                go_roundg (gk - 1)
                case rel =>
                  exact ⟨k + 1, N + d'.n, d', by have := Hk.out; omega, by omega, by go_num, by have := Hdn.out; omega, Hdn.out, (H4.out.1.mono (T' := (w.heap.size ≤ ·)) (fun k _ h => h.1) (fun k hk => hk)).nul ((Frm.refl _ _).drewN _), (((HV.out.2.alloc _).news (H4.out.2.mono fun k _ h => h.1))).drewN _⟩
                case measure => have := Hk.out; omega
              · have b1' : (kind == 1) = false := by simpa using k1
                by_cases k2 : kind = 2
                · subst k2
                  have Hap := hid (bd_AAppend HT.out (HTn.out _ (Nat.le_refl _)) (HBn.out _ (Nat.le_refl _)) (by have := Hdn.out; omega) HT.out.sz.2.2 ar le s)
                  rw [append_bad Hchk.out HcN.out] at Hap
                  go_wp2_with fail
                  refine Hck.out.mono ?_
                  rintro e w' ⟨rfl, rfl⟩
                  go_wp2_with fail
                  clear q0' q1' q2' q3' f40
                  refine Hap.out.mono ?_
                  rintro e w4 ⟨rfl, hb4, hf4⟩
                  obtain ⟨x1, x2, x3⟩ := HXc.out _ hf4
                  have H4 := hid (And.intro hb4 hf4)
                  clear hb4 hf4
                  obtain ⟨d', hd'⟩ : ∃ d', d' = d := ⟨_, rfl⟩
                  rw [← hd'] at H4 Hdn
                  clear hd' Hap
                  have h128 : IntKind.i64.wrap (128 * (d'.cnt : Int)) = 128 * (d'.cnt : Int) := IntWalk.i64_in _ (by have := H4.out.1.sz.1.1; unfold Dk.cnt; omega)
                  obtain ⟨f3, f4, AW, cW, f1⟩ := br_cells H4.out.1
                  go_wp2_with fail
                  go_quiet (first
                    | (go_at_call 25; exact quiet_l (bd_Ops (H4.out.1.nul ((Frm.refl (fun _ => False) _).drewN _))))
                    | (go_at_call 46; exact quiet_l (bd_Room' (H4.out.1.nul ((Frm.refl (fun _ => False) _).drewN _))))
                    | (go_at_call 47; exact quiet_l (br_Count (H4.out.1.nul ((Frm.refl (fun _ => False) _).drewN _)))))
                  clear h128
                  go_wp2_with fail
                  go_roundg (gk - 1)
                  case rel =>
                    exact ⟨k + 1, N + d'.n, d', by have := Hk.out; omega, by omega, by go_num, by have := Hdn.out; omega, Hdn.out, (H4.out.1.mono (T' := (w.heap.size ≤ ·)) (fun k _ h => h.1) (fun k hk => hk)).nul ((Frm.refl _ _).drewN _), (((HV.out.2.alloc _).news (H4.out.2.mono fun k _ h => h.1))).drewN _⟩
                  case measure => have := Hk.out; omega
                · have b2' : (kind == 2) = false := by simpa using k2
                  by_cases k3 : kind = 3
                  · subst k3
                    have Hfl := hid (bd_Flush HT.out (by omega))
                    have HflN := hid (flush_n d)
                    go_wp2_with fail
                    refine Hck.out.mono ?_
                    rintro e w' ⟨rfl, rfl⟩
                    go_wp2_with fail
                    clear q0' q1' q2' q3' f40
                    refine Hfl.out.mono ?_
                    rintro e w4 ⟨rfl, hb4, hf4⟩
                    have H4 := hid (And.intro hb4 hf4)
                    clear hb4 hf4
                    have Hbr := hid (br_Flush H4.out.1 (by omega))
                    go_wp2_with fail
                    refine Hbr.out.mono ?_
                    rintro e w5 ⟨rfl, hb5, hf5⟩
                    have H5 : Hid (Both (Hole w.heap.size wr.heap.size) w.heap.size w5 b1 b2 (N + 1 + 1) d.flush.2 d.flush.2 ∧ Frm (Hole w.heap.size wr.heap.size) (wr.alloc (.cells #[.int .i64 3, .int .i64 ar, .int .i64 le, .string s] 79)) w5) := hid (And.intro hb5 (H4.out.2.trans hf5))
                    clear hb5 hf5 Hbr Hfl
                    have Hdn' := hid (HflN.out.trans Hdn.out)
                    generalize hd' : d.flush.2 = d' at H5 Hdn'
                    have h128 : IntKind.i64.wrap (128 * (d'.cnt : Int)) = 128 * (d'.cnt : Int) := IntWalk.i64_in _ (by have := H5.out.1.sz.1.1; unfold Dk.cnt; omega)
                    obtain ⟨f3, f4, AW, cW, f1⟩ := br_cells H5.out.1
                    go_wp2_with fail
                    go_quiet (first
                      | (go_at_call 25; exact quiet_l (bd_Ops (H5.out.1.nul ((Frm.refl (fun _ => False) _).drewN _))))
                      | (go_at_call 46; exact quiet_l (bd_Room' (H5.out.1.nul ((Frm.refl (fun _ => False) _).drewN _))))
                      | (go_at_call 47; exact quiet_l (br_Count (H5.out.1.nul ((Frm.refl (fun _ => False) _).drewN _)))))
                    clear h128
                    go_wp2_with fail
                    go_roundg (gk - 1)
                    case rel =>
                      exact ⟨k + 1, N + 1 + 1, d', by have := Hk.out; omega, by omega, by go_num, by have := Hdn.out; omega, Hdn'.out, (H5.out.1.mono (T' := (w.heap.size ≤ ·)) (fun k _ h => h.1) (fun k hk => hk)).nul ((Frm.refl _ _).drewN _), (((HV.out.2.alloc _).news (H5.out.2.mono fun k _ h => h.1))).drewN _⟩
                    case measure => have := Hk.out; omega
                  · have b3' : (kind == 3) = false := by simpa using k3
                    by_cases k4 : kind = 4
                    · subst k4
                      have Hpo := hid (bd_Power HT.out)
                      go_wp2_with fail
                      refine Hck.out.mono ?_
                      rintro e w' ⟨rfl, rfl⟩
                      go_wp2_with fail
                      clear q0' q1' q2' q3' f40
                      refine Hpo.out.mono ?_
                      rintro e w4 ⟨rfl, hb4, hf4⟩
                      obtain ⟨⟨u, p4⟩, z4, hb5, hf5⟩ := br_Power hb4
                      have H5 : Hid (Both (Hole w.heap.size wr.heap.size) w.heap.size (w4.setCell ⟨b2, 4, none⟩ (.bool false)) b1 b2 N { d with down := false } { d with down := false } ∧ Frm (Hole w.heap.size wr.heap.size) (wr.alloc (.cells #[.int .i64 4, .int .i64 ar, .int .i64 le, .string s] 79)) (w4.setCell ⟨b2, 4, none⟩ (.bool false))) := hid (And.intro hb5 (hf4.trans hf5))
                      clear hb4 hf4 hb5 hf5 Hpo
                      go_wp2_with fail
                      clear p4 z4
                      have Hdn' : Hid (({ d with down := false } : Dk).n = r + 1) := hid Hdn.out
                      generalize hd' : ({ d with down := false } : Dk) = d' at H5 Hdn'
                      generalize hw5 : w4.setCell ⟨b2, 4, none⟩ (.bool false) = w5 at H5 ⊢
                      clear hw5
                      have h128 : IntKind.i64.wrap (128 * (d'.cnt : Int)) = 128 * (d'.cnt : Int) := IntWalk.i64_in _ (by have := H5.out.1.sz.1.1; unfold Dk.cnt; omega)
                      obtain ⟨f3, f4, AW, cW, f1⟩ := br_cells H5.out.1
                      go_wp2_with fail
                      go_quiet (first
                        | (go_at_call 25; exact quiet_l (bd_Ops (H5.out.1.nul ((Frm.refl (fun _ => False) _).drewN _))))
                        | (go_at_call 46; exact quiet_l (bd_Room' (H5.out.1.nul ((Frm.refl (fun _ => False) _).drewN _))))
                        | (go_at_call 47; exact quiet_l (br_Count (H5.out.1.nul ((Frm.refl (fun _ => False) _).drewN _)))))
                      clear h128
                      go_wp2_with fail
                      go_roundg (gk - 1)
                      case rel =>
                        exact ⟨k + 1, N, d', by have := Hk.out; omega, by omega, by go_num, by have := Hdn.out; omega, Hdn'.out, (H5.out.1.mono (T' := (w.heap.size ≤ ·)) (fun k _ h => h.1) (fun k hk => hk)).nul ((Frm.refl _ _).drewN _), (((HV.out.2.alloc _).news (H5.out.2.mono fun k _ h => h.1))).drewN _⟩
                      case measure => have := Hk.out; omega
                    · have b4' : (kind == 4) = false := by simpa using k4
                      clear k1 k2 k3 k4
                      have Hrd := hid (bd_ARead HT.out (by omega) HT.out.sz.2.2 ar le)
                      rw [aread_bad Hchk.out HcN.out] at Hrd
                      go_wp2_with fail
                      refine Hck.out.mono ?_
                      rintro e w' ⟨rfl, rfl⟩
                      go_wp2_with fail
                      clear q0' q1' q2' q3' f40
                      refine Hrd.out.mono ?_
                      rintro e w4 ⟨rfl, hf4⟩
                      have H4 : Hid (Both (Hole w.heap.size wr.heap.size) w.heap.size w4 b1 b2 N d d ∧ Frm (Hole w.heap.size wr.heap.size) (wr.alloc (.cells #[.int .i64 kind, .int .i64 ar, .int .i64 le, .string s] 79)) w4) := hid (And.intro (HT.out.nul hf4) (Frm.of_nul hf4))
                      clear hf4 Hrd
                      obtain ⟨d', hd'⟩ : ∃ d', d' = d := ⟨_, rfl⟩
                      rw [← hd'] at H4 Hdn
                      clear hd'
                      have h128 : IntKind.i64.wrap (128 * (d'.cnt : Int)) = 128 * (d'.cnt : Int) := IntWalk.i64_in _ (by have := H4.out.1.sz.1.1; unfold Dk.cnt; omega)
                      obtain ⟨f3, f4, AW, cW, f1⟩ := br_cells H4.out.1
                      go_wp2_with fail
                      go_quiet (first
                        | (go_at_call 25; exact quiet_l (bd_Ops (H4.out.1.nul ((Frm.refl (fun _ => False) _).drewN _))))
                        | (go_at_call 46; exact quiet_l (bd_Room' (H4.out.1.nul ((Frm.refl (fun _ => False) _).drewN _))))
                        | (go_at_call 47; exact quiet_l (br_Count (H4.out.1.nul ((Frm.refl (fun _ => False) _).drewN _)))))
                      clear h128
                      go_wp2_with fail
                      go_roundg (gk - 1)
                      case rel =>
                        exact ⟨k + 1, N, d', by have := Hk.out; omega, by omega, by go_num, by have := Hdn.out; omega, Hdn.out, (H4.out.1.mono (T' := (w.heap.size ≤ ·)) (fun k _ h => h.1) (fun k hk => hk)).nul ((Frm.refl _ _).drewN _), (((HV.out.2.alloc _).news (H4.out.2.mono fun k _ h => h.1))).drewN _⟩
                      case measure => have := Hk.out; omega
      · have e1 : decide ((k : Int) < (l.length : Int)) = true := decide_eq_true (by omega)
        have e2 : decide ((k : Int) < 40) = false := decide_eq_false (by omega)
        go_wp2_with fail
        refine (area_Room_nil _).mono ?_
        rintro e w' ⟨rfl, rfl⟩
        go_wp2_with fail
        refine (area_First_nil _).mono ?_
        rintro e w' ⟨rfl, rfl⟩
        go_wp2_with fail
        refine (area_Append_nil _ _ _ _).mono ?_
        rintro e w' ⟨rfl, rfl⟩
        go_wp2_with fail
        go_ret
        exact ⟨rfl, HV.out.2⟩
    · have e1 : decide ((k : Int) < (l.length : Int)) = false := decide_eq_false (by omega)
      go_wp2_with fail
      refine (area_Room_nil _).mono ?_
      rintro e w' ⟨rfl, rfl⟩
      go_wp2_with fail
      refine (area_First_nil _).mono ?_
      rintro e w' ⟨rfl, rfl⟩
      go_wp2_with fail
      refine (area_Append_nil _ _ _ _).mono ?_
      rintro e w' ⟨rfl, rfl⟩
      go_wp2_with fail
      go_ret
      exact ⟨rfl, HV.out.2⟩

theorem law_AreaDoes (x : Nat) (hx : x < 256) (A0 A1 : Option Addr) (c0 c1 : Nat) (cr : List (Int × List UInt8)) (l : List (Int × Int × Int × ByteArray)) (w : World) (hA : CrashesAt w (· < w.heap.size) A0 cr) (hB : Acts4 w w.heap.size A1 l) (hl : cr.length ≤ 9223372036854775807) (hll : l.length ≤ 9223372036854775807) :
    Calls Try.prog 11 #[.int .u8 x, .slice A0 cr.length c0, .slice A1 l.length c1] w fun e w' => e = .returned (.bool true) ∧ Nul w w' := by
  cases hlt : lightB cr with
  | false => exact adoes_awake x A0 A1 c0 c1 _ cr _ w hA hl hlt
  | true => exact adoes_go x _ hx rfl A0 A1 c0 c1 cr l w hA hB hl hll hlt
end Go.Proofs.Ytdpffgcekjdneaa
