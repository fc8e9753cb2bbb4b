/-
  Walks: the document's disk is made; crashes that are not far too many.
-/
import Derived.Test.YtdpffgcekjdneaaRefD
set_option linter.all false
namespace Go.Proofs.Ytdpffgcekjdneaa
open Go.RowKit

theorem Try.infoStr : (Try.prog.info? 9).map (fun i => (i.zero, i.size, i.bytes)) = some (some (.string ⟨#[]⟩), 1, 16) := by kernel_rfl

theorem own_one {w : World} {t : TypeId} {u : Value} : ∀ (j : Nat) (x : Value), [u][j]? = some x → (w.alloc (.cells #[u] t)).cell? ((⟨w.heap.size, 0, none⟩ : Addr).add j) = some x := by
  intro j x hu
  rw [Addr.add_lit, Nat.zero_add, (Blk.new w t [u]).cell]
  exact hu

theorem own_base {B e sz n : Nat} {w : World} {v : Value} {xs : List Value} (h : w.ownsRow B e sz v n xs) : w.ownsRow 0 e sz v n xs :=
  ⟨h.1, h.2.imp id fun ⟨g, cap, cur, a, _, r⟩ => ⟨g, cap, cur, a, Nat.zero_le _, r⟩⟩

/-- The document's disk that is being made. -/
def RNewAt (w wr : World) (k : Nat) (vL : Value) (A : Option Addr) (l c : Nat) : Prop :=
  Blk wr w.heap.size 45 [vL, .slice none 0 0, .slice A l c, .int .i64 0, .bool false] ∧ wr.ownsRow (w.heap.size + 1) 9 1 vL k (lCells k (fun _ => ⟨#[]⟩)) ∧ Nul w wr ∧ w.heap.size + 1 ≤ wr.heap.size

theorem RNewAt.step {k l c : Nat} {w wr w3 : World} {A : Option Addr} {vL v3 : Value} {o : Obj} (h : RNewAt w wr k vL A l c)
    (hown : w3.ownsRow (w.heap.size + 1) 9 1 v3 (k + 1) (lCells k (fun _ => ⟨#[]⟩) ++ [.string (fullS ⟨#[]⟩)])) (hgr : (wr.drew.alloc o).grownBy w3 vL.ownBlock) :
    Blk w3 w.heap.size 45 [vL, .slice none 0 0, .slice A l c, .int .i64 0, .bool false] ∧ RNewAt w (w3.setCell ⟨w.heap.size, 0, none⟩ v3) (k + 1) v3 A l c := by
  obtain ⟨hB, hO, hf, hsz⟩ := h
  have hn' : Nul wr (wr.drew.alloc o) := ((Frm.refl _ wr).drew).alloc _
  have hO' := own_nul hO hn'
  have hB3 := (hB.nul hn').grown hgr (own_ne hO' (hB.nul hn') (by decide))
  have hon : One w.heap.size w3 (w3.setCell ⟨w.heap.size, 0, none⟩ v3) := (One.refl _ w3).put 0 _
  have hf3 : Nul w w3 := (hf.nul hn').grown hgr (fun j hj => .inl (by have := (hO.lt j hj).1; omega))
  refine ⟨hB3, hB3.put 0 _, ?_, hf3.one hon (.inl (Nat.le_refl _)), ?_⟩
  · rw [lCells_snoc]
    exact own_far hown (p := ⟨w.heap.size, 0, none⟩) (own_ne hown hB3 (by decide)) _
  · have h1 := hn'.size
    have h2 := hgr.size
    have h3 := hon.size
    omega

set_option maxRecDepth 100000 in
set_option maxHeartbeats 1000000 in
theorem ref_New (S : Nat → Prop) (n : Nat) (A : Option Addr) (c : Nat) (cr : List (Int × List UInt8)) (w : World) (hA : CrashesAt w S A cr) (hS : ∀ k, S k → k < w.heap.size) (hn2 : n ≤ 65536) :
    Calls Try.prog 21 #[.int .i64 n, .slice A cr.length c] w fun e w' => ∃ b, e = .returned (.pointer (some ⟨b, 0, none⟩)) ∧ RefAt w' (fun k => w.heap.size ≤ k ∧ k < w'.heap.size) S b (dk0 n cr) ∧ Nul w w' := by
  obtain ⟨i0, hi0, hz0, hz1, hz2⟩ := info_parts Try.infoStr
  have HA := hid hA
  have HS := hid hS
  clear hA hS
  generalize hl : cr.length = l
  have Hl := hid hl
  clear hl
  go_enter Try.func21, Try.ntmps21
  go_wp2_with fail
  go_loopg [6] n (fun m i wr => ∃ (k cL : Nat) (AL : Option Addr), k + m = n ∧ i = .int .i64 k ∧ RNewAt w wr k (.slice AL k cL) A l c)
  case atStart => exact ⟨0, 0, none, by omega, rfl, Blk.new w 45 [.slice none 0 0, .slice none 0 0, .slice A l c, .int .i64 0, .bool false], World.ownsRow_nil _ _ _ _, (Frm.refl _ _).alloc _, by simp⟩
  case round =>
    obtain ⟨k, cL, AL, hk, rfl, hR⟩ := hrel
    have Hk := hid hk
    have HR := hid hR
    clear hk
    by_cases hlt : k < n
    · have c0 : wr.cell? ⟨w.heap.size, 0, none⟩ = some (.slice AL k cL) := hR.1.cell 0
      have hbl : w.heap.size < wr.heap.size := hR.1.lt
      have hown' : (wr.drew.alloc (.cells #[.string (fullS ⟨#[]⟩)] 9)).ownsRow (w.heap.size + 1) 9 1 (.slice AL k cL) k (lCells k (fun _ => ⟨#[]⟩)) := own_nul hR.2.1 (((Frm.refl _ wr).drew).alloc _)
      have Hone := hid (show ∀ u ∈ [Value.string (fullS ⟨#[]⟩)], u.oneCell' = true from fun u hu => by
        simp at hu
        subst hu
        rfl)
      have Hb1 := hid (show (k + 1) * 16 ≤ 140737488355328 from by omega)
      have Hb2 := hid (show k + 1 ≤ maxLen from by simp only [maxLen]; omega)
      have Hb3 := hid (show w.heap.size + 1 ≤ (wr.drew.alloc (.cells #[.string (fullS ⟨#[]⟩)] 9)).heap.size from by simp; omega)
      have HSt := hid (fun (w3 : World) (v3 : Value) => HR.out.step (o := .cells #[.string (fullS ⟨#[]⟩)] 9) (w3 := w3) (v3 := v3))
      clear hR
      have HFu := hid (ref_Full ⟨#[]⟩)
      generalize hfs : fullS ⟨#[]⟩ = fs at hown' Hone HSt Hb3 HFu
      clear hfs
      go_wp2_with fail
      go_region_law (first
        | (go_simp
           go_at_call 15
           refine (HFu.out _).mono ?_
           rintro e w1 ⟨rfl, rfl⟩)
        | (have _h := c0
           refine step_append_at rfl (.tmp 19) (.tmp 21) _ rfl (w.heap.size + 1) 9 i0 (.string ⟨#[]⟩) 1 16 Try.underlying30 hi0 hz0 hz1 hz2 rfl (Nat.succ_pos 0) (.slice AL k cL) k (lCells k (fun _ => ⟨#[]⟩)) rfl hown' ⟨wr.heap.size, 0, none⟩ 1 1 [.string fs] rfl rfl own_one Hone.out Hb1.out Hb2.out Hb3.out ?_
           intro v3 w3 hown3 hgr3 hat3
           obtain ⟨A3, c3, rfl⟩ := own_shape hown3
           have H3 := hid (HSt.out w3 _ hown3 hgr3)
           have q3 : w3.cell? ⟨w.heap.size, 0, none⟩ = some (.slice AL k cL) := H3.out.1.cell 0
           have z3 : w3.frozen? ⟨w.heap.size, 0, none⟩ = false := H3.out.1.frozen 0
           clear hown3 hgr3 hat3))
      all_goals
        go_wp2_with fail
        go_roundg (gk - 1)
        case rel => exact ⟨k + 1, c3, A3, by have := Hk.out; omega, by go_num, H3.out.2⟩
        case measure => have := Hk.out; omega
    · obtain rfl : k = n := by have := Hk.out; omega
      obtain rfl := Hl.out
      go_wp2_with fail
      go_ret
      obtain ⟨hB, hO, hf, hsz⟩ := hR
      refine ⟨_, rfl, ⟨.slice AL k cL, .slice none 0 0, A, c, ⟨Nat.le_refl _, hB.lt⟩, hB, own_base hO, fun j hj => ?_, World.ownsRow_nil _ _ _ _, fun j hj => by simp [Value.ownBlock] at hj, HA.out.frm hf (fun _ _ h => h), fun j hj => hj.2, fun j hj hh => ?_⟩, hf⟩
      · have := hO.lt j hj
        exact ⟨by omega, this.2⟩
      · have := HS.out j hh
        omega

/-- Crashes that are not far too many. -/
def lightB (cr : List (Int × List UInt8)) : Bool := decide (cr.length ≤ 40 ∧ ∀ p ∈ cr, p.2.length ≤ 100)

set_option maxRecDepth 100000 in
set_option maxHeartbeats 400000 in
theorem light_is (S : Nat → Prop) (A : Option Addr) (c : Nat) (cr : List (Int × List UInt8)) (w : World) (hA : CrashesAt w S A cr) (hl : cr.length ≤ 9223372036854775807) :
    Calls Try.prog 12 #[.slice A cr.length c] w fun e w' => e = .returned (.bool (lightB cr)) ∧ w = w' := by
  have HA := hid hA
  clear hA
  go_enter Try.func12, Try.ntmps12
  go_wp2_with fail
  go_loopg [2, 3] cr.length (fun n x i wr => ∃ k : Nat, k + n = cr.length ∧ i = .int .i64 k ∧ x = .bool false ∧ Hid (∀ (j : Nat) (hj : j < cr.length), j < k → (cr[j]).2.length ≤ 100) ∧ wr = w)
  case atStart => exact ⟨0, by omega, rfl, rfl, hid (fun j _ hj => by omega), rfl⟩
  case round =>
    obtain ⟨k, hk, rfl, rfl, hn, rfl⟩ := hrel
    have Hk := hid hk
    clear hk
    by_cases hlt : k < cr.length
    · rcases HA.out with hnil | ⟨g, off, rfl, hG, hcc⟩
      · rw [hnil] at hlt; simp at hlt
      obtain ⟨q0, B, cB, q1, hBc, hBy⟩ := hcc k hlt
      clear hcc q0 hBy hBc
      by_cases hb : 100 < (cr[k]).2.length
      · have hd : decide (100 < ((cr[k]).2.length : Int)) = true := decide_eq_true (by omega)
        have HL : Hid (lightB cr = false) := hid (decide_eq_false (fun h => by have := h.2 _ (List.getElem_mem hlt); omega))
        generalize (cr[k]).2.length = q at q1 hd
        clear hb
        go_wp2_with fail
        go_ret
        rw [HL.out]
        exact ⟨rfl, rfl⟩
      · have hd : decide (100 < ((cr[k]).2.length : Int)) = false := decide_eq_false (by omega)
        have Hb := hid hb
        generalize hq : (cr[k]).2.length = q at q1 hd
        clear hb hq
        go_wp2_with fail
        go_roundg (gk - 1)
        case rel =>
          refine ⟨k + 1, by have := Hk.out; omega, by go_num, rfl, hid (fun j hj hjk => ?_), rfl⟩
          rcases Nat.lt_succ_iff_lt_or_eq.1 hjk with h | h
          · exact hn.out j hj h
          · subst h
            have := Hb.out
            omega
        case measure => have := Hk.out; omega
    · obtain rfl : k = cr.length := by have := Hk.out; omega
      have HL : Hid (lightB cr = decide ((cr.length : Int) ≤ 40)) := hid (by
        have h2 : ∀ p ∈ cr, p.2.length ≤ 100 := fun p hp => by
          obtain ⟨j, hj, rfl⟩ := List.getElem_of_mem hp
          exact hn.out j hj hj
        unfold lightB
        rw [Bool.eq_iff_iff]
        simp only [decide_eq_true_eq]
        constructor
        · intro h; have := h.1; omega
        · intro h; exact ⟨by omega, h2⟩)
      go_wp2_with fail
      go_ret
      rw [HL.out]
      exact ⟨rfl, rfl⟩
end Go.Proofs.Ytdpffgcekjdneaa
