/-
  Walks: a disk's crashes.
-/
import Derived.Test.YtdpffgcekjdneaaDiskA
set_option linter.all false
namespace Go.Proofs.Ytdpffgcekjdneaa
open Go.RowKit

theorem quiet_l {P : Program} {f : FuncId} {args : Array Value} {w : World} {n : Nat} {v : Value} (h : Calls P f args (w.drewN n) fun e w' => e = .returned v ∧ w.drewN n = w') :
    Calls P f args (w.drewN n) fun e w'' => e = .returned v ∧ ∃ m, w'' = w.drewN m :=
  h.mono fun _ _ ⟨he, hm⟩ => ⟨he, n, hm.symm⟩

set_option maxHeartbeats 400000 in
theorem crash_1 (a t : Int) (B : Option Addr) (l c g : Nat) (w : World) (hg : w.cell? ⟨g, 0, none⟩ = some (.int .i64 t)) :
    Calls Try.prog 67 #[.agg #[.int .i64 a, .slice B l c], .pointer (some ⟨g, 0, none⟩)] w fun e w' => e = .returned (.bool (a == t)) ∧ Nul w w' := by
  have hgb : g < w.heap.size := World.block_lt_of_cell? w _ hg
  have hc : (w.alloc (.cells #[.int .i64 a, .slice B l c] 49)).cell? ⟨g, 0, none⟩ = some (.int .i64 t) := (World.cell?_alloc_lt _ _ _ hgb).trans hg
  go_enter Try.func67, Try.ntmps67
  go_wp2
  go_ret
  exact ⟨rfl, (Frm.refl _ _).alloc _⟩

theorem ret_bool {a b : Bool} (h : a = b) : Ending.returned (.bool a) = .returned (.bool b) := by rw [h]

theorem bit_eq (x u : Nat) (hx : x < 256) : (bits BinOp.and IntKind.u8 ((x : Int) / 2 ^ u) 1 == 1) = decide (x / 2 ^ u % 2 = 1) := by
  have e : ((x : Int) / 2 ^ u) = ((x / 2 ^ u : Nat) : Int) := by simp
  have hlt : x / 2 ^ u < 256 := Nat.lt_of_le_of_lt (Nat.div_le_self _ _) hx
  have := u8_and_nat (x / 2 ^ u) 1 hlt (by omega)
  rw [e]
  rw [show ((1 : Nat) : Int) = 1 from rfl] at this
  rw [this, nat_mask1]
  rw [Bool.eq_iff_iff]
  simp
  omega

set_option maxRecDepth 100000 in
set_option maxHeartbeats 400000 in
theorem crash_2 (i g c : Nat) (m : List UInt8) (S : Nat → Prop) (B : Option Addr) (w : World) (hg : w.cell? ⟨g, 0, none⟩ = some (.slice B m.length c)) (hB : BytesAt w S B m) (hi : i ≤ 200000) (hm : m.length ≤ 100000) :
    Calls Try.prog 68 #[.int .i64 i, .pointer (some ⟨g, 0, none⟩)] w fun e w' => e = .returned (.bool (mbit m i)) ∧ Nul w w' := by
  rcases hB with rfl | ⟨b, off, rfl, hS, hc⟩
  · go_enter Try.func68, Try.ntmps68
    go_wp2
    go_quiet (fail)
    go_wp2
    go_ret
    exact ⟨rfl, (Frm.refl _ _).drewN _⟩
  · by_cases h0 : m.length = 0
    · have : m = [] := List.eq_nil_of_length_eq_zero h0
      subst this
      go_enter Try.func68, Try.ntmps68
      go_wp2
      go_quiet (fail)
      go_wp2
      go_ret
      exact ⟨rfl, (Frm.refl _ _).drewN _⟩
    · have hpos : 0 < m.length := by omega
      have hj : i / 8 % m.length < m.length := Nat.mod_lt _ hpos
      have hcj := hc _ hj
      clear hc
      obtain ⟨q, hq⟩ : ∃ q, q = i / 8 := ⟨_, rfl⟩
      obtain ⟨r, hr⟩ : ∃ r, r = i / 8 % m.length := ⟨_, rfl⟩
      obtain ⟨u, hu⟩ : ∃ u, u = i % 8 := ⟨_, rfl⟩
      have e1 : IntKind.i64.wrap ((i : Int) / 8) = (q : Int) := by rw [IntWalk.i64_in _ (by omega)]; omega
      have e2 : ((q : Int)).tmod (m.length : Int) = (r : Int) := by
        rw [Int.tmod_eq_emod_of_nonneg (by omega), hr, hq]; simp
      have e3 : (i : Int) % 8 = (u : Int) := by omega
      have hr1 : (r : Int) < m.length := by omega
      have hr0 : r < m.length := by omega
      have hbit : mbit m i = decide ((m[r]'hr0).toNat / 2 ^ u % 2 = 1) := by
        subst hr hu
        unfold mbit
        have hmne : m ≠ [] := by rintro rfl; simp at hpos
        simp [hmne, List.getD, hj]
      rw [hbit]
      have hcj' : w.cell? ⟨b, off + r, none⟩ = some (.int .u8 (m[r]'hr0).toNat) := by subst hr; exact hcj
      have hx : (m[r]'hr0).toNat < 256 := UInt8.toNat_lt _
      have hu8 : u < 8 := by omega
      clear hcj hbit hj
      generalize (m[r]'hr0).toNat = x at hcj' hx
      have Hq := hid hq
      have Hr := hid hr
      have Hu := hid hu
      clear hq hr hu
      have hgt : decide (0 < (m.length : Int)) = true := decide_eq_true (by omega)
      have hne : ¬ (m.length : Int) = 0 := by omega
      go_enter Try.func68, Try.ntmps68
      go_wp2
      go_quiet (fail)
      go_wp2
      go_ret
      exact ⟨ret_bool (bit_eq x u hx), (Frm.refl _ _).drewN _⟩

/-- The first crash of an operation. -/
theorem find_at (l : List (Int × List UInt8)) (t : Int) (k : Nat) (h : k < l.length) (hk : (l[k]).1 = t) (hn : ∀ (j : Nat) (hj : j < l.length), j < k → (l[j]).1 ≠ t) : l.find? (fun c => decide (c.1 = t)) = some l[k] := by
  induction l generalizing k with
  | nil => simp at h
  | cons c l ih =>
    cases k with
    | zero =>
      have : c.1 = t := hk
      simp [this]
    | succ k =>
      have h0 := hn 0 (by simp) (by omega)
      have h0' : ¬ c.1 = t := h0
      simp only [List.find?_cons, h0', decide_false, List.getElem_cons_succ]
      exact ih k (by simpa using h) hk fun j hj hjk => hn (j + 1) (by simpa using hj) (by omega)
theorem find_none (l : List (Int × List UInt8)) (t : Int) (hn : ∀ (j : Nat) (hj : j < l.length), (l[j]).1 ≠ t) : l.find? (fun c => decide (c.1 = t)) = none := by
  rw [List.find?_eq_none]
  intro c hc
  obtain ⟨j, hj, rfl⟩ := List.getElem_of_mem hc
  simpa using hn j hj

/-- Where the first crash of an operation is. -/
def IdxOf (cr : List (Int × List UInt8)) (t r : Int) : Prop :=
  (r = -1 ∧ cr.find? (fun c => decide (c.1 = t)) = none) ∨ ∃ (k : Nat) (h : k < cr.length), r = (k : Int) ∧ cr.find? (fun c => decide (c.1 = t)) = some cr[k]

set_option maxRecDepth 100000 in
set_option maxHeartbeats 400000 in
theorem index_func (S : Nat → Prop) (A : Option Addr) (c g : Nat) (t : Int) (cr : List (Int × List UInt8)) (w : World) (hA : CrashesAt w S A cr) (hg : w.cell? ⟨g, 0, none⟩ = some (.int .i64 t)) (hl : cr.length ≤ 100000) :
    Calls Try.prog 66 #[.slice A cr.length c, .func (.func 67) #[] #[.pointer (some ⟨g, 0, none⟩)]] w fun e w' => (∃ r, e = .returned (.int .i64 r) ∧ IdxOf cr t r) ∧ Nul w w' := by
  go_enter Try.func66, Try.ntmps66
  go_wp2_with fail
  go_loopg [5, 8] cr.length (fun n _ i wr => ∃ k : Nat, k + n = cr.length ∧ i = .int .i64 k ∧ Nul w wr ∧ ∀ (j : Nat) (hj : j < cr.length), j < k → (cr[j]).1 ≠ t)
  case atStart => exact ⟨0, by omega, rfl, Frm.refl _ _, fun j _ hj => by omega⟩
  case round =>
    obtain ⟨k, hk, rfl, hf, hn⟩ := hrel
    have Hk := hid hk
    have Hn := hid hn
    clear hk hn
    by_cases hlt : k < cr.length
    · rcases hA with rfl | ⟨gc, off, rfl, hS, hcc⟩
      · simp at hlt
      obtain ⟨k0, B, cB, k1, _, _⟩ := hcc k hlt
      have q0 := cell_frm k0 hf (fun h => h)
      have q1 := cell_frm k1 hf (fun h => h)
      have qg := cell_frm hg hf (fun h => h)
      have HC := hid hcc
      clear k0 k1 hcc hg
      have hgen : ∃ x, x = cr[k]'hlt := ⟨_, rfl⟩
      obtain ⟨x, hx⟩ := hgen
      rw [← hx] at q0 q1
      have Hx := hid hx
      clear hx
      by_cases ht : x.1 = t
      · have hb : (x.1 == t) = true := by simpa using ht
        have Ht := hid ht
        clear ht
        go_wp2_with fail
        refine (crash_1 x.1 t B x.2.length cB g wr qg).mono ?_
        rw [hb]
        rintro e w1 ⟨rfl, hf1⟩
        go_wp2_with fail
        go_ret
        exact ⟨⟨_, rfl, .inr ⟨k, hlt, rfl, find_at cr t k hlt (by rw [← Hx.out]; exact Ht.out) Hn.out⟩⟩, hf.nul hf1⟩
      · have hb : (x.1 == t) = false := by simpa using ht
        have Ht := hid ht
        clear ht
        go_wp2_with fail
        refine (crash_1 x.1 t B x.2.length cB g wr qg).mono ?_
        rw [hb]
        rintro e w1 ⟨rfl, hf1⟩
        go_wp2_with fail
        go_roundg (gk - 1)
        case rel =>
          refine ⟨k + 1, by have := Hk.out; omega, by go_num, hf.nul hf1, fun j hj hjk => ?_⟩
          rcases Nat.lt_succ_iff_lt_or_eq.1 hjk with h | h
          · exact Hn.out j hj h
          · subst h
            rw [← Hx.out]; exact Ht.out
        case measure => have := Hk.out; omega
    · obtain rfl : k = cr.length := by have := Hk.out; omega
      go_wp2_with fail
      go_ret
      exact ⟨⟨_, rfl, .inl ⟨rfl, find_none cr t fun j hj => Hn.out j hj hj⟩⟩, hf⟩
end Go.Proofs.Ytdpffgcekjdneaa
