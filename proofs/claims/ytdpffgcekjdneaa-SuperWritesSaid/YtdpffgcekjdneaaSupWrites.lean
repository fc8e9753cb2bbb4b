/-
  Walks: the law of supers written one behind the other.
-/
import Derived.Test.YtdpffgcekjdneaaOpenS
import Derived.Test.YtdpffgcekjdneaaSupK
import Derived.Test.YtdpffgcekjdneaaUntil
set_option linter.all false
namespace Go.Proofs.Ytdpffgcekjdneaa
open Go.RowKit

theorem flush_n' (d : Dk) : d.flush.2.n = d.n := by
  unfold Dk.flush
  split
  · rfl
  · simp only
    split <;> exact crash_n d
theorem in_New_eq' {S : Nat → Prop} {n c : Nat} {x : Int} {A : Option Addr} {cr : List (Int × List UInt8)} {w : World} (hx : x = n) (hA : CrashesAt w S A cr) (hn1 : 1 ≤ n) (hn2 : n ≤ 65536) (hcl : cr.length ≤ 100000) (hml : ∀ p ∈ cr, p.2.length ≤ 100000) :
    Calls Try.prog 14 #[.int .i64 x, .slice A cr.length c] w fun e w' => ∃ b, e = .returned (.tuple #[.pointer (some ⟨b, 0, none⟩), .int .i64 0]) ∧ DiskIn (ext (fun _ => False) w w') w' b 0 (dk0 n cr) ∧ Nul w w' := by
  subst hx
  exact in_New hA hn1 hn2 hcl hml
theorem ref_New_eq' (S : Nat → Prop) (n : Nat) (x : Int) (hx : x = n) (A : Option Addr) (c : Nat) (cr : List (Int × List UInt8)) (w : World) (hA : CrashesAt w S A cr) (hS : ∀ k, S k → k < w.heap.size) (hn2 : n ≤ 65536) :
    Calls Try.prog 21 #[.int .i64 x, .slice A cr.length c] w fun e w' => ∃ b, e = .returned (.pointer (some ⟨b, 0, none⟩)) ∧ RefAt w' (fun k => w.heap.size ≤ k ∧ k < w'.heap.size) S b (dk0 n cr) ∧ Nul w w' := by
  subst hx
  exact ref_New S n A c cr w hA hS hn2

theorem swrite_n (d : Dk) (a l : Int) : (d.swrite a l).2.n = d.n := by
  unfold Dk.swrite
  split
  · rfl
  · split
    · split
      · rw [flush_n', write_n]
      · exact write_n _ _ _
    · rfl

set_option maxRecDepth 100000 in
set_option maxHeartbeats 1000000 in
theorem swr_awake (x : Int) (A0 A1 : Option Addr) (c0 c1 len : Nat) (cr : List (Int × List UInt8)) (S : Nat → Prop) (w : World) (hA : CrashesAt w S A0 cr) (hl : cr.length ≤ 9223372036854775807) (h : lightB cr = false) :
    Calls Try.prog 8 #[.int .u8 x, .slice A0 cr.length c0, .slice A1 len c1] w fun e w' => e = .returned (.bool true) ∧ Nul w w' := by
  have HL := hid (light_is S A0 c0 cr w hA hl)
  rw [h] at HL
  clear hA h
  go_enter Try.func8, Try.ntmps8
  go_wp2_with fail
  refine HL.out.mono ?_
  rintro e w1 ⟨rfl, rfl⟩
  go_wp2_with fail
  refine (awake22 _).mono ?_
  rintro e w1 ⟨rfl, hf⟩
  go_wp2_with fail
  go_ret
  exact ⟨rfl, hf⟩

set_option maxRecDepth 100000 in
set_option maxHeartbeats 8000000 in
theorem swr_go (x r : Nat) (hx : x < 256) (hr : x % 5 = r) (A0 A1 : Option Addr) (c0 c1 : Nat) (cr : List (Int × List UInt8)) (l : List (Int × Int × Int)) (w : World) (hA : CrashesAt w (· < w.heap.size) A0 cr) (hB : SupsAt w w.heap.size A1 l) (hl : cr.length ≤ 9223372036854775807) (hll : l.length ≤ 9223372036854775807) (hlt : lightB cr = true) :
    Calls Try.prog 8 #[.int .u8 x, .slice A0 cr.length c0, .slice A1 l.length c1] w fun e w' => e = .returned (.bool true) ∧ Nul w w' := by
  have HL := hid (light_is _ A0 c0 cr w hA hl)
  have hlb := of_decide_eq_true hlt
  rw [hlt] at HL
  have HC := hid hlb
  have HA := hid hA
  have HB := hid hB
  have hxr : (x : Int) % 5 = (r : Int) := by omega
  have hrb : r < 5 := by omega
  clear hA hlt hlb hB hr
  go_enter Try.func8, Try.ntmps8
  go_wp2_with fail
  refine HL.out.mono ?_
  rintro e w1 ⟨rfl, rfl⟩
  go_wp2_with fail
  refine (awake22 _).mono ?_
  rintro e w1 ⟨rfl, hf1⟩
  have HN1 := hid hf1
  clear hf1
  go_wp2_with fail
  refine (in_New_eq' (n := r + 1) (x := (r : Int) + 1) (by omega) (HA.out.frm HN1.out (fun _ _ h => h)) (by omega) (by omega) (by have := HC.out.1; omega) (fun p hp => by have := HC.out.2 p hp; omega)).mono ?_
  rintro e w2 ⟨b1, rfl, hD2, hf2⟩
  have H2 := hid (And.intro hD2 (And.intro HN1.out hf2))
  clear hD2 hf2
  go_wp2_with fail
  refine (ref_New_eq' (· < w.heap.size) (r + 1) ((r : Int) + 1) (by omega) A0 c0 cr w2 (HA.out.frm (H2.out.2.1.nul H2.out.2.2) (fun _ _ h => h)) (fun k hk => by have hk' : k < w.heap.size := hk; have := (H2.out.2.1.nul H2.out.2.2).size; omega) (by omega)).mono ?_
  rintro e w3 ⟨b2, rfl, hR3, hf3⟩
  have H3 : Hid (Both (w.heap.size ≤ ·) w.heap.size w3 b1 b2 0 (dk0 (r + 1) cr) (dk0 (r + 1) cr) ∧ Nul w w3) := hid (by
    have hs := (H2.out.2.1.nul H2.out.2.2).size
    have hs1 := H2.out.2.1.size
    have hs3 := hf3.size
    have hok0 : (dk0 (r + 1) cr).okn 0 := H2.out.1.sz
    refine ⟨⟨fun k => w.heap.size ≤ k ∧ k < w2.heap.size, _, (H2.out.1.mono (fun k hk h => ?_)).nul hf3, hR3, fun k hk hF => ?_, fun k hk => ⟨hk.1, ?_⟩, fun k hk => ?_, fun k hk => hk, hok0, full_new _ _⟩, (H2.out.2.1.nul H2.out.2.2).nul hf3⟩
    · rcases h with h | h
      · exact h.elim
      · exact ⟨by omega, h.2⟩
    · have := hk.2; have := hF.1; omega
    · have := hk.2; omega
    · have := hk.1; show w.heap.size ≤ k; omega)
  have Hdn : Hid ((dk0 (r + 1) cr).n = r + 1 ∧ (dk0 (r + 1) cr).down = false) := hid ⟨rfl, rfl⟩
  generalize dk0 (r + 1) cr = dz at H3 Hdn
  clear hR3 hf3
  go_wp2_with fail
  go_loopg [11, 12, 13, 14, 15, 16, 17, 18, 19] l.length (fun m i _ _ _ _ _ _ _ _ wr => ∃ (k N : Nat) (d : Dk), k + m = l.length ∧ k ≤ 30 ∧ i = .int .i64 k ∧ N ≤ 10 * k ∧ d.n = r + 1 ∧ d.down = false ∧ Both (w.heap.size ≤ ·) w.heap.size wr b1 b2 N d d ∧ Nul w wr)
  case atStart => exact ⟨0, 0, dz, by omega, by omega, rfl, by omega, Hdn.out.1, Hdn.out.2, H3.out.1, H3.out.2⟩
  case round =>
    obtain ⟨k, N, d, hk, hk30, rfl, hN, hdn, hdd, hV, hf⟩ := hrel
    have Hk := hid hk
    have HV := hid (And.intro hV hf)
    have Hdn := hid (And.intro hdn hdd)
    clear hk hV hf hdn hdd
    by_cases hlt : k < l.length
    · by_cases h30 : k < 30
      · have e1 : decide ((k : Int) < (l.length : Int)) = true := decide_eq_true (by omega)
        have e2 : decide ((k : Int) < 30) = true := decide_eq_true (by omega)
        have hN2 : N ≤ 90000 := by omega
        have hBs : w.heap.size ≤ wr.heap.size := HV.out.2.size
        obtain ⟨ga, oa, rfl, hgb, q0, q1, q2⟩ := (HB.out.frm HV.out.2 (fun _ _ h => h)).at_ hlt
        generalize l[k] = y at q0 q1 q2
        obtain ⟨gen, ar, le⟩ := y
        have q1' : wr.cell? ⟨ga, oa + k * 3 + 1, none⟩ = some (.int .i64 ar) := q1
        have q2' : wr.cell? ⟨ga, oa + k * 3 + 2, none⟩ = some (.int .i64 le) := q2
        have HQ : Hid (∀ w', Frm (w.heap.size ≤ ·) wr w' → w'.cell? ⟨ga, oa + k * 3 + 1, none⟩ = some (.int .i64 ar) ∧ w'.cell? ⟨ga, oa + k * 3 + 2, none⟩ = some (.int .i64 le)) := hid (fun w' hf => ⟨(hf.cell (p := ⟨ga, oa + k * 3 + 1, none⟩) (by show ga < _; omega) (fun h => by have h' : w.heap.size ≤ ga := h; omega)).trans q1, (hf.cell (p := ⟨ga, oa + k * 3 + 2, none⟩) (by show ga < _; omega) (fun h => by have h' : w.heap.size ≤ ga := h; omega)).trans q2⟩)
        clear q0 q1 q2
        have HWr := hid (bd_SWrite (w := wr.drew) (HV.out.1.nul ((Frm.refl (fun _ => False) _).drew)) (fun k hk => Nat.le_trans hBs hk) hBs (by omega) ar le)
        have HwN := hid (swrite_n d ar le)
        go_wp2_with fail
        refine region_till (fun _ => true) (fun w' => w'.cell? ⟨ga, oa + k * 3 + 1, none⟩ = some (.int .i64 ar) ∧ w'.cell? ⟨ga, oa + k * 3 + 2, none⟩ = some (.int .i64 le)) (by kernel_rfl) ?_
        have hS0 := HQ.out _ ((Frm.refl (w.heap.size ≤ ·) wr).drew)
        refine AnyTill.take (n := 33) (i := 0) (oi := _) (v := .pointer (some ⟨b1, 0, none⟩)) rfl (by kernel_rfl) (by kernel_rfl) (by kernel_rfl) (by kernel_rfl) (fun _ _ _ h => h) (Or.inl ⟨by rfl, fun w' hw' => ?_⟩) hS0 ?_
        · obtain ⟨g1, g2⟩ := hw'
          go_simp
        try simp only [Act.put, List.setIfInBounds_toArray, List.set_cons_zero, List.set_cons_succ]
        refine AnyTill.take (n := 32) (i := 1) (oi := _) (v := .slice (some ⟨ga, oa, none⟩) l.length c1) rfl (by kernel_rfl) (by kernel_rfl) (by kernel_rfl) (by kernel_rfl) (fun _ _ _ h => h) (Or.inl ⟨by rfl, fun w' hw' => ?_⟩) hS0 ?_
        · obtain ⟨g1, g2⟩ := hw'
          go_simp
        try simp only [Act.put, List.setIfInBounds_toArray, List.set_cons_zero, List.set_cons_succ]
        refine AnyTill.take (n := 31) (i := 2) (oi := _) (v := .int .i64 k) rfl (by kernel_rfl) (by kernel_rfl) (by kernel_rfl) (by kernel_rfl) (fun _ _ _ h => h) (Or.inl ⟨by rfl, fun w' hw' => ?_⟩) hS0 ?_
        · obtain ⟨g1, g2⟩ := hw'
          go_simp
        try simp only [Act.put, List.setIfInBounds_toArray, List.set_cons_zero, List.set_cons_succ]
        refine AnyTill.take (n := 30) (i := 3) (oi := _) (v := .pointer (some ⟨ga, oa + k * 3, none⟩)) rfl (by kernel_rfl) (by kernel_rfl) (by kernel_rfl) (by kernel_rfl) (fun _ _ _ h => h) (Or.inl ⟨by rfl, fun w' hw' => ?_⟩) hS0 ?_
        · obtain ⟨g1, g2⟩ := hw'
          go_simp
        try simp only [Act.put, List.setIfInBounds_toArray, List.set_cons_zero, List.set_cons_succ]
        refine AnyTill.take (n := 29) (i := 4) (oi := _) (v := .pointer (some ⟨ga, oa + k * 3 + 1, none⟩)) rfl (by kernel_rfl) (by kernel_rfl) (by kernel_rfl) (by kernel_rfl) (fun _ _ _ h => h) (Or.inl ⟨by rfl, fun w' hw' => ?_⟩) hS0 ?_
        · obtain ⟨g1, g2⟩ := hw'
          go_simp
        try simp only [Act.put, List.setIfInBounds_toArray, List.set_cons_zero, List.set_cons_succ]
        refine AnyTill.take (n := 28) (i := 5) (oi := _) (v := .int .i64 ar) rfl (by kernel_rfl) (by kernel_rfl) (by kernel_rfl) (by kernel_rfl) (fun _ _ _ h => h) (Or.inl ⟨by rfl, fun w' hw' => ?_⟩) hS0 ?_
        · obtain ⟨g1, g2⟩ := hw'
          go_simp
        try simp only [Act.put, List.setIfInBounds_toArray, List.set_cons_zero, List.set_cons_succ]
        refine AnyTill.take (n := 27) (i := 6) (oi := _) (v := .slice (some ⟨ga, oa, none⟩) l.length c1) rfl (by kernel_rfl) (by kernel_rfl) (by kernel_rfl) (by kernel_rfl) (fun _ _ _ h => h) (Or.inl ⟨by rfl, fun w' hw' => ?_⟩) hS0 ?_
        · obtain ⟨g1, g2⟩ := hw'
          go_simp
        try simp only [Act.put, List.setIfInBounds_toArray, List.set_cons_zero, List.set_cons_succ]
        refine AnyTill.take (n := 26) (i := 7) (oi := _) (v := .int .i64 k) rfl (by kernel_rfl) (by kernel_rfl) (by kernel_rfl) (by kernel_rfl) (fun _ _ _ h => h) (Or.inl ⟨by rfl, fun w' hw' => ?_⟩) hS0 ?_
        · obtain ⟨g1, g2⟩ := hw'
          go_simp
        try simp only [Act.put, List.setIfInBounds_toArray, List.set_cons_zero, List.set_cons_succ]
        refine AnyTill.take (n := 25) (i := 8) (oi := _) (v := .pointer (some ⟨ga, oa + k * 3, none⟩)) rfl (by kernel_rfl) (by kernel_rfl) (by kernel_rfl) (by kernel_rfl) (fun _ _ _ h => h) (Or.inl ⟨by rfl, fun w' hw' => ?_⟩) hS0 ?_
        · obtain ⟨g1, g2⟩ := hw'
          go_simp
        try simp only [Act.put, List.setIfInBounds_toArray, List.set_cons_zero, List.set_cons_succ]
        refine AnyTill.take (n := 24) (i := 9) (oi := _) (v := .pointer (some ⟨ga, oa + k * 3 + 2, none⟩)) rfl (by kernel_rfl) (by kernel_rfl) (by kernel_rfl) (by kernel_rfl) (fun _ _ _ h => h) (Or.inl ⟨by rfl, fun w' hw' => ?_⟩) hS0 ?_
        · obtain ⟨g1, g2⟩ := hw'
          go_simp
        try simp only [Act.put, List.setIfInBounds_toArray, List.set_cons_zero, List.set_cons_succ]
        refine AnyTill.take (n := 23) (i := 10) (oi := _) (v := .int .i64 le) rfl (by kernel_rfl) (by kernel_rfl) (by kernel_rfl) (by kernel_rfl) (fun _ _ _ h => h) (Or.inl ⟨by rfl, fun w' hw' => ?_⟩) hS0 ?_
        · obtain ⟨g1, g2⟩ := hw'
          go_simp
        try simp only [Act.put, List.setIfInBounds_toArray, List.set_cons_zero, List.set_cons_succ]
        refine AnyTill.take (n := 22) (i := 12) (oi := _) (v := .pointer (some ⟨b2, 0, none⟩)) rfl (by kernel_rfl) (by kernel_rfl) (by kernel_rfl) (by kernel_rfl) (fun _ _ _ h => h) (Or.inl ⟨by rfl, fun w' hw' => ?_⟩) hS0 ?_
        · obtain ⟨g1, g2⟩ := hw'
          go_simp
        try simp only [Act.put, List.setIfInBounds_toArray, List.set_cons_zero, List.set_cons_succ]
        refine AnyTill.take (n := 21) (i := 13) (oi := _) (v := .slice (some ⟨ga, oa, none⟩) l.length c1) rfl (by kernel_rfl) (by kernel_rfl) (by kernel_rfl) (by kernel_rfl) (fun _ _ _ h => h) (Or.inl ⟨by rfl, fun w' hw' => ?_⟩) hS0 ?_
        · obtain ⟨g1, g2⟩ := hw'
          go_simp
        try simp only [Act.put, List.setIfInBounds_toArray, List.set_cons_zero, List.set_cons_succ]
        refine AnyTill.take (n := 20) (i := 14) (oi := _) (v := .int .i64 k) rfl (by kernel_rfl) (by kernel_rfl) (by kernel_rfl) (by kernel_rfl) (fun _ _ _ h => h) (Or.inl ⟨by rfl, fun w' hw' => ?_⟩) hS0 ?_
        · obtain ⟨g1, g2⟩ := hw'
          go_simp
        try simp only [Act.put, List.setIfInBounds_toArray, List.set_cons_zero, List.set_cons_succ]
        refine AnyTill.take (n := 19) (i := 15) (oi := _) (v := .pointer (some ⟨ga, oa + k * 3, none⟩)) rfl (by kernel_rfl) (by kernel_rfl) (by kernel_rfl) (by kernel_rfl) (fun _ _ _ h => h) (Or.inl ⟨by rfl, fun w' hw' => ?_⟩) hS0 ?_
        · obtain ⟨g1, g2⟩ := hw'
          go_simp
        try simp only [Act.put, List.setIfInBounds_toArray, List.set_cons_zero, List.set_cons_succ]
        refine AnyTill.take (n := 18) (i := 16) (oi := _) (v := .pointer (some ⟨ga, oa + k * 3 + 1, none⟩)) rfl (by kernel_rfl) (by kernel_rfl) (by kernel_rfl) (by kernel_rfl) (fun _ _ _ h => h) (Or.inl ⟨by rfl, fun w' hw' => ?_⟩) hS0 ?_
        · obtain ⟨g1, g2⟩ := hw'
          go_simp
        try simp only [Act.put, List.setIfInBounds_toArray, List.set_cons_zero, List.set_cons_succ]
        refine AnyTill.take (n := 17) (i := 17) (oi := _) (v := .int .i64 ar) rfl (by kernel_rfl) (by kernel_rfl) (by kernel_rfl) (by kernel_rfl) (fun _ _ _ h => h) (Or.inl ⟨by rfl, fun w' hw' => ?_⟩) hS0 ?_
        · obtain ⟨g1, g2⟩ := hw'
          go_simp
        try simp only [Act.put, List.setIfInBounds_toArray, List.set_cons_zero, List.set_cons_succ]
        refine AnyTill.take (n := 16) (i := 18) (oi := _) (v := .slice (some ⟨ga, oa, none⟩) l.length c1) rfl (by kernel_rfl) (by kernel_rfl) (by kernel_rfl) (by kernel_rfl) (fun _ _ _ h => h) (Or.inl ⟨by rfl, fun w' hw' => ?_⟩) hS0 ?_
        · obtain ⟨g1, g2⟩ := hw'
          go_simp
        try simp only [Act.put, List.setIfInBounds_toArray, List.set_cons_zero, List.set_cons_succ]
        refine AnyTill.take (n := 15) (i := 19) (oi := _) (v := .int .i64 k) rfl (by kernel_rfl) (by kernel_rfl) (by kernel_rfl) (by kernel_rfl) (fun _ _ _ h => h) (Or.inl ⟨by rfl, fun w' hw' => ?_⟩) hS0 ?_
        · obtain ⟨g1, g2⟩ := hw'
          go_simp
        try simp only [Act.put, List.setIfInBounds_toArray, List.set_cons_zero, List.set_cons_succ]
        refine AnyTill.take (n := 14) (i := 20) (oi := _) (v := .pointer (some ⟨ga, oa + k * 3, none⟩)) rfl (by kernel_rfl) (by kernel_rfl) (by kernel_rfl) (by kernel_rfl) (fun _ _ _ h => h) (Or.inl ⟨by rfl, fun w' hw' => ?_⟩) hS0 ?_
        · obtain ⟨g1, g2⟩ := hw'
          go_simp
        try simp only [Act.put, List.setIfInBounds_toArray, List.set_cons_zero, List.set_cons_succ]
        refine AnyTill.take (n := 13) (i := 21) (oi := _) (v := .pointer (some ⟨ga, oa + k * 3 + 2, none⟩)) rfl (by kernel_rfl) (by kernel_rfl) (by kernel_rfl) (by kernel_rfl) (fun _ _ _ h => h) (Or.inl ⟨by rfl, fun w' hw' => ?_⟩) hS0 ?_
        · obtain ⟨g1, g2⟩ := hw'
          go_simp
        try simp only [Act.put, List.setIfInBounds_toArray, List.set_cons_zero, List.set_cons_succ]
        refine AnyTill.take (n := 12) (i := 22) (oi := _) (v := .int .i64 le) rfl (by kernel_rfl) (by kernel_rfl) (by kernel_rfl) (by kernel_rfl) (fun _ _ _ h => h) (Or.inl ⟨by rfl, fun w' hw' => ?_⟩) hS0 ?_
        · obtain ⟨g1, g2⟩ := hw'
          go_simp
        try simp only [Act.put, List.setIfInBounds_toArray, List.set_cons_zero, List.set_cons_succ]
        refine AnyTill.one_go (n := 11) (i := 11) (by kernel_rfl) rfl (by rfl) (fun K hK => ?_)
        have HK := hid hK
        clear hK
        go_simp
        go_at_call 35
        refine HWr.out.mono ?_
        rintro e w4 ⟨rfl, hb4, hf4⟩
        have H4 : Hid (Both (w.heap.size ≤ ·) w.heap.size w4 b1 b2 (N + 2) (d.swrite ar le).2 d ∧ Frm (w.heap.size ≤ ·) wr w4) := hid ⟨hb4, ((Frm.refl _ wr).drew).trans hf4⟩
        have HWr2 := hid (br_SWrite H4.out.1 (fun k hk => Nat.le_trans hBs (Nat.le_trans H4.out.2.size hk)) (Nat.le_trans hBs H4.out.2.size) (by omega) (by have := Hdn.out.1; omega) Hdn.out.2 ar le)
        clear hb4 hf4
        have hS1 := HQ.out w4 H4.out.2
        refine HK.out _ _ (fun _ => hS1) ?_
        clear HK
        try simp only [Act.put, List.setIfInBounds_toArray, List.set_cons_zero, List.set_cons_succ]
        refine AnyTill.one_go (n := 10) (i := 23) (by kernel_rfl) rfl (by rfl) (fun K hK => ?_)
        have HK := hid hK
        clear hK
        go_simp
        go_at_call 37
        refine HWr2.out.mono ?_
        rintro e w5 ⟨rfl, hb5, hf5⟩
        have H5 : Hid (Both (w.heap.size ≤ ·) w.heap.size w5 b1 b2 (N + 2 + 2) (d.swrite ar le).2 (d.swrite ar le).2 ∧ Frm (w.heap.size ≤ ·) wr w5) := hid ⟨hb5, H4.out.2.trans hf5⟩
        obtain ⟨f3, f4, AW, cW, f1⟩ := br_cells hb5
        clear hb5 hf5 f3 f1
        have hS2 := HQ.out w5 H5.out.2
        have HDn := hid (bd_Down H5.out.1)
        refine HK.out _ _ (fun _ => hS2) ?_
        clear HK
        try simp only [Act.put, List.setIfInBounds_toArray, List.set_cons_zero, List.set_cons_succ]
        generalize hdn : (d.swrite ar le).2.down = dn at f4 HDn
        have Hdn5 := hid hdn
        clear hdn
        refine AnyTill.take (n := 9) (i := 24) (oi := _) (v := .bool false) rfl (by kernel_rfl) (by kernel_rfl) (by kernel_rfl) (by kernel_rfl) (fun _ _ _ h => h) (Or.inl ⟨by rfl, fun w' hw' => ?_⟩) hS2 ?_
        · obtain ⟨g1, g2⟩ := hw'
          go_simp
        try simp only [Act.put, List.setIfInBounds_toArray, List.set_cons_zero, List.set_cons_succ]
        refine AnyTill.take (n := 8) (i := 25) (oi := _) (v := .bool false) rfl (by kernel_rfl) (by kernel_rfl) (by kernel_rfl) (by kernel_rfl) (fun _ _ _ h => h) (Or.inl ⟨by rfl, fun w' hw' => ?_⟩) hS2 ?_
        · obtain ⟨g1, g2⟩ := hw'
          go_simp
        try simp only [Act.put, List.setIfInBounds_toArray, List.set_cons_zero, List.set_cons_succ]
        refine AnyTill.take (n := 7) (i := 26) (oi := _) (v := .pointer (some ⟨b1, 0, none⟩)) rfl (by kernel_rfl) (by kernel_rfl) (by kernel_rfl) (by kernel_rfl) (fun _ _ _ h => h) (Or.inl ⟨by rfl, fun w' hw' => ?_⟩) hS2 ?_
        · obtain ⟨g1, g2⟩ := hw'
          go_simp
        try simp only [Act.put, List.setIfInBounds_toArray, List.set_cons_zero, List.set_cons_succ]
        refine AnyTill.take (n := 6) (i := 28) (oi := _) (v := .pointer (some ⟨b2, 0, none⟩)) rfl (by kernel_rfl) (by kernel_rfl) (by kernel_rfl) (by kernel_rfl) (fun _ _ _ h => h) (Or.inl ⟨by rfl, fun w' hw' => ?_⟩) hS2 ?_
        · obtain ⟨g1, g2⟩ := hw'
          go_simp
        try simp only [Act.put, List.setIfInBounds_toArray, List.set_cons_zero, List.set_cons_succ]
        refine AnyTill.take (n := 5) (i := 29) (oi := _) (v := .pointer (some ⟨b2, 0, none⟩)) rfl (by kernel_rfl) (by kernel_rfl) (by kernel_rfl) (by kernel_rfl) (fun _ _ _ h => h) (Or.inl ⟨by rfl, fun w' hw' => ?_⟩) hS2 ?_
        · obtain ⟨g1, g2⟩ := hw'
          go_simp
        try simp only [Act.put, List.setIfInBounds_toArray, List.set_cons_zero, List.set_cons_succ]
        refine AnyTill.take (n := 4) (i := 30) (oi := _) (v := .pointer (some ⟨b2, 4, none⟩)) rfl (by kernel_rfl) (by kernel_rfl) (by kernel_rfl) (by kernel_rfl) (fun _ _ _ h => h) (Or.inl ⟨by rfl, fun w' hw' => ?_⟩) hS2 ?_
        · obtain ⟨g1, g2⟩ := hw'
          go_simp
        try simp only [Act.put, List.setIfInBounds_toArray, List.set_cons_zero, List.set_cons_succ]
        refine AnyTill.two_go (n := 3) (i := 27) (j := 31) (by kernel_rfl) rfl rfl (by rfl) (by rfl) (fun K hK => ?_) (fun K hK => ?_)
        · have HK := hid hK
          clear hK
          go_simp
          go_at_call 26
          refine HDn.out.mono ?_
          rintro e w' ⟨rfl, rfl⟩
          refine HK.out _ _ (fun _ => hS2) ?_
          clear HK
          try simp only [Act.put, List.setIfInBounds_toArray, List.set_cons_zero, List.set_cons_succ]
          refine AnyTill.one_go (n := 2) (i := 31) (by kernel_rfl) rfl (by rfl) (fun K hK => ?_)
          have HK := hid hK
          clear hK
          go_simp
          refine HK.out _ _ (fun _ => hS2) ?_
          clear HK
          try simp only [Act.put, List.setIfInBounds_toArray, List.set_cons_zero, List.set_cons_succ]
          refine AnyTill.one_go (n := 1) (i := 32) (by kernel_rfl) rfl (by rfl) (fun K hK => ?_)
          have HK := hid hK
          clear hK
          go_simp
          refine HK.out _ _ (fun _ => hS2) ?_
          clear HK
          try simp only [Act.put, List.setIfInBounds_toArray, List.set_cons_zero, List.set_cons_succ]
          refine AnyTill.one_go (n := 0) (i := 33) (by kernel_rfl) rfl (by rfl) (fun K hK => ?_)
          have HK := hid hK
          clear hK
          go_simp
          refine HK.out _ _ (fun _ => hS2) ?_
          clear HK
          try simp only [Act.put, List.setIfInBounds_toArray, List.set_cons_zero, List.set_cons_succ]
          refine AnyTill.over (by kernel_rfl) ?_
          have Hn5 : Hid ((d.swrite ar le).2.n = r + 1) := hid (HwN.out.trans Hdn.out.1)
          clear hS0 hS1 hS2 HWr HWr2 HQ q1' q2' f4
          generalize (d.swrite ar le).2 = d5 at H5 Hn5 Hdn5
          go_wp2_with fail
          refine HDn.out.mono ?_
          rintro e w' ⟨rfl, rfl⟩
          cases dn with
          | false =>
            have Hpo := hid (bd_Power H5.out.1)
            go_wp2_with fail
            refine Hpo.out.mono ?_
            rintro e w7 ⟨rfl, hb7, hf7⟩
            obtain ⟨⟨u, p4⟩, z4, hb8, hf8⟩ := br_Power hb7
            have H8 : Hid (Both (w.heap.size ≤ ·) w.heap.size (w7.setCell ⟨b2, 4, none⟩ (.bool false)) b1 b2 (N + 2 + 2) { d5 with down := false } { d5 with down := false } ∧ Frm (w.heap.size ≤ ·) wr (w7.setCell ⟨b2, 4, none⟩ (.bool false))) := hid ⟨hb8, (H5.out.2.trans hf7).trans hf8⟩
            clear hb7 hf7 hb8 hf8 Hpo
            go_wp2_with fail
            clear p4 z4
            have Hdn6 : Hid (({ d5 with down := false } : Dk).n = r + 1 ∧ ({ d5 with down := false } : Dk).down = false) := hid ⟨Hn5.out, rfl⟩
            generalize hd6 : ({ d5 with down := false } : Dk) = d6 at H8 Hdn6
            generalize hw8 : w7.setCell ⟨b2, 4, none⟩ (.bool false) = w8 at H8 ⊢
            clear hw8 hd6
            have HNr := hid (show newR d6 = if (newest d6).2 < 0 then (Sup.zero, 0, 7) else ((newest d6).1, (newest d6).2, 0) from by unfold newR; rw [Hdn6.out.2, if_neg (by decide)])
            have HNw := hid (bd_SNewest H8.out.1 (by omega))
            have HNq := hid (fun w' (hf : Nul w8 w') => br_SNewest (H8.out.1.nul hf) (by omega) (by have := Hdn6.out.1; omega) Hdn6.out.2)
            have hin := newest_in d6
            rw [HNr.out] at HNw
            clear HNr
            obtain ⟨st, hst⟩ : ∃ st, newest d6 = st := ⟨_, rfl⟩
            rw [hst] at hin HNw HNq
            clear hst
            obtain ⟨⟨g, sa, sl⟩, at_⟩ := st
            simp only at hin
            by_cases hat : at_ < 0
            · rw [if_pos hat] at HNw
              have hz : Sup.zero = ⟨g, sa, sl⟩ := by
                rcases hin with ⟨_, h⟩ | ⟨h, _⟩
                · exact h.symm
                · omega
              rw [hz] at HNw
              have e3 : decide (at_ < 0) = true := decide_eq_true hat
              have e4 : decide (0 ≤ at_) = false := decide_eq_false (by omega)
              clear hin hz hat
              simp only [supV] at HNw HNq
              have hne : ∀ w, (binOp .neq 53 (.agg #[.int .u64 (g : Int), .int .i64 (sa : Int), .int .i64 (sl : Int)]) (.agg #[.int .u64 (g : Int), .int .i64 (sa : Int), .int .i64 (sl : Int)])).run Try.prog w = .ok (.bool false) w := fun w => by rw [sup_neq]; simp
              go_wp2_with fail
              refine HNw.out.mono ?_
              rintro e w9 ⟨rfl, hf9⟩
              have HBs := hid (Blk.new w9 53 [.int .u64 (g : Int), .int .i64 (sa : Int), .int .i64 (sl : Int)])
              have H9 := hid (hf9.alloc (.cells #[.int .u64 (g : Int), .int .i64 (sa : Int), .int .i64 (sl : Int)] 53))
              clear hf9
              go_wp2_with fail
              refine (HNq.out _ H9.out).mono ?_
              rintro e w10 ⟨rfl, hf10⟩
              have hbs := HBs.out.nul hf10
              have s0 : w10.cell? ⟨w9.heap.size, 0, none⟩ = some (.int .u64 (g : Int)) := hbs.cell 0
              have s1 : w10.cell? ⟨w9.heap.size, 1, none⟩ = some (.int .i64 (sa : Int)) := hbs.cell 1
              have s2 : w10.cell? ⟨w9.heap.size, 2, none⟩ = some (.int .i64 (sl : Int)) := hbs.cell 2
              have s3 : w9.heap.size < w10.heap.size := hbs.lt
              have H10 := hid (H9.out.nul hf10)
              clear hf10 hbs
              go_wp2_with fail
              go_roundg (gk - 1)
              case rel =>
                have hal : Nul w8 (w10.alloc (.cells #[.int .u64 (g : Int), .int .i64 (sa : Int), .int .i64 (sl : Int)] 53)) := H10.out.alloc _
                exact ⟨k + 1, N + 2 + 2, d6, by have := Hk.out; omega, by omega, by go_num, by omega, Hdn6.out.1, Hdn6.out.2, H8.out.1.nul hal, HV.out.2.news (H8.out.2.nul hal)⟩
              case measure => have := Hk.out; omega
            · rw [if_neg hat] at HNw
              have e3 : decide (at_ < 0) = false := decide_eq_false hat
              have e4 : decide (0 ≤ at_) = true := decide_eq_true (by omega)
              clear hin hat
              simp only [supV] at HNw HNq
              have hne : ∀ w, (binOp .neq 53 (.agg #[.int .u64 (g : Int), .int .i64 (sa : Int), .int .i64 (sl : Int)]) (.agg #[.int .u64 (g : Int), .int .i64 (sa : Int), .int .i64 (sl : Int)])).run Try.prog w = .ok (.bool false) w := fun w => by rw [sup_neq]; simp
              go_wp2_with fail
              refine HNw.out.mono ?_
              rintro e w9 ⟨rfl, hf9⟩
              have HBs := hid (Blk.new w9 53 [.int .u64 (g : Int), .int .i64 (sa : Int), .int .i64 (sl : Int)])
              have H9 := hid (hf9.alloc (.cells #[.int .u64 (g : Int), .int .i64 (sa : Int), .int .i64 (sl : Int)] 53))
              clear hf9
              go_wp2_with fail
              refine (HNq.out _ H9.out).mono ?_
              rintro e w10 ⟨rfl, hf10⟩
              have hbs := HBs.out.nul hf10
              have s0 : w10.cell? ⟨w9.heap.size, 0, none⟩ = some (.int .u64 (g : Int)) := hbs.cell 0
              have s1 : w10.cell? ⟨w9.heap.size, 1, none⟩ = some (.int .i64 (sa : Int)) := hbs.cell 1
              have s2 : w10.cell? ⟨w9.heap.size, 2, none⟩ = some (.int .i64 (sl : Int)) := hbs.cell 2
              have s3 : w9.heap.size < w10.heap.size := hbs.lt
              have H10 := hid (H9.out.nul hf10)
              clear hf10 hbs
              go_wp2_with fail
              go_roundg (gk - 1)
              case rel =>
                have hal : Nul w8 (w10.alloc (.cells #[.int .u64 (g : Int), .int .i64 (sa : Int), .int .i64 (sl : Int)] 53)) := H10.out.alloc _
                exact ⟨k + 1, N + 2 + 2, d6, by have := Hk.out; omega, by omega, by go_num, by omega, Hdn6.out.1, Hdn6.out.2, H8.out.1.nul hal, HV.out.2.news (H8.out.2.nul hal)⟩
              case measure => have := Hk.out; omega
          | true =>
            have hnr : newR d5 = (Sup.zero, 0, 12) := by unfold newR; rw [Hdn5.out, if_pos rfl]
            have hsw : d5.swrite 0 0 = (12, d5) := by unfold Dk.swrite; rw [Hdn5.out, if_pos rfl]
            have HN0 := hid (bd_SNewest H5.out.1 (by omega))
            rw [hnr] at HN0
            simp only [supV, Sup.zero] at HN0
            have Hsw := hid hsw
            clear hnr hsw
            go_wp2_with fail
            refine HN0.out.mono ?_
            rintro e w6 ⟨rfl, hf6⟩
            have hal6 := hf6.alloc (.cells #[.int .u64 ((0 : Nat) : Int), .int .i64 ((0 : Nat) : Int), .int .i64 ((0 : Nat) : Int)] 53)
            have H6 := hid (And.intro (H5.out.1.nul hal6) (H5.out.2.nul hal6))
            have HW6 := hid (bd_SWrite H6.out.1 (fun k hk => Nat.le_trans hBs (Nat.le_trans H6.out.2.size hk)) (Nat.le_trans hBs H6.out.2.size) (by omega) 0 0)
            rw [Hsw.out] at HW6
            clear hf6 hal6
            go_wp2_with fail
            refine HW6.out.mono ?_
            rintro e w61 ⟨rfl, hb61, hf61⟩
            have H61 := hid (And.intro hb61 (H6.out.2.trans hf61))
            clear hb61 hf61 HW6
            have Hpo := hid (bd_Power H61.out.1)
            go_wp2_with fail
            refine Hpo.out.mono ?_
            rintro e w7 ⟨rfl, hb7, hf7⟩
            obtain ⟨⟨u, p4⟩, z4, hb8, hf8⟩ := br_Power hb7
            have H8 : Hid (Both (w.heap.size ≤ ·) w.heap.size (w7.setCell ⟨b2, 4, none⟩ (.bool false)) b1 b2 (N + 2 + 2 + 2) { d5 with down := false } { d5 with down := false } ∧ Frm (w.heap.size ≤ ·) wr (w7.setCell ⟨b2, 4, none⟩ (.bool false))) := hid ⟨hb8, (H61.out.2.trans hf7).trans hf8⟩
            clear hb7 hf7 hb8 hf8 Hpo
            go_wp2_with fail
            clear p4 z4
            have Hdn6 : Hid (({ d5 with down := false } : Dk).n = r + 1 ∧ ({ d5 with down := false } : Dk).down = false) := hid ⟨Hn5.out, rfl⟩
            generalize hd6 : ({ d5 with down := false } : Dk) = d6 at H8 Hdn6
            generalize hw8 : w7.setCell ⟨b2, 4, none⟩ (.bool false) = w8 at H8 ⊢
            clear hw8 hd6
            have HNr := hid (show newR d6 = if (newest d6).2 < 0 then (Sup.zero, 0, 7) else ((newest d6).1, (newest d6).2, 0) from by unfold newR; rw [Hdn6.out.2, if_neg (by decide)])
            have HNw := hid (bd_SNewest H8.out.1 (by omega))
            have HNq := hid (fun w' (hf : Nul w8 w') => br_SNewest (H8.out.1.nul hf) (by omega) (by have := Hdn6.out.1; omega) Hdn6.out.2)
            have hin := newest_in d6
            rw [HNr.out] at HNw
            clear HNr
            obtain ⟨st, hst⟩ : ∃ st, newest d6 = st := ⟨_, rfl⟩
            rw [hst] at hin HNw HNq
            clear hst
            obtain ⟨⟨g, sa, sl⟩, at_⟩ := st
            simp only at hin
            by_cases hat : at_ < 0
            · rw [if_pos hat] at HNw
              have hz : Sup.zero = ⟨g, sa, sl⟩ := by
                rcases hin with ⟨_, h⟩ | ⟨h, _⟩
                · exact h.symm
                · omega
              rw [hz] at HNw
              have e3 : decide (at_ < 0) = true := decide_eq_true hat
              have e4 : decide (0 ≤ at_) = false := decide_eq_false (by omega)
              clear hin hz hat
              simp only [supV] at HNw HNq
              have hne : ∀ w, (binOp .neq 53 (.agg #[.int .u64 (g : Int), .int .i64 (sa : Int), .int .i64 (sl : Int)]) (.agg #[.int .u64 (g : Int), .int .i64 (sa : Int), .int .i64 (sl : Int)])).run Try.prog w = .ok (.bool false) w := fun w => by rw [sup_neq]; simp
              go_wp2_with fail
              refine HNw.out.mono ?_
              rintro e w9 ⟨rfl, hf9⟩
              have HBs := hid (Blk.new w9 53 [.int .u64 (g : Int), .int .i64 (sa : Int), .int .i64 (sl : Int)])
              have H9 := hid (hf9.alloc (.cells #[.int .u64 (g : Int), .int .i64 (sa : Int), .int .i64 (sl : Int)] 53))
              clear hf9
              go_wp2_with fail
              refine (HNq.out _ H9.out).mono ?_
              rintro e w10 ⟨rfl, hf10⟩
              have hbs := HBs.out.nul hf10
              have s0 : w10.cell? ⟨w9.heap.size, 0, none⟩ = some (.int .u64 (g : Int)) := hbs.cell 0
              have s1 : w10.cell? ⟨w9.heap.size, 1, none⟩ = some (.int .i64 (sa : Int)) := hbs.cell 1
              have s2 : w10.cell? ⟨w9.heap.size, 2, none⟩ = some (.int .i64 (sl : Int)) := hbs.cell 2
              have s3 : w9.heap.size < w10.heap.size := hbs.lt
              have H10 := hid (H9.out.nul hf10)
              clear hf10 hbs
              go_wp2_with fail
              go_roundg (gk - 1)
              case rel =>
                have hal : Nul w8 (w10.alloc (.cells #[.int .u64 (g : Int), .int .i64 (sa : Int), .int .i64 (sl : Int)] 53)) := H10.out.alloc _
                exact ⟨k + 1, N + 2 + 2 + 2, d6, by have := Hk.out; omega, by omega, by go_num, by omega, Hdn6.out.1, Hdn6.out.2, H8.out.1.nul hal, HV.out.2.news (H8.out.2.nul hal)⟩
              case measure => have := Hk.out; omega
            · rw [if_neg hat] at HNw
              have e3 : decide (at_ < 0) = false := decide_eq_false hat
              have e4 : decide (0 ≤ at_) = true := decide_eq_true (by omega)
              clear hin hat
              simp only [supV] at HNw HNq
              have hne : ∀ w, (binOp .neq 53 (.agg #[.int .u64 (g : Int), .int .i64 (sa : Int), .int .i64 (sl : Int)]) (.agg #[.int .u64 (g : Int), .int .i64 (sa : Int), .int .i64 (sl : Int)])).run Try.prog w = .ok (.bool false) w := fun w => by rw [sup_neq]; simp
              go_wp2_with fail
              refine HNw.out.mono ?_
              rintro e w9 ⟨rfl, hf9⟩
              have HBs := hid (Blk.new w9 53 [.int .u64 (g : Int), .int .i64 (sa : Int), .int .i64 (sl : Int)])
              have H9 := hid (hf9.alloc (.cells #[.int .u64 (g : Int), .int .i64 (sa : Int), .int .i64 (sl : Int)] 53))
              clear hf9
              go_wp2_with fail
              refine (HNq.out _ H9.out).mono ?_
              rintro e w10 ⟨rfl, hf10⟩
              have hbs := HBs.out.nul hf10
              have s0 : w10.cell? ⟨w9.heap.size, 0, none⟩ = some (.int .u64 (g : Int)) := hbs.cell 0
              have s1 : w10.cell? ⟨w9.heap.size, 1, none⟩ = some (.int .i64 (sa : Int)) := hbs.cell 1
              have s2 : w10.cell? ⟨w9.heap.size, 2, none⟩ = some (.int .i64 (sl : Int)) := hbs.cell 2
              have s3 : w9.heap.size < w10.heap.size := hbs.lt
              have H10 := hid (H9.out.nul hf10)
              clear hf10 hbs
              go_wp2_with fail
              go_roundg (gk - 1)
              case rel =>
                have hal : Nul w8 (w10.alloc (.cells #[.int .u64 (g : Int), .int .i64 (sa : Int), .int .i64 (sl : Int)] 53)) := H10.out.alloc _
                exact ⟨k + 1, N + 2 + 2 + 2, d6, by have := Hk.out; omega, by omega, by go_num, by omega, Hdn6.out.1, Hdn6.out.2, H8.out.1.nul hal, HV.out.2.news (H8.out.2.nul hal)⟩
              case measure => have := Hk.out; omega
        · have HK := hid hK
          clear hK
          go_simp
          refine HK.out _ _ (fun _ => hS2) ?_
          clear HK
          try simp only [Act.put, List.setIfInBounds_toArray, List.set_cons_zero, List.set_cons_succ]
          refine AnyTill.one_go (n := 2) (i := 27) (by kernel_rfl) rfl (by rfl) (fun K hK => ?_)
          have HK := hid hK
          clear hK
          go_simp
          go_at_call 26
          refine HDn.out.mono ?_
          rintro e w' ⟨rfl, rfl⟩
          refine HK.out _ _ (fun _ => hS2) ?_
          clear HK
          try simp only [Act.put, List.setIfInBounds_toArray, List.set_cons_zero, List.set_cons_succ]
          refine AnyTill.one_go (n := 1) (i := 32) (by kernel_rfl) rfl (by rfl) (fun K hK => ?_)
          have HK := hid hK
          clear hK
          go_simp
          refine HK.out _ _ (fun _ => hS2) ?_
          clear HK
          try simp only [Act.put, List.setIfInBounds_toArray, List.set_cons_zero, List.set_cons_succ]
          refine AnyTill.one_go (n := 0) (i := 33) (by kernel_rfl) rfl (by rfl) (fun K hK => ?_)
          have HK := hid hK
          clear hK
          go_simp
          refine HK.out _ _ (fun _ => hS2) ?_
          clear HK
          try simp only [Act.put, List.setIfInBounds_toArray, List.set_cons_zero, List.set_cons_succ]
          refine AnyTill.over (by kernel_rfl) ?_
          have Hn5 : Hid ((d.swrite ar le).2.n = r + 1) := hid (HwN.out.trans Hdn.out.1)
          clear hS0 hS1 hS2 HWr HWr2 HQ q1' q2' f4
          generalize (d.swrite ar le).2 = d5 at H5 Hn5 Hdn5
          go_wp2_with fail
          refine HDn.out.mono ?_
          rintro e w' ⟨rfl, rfl⟩
          cases dn with
          | false =>
            have Hpo := hid (bd_Power H5.out.1)
            go_wp2_with fail
            refine Hpo.out.mono ?_
            rintro e w7 ⟨rfl, hb7, hf7⟩
            obtain ⟨⟨u, p4⟩, z4, hb8, hf8⟩ := br_Power hb7
            have H8 : Hid (Both (w.heap.size ≤ ·) w.heap.size (w7.setCell ⟨b2, 4, none⟩ (.bool false)) b1 b2 (N + 2 + 2) { d5 with down := false } { d5 with down := false } ∧ Frm (w.heap.size ≤ ·) wr (w7.setCell ⟨b2, 4, none⟩ (.bool false))) := hid ⟨hb8, (H5.out.2.trans hf7).trans hf8⟩
            clear hb7 hf7 hb8 hf8 Hpo
            go_wp2_with fail
            clear p4 z4
            have Hdn6 : Hid (({ d5 with down := false } : Dk).n = r + 1 ∧ ({ d5 with down := false } : Dk).down = false) := hid ⟨Hn5.out, rfl⟩
            generalize hd6 : ({ d5 with down := false } : Dk) = d6 at H8 Hdn6
            generalize hw8 : w7.setCell ⟨b2, 4, none⟩ (.bool false) = w8 at H8 ⊢
            clear hw8 hd6
            have HNr := hid (show newR d6 = if (newest d6).2 < 0 then (Sup.zero, 0, 7) else ((newest d6).1, (newest d6).2, 0) from by unfold newR; rw [Hdn6.out.2, if_neg (by decide)])
            have HNw := hid (bd_SNewest H8.out.1 (by omega))
            have HNq := hid (fun w' (hf : Nul w8 w') => br_SNewest (H8.out.1.nul hf) (by omega) (by have := Hdn6.out.1; omega) Hdn6.out.2)
            have hin := newest_in d6
            rw [HNr.out] at HNw
            clear HNr
            obtain ⟨st, hst⟩ : ∃ st, newest d6 = st := ⟨_, rfl⟩
            rw [hst] at hin HNw HNq
            clear hst
            obtain ⟨⟨g, sa, sl⟩, at_⟩ := st
            simp only at hin
            by_cases hat : at_ < 0
            · rw [if_pos hat] at HNw
              have hz : Sup.zero = ⟨g, sa, sl⟩ := by
                rcases hin with ⟨_, h⟩ | ⟨h, _⟩
                · exact h.symm
                · omega
              rw [hz] at HNw
              have e3 : decide (at_ < 0) = true := decide_eq_true hat
              have e4 : decide (0 ≤ at_) = false := decide_eq_false (by omega)
              clear hin hz hat
              simp only [supV] at HNw HNq
              have hne : ∀ w, (binOp .neq 53 (.agg #[.int .u64 (g : Int), .int .i64 (sa : Int), .int .i64 (sl : Int)]) (.agg #[.int .u64 (g : Int), .int .i64 (sa : Int), .int .i64 (sl : Int)])).run Try.prog w = .ok (.bool false) w := fun w => by rw [sup_neq]; simp
              go_wp2_with fail
              refine HNw.out.mono ?_
              rintro e w9 ⟨rfl, hf9⟩
              have HBs := hid (Blk.new w9 53 [.int .u64 (g : Int), .int .i64 (sa : Int), .int .i64 (sl : Int)])
              have H9 := hid (hf9.alloc (.cells #[.int .u64 (g : Int), .int .i64 (sa : Int), .int .i64 (sl : Int)] 53))
              clear hf9
              go_wp2_with fail
              refine (HNq.out _ H9.out).mono ?_
              rintro e w10 ⟨rfl, hf10⟩
              have hbs := HBs.out.nul hf10
              have s0 : w10.cell? ⟨w9.heap.size, 0, none⟩ = some (.int .u64 (g : Int)) := hbs.cell 0
              have s1 : w10.cell? ⟨w9.heap.size, 1, none⟩ = some (.int .i64 (sa : Int)) := hbs.cell 1
              have s2 : w10.cell? ⟨w9.heap.size, 2, none⟩ = some (.int .i64 (sl : Int)) := hbs.cell 2
              have s3 : w9.heap.size < w10.heap.size := hbs.lt
              have H10 := hid (H9.out.nul hf10)
              clear hf10 hbs
              go_wp2_with fail
              go_roundg (gk - 1)
              case rel =>
                have hal : Nul w8 (w10.alloc (.cells #[.int .u64 (g : Int), .int .i64 (sa : Int), .int .i64 (sl : Int)] 53)) := H10.out.alloc _
                exact ⟨k + 1, N + 2 + 2, d6, by have := Hk.out; omega, by omega, by go_num, by omega, Hdn6.out.1, Hdn6.out.2, H8.out.1.nul hal, HV.out.2.news (H8.out.2.nul hal)⟩
              case measure => have := Hk.out; omega
            · rw [if_neg hat] at HNw
              have e3 : decide (at_ < 0) = false := decide_eq_false hat
              have e4 : decide (0 ≤ at_) = true := decide_eq_true (by omega)
              clear hin hat
              simp only [supV] at HNw HNq
              have hne : ∀ w, (binOp .neq 53 (.agg #[.int .u64 (g : Int), .int .i64 (sa : Int), .int .i64 (sl : Int)]) (.agg #[.int .u64 (g : Int), .int .i64 (sa : Int), .int .i64 (sl : Int)])).run Try.prog w = .ok (.bool false) w := fun w => by rw [sup_neq]; simp
              go_wp2_with fail
              refine HNw.out.mono ?_
              rintro e w9 ⟨rfl, hf9⟩
              have HBs := hid (Blk.new w9 53 [.int .u64 (g : Int), .int .i64 (sa : Int), .int .i64 (sl : Int)])
              have H9 := hid (hf9.alloc (.cells #[.int .u64 (g : Int), .int .i64 (sa : Int), .int .i64 (sl : Int)] 53))
              clear hf9
              go_wp2_with fail
              refine (HNq.out _ H9.out).mono ?_
              rintro e w10 ⟨rfl, hf10⟩
              have hbs := HBs.out.nul hf10
              have s0 : w10.cell? ⟨w9.heap.size, 0, none⟩ = some (.int .u64 (g : Int)) := hbs.cell 0
              have s1 : w10.cell? ⟨w9.heap.size, 1, none⟩ = some (.int .i64 (sa : Int)) := hbs.cell 1
              have s2 : w10.cell? ⟨w9.heap.size, 2, none⟩ = some (.int .i64 (sl : Int)) := hbs.cell 2
              have s3 : w9.heap.size < w10.heap.size := hbs.lt
              have H10 := hid (H9.out.nul hf10)
              clear hf10 hbs
              go_wp2_with fail
              go_roundg (gk - 1)
              case rel =>
                have hal : Nul w8 (w10.alloc (.cells #[.int .u64 (g : Int), .int .i64 (sa : Int), .int .i64 (sl : Int)] 53)) := H10.out.alloc _
                exact ⟨k + 1, N + 2 + 2, d6, by have := Hk.out; omega, by omega, by go_num, by omega, Hdn6.out.1, Hdn6.out.2, H8.out.1.nul hal, HV.out.2.news (H8.out.2.nul hal)⟩
              case measure => have := Hk.out; omega
          | true =>
            have hnr : newR d5 = (Sup.zero, 0, 12) := by unfold newR; rw [Hdn5.out, if_pos rfl]
            have hsw : d5.swrite 0 0 = (12, d5) := by unfold Dk.swrite; rw [Hdn5.out, if_pos rfl]
            have HN0 := hid (bd_SNewest H5.out.1 (by omega))
            rw [hnr] at HN0
            simp only [supV, Sup.zero] at HN0
            have Hsw := hid hsw
            clear hnr hsw
            go_wp2_with fail
            refine HN0.out.mono ?_
            rintro e w6 ⟨rfl, hf6⟩
            have hal6 := hf6.alloc (.cells #[.int .u64 ((0 : Nat) : Int), .int .i64 ((0 : Nat) : Int), .int .i64 ((0 : Nat) : Int)] 53)
            have H6 := hid (And.intro (H5.out.1.nul hal6) (H5.out.2.nul hal6))
            have HW6 := hid (bd_SWrite H6.out.1 (fun k hk => Nat.le_trans hBs (Nat.le_trans H6.out.2.size hk)) (Nat.le_trans hBs H6.out.2.size) (by omega) 0 0)
            rw [Hsw.out] at HW6
            clear hf6 hal6
            go_wp2_with fail
            refine HW6.out.mono ?_
            rintro e w61 ⟨rfl, hb61, hf61⟩
            have H61 := hid (And.intro hb61 (H6.out.2.trans hf61))
            clear hb61 hf61 HW6
            have Hpo := hid (bd_Power H61.out.1)
            go_wp2_with fail
            refine Hpo.out.mono ?_
            rintro e w7 ⟨rfl, hb7, hf7⟩
            obtain ⟨⟨u, p4⟩, z4, hb8, hf8⟩ := br_Power hb7
            have H8 : Hid (Both (w.heap.size ≤ ·) w.heap.size (w7.setCell ⟨b2, 4, none⟩ (.bool false)) b1 b2 (N + 2 + 2 + 2) { d5 with down := false } { d5 with down := false } ∧ Frm (w.heap.size ≤ ·) wr (w7.setCell ⟨b2, 4, none⟩ (.bool false))) := hid ⟨hb8, (H61.out.2.trans hf7).trans hf8⟩
            clear hb7 hf7 hb8 hf8 Hpo
            go_wp2_with fail
            clear p4 z4
            have Hdn6 : Hid (({ d5 with down := false } : Dk).n = r + 1 ∧ ({ d5 with down := false } : Dk).down = false) := hid ⟨Hn5.out, rfl⟩
            generalize hd6 : ({ d5 with down := false } : Dk) = d6 at H8 Hdn6
            generalize hw8 : w7.setCell ⟨b2, 4, none⟩ (.bool false) = w8 at H8 ⊢
            clear hw8 hd6
            have HNr := hid (show newR d6 = if (newest d6).2 < 0 then (Sup.zero, 0, 7) else ((newest d6).1, (newest d6).2, 0) from by unfold newR; rw [Hdn6.out.2, if_neg (by decide)])
            have HNw := hid (bd_SNewest H8.out.1 (by omega))
            have HNq := hid (fun w' (hf : Nul w8 w') => br_SNewest (H8.out.1.nul hf) (by omega) (by have := Hdn6.out.1; omega) Hdn6.out.2)
            have hin := newest_in d6
            rw [HNr.out] at HNw
            clear HNr
            obtain ⟨st, hst⟩ : ∃ st, newest d6 = st := ⟨_, rfl⟩
            rw [hst] at hin HNw HNq
            clear hst
            obtain ⟨⟨g, sa, sl⟩, at_⟩ := st
            simp only at hin
            by_cases hat : at_ < 0
            · rw [if_pos hat] at HNw
              have hz : Sup.zero = ⟨g, sa, sl⟩ := by
                rcases hin with ⟨_, h⟩ | ⟨h, _⟩
                · exact h.symm
                · omega
              rw [hz] at HNw
              have e3 : decide (at_ < 0) = true := decide_eq_true hat
              have e4 : decide (0 ≤ at_) = false := decide_eq_false (by omega)
              clear hin hz hat
              simp only [supV] at HNw HNq
              have hne : ∀ w, (binOp .neq 53 (.agg #[.int .u64 (g : Int), .int .i64 (sa : Int), .int .i64 (sl : Int)]) (.agg #[.int .u64 (g : Int), .int .i64 (sa : Int), .int .i64 (sl : Int)])).run Try.prog w = .ok (.bool false) w := fun w => by rw [sup_neq]; simp
              go_wp2_with fail
              refine HNw.out.mono ?_
              rintro e w9 ⟨rfl, hf9⟩
              have HBs := hid (Blk.new w9 53 [.int .u64 (g : Int), .int .i64 (sa : Int), .int .i64 (sl : Int)])
              have H9 := hid (hf9.alloc (.cells #[.int .u64 (g : Int), .int .i64 (sa : Int), .int .i64 (sl : Int)] 53))
              clear hf9
              go_wp2_with fail
              refine (HNq.out _ H9.out).mono ?_
              rintro e w10 ⟨rfl, hf10⟩
              have hbs := HBs.out.nul hf10
              have s0 : w10.cell? ⟨w9.heap.size, 0, none⟩ = some (.int .u64 (g : Int)) := hbs.cell 0
              have s1 : w10.cell? ⟨w9.heap.size, 1, none⟩ = some (.int .i64 (sa : Int)) := hbs.cell 1
              have s2 : w10.cell? ⟨w9.heap.size, 2, none⟩ = some (.int .i64 (sl : Int)) := hbs.cell 2
              have s3 : w9.heap.size < w10.heap.size := hbs.lt
              have H10 := hid (H9.out.nul hf10)
              clear hf10 hbs
              go_wp2_with fail
              go_roundg (gk - 1)
              case rel =>
                have hal : Nul w8 (w10.alloc (.cells #[.int .u64 (g : Int), .int .i64 (sa : Int), .int .i64 (sl : Int)] 53)) := H10.out.alloc _
                exact ⟨k + 1, N + 2 + 2 + 2, d6, by have := Hk.out; omega, by omega, by go_num, by omega, Hdn6.out.1, Hdn6.out.2, H8.out.1.nul hal, HV.out.2.news (H8.out.2.nul hal)⟩
              case measure => have := Hk.out; omega
            · rw [if_neg hat] at HNw
              have e3 : decide (at_ < 0) = false := decide_eq_false hat
              have e4 : decide (0 ≤ at_) = true := decide_eq_true (by omega)
              clear hin hat
              simp only [supV] at HNw HNq
              have hne : ∀ w, (binOp .neq 53 (.agg #[.int .u64 (g : Int), .int .i64 (sa : Int), .int .i64 (sl : Int)]) (.agg #[.int .u64 (g : Int), .int .i64 (sa : Int), .int .i64 (sl : Int)])).run Try.prog w = .ok (.bool false) w := fun w => by rw [sup_neq]; simp
              go_wp2_with fail
              refine HNw.out.mono ?_
              rintro e w9 ⟨rfl, hf9⟩
              have HBs := hid (Blk.new w9 53 [.int .u64 (g : Int), .int .i64 (sa : Int), .int .i64 (sl : Int)])
              have H9 := hid (hf9.alloc (.cells #[.int .u64 (g : Int), .int .i64 (sa : Int), .int .i64 (sl : Int)] 53))
              clear hf9
              go_wp2_with fail
              refine (HNq.out _ H9.out).mono ?_
              rintro e w10 ⟨rfl, hf10⟩
              have hbs := HBs.out.nul hf10
              have s0 : w10.cell? ⟨w9.heap.size, 0, none⟩ = some (.int .u64 (g : Int)) := hbs.cell 0
              have s1 : w10.cell? ⟨w9.heap.size, 1, none⟩ = some (.int .i64 (sa : Int)) := hbs.cell 1
              have s2 : w10.cell? ⟨w9.heap.size, 2, none⟩ = some (.int .i64 (sl : Int)) := hbs.cell 2
              have s3 : w9.heap.size < w10.heap.size := hbs.lt
              have H10 := hid (H9.out.nul hf10)
              clear hf10 hbs
              go_wp2_with fail
              go_roundg (gk - 1)
              case rel =>
                have hal : Nul w8 (w10.alloc (.cells #[.int .u64 (g : Int), .int .i64 (sa : Int), .int .i64 (sl : Int)] 53)) := H10.out.alloc _
                exact ⟨k + 1, N + 2 + 2 + 2, d6, by have := Hk.out; omega, by omega, by go_num, by omega, Hdn6.out.1, Hdn6.out.2, H8.out.1.nul hal, HV.out.2.news (H8.out.2.nul hal)⟩
              case measure => have := Hk.out; omega
      · have e1 : decide ((k : Int) < (l.length : Int)) = true := decide_eq_true (by omega)
        have e2 : decide ((k : Int) < 30) = false := decide_eq_false (by omega)
        go_wp2_with fail
        refine (sup_Newest_nil _).mono ?_
        rintro e w7 ⟨rfl, hf7⟩
        have H7 := hid (HV.out.2.nul hf7)
        clear hf7
        go_wp2_with fail
        refine (sup_Write_nil _ _ _).mono ?_
        rintro e w8 ⟨rfl, hf8⟩
        go_wp2_with fail
        go_ret
        exact ⟨rfl, (H7.out.alloc _).nul hf8⟩
    · have e1 : decide ((k : Int) < (l.length : Int)) = false := decide_eq_false (by omega)
      go_wp2_with fail
      refine (sup_Newest_nil _).mono ?_
      rintro e w7 ⟨rfl, hf7⟩
      have H7 := hid (HV.out.2.nul hf7)
      clear hf7
      go_wp2_with fail
      refine (sup_Write_nil _ _ _).mono ?_
      rintro e w8 ⟨rfl, hf8⟩
      go_wp2_with fail
      go_ret
      exact ⟨rfl, (H7.out.alloc _).nul hf8⟩

theorem law_SuperWrites (x : Nat) (hx : x < 256) (A0 A1 : Option Addr) (c0 c1 : Nat) (cr : List (Int × List UInt8)) (l : List (Int × Int × Int)) (w : World) (hA : CrashesAt w (· < w.heap.size) A0 cr) (hB : SupsAt w w.heap.size A1 l) (hl : cr.length ≤ 9223372036854775807) (hll : l.length ≤ 9223372036854775807) :
    Calls Try.prog 8 #[.int .u8 x, .slice A0 cr.length c0, .slice A1 l.length c1] w fun e w' => e = .returned (.bool true) ∧ Nul w w' := by
  cases hlt : lightB cr with
  | false => exact swr_awake x A0 A1 c0 c1 _ cr _ w hA hl hlt
  | true => exact swr_go x _ hx rfl A0 A1 c0 c1 cr l w hA hB hl hll hlt
end Go.Proofs.Ytdpffgcekjdneaa
