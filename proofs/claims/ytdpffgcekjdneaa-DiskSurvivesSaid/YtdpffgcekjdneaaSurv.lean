/-
  Walks: the law of what survives a crash.
-/
import Derived.Test.YtdpffgcekjdneaaSurvM
import Derived.Test.YtdpffgcekjdneaaDiskDoes
import Derived.Test.YtdpffgcekjdneaaUntil
import Derived.Deep.RegionHeld3
import Derived.Deep.CutRange
import Derived.Deep.RegionLaw
set_option linter.all false
namespace Go.Proofs.Ytdpffgcekjdneaa
open Go.RowKit

set_option maxRecDepth 100000 in
set_option maxHeartbeats 2000000 in
theorem surv_awake (A0 A1 : Option Addr) (c0 c1 len : Nat) (cr : List (Int × List UInt8)) (S : Nat → Prop) (w : World) (hA : CrashesAt w S A0 cr) (hl : cr.length ≤ 9223372036854775807) (h : lightB cr = false) :
    Calls Try.prog 3 #[.slice A0 cr.length c0, .slice A1 len c1] w fun e w' => e = .returned (.bool true) ∧ Nul w w' := by
  have HL := hid (light_is S A0 c0 cr w hA hl)
  rw [h] at HL
  clear hA h
  go_enter Try.func3, Try.ntmps3
  go_wp2_with fail
  refine HL.out.mono ?_
  rintro e w1 ⟨rfl, rfl⟩
  go_wp2_with fail
  refine (awake21 _).mono ?_
  rintro e w1 ⟨rfl, hf⟩
  go_wp2_with fail
  go_ret
  exact ⟨rfl, hf⟩

/-- Is a text among these? -/
def anyEq (l : List ByteArray) (y : ByteArray) : Bool := l.any fun x => x.toList == y.toList
theorem anyEq_take (l : List ByteArray) (y : ByteArray) (j : Nat) (h : j < l.length) : anyEq (l.take (j + 1)) y = (anyEq (l.take j) y || (l[j].toList == y.toList)) := by
  unfold anyEq
  rw [List.take_succ_eq_append_getElem h, List.any_append]
  simp
theorem init_set (k : Nat) (z : ByteArray) : (fun j => if j < k + 1 then [z] else []) = setAt (fun j => if j < k then [z] else []) k [z] := by
  funext j
  show (if j < k + 1 then [z] else []) = (if j = k then [z] else if j < k then [z] else [])
  by_cases h1 : j = k
  · subst h1; simp
  · by_cases h2 : j < k
    · rw [if_pos (by omega), if_neg h1, if_pos h2]
    · rw [if_neg (by omega), if_neg h1, if_neg h2]

theorem aft_set (ms : Nat → List ByteArray) (f : Nat → ByteArray) (k : Nat) (y : ByteArray) (h : f k = y) : setAt (fun j => if j < k then [f j] else ms j) k [y] = fun j => if j < k + 1 then [f j] else ms j := by
  funext j
  show (if j = k then [y] else if j < k then [f j] else ms j) = (if j < k + 1 then [f j] else ms j)
  by_cases h1 : j = k
  · subst h1; simp [h]
  · by_cases h2 : j < k
    · rw [if_neg h1, if_pos h2, if_pos (by omega)]
    · rw [if_neg h1, if_neg h2, if_neg (by omega)]
theorem inv_congr {d : Dk} {ms ms' : Nat → List ByteArray} (h : Inv d ms) (he : ∀ k, k < 6 → ms' k = ms k) : Inv d ms' :=
  ⟨h.1, h.2.1, h.2.2.1, fun k hk => by rw [he k hk]; exact h.2.2.2 k hk⟩

set_option maxRecDepth 100000 in
set_option maxHeartbeats 8000000 in
theorem surv_go (A0 A1 : Option Addr) (c0 c1 : Nat) (cr : List (Int × List UInt8)) (l : List (Int × Int × ByteArray)) (w : World) (hA : CrashesAt w (· < w.heap.size) A0 cr) (hB : ActsAt w w.heap.size A1 l) (hl : cr.length ≤ 9223372036854775807) (hll : l.length ≤ 9223372036854775807) (hlt : lightB cr = true) :
    Calls Try.prog 3 #[.slice A0 cr.length c0, .slice A1 l.length c1] w fun e w' => e = .returned (.bool true) ∧ Nul w w' := by
  have HL := hid (light_is _ A0 c0 cr w hA hl)
  have hlb := of_decide_eq_true hlt
  rw [hlt] at HL
  have HC := hid hlb
  have HA := hid hA
  have HB := hid hB
  have HFu := hid (ref_Full ⟨#[]⟩)
  obtain ⟨i0, hi0, hz0_, hz1, hz2⟩ := info_parts Try.infoStr
  clear hA hlt hlb hB
  go_enter Try.func3, Try.ntmps3
  go_wp2_with fail
  refine HL.out.mono ?_
  rintro e w1 ⟨rfl, rfl⟩
  go_wp2_with fail
  refine (awake21 _).mono ?_
  rintro e w1 ⟨rfl, hf1⟩
  go_wp2_with fail
  refine (in_New (n := 6) (HA.out.frm hf1 (fun _ _ h => h)) (by omega) (by omega) (by have := HC.out.1; omega) (fun p hp => by have := HC.out.2 p hp; omega)).mono ?_
  rintro e w2 ⟨b, rfl, hD2, hf2⟩
  have H2 := hid (And.intro hD2 (hf1.nul hf2))
  have HW1 : Hid (w.heap.size ≤ w1.heap.size) := hid hf1.size
  clear hD2 hf1 hf2
  have hz6 : MayAt (w2.alloc (.cells #[.slice none 0 0, .slice none 0 0, .slice none 0 0, .slice none 0 0, .slice none 0 0, .slice none 0 0] 31)) w2.heap.size (fun _ => .slice none 0 0) (fun _ => []) :=
    ⟨Blk.new w2 31 [.slice none 0 0, .slice none 0 0, .slice none 0 0, .slice none 0 0, .slice none 0 0, .slice none 0 0], fun k _ => World.ownsRow_nil _ _ _ _, fun j k h _ _ e => by simp [Value.ownBlock] at e⟩
  have H3 : Hid (Surv (w.heap.size ≤ ·) (w2.alloc (.cells #[.slice none 0 0, .slice none 0 0, .slice none 0 0, .slice none 0 0, .slice none 0 0, .slice none 0 0] 31)) b 0 (dk0 6 cr) w2.heap.size (fun _ => .slice none 0 0) (fun _ => [])) := hid (by
    have hs := H2.out.2.size
    refine ⟨fun k => w.heap.size ≤ k ∧ k < w2.heap.size, (H2.out.1.mono (fun k hk h => ?_)).nul ((Frm.refl _ _).alloc _), hz6, fun k hk => ⟨hk.1, by simp; omega, by omega, fun j _ e => by simp [Value.ownBlock] at e⟩, hs, fun j k _ e => by simp [Value.ownBlock] at e⟩
    rcases h with h | h
    · exact h.elim
    · exact ⟨by have := HW1.out; omega, h.2⟩)
  clear hz6
  go_wp2_with fail
  go_loopg [8] 6 (fun m i wr => ∃ (k : Nat) (vs : Nat → Value), k + m = 6 ∧ i = .int .i64 k ∧ Surv (w.heap.size ≤ ·) wr b 0 (dk0 6 cr) w2.heap.size vs (fun j => if j < k then [fullS ⟨#[]⟩] else []) ∧ Nul w wr)
  case atStart => exact ⟨0, _, by omega, rfl, by simpa using H3.out, H2.out.2.alloc _⟩
  case round =>
    obtain ⟨k, vs, hk, rfl, hS, hN⟩ := hrel
    have Hk := hid hk
    have HS := hid (And.intro hS hN)
    clear hk
    by_cases hlt : k < 6
    · have hgl : w2.heap.size < wr.heap.size := hS.lt.1
      have hcell := hS.may.cell k hlt
      have hz : wr.frozen? ⟨w2.heap.size, k, none⟩ = false := hS.may.1.frozen k
      have Hset := hid (sv_set' HS.out.1 (fun j hj => Nat.le_trans HS.out.2.size hj) k hlt (fullS ⟨#[]⟩))
      clear hS hN
      have HFu' := HFu.out
      generalize hz0 : fullS ⟨#[]⟩ = z0 at Hset HFu'
      have Hz0 := hid hz0
      have HF2 := hid HFu'
      clear HFu' hz0
      go_wp2_with fail
      refine (HF2.out _).mono ?_
      rintro e w' ⟨rfl, rfl⟩
      go_wp2_with fail
      go_roundg (gk - 1)
      case rel =>
        have h := Hset.out.1
        rw [← init_set k z0] at h
        refine ⟨k + 1, setAt vs k (.slice (some ⟨wr.heap.size, 0, none⟩) 1 1), by have := Hk.out; omega, by go_num, ?_, HS.out.2.news Hset.out.2⟩
        rw [Hz0.out]
        exact h
      case measure => have := Hk.out; omega
    · obtain rfl : k = 6 := by have := Hk.out; omega
      clear hN
      have H4 := HS
      clear hS
      go_wp2_with fail
      go_loopg [9, 10, 11, 12, 13, 14, 15, 16] l.length (fun m i _ _ _ _ _ _ _ wr => ∃ (k N : Nat) (d : Dk) (vs : Nat → Value) (ms : Nat → List ByteArray), k + m = l.length ∧ k ≤ 50 ∧ i = .int .i64 k ∧ N ≤ k ∧ Surv (w.heap.size ≤ ·) wr b N d w2.heap.size vs ms ∧ Inv d ms ∧ (∀ j, (ms j).length ≤ k + 1) ∧ Nul w wr)
      case atStart => exact ⟨0, 0, _, vs, _, by omega, by omega, rfl, by omega, H4.out.1, inv_new cr, fun j => by show (if j < 6 then [fullS ⟨#[]⟩] else []).length ≤ 0 + 1; split <;> simp, H4.out.2⟩
      case round =>
        obtain ⟨k, N, d, vs, ms, hk, hk50, rfl, hN, hS, hI, hlen, hf⟩ := hrel
        have Hk := hid hk
        have HS := hid (And.intro hS hf)
        have HI := hid hI
        have Hlen0 := hid hlen
        clear hk hS hf hI hlen
        by_cases hlt : k < l.length
        · by_cases h50 : k < 50
          · have e1 : decide ((k : Int) < (l.length : Int)) = true := decide_eq_true (by omega)
            have e2 : decide ((k : Int) < 50) = true := decide_eq_true (by omega)
            obtain ⟨gkA, HgA⟩ : ∃ x, Hid (x = gk) := ⟨gk, hid rfl⟩
            have hBs : w.heap.size ≤ wr.heap.size := HS.out.2.size
            obtain ⟨ga, oa, rfl, q0, q1, q2⟩ := (HB.out.frm HS.out.2 (fun _ _ h => h)).at_ hlt
            generalize l[k] = x at q0 q1 q2
            obtain ⟨kind, at_, s⟩ := x
            have q0' : wr.cell? ⟨ga, oa + k * 3, none⟩ = some (.int .i64 kind) := q0
            have q1' : wr.cell? ⟨ga, oa + k * 3 + 1, none⟩ = some (.int .i64 at_) := q1
            have q2' : wr.cell? ⟨ga, oa + k * 3 + 2, none⟩ = some (.string s) := q2
            clear q0 q1 q2
            by_cases hs : 128 < s.size
            · have d1 : decide (128 < (s.size : Int)) = true := decide_eq_true (by omega)
              go_wp2_with fail
              go_roundg (gkA - 1)
              case rel => exact ⟨k + 1, N, d, vs, ms, by have := Hk.out; have := HgA.out; omega, by omega, by go_num, by omega, HS.out.1.nul ((Frm.refl _ _).alloc _), HI.out, fun j => by have := Hlen0.out j; omega, HS.out.2.alloc _⟩
              case measure => have := Hk.out; have := HgA.out; omega
            · have d1 : decide (128 < (s.size : Int)) = false := decide_eq_false (by omega)
              by_cases hn0 : at_ < 0
              · have d2 : decide (at_ < 0) = true := decide_eq_true hn0
                go_wp2_with fail
                go_roundg (gkA - 1)
                case rel => exact ⟨k + 1, N, d, vs, ms, by have := Hk.out; have := HgA.out; omega, by omega, by go_num, by omega, HS.out.1.nul ((Frm.refl _ _).alloc _), HI.out, fun j => by have := Hlen0.out j; omega, HS.out.2.alloc _⟩
                case measure => have := Hk.out; have := HgA.out; omega
              · have d2 : decide (at_ < 0) = false := decide_eq_false hn0
                by_cases hn6 : 6 ≤ at_
                · have d3 : decide (6 ≤ at_) = true := decide_eq_true hn6
                  go_wp2_with fail
                  go_roundg (gkA - 1)
                  case rel => exact ⟨k + 1, N, d, vs, ms, by have := Hk.out; have := HgA.out; omega, by omega, by go_num, by omega, HS.out.1.nul ((Frm.refl _ _).alloc _), HI.out, fun j => by have := Hlen0.out j; omega, HS.out.2.alloc _⟩
                  case measure => have := Hk.out; have := HgA.out; omega
                · have d3 : decide (6 ≤ at_) = false := decide_eq_false hn6
                  obtain ⟨a, rfl⟩ : ∃ a : Nat, at_ = (a : Int) := ⟨at_.toNat, by omega⟩
                  have ha : a < 6 := by omega
                  clear hn0 hn6
                  have HX : Hid (Blk (wr.alloc (.cells #[.int .i64 kind, .int .i64 (a : Int), .string s] 34)) wr.heap.size 34 [.int .i64 kind, .int .i64 (a : Int), .string s]) := hid (Blk.new wr _ _)
                  have HT : Hid (Surv (Hole w.heap.size wr.heap.size) (wr.alloc (.cells #[.int .i64 kind, .int .i64 (a : Int), .string s] 34)) b N d w2.heap.size vs ms) := hid ((HS.out.1.mono (T' := (Hole w.heap.size wr.heap.size)) (fun k hk h => ⟨h, by omega⟩)).nul ((Frm.refl _ wr).alloc _))
                  have HnT : Hid (¬ (Hole w.heap.size wr.heap.size) wr.heap.size) := hid (fun h => h.2 rfl)
                  have HXc : Hid (∀ w4 : World, Frm (Hole w.heap.size wr.heap.size) (wr.alloc (.cells #[.int .i64 kind, .int .i64 (a : Int), .string s] 34)) w4 → w4.cell? ⟨wr.heap.size, 0, none⟩ = some (.int .i64 kind) ∧ w4.cell? ⟨wr.heap.size, 1, none⟩ = some (.int .i64 (a : Int)) ∧ w4.cell? ⟨wr.heap.size, 2, none⟩ = some (.string s)) := hid (fun w4 hf => by
                    have h := Blk.frm (g := wr.heap.size) HX.out hf HnT.out
                    exact ⟨h.cell 0, h.cell 1, h.cell 2⟩)
                  have HTn : Hid (∀ w' : World, (wr.alloc (.cells #[.int .i64 kind, .int .i64 (a : Int), .string s] 34)).heap.size ≤ w'.heap.size → ∀ k, w'.heap.size ≤ k → (Hole w.heap.size wr.heap.size) k) := hid (fun w' h k hk => by
                    have h2 : (wr.alloc (.cells #[.int .i64 kind, .int .i64 (a : Int), .string s] 34)).heap.size = wr.heap.size + 1 := by simp
                    constructor <;> omega)
                  by_cases k3 : kind = 3
                  · subst k3
                    rcases inv_flush HI.out with ⟨h0, hAft, hLast⟩ | ⟨h0, hAft⟩
                    · have HAft := hid hAft
                      have HLast := hid hLast
                      have Hfl := hid (sv_Flush HT.out (by omega))
                      rw [h0] at Hfl
                      clear hAft hLast h0
                      go_wp2_with fail
                      refine Hfl.out.mono ?_
                      rintro e w5 ⟨rfl, hS5, hF5⟩
                      have H5 : Hid (Surv (Hole w.heap.size wr.heap.size) w5 b (N + 1) d.flush.2 w2.heap.size vs ms ∧ Nul w w5) := hid ⟨hS5, (HS.out.2.alloc _).news (hF5.mono fun k _ h => h.1)⟩
                      obtain ⟨a0, a1, a2⟩ := HXc.out _ hF5
                      clear hS5 hF5 Hfl
                      generalize d.flush.2 = d' at H5 HAft HLast
                      obtain ⟨vs', hvs'⟩ : ∃ x, x = vs := ⟨_, rfl⟩
                      obtain ⟨ms', hms'⟩ : ∃ x, x = ms := ⟨_, rfl⟩
                      rw [← hvs', ← hms'] at H5
                      rw [← hms'] at HAft HLast
                      have Hlen : Hid (∀ j, (ms' j).length ≤ k + 2) := hid (fun j => by rw [hms']; have := Hlen0.out j; omega)
                      clear hvs' hms' q0' q1' q2' HX HT HXc
                      have Hpw := hid (sv_Power H5.out.1)
                      go_wp2_with fail
                      refine Hpw.out.mono ?_
                      rintro e w6 ⟨rfl, hS6, hF6⟩
                      have H6 : Hid (Surv (w.heap.size ≤ ·) w6 b (N + 1) { d' with down := false } w2.heap.size vs' ms' ∧ Nul w w6) := hid ⟨hS6.mono (fun k _ h => h.1), H5.out.2.news (hF6.mono fun k _ h => h.1)⟩
                      clear hS6 hF6 Hpw
                      go_wp2_with fail
                      go_loopg [12, 13, 14, 15, 16] 6 (fun m i _ _ _ _ wr => ∃ (kk : Nat) (vs : Nat → Value), kk + m = 6 ∧ i = .int .i64 kk ∧ Surv (w.heap.size ≤ ·) wr b (N + 1) { d' with down := false } w2.heap.size vs (fun j => if j < kk then [fullS (d'.th j)] else ms' j) ∧ Nul w wr)
                      case atStart => exact ⟨0, vs', by omega, rfl, by simpa using H6.out.1, H6.out.2⟩
                      case round =>
                        obtain ⟨kk, vs, hk, rfl, hS, hN⟩ := hrel
                        have Hkk := hid hk
                        have HS := hid (And.intro hS hN)
                        obtain ⟨gkB, HgB⟩ : ∃ x, Hid (x = gk) := ⟨gk, hid rfl⟩
                        clear hk hS hN
                        by_cases hkk : kk < 6
                        · go_wp2_with fail
                          refine (sv_Read HS.out.1 (by omega) kk).mono ?_
                          rw [read_after HAft.out kk hkk]
                          generalize hy : fullS (d'.th kk) = y
                          rintro e w8 ⟨rfl, hf8⟩
                          have hM8 := (HS.out.1.nul hf8).may
                          have H8 := hid (And.intro (HS.out.1.nul hf8) (HS.out.2.nul hf8))
                          have hcell8 := hM8.cell kk hkk
                          have hown8 := hM8.2.1 kk hkk
                          have hzz : (fun j => if j < kk then [fullS (d'.th j)] else ms' j) kk = ms' kk := by simp
                          rw [hzz] at hown8
                          have hgl : w2.heap.size < w8.heap.size := hM8.1.lt
                          have hz8 : w8.frozen? ⟨w2.heap.size, kk, none⟩ = false := hM8.1.frozen kk
                          clear hM8 hf8 hzz
                          obtain ⟨Ak, ck, hvk⟩ := own_shape hown8
                          rw [hvk] at hcell8 hown8
                          obtain ⟨n, hL⟩ : ∃ n, (ms' kk).length = n := ⟨_, rfl⟩
                          rw [hL] at hcell8 hown8
                          have hany : anyEq (ms' kk) y = true := by
                            unfold anyEq
                            rw [List.any_eq_true]
                            exact ⟨y, by rw [← hy]; exact HAft.out.2.2 kk hkk, by simp⟩
                          have hnpos : 0 < n := by
                            rw [← hL]
                            cases h : ms' kk with
                            | nil => rw [h] at hany; simp [anyEq] at hany
                            | cons _ _ => simp
                          obtain ⟨gq, rfl⟩ := own_str hown8 (k := 0) hnpos
                          have Hown8 := hid hown8
                          have Hany := hid hany
                          have HL := hid hL
                          have Hy := hid hy
                          have Hvk := hid hvk
                          have hnb : n ≤ 60 := by have := Hlen.out kk; omega
                          clear hany hvk hown8
                          go_wp2_with fail
                          go_loopg [15, 16] n (fun m q i wr => ∃ jj : Nat, jj + m = n ∧ i = .int .i64 jj ∧ q = .bool (anyEq ((ms' kk).take jj) y) ∧ wr = w8)
                          case atStart => exact ⟨0, by omega, rfl, by simp [anyEq], rfl⟩
                          case round =>
                            obtain ⟨jj, hj, rfl, rfl, rfl⟩ := hrel
                            have Hj := hid hj
                            clear hj
                            by_cases hjn : jj < n
                            · have hjl : jj < (ms' kk).length := by omega
                              have cj : wr.cell? ⟨gq, jj, none⟩ = some (.string ((ms' kk)[jj])) := by
                                have h := Hown8.out.cells (g := gq) (by rfl) jj (.string ((ms' kk)[jj])) (by simp [hjl])
                                rw [Addr.add_lit, Nat.zero_add] at h
                                exact h
                              have hst := hid (anyEq_take (ms' kk) y jj hjl)
                              generalize (ms' kk)[jj] = x at cj hst
                              cases hq : anyEq ((ms' kk).take jj) y with
                              | true =>
                                have Hq := hid hq
                                clear hq
                                go_wp2_with fail
                                go_roundg (gk - 1)
                                case rel => exact ⟨jj + 1, by have := Hj.out; omega, by go_num, by rw [hst.out, Hq.out]; rfl, rfl⟩
                                case measure => have := Hj.out; omega
                              | false =>
                                have Hq := hid hq
                                clear hq
                                cases hx : (x.toList == y.toList) with
                                | true =>
                                  have Hx := hid hx
                                  go_wp2_with fail
                                  go_roundg (gk - 1)
                                  case rel => exact ⟨jj + 1, by have := Hj.out; omega, by go_num, by rw [hst.out, Hq.out, Hx.out]; rfl, rfl⟩
                                  case measure => have := Hj.out; omega
                                | false =>
                                  have Hx := hid hx
                                  go_wp2_with fail
                                  go_roundg (gk - 1)
                                  case rel => exact ⟨jj + 1, by have := Hj.out; omega, by go_num, by rw [hst.out, Hq.out, Hx.out]; rfl, rfl⟩
                                  case measure => have := Hj.out; omega
                            · obtain rfl : jj = n := by have := Hj.out; omega
                              have hq : anyEq ((ms' kk).take jj) y = true := by
                                rw [← HL.out, List.take_length]
                                exact Hany.out
                              rw [hq]
                              clear hq
                              obtain ⟨n1, hn1⟩ : ∃ n1, jj = n1 + 1 := ⟨jj - 1, by omega⟩
                              have hn1' : (jj : Int) - 1 = (n1 : Int) := by omega
                              have hn2 : n1 < jj := by omega
                              have hown8 := Hown8.out
                              have hL := HL.out
                              have hy := Hy.out
                              have hla : ((ms' kk)[n1]?) = some y := by
                                have h := HLast.out kk hkk
                                rw [hy, List.getLast?_eq_getElem?, hL] at h
                                rw [← h, show jj - 1 = n1 from by omega]
                              have c8 : wr.cell? ⟨gq, n1, none⟩ = some (.string y) := by
                                have h := hown8.cells (g := gq) (by rfl) n1 (.string y) (by rw [List.getElem?_map, hla]; rfl)
                                rw [Addr.add_lit, Nat.zero_add] at h
                                exact h
                              have Hn1 := hid hn1
                              clear hown8 hn1 hL hy
                              go_wp2_with fail
                              go_quiet (fail)
                              have HQ : Hid (Surv (w.heap.size ≤ ·) (wr.drewN nq) b (N + 1) { d' with down := false } w2.heap.size vs (fun j => if j < kk then [fullS (d'.th j)] else ms' j) ∧ Nul w (wr.drewN nq)) := hid ⟨H8.out.1.nul ((Frm.refl (fun _ => False) _).drewN _), H8.out.2.drewN _⟩
                              generalize wr.drewN nq = wq at HQ ⊢
                              have hz9 : wq.frozen? ⟨w2.heap.size, kk, none⟩ = false := HQ.out.1.may.1.frozen kk
                              have hc9 := HQ.out.1.may.cell kk hkk
                              have hl9 : w2.heap.size < wq.heap.size := HQ.out.1.lt.1
                              have Hset := hid (sv_set' HQ.out.1 (fun j hj => Nat.le_trans HQ.out.2.size hj) kk hkk y)
                              go_wp2_with fail
                              go_roundg (gkB - 1)
                              case rel =>
                                have h := Hset.out.1
                                rw [aft_set ms' _ kk y (by rw [Hy.out])] at h
                                exact ⟨kk + 1, setAt vs kk (.slice (some ⟨wq.heap.size, 0, none⟩) 1 1), by have := Hkk.out; have := HgB.out; omega, by go_num, h, HQ.out.2.news Hset.out.2⟩
                              case measure => have := Hkk.out; have := HgB.out; omega
                        · obtain rfl : kk = 6 := by have := Hkk.out; omega
                          go_wp2_with fail
                          go_roundg (gkA - 1)
                          case rel =>
                            refine ⟨k + 1, N + 1, _, vs, _, by have := Hk.out; have := HgA.out; omega, by omega, by go_num, by omega, HS.out.1, inv_congr (inv_after HAft.out) (fun j hj => by rw [if_pos hj]), fun j => ?_, HS.out.2⟩
                            have := Hlen.out j
                            split
                            · simp
                            · omega
                          case measure => have := Hk.out; have := HgA.out; omega
                    · have HAft := hid hAft

                      have Hfl := hid (sv_Flush HT.out (by omega))
                      rw [h0] at Hfl
                      clear hAft  h0
                      go_wp2_with fail
                      refine Hfl.out.mono ?_
                      rintro e w5 ⟨rfl, hS5, hF5⟩
                      have H5 : Hid (Surv (Hole w.heap.size wr.heap.size) w5 b (N + 1) d.flush.2 w2.heap.size vs ms ∧ Nul w w5) := hid ⟨hS5, (HS.out.2.alloc _).news (hF5.mono fun k _ h => h.1)⟩
                      obtain ⟨a0, a1, a2⟩ := HXc.out _ hF5
                      clear hS5 hF5 Hfl
                      generalize d.flush.2 = d' at H5 HAft 
                      obtain ⟨vs', hvs'⟩ : ∃ x, x = vs := ⟨_, rfl⟩
                      obtain ⟨ms', hms'⟩ : ∃ x, x = ms := ⟨_, rfl⟩
                      rw [← hvs', ← hms'] at H5
                      rw [← hms'] at HAft 
                      have Hlen : Hid (∀ j, (ms' j).length ≤ k + 2) := hid (fun j => by rw [hms']; have := Hlen0.out j; omega)
                      clear hvs' hms' q0' q1' q2' HX HT HXc
                      have Hpw := hid (sv_Power H5.out.1)
                      go_wp2_with fail
                      refine Hpw.out.mono ?_
                      rintro e w6 ⟨rfl, hS6, hF6⟩
                      have H6 : Hid (Surv (w.heap.size ≤ ·) w6 b (N + 1) { d' with down := false } w2.heap.size vs' ms' ∧ Nul w w6) := hid ⟨hS6.mono (fun k _ h => h.1), H5.out.2.news (hF6.mono fun k _ h => h.1)⟩
                      clear hS6 hF6 Hpw
                      go_wp2_with fail
                      go_loopg [12, 13, 14, 15, 16] 6 (fun m i _ _ _ _ wr => ∃ (kk : Nat) (vs : Nat → Value), kk + m = 6 ∧ i = .int .i64 kk ∧ Surv (w.heap.size ≤ ·) wr b (N + 1) { d' with down := false } w2.heap.size vs (fun j => if j < kk then [fullS (d'.th j)] else ms' j) ∧ Nul w wr)
                      case atStart => exact ⟨0, vs', by omega, rfl, by simpa using H6.out.1, H6.out.2⟩
                      case round =>
                        obtain ⟨kk, vs, hk, rfl, hS, hN⟩ := hrel
                        have Hkk := hid hk
                        have HS := hid (And.intro hS hN)
                        obtain ⟨gkB, HgB⟩ : ∃ x, Hid (x = gk) := ⟨gk, hid rfl⟩
                        clear hk hS hN
                        by_cases hkk : kk < 6
                        · go_wp2_with fail
                          refine (sv_Read HS.out.1 (by omega) kk).mono ?_
                          rw [read_after HAft.out kk hkk]
                          generalize hy : fullS (d'.th kk) = y
                          rintro e w8 ⟨rfl, hf8⟩
                          have hM8 := (HS.out.1.nul hf8).may
                          have H8 := hid (And.intro (HS.out.1.nul hf8) (HS.out.2.nul hf8))
                          have hcell8 := hM8.cell kk hkk
                          have hown8 := hM8.2.1 kk hkk
                          have hzz : (fun j => if j < kk then [fullS (d'.th j)] else ms' j) kk = ms' kk := by simp
                          rw [hzz] at hown8
                          have hgl : w2.heap.size < w8.heap.size := hM8.1.lt
                          have hz8 : w8.frozen? ⟨w2.heap.size, kk, none⟩ = false := hM8.1.frozen kk
                          clear hM8 hf8 hzz
                          obtain ⟨Ak, ck, hvk⟩ := own_shape hown8
                          rw [hvk] at hcell8 hown8
                          obtain ⟨n, hL⟩ : ∃ n, (ms' kk).length = n := ⟨_, rfl⟩
                          rw [hL] at hcell8 hown8
                          have hany : anyEq (ms' kk) y = true := by
                            unfold anyEq
                            rw [List.any_eq_true]
                            exact ⟨y, by rw [← hy]; exact HAft.out.2.2 kk hkk, by simp⟩
                          have hnpos : 0 < n := by
                            rw [← hL]
                            cases h : ms' kk with
                            | nil => rw [h] at hany; simp [anyEq] at hany
                            | cons _ _ => simp
                          obtain ⟨gq, rfl⟩ := own_str hown8 (k := 0) hnpos
                          have Hown8 := hid hown8
                          have Hany := hid hany
                          have HL := hid hL
                          have Hy := hid hy
                          have Hvk := hid hvk
                          have hnb : n ≤ 60 := by have := Hlen.out kk; omega
                          clear hany hvk hown8
                          go_wp2_with fail
                          go_loopg [15, 16] n (fun m q i wr => ∃ jj : Nat, jj + m = n ∧ i = .int .i64 jj ∧ q = .bool (anyEq ((ms' kk).take jj) y) ∧ wr = w8)
                          case atStart => exact ⟨0, by omega, rfl, by simp [anyEq], rfl⟩
                          case round =>
                            obtain ⟨jj, hj, rfl, rfl, rfl⟩ := hrel
                            have Hj := hid hj
                            clear hj
                            by_cases hjn : jj < n
                            · have hjl : jj < (ms' kk).length := by omega
                              have cj : wr.cell? ⟨gq, jj, none⟩ = some (.string ((ms' kk)[jj])) := by
                                have h := Hown8.out.cells (g := gq) (by rfl) jj (.string ((ms' kk)[jj])) (by simp [hjl])
                                rw [Addr.add_lit, Nat.zero_add] at h
                                exact h
                              have hst := hid (anyEq_take (ms' kk) y jj hjl)
                              generalize (ms' kk)[jj] = x at cj hst
                              cases hq : anyEq ((ms' kk).take jj) y with
                              | true =>
                                have Hq := hid hq
                                clear hq
                                go_wp2_with fail
                                go_roundg (gk - 1)
                                case rel => exact ⟨jj + 1, by have := Hj.out; omega, by go_num, by rw [hst.out, Hq.out]; rfl, rfl⟩
                                case measure => have := Hj.out; omega
                              | false =>
                                have Hq := hid hq
                                clear hq
                                cases hx : (x.toList == y.toList) with
                                | true =>
                                  have Hx := hid hx
                                  go_wp2_with fail
                                  go_roundg (gk - 1)
                                  case rel => exact ⟨jj + 1, by have := Hj.out; omega, by go_num, by rw [hst.out, Hq.out, Hx.out]; rfl, rfl⟩
                                  case measure => have := Hj.out; omega
                                | false =>
                                  have Hx := hid hx
                                  go_wp2_with fail
                                  go_roundg (gk - 1)
                                  case rel => exact ⟨jj + 1, by have := Hj.out; omega, by go_num, by rw [hst.out, Hq.out, Hx.out]; rfl, rfl⟩
                                  case measure => have := Hj.out; omega
                            · obtain rfl : jj = n := by have := Hj.out; omega
                              have hq : anyEq ((ms' kk).take jj) y = true := by
                                rw [← HL.out, List.take_length]
                                exact Hany.out
                              rw [hq]
                              clear hq
                              obtain ⟨n1, hn1⟩ : ∃ n1, jj = n1 + 1 := ⟨jj - 1, by omega⟩
                              have hn1' : (jj : Int) - 1 = (n1 : Int) := by omega
                              have hn2 : n1 < jj := by omega
                              have hown8 := Hown8.out
                              have hL := HL.out
                              have hy := Hy.out

                              have Hn1 := hid hn1
                              clear hown8 hn1 hL hy
                              go_wp2_with fail
                              go_quiet (fail)
                              have HQ : Hid (Surv (w.heap.size ≤ ·) (wr.drewN nq) b (N + 1) { d' with down := false } w2.heap.size vs (fun j => if j < kk then [fullS (d'.th j)] else ms' j) ∧ Nul w (wr.drewN nq)) := hid ⟨H8.out.1.nul ((Frm.refl (fun _ => False) _).drewN _), H8.out.2.drewN _⟩
                              generalize wr.drewN nq = wq at HQ ⊢
                              have hz9 : wq.frozen? ⟨w2.heap.size, kk, none⟩ = false := HQ.out.1.may.1.frozen kk
                              have hc9 := HQ.out.1.may.cell kk hkk
                              have hl9 : w2.heap.size < wq.heap.size := HQ.out.1.lt.1
                              have Hset := hid (sv_set' HQ.out.1 (fun j hj => Nat.le_trans HQ.out.2.size hj) kk hkk y)
                              go_wp2_with fail
                              go_roundg (gkB - 1)
                              case rel =>
                                have h := Hset.out.1
                                rw [aft_set ms' _ kk y (by rw [Hy.out])] at h
                                exact ⟨kk + 1, setAt vs kk (.slice (some ⟨wq.heap.size, 0, none⟩) 1 1), by have := Hkk.out; have := HgB.out; omega, by go_num, h, HQ.out.2.news Hset.out.2⟩
                              case measure => have := Hkk.out; have := HgB.out; omega
                        · obtain rfl : kk = 6 := by have := Hkk.out; omega
                          go_wp2_with fail
                          go_roundg (gkA - 1)
                          case rel =>
                            refine ⟨k + 1, N + 1, _, vs, _, by have := Hk.out; have := HgA.out; omega, by omega, by go_num, by omega, HS.out.1, inv_congr (inv_after HAft.out) (fun j hj => by rw [if_pos hj]), fun j => ?_, HS.out.2⟩
                            have := Hlen.out j
                            split
                            · simp
                            · omega
                          case measure => have := Hk.out; have := HgA.out; omega
                  · have b3 : (kind == 3) = false := by simpa using k3
                    clear k3
                    rcases inv_write HI.out a ha s (by omega) with ⟨h0, hres⟩ | ⟨h0, hres⟩
                    · have Hres := hid hres
                      have Hwr := hid (sv_Write HT.out (HTn.out _ (Nat.le_refl _)) (by omega) (a : Int) s)
                      rw [h0] at Hwr
                      have ha2 : (a : Int) < 6 := by omega
                      clear hres h0
                      go_wp2_with fail
                      refine Hwr.out.mono ?_
                      rintro e w5 ⟨rfl, hS5, hF5⟩
                      have H5 : Hid (Surv (Hole w.heap.size wr.heap.size) w5 b (N + 1) (d.write a s).2 w2.heap.size vs ms ∧ Nul w w5) := hid ⟨hS5, (HS.out.2.alloc _).news (hF5.mono fun k _ h => h.1)⟩
                      have HF5 := hid hF5
                      obtain ⟨a0, a1, a2⟩ := HXc.out _ hF5
                      have hcell := hS5.may.cell a ha
                      have hown := hS5.may.2.1 a ha
                      have hgl : w2.heap.size < w5.heap.size := hS5.lt.1
                      have hal : wr.heap.size < w5.heap.size := by
                        have h1 := hF5.size
                        simp at h1
                        omega
                      obtain ⟨Aa, ca, hva⟩ := own_shape hown
                      have hlna := Hlen0.out a
                      rw [hva] at hcell hown
                      generalize hn : (ms a).length = n at hcell hown hlna hva
                      have hown' : (w5.drew.alloc (.cells #[.string (fullS s)] 9)).ownsRow 0 9 1 (.slice Aa n ca) n ((ms a).map .string) := own_nul hown (((Frm.refl _ w5).drew).alloc _)
                      have Hone := hid (show ∀ u ∈ [Value.string (fullS s)], u.oneCell' = true from fun u hu => by
                        simp at hu
                        subst hu
                        rfl)
                      have Hb1 := hid (show (n + 1) * 16 ≤ 140737488355328 from by omega)
                      have Hb2 := hid (show n + 1 ≤ maxLen from by simp only [maxLen]; omega)
                      have Hsa := hid (fun (w3 : World) (v3 : Value) => sv_append (W := w5.drew.alloc (.cells #[.string (fullS s)] 9)) (w3 := w3) (v3 := v3) H5.out.1 (HTn.out _ hF5.size) a ha (fullS s) (((Frm.refl _ w5).drew).alloc _))
                      rw [hn, hva] at Hsa
                      have HFs := hid (ref_Full s)
                      generalize hz0 : fullS s = z0 at hown' Hone Hsa HFs Hres
                      clear hS5 hF5 Hwr hown q0' q1' q2' hva hz0
                      go_wp2_with fail
                      refine region_till (fun j => j != 12) (fun w' => w'.cell? ⟨wr.heap.size, 1, none⟩ = some (.int .i64 a) ∧ w'.cell? ⟨wr.heap.size, 2, none⟩ = some (.string s) ∧ w'.cell? ⟨w2.heap.size, a, none⟩ = some (.slice Aa n ca)) (by kernel_rfl) ?_
                      have hS0 : w5.drew.cell? ⟨wr.heap.size, 1, none⟩ = some (.int .i64 a) ∧ w5.drew.cell? ⟨wr.heap.size, 2, none⟩ = some (.string s) ∧ w5.drew.cell? ⟨w2.heap.size, a, none⟩ = some (.slice Aa n ca) := ⟨a1, a2, hcell⟩
                      refine AnyTill.take (n := 12) (i := 0) (oi := _) (v := .pointer (some ⟨wr.heap.size, 1, none⟩)) rfl (by kernel_rfl) (by kernel_rfl) (by kernel_rfl) (by kernel_rfl) (fun _ _ _ h => h) (Or.inl ⟨by rfl, fun w' hw' => ?_⟩) hS0 ?_
                      · obtain ⟨g1, g2, g3⟩ := hw'
                        go_simp
                      try simp only [Act.put, List.setIfInBounds_toArray, List.set_cons_zero, List.set_cons_succ]
                      refine AnyTill.take (n := 11) (i := 1) (oi := _) (v := .int .i64 a) rfl (by kernel_rfl) (by kernel_rfl) (by kernel_rfl) (by kernel_rfl) (fun _ _ _ h => h) (Or.inl ⟨by rfl, fun w' hw' => ?_⟩) hS0 ?_
                      · obtain ⟨g1, g2, g3⟩ := hw'
                        go_simp
                      try simp only [Act.put, List.setIfInBounds_toArray, List.set_cons_zero, List.set_cons_succ]
                      refine AnyTill.take (n := 10) (i := 2) (oi := _) (v := .pointer (some ⟨wr.heap.size, 1, none⟩)) rfl (by kernel_rfl) (by kernel_rfl) (by kernel_rfl) (by kernel_rfl) (fun _ _ _ h => h) (Or.inl ⟨by rfl, fun w' hw' => ?_⟩) hS0 ?_
                      · obtain ⟨g1, g2, g3⟩ := hw'
                        go_simp
                      try simp only [Act.put, List.setIfInBounds_toArray, List.set_cons_zero, List.set_cons_succ]
                      refine AnyTill.take (n := 9) (i := 3) (oi := _) (v := .int .i64 a) rfl (by kernel_rfl) (by kernel_rfl) (by kernel_rfl) (by kernel_rfl) (fun _ _ _ h => h) (Or.inl ⟨by rfl, fun w' hw' => ?_⟩) hS0 ?_
                      · obtain ⟨g1, g2, g3⟩ := hw'
                        go_simp
                      try simp only [Act.put, List.setIfInBounds_toArray, List.set_cons_zero, List.set_cons_succ]
                      refine AnyTill.take (n := 8) (i := 4) (oi := _) (v := .pointer (some ⟨w2.heap.size, a, none⟩)) rfl (by kernel_rfl) (by kernel_rfl) (by kernel_rfl) (by kernel_rfl) (fun _ _ _ h => h) (Or.inl ⟨by rfl, fun w' hw' => ?_⟩) hS0 ?_
                      · obtain ⟨g1, g2, g3⟩ := hw'
                        go_simp
                      try simp only [Act.put, List.setIfInBounds_toArray, List.set_cons_zero, List.set_cons_succ]
                      refine AnyTill.take (n := 7) (i := 5) (oi := _) (v := .slice Aa n ca) rfl (by kernel_rfl) (by kernel_rfl) (by kernel_rfl) (by kernel_rfl) (fun _ _ _ h => h) (Or.inl ⟨by rfl, fun w' hw' => ?_⟩) hS0 ?_
                      · obtain ⟨g1, g2, g3⟩ := hw'
                        go_simp
                      try simp only [Act.put, List.setIfInBounds_toArray, List.set_cons_zero, List.set_cons_succ]
                      refine AnyTill.take (n := 6) (i := 6) (oi := _) (v := .pointer (some ⟨wr.heap.size, 2, none⟩)) rfl (by kernel_rfl) (by kernel_rfl) (by kernel_rfl) (by kernel_rfl) (fun _ _ _ h => h) (Or.inl ⟨by rfl, fun w' hw' => ?_⟩) hS0 ?_
                      · obtain ⟨g1, g2, g3⟩ := hw'
                        go_simp
                      try simp only [Act.put, List.setIfInBounds_toArray, List.set_cons_zero, List.set_cons_succ]
                      refine AnyTill.take (n := 5) (i := 7) (oi := _) (v := .string s) rfl (by kernel_rfl) (by kernel_rfl) (by kernel_rfl) (by kernel_rfl) (fun _ _ _ h => h) (Or.inl ⟨by rfl, fun w' hw' => ?_⟩) hS0 ?_
                      · obtain ⟨g1, g2, g3⟩ := hw'
                        go_simp
                      try simp only [Act.put, List.setIfInBounds_toArray, List.set_cons_zero, List.set_cons_succ]
                      refine AnyTill.one_go (n := 4) (i := 8) (by kernel_rfl) rfl (by rfl) (fun K hK => ?_)
                      have HK := hid hK
                      clear hK
                      go_simp
                      go_at_call 15
                      refine (HFs.out _).mono ?_
                      rintro e w' ⟨rfl, rfl⟩
                      refine HK.out _ _ (fun _ => hS0) ?_
                      clear HK
                      try simp only [Act.put, List.setIfInBounds_toArray, List.set_cons_zero, List.set_cons_succ]
                      have hS1 : (w5.drew.alloc (.cells #[.string z0] 9)).cell? ⟨wr.heap.size, 1, none⟩ = some (.int .i64 a) ∧ (w5.drew.alloc (.cells #[.string z0] 9)).cell? ⟨wr.heap.size, 2, none⟩ = some (.string s) ∧ (w5.drew.alloc (.cells #[.string z0] 9)).cell? ⟨w2.heap.size, a, none⟩ = some (.slice Aa n ca) :=
                        ⟨(World.cell?_alloc_lt _ _ _ hal).trans a1, (World.cell?_alloc_lt _ _ _ hal).trans a2, (World.cell?_alloc_lt _ _ _ hgl).trans hcell⟩
                      refine AnyTill.one_go (n := 3) (i := 9) (by kernel_rfl) rfl (by rfl) (fun K hK => ?_)
                      have HK := hid hK
                      clear hK
                      go_simp
                      refine HK.out _ _ (fun _ => hS1) ?_
                      clear HK
                      try simp only [Act.put, List.setIfInBounds_toArray, List.set_cons_zero, List.set_cons_succ]
                      refine AnyTill.one_go (n := 2) (i := 10) (by kernel_rfl) rfl (by rfl) (fun K hK => ?_)
                      refine wp_append_at (.tmp 84) (.tmp 88) _ rfl 0 9 i0 (.string ⟨#[]⟩) 1 16 Try.underlying30 hi0 hz0_ hz1 hz2 rfl (Nat.succ_pos 0) (.slice Aa n ca) n ((ms a).map .string) rfl hown' ⟨w5.heap.size, 0, none⟩ 1 1 [.string z0] rfl rfl own_one Hone.out Hb1.out Hb2.out (Nat.zero_le _) ?_
                      intro v3 w3 hown3 hgr3 hat3
                      obtain ⟨A3, c3, rfl⟩ := own_shape hown3
                      obtain ⟨q3, z3, hS6, hF6, hF63⟩ := Hsa.out w3 _ hown3 hgr3 hat3
                      obtain ⟨b0, b1, b2⟩ := HXc.out _ (HF5.out.trans hF63)
                      have H6 := hid (And.intro hS6 (And.intro hF6 hF63))
                      clear hown3 hgr3 hat3 hS6 hF6 hF63
                      refine hK _ _ (fun _ => ⟨b1, b2, q3⟩) ?_
                      clear hK
                      have hS2 : w3.cell? ⟨wr.heap.size, 1, none⟩ = some (.int .i64 a) ∧ w3.cell? ⟨wr.heap.size, 2, none⟩ = some (.string s) ∧ w3.cell? ⟨w2.heap.size, a, none⟩ = some (.slice Aa n ca) := ⟨b1, b2, q3⟩
                      try simp only [Act.put, List.setIfInBounds_toArray, List.set_cons_zero, List.set_cons_succ]
                      refine AnyTill.take (n := 1) (i := 11) (oi := _) (v := .pointer (some ⟨w2.heap.size, a, none⟩)) rfl (by kernel_rfl) (by kernel_rfl) (by kernel_rfl) (by kernel_rfl) (fun _ _ _ h => h) (Or.inl ⟨by rfl, fun w' hw' => ?_⟩) hS2 ?_
                      · obtain ⟨g1, g2, g3⟩ := hw'
                        go_simp
                      try simp only [Act.put, List.setIfInBounds_toArray, List.set_cons_zero, List.set_cons_succ]
                      refine AnyTill.one_go (n := 0) (i := 12) (by kernel_rfl) rfl (by rfl) (fun K hK => ?_)
                      have HK := hid hK
                      clear hK
                      go_simp
                      refine HK.out _ _ (fun h => absurd h (by decide)) ?_
                      clear HK
                      refine AnyTill.over (by kernel_rfl) ?_
                      obtain ⟨d0, _, _⟩ := HXc.out _ (HF5.out.trans H6.out.2.1)
                      go_wp2_with fail
                      go_roundg (gkA - 1)
                      case rel =>
                        exact ⟨k + 1, N + 1, _, _, _, by have := Hk.out; have := HgA.out; omega, by omega, by go_num, by omega, H6.out.1.mono (fun k _ h => h.1), Hres.out, fun j => by have := Hlen0.out j; unfold addAt; split <;> simp <;> omega, H5.out.2.news (H6.out.2.1.mono fun k _ h => h.1)⟩
                      case measure => have := Hk.out; have := HgA.out; omega
                    · have Hres := hid hres
                      have Hwr := hid (sv_Write HT.out (HTn.out _ (Nat.le_refl _)) (by omega) (a : Int) s)
                      rw [h0] at Hwr
                      have ha2 : (a : Int) < 6 := by omega
                      clear hres h0
                      go_wp2_with fail
                      refine Hwr.out.mono ?_
                      rintro e w5 ⟨rfl, hS5, hF5⟩
                      have H5 : Hid (Surv (Hole w.heap.size wr.heap.size) w5 b (N + 1) (d.write a s).2 w2.heap.size vs ms ∧ Nul w w5) := hid ⟨hS5, (HS.out.2.alloc _).news (hF5.mono fun k _ h => h.1)⟩
                      have HF5 := hid hF5
                      obtain ⟨a0, a1, a2⟩ := HXc.out _ hF5
                      have hcell := hS5.may.cell a ha
                      have hown := hS5.may.2.1 a ha
                      have hgl : w2.heap.size < w5.heap.size := hS5.lt.1
                      have hal : wr.heap.size < w5.heap.size := by
                        have h1 := hF5.size
                        simp at h1
                        omega
                      obtain ⟨Aa, ca, hva⟩ := own_shape hown
                      have hlna := Hlen0.out a
                      rw [hva] at hcell hown
                      generalize hn : (ms a).length = n at hcell hown hlna hva
                      have hown' : (w5.drew.alloc (.cells #[.string (fullS s)] 9)).ownsRow 0 9 1 (.slice Aa n ca) n ((ms a).map .string) := own_nul hown (((Frm.refl _ w5).drew).alloc _)
                      have Hone := hid (show ∀ u ∈ [Value.string (fullS s)], u.oneCell' = true from fun u hu => by
                        simp at hu
                        subst hu
                        rfl)
                      have Hb1 := hid (show (n + 1) * 16 ≤ 140737488355328 from by omega)
                      have Hb2 := hid (show n + 1 ≤ maxLen from by simp only [maxLen]; omega)
                      have Hsa := hid (fun (w3 : World) (v3 : Value) => sv_append (W := w5.drew.alloc (.cells #[.string (fullS s)] 9)) (w3 := w3) (v3 := v3) H5.out.1 (HTn.out _ hF5.size) a ha (fullS s) (((Frm.refl _ w5).drew).alloc _))
                      rw [hn, hva] at Hsa
                      have HFs := hid (ref_Full s)
                      generalize hz0 : fullS s = z0 at hown' Hone Hsa HFs Hres
                      clear hS5 hF5 Hwr hown q0' q1' q2' hva hz0
                      go_wp2_with fail
                      refine region_till (fun j => j != 12) (fun w' => w'.cell? ⟨wr.heap.size, 1, none⟩ = some (.int .i64 a) ∧ w'.cell? ⟨wr.heap.size, 2, none⟩ = some (.string s) ∧ w'.cell? ⟨w2.heap.size, a, none⟩ = some (.slice Aa n ca)) (by kernel_rfl) ?_
                      have hS0 : w5.drew.cell? ⟨wr.heap.size, 1, none⟩ = some (.int .i64 a) ∧ w5.drew.cell? ⟨wr.heap.size, 2, none⟩ = some (.string s) ∧ w5.drew.cell? ⟨w2.heap.size, a, none⟩ = some (.slice Aa n ca) := ⟨a1, a2, hcell⟩
                      refine AnyTill.take (n := 12) (i := 0) (oi := _) (v := .pointer (some ⟨wr.heap.size, 1, none⟩)) rfl (by kernel_rfl) (by kernel_rfl) (by kernel_rfl) (by kernel_rfl) (fun _ _ _ h => h) (Or.inl ⟨by rfl, fun w' hw' => ?_⟩) hS0 ?_
                      · obtain ⟨g1, g2, g3⟩ := hw'
                        go_simp
                      try simp only [Act.put, List.setIfInBounds_toArray, List.set_cons_zero, List.set_cons_succ]
                      refine AnyTill.take (n := 11) (i := 1) (oi := _) (v := .int .i64 a) rfl (by kernel_rfl) (by kernel_rfl) (by kernel_rfl) (by kernel_rfl) (fun _ _ _ h => h) (Or.inl ⟨by rfl, fun w' hw' => ?_⟩) hS0 ?_
                      · obtain ⟨g1, g2, g3⟩ := hw'
                        go_simp
                      try simp only [Act.put, List.setIfInBounds_toArray, List.set_cons_zero, List.set_cons_succ]
                      refine AnyTill.take (n := 10) (i := 2) (oi := _) (v := .pointer (some ⟨wr.heap.size, 1, none⟩)) rfl (by kernel_rfl) (by kernel_rfl) (by kernel_rfl) (by kernel_rfl) (fun _ _ _ h => h) (Or.inl ⟨by rfl, fun w' hw' => ?_⟩) hS0 ?_
                      · obtain ⟨g1, g2, g3⟩ := hw'
                        go_simp
                      try simp only [Act.put, List.setIfInBounds_toArray, List.set_cons_zero, List.set_cons_succ]
                      refine AnyTill.take (n := 9) (i := 3) (oi := _) (v := .int .i64 a) rfl (by kernel_rfl) (by kernel_rfl) (by kernel_rfl) (by kernel_rfl) (fun _ _ _ h => h) (Or.inl ⟨by rfl, fun w' hw' => ?_⟩) hS0 ?_
                      · obtain ⟨g1, g2, g3⟩ := hw'
                        go_simp
                      try simp only [Act.put, List.setIfInBounds_toArray, List.set_cons_zero, List.set_cons_succ]
                      refine AnyTill.take (n := 8) (i := 4) (oi := _) (v := .pointer (some ⟨w2.heap.size, a, none⟩)) rfl (by kernel_rfl) (by kernel_rfl) (by kernel_rfl) (by kernel_rfl) (fun _ _ _ h => h) (Or.inl ⟨by rfl, fun w' hw' => ?_⟩) hS0 ?_
                      · obtain ⟨g1, g2, g3⟩ := hw'
                        go_simp
                      try simp only [Act.put, List.setIfInBounds_toArray, List.set_cons_zero, List.set_cons_succ]
                      refine AnyTill.take (n := 7) (i := 5) (oi := _) (v := .slice Aa n ca) rfl (by kernel_rfl) (by kernel_rfl) (by kernel_rfl) (by kernel_rfl) (fun _ _ _ h => h) (Or.inl ⟨by rfl, fun w' hw' => ?_⟩) hS0 ?_
                      · obtain ⟨g1, g2, g3⟩ := hw'
                        go_simp
                      try simp only [Act.put, List.setIfInBounds_toArray, List.set_cons_zero, List.set_cons_succ]
                      refine AnyTill.take (n := 6) (i := 6) (oi := _) (v := .pointer (some ⟨wr.heap.size, 2, none⟩)) rfl (by kernel_rfl) (by kernel_rfl) (by kernel_rfl) (by kernel_rfl) (fun _ _ _ h => h) (Or.inl ⟨by rfl, fun w' hw' => ?_⟩) hS0 ?_
                      · obtain ⟨g1, g2, g3⟩ := hw'
                        go_simp
                      try simp only [Act.put, List.setIfInBounds_toArray, List.set_cons_zero, List.set_cons_succ]
                      refine AnyTill.take (n := 5) (i := 7) (oi := _) (v := .string s) rfl (by kernel_rfl) (by kernel_rfl) (by kernel_rfl) (by kernel_rfl) (fun _ _ _ h => h) (Or.inl ⟨by rfl, fun w' hw' => ?_⟩) hS0 ?_
                      · obtain ⟨g1, g2, g3⟩ := hw'
                        go_simp
                      try simp only [Act.put, List.setIfInBounds_toArray, List.set_cons_zero, List.set_cons_succ]
                      refine AnyTill.one_go (n := 4) (i := 8) (by kernel_rfl) rfl (by rfl) (fun K hK => ?_)
                      have HK := hid hK
                      clear hK
                      go_simp
                      go_at_call 15
                      refine (HFs.out _).mono ?_
                      rintro e w' ⟨rfl, rfl⟩
                      refine HK.out _ _ (fun _ => hS0) ?_
                      clear HK
                      try simp only [Act.put, List.setIfInBounds_toArray, List.set_cons_zero, List.set_cons_succ]
                      have hS1 : (w5.drew.alloc (.cells #[.string z0] 9)).cell? ⟨wr.heap.size, 1, none⟩ = some (.int .i64 a) ∧ (w5.drew.alloc (.cells #[.string z0] 9)).cell? ⟨wr.heap.size, 2, none⟩ = some (.string s) ∧ (w5.drew.alloc (.cells #[.string z0] 9)).cell? ⟨w2.heap.size, a, none⟩ = some (.slice Aa n ca) :=
                        ⟨(World.cell?_alloc_lt _ _ _ hal).trans a1, (World.cell?_alloc_lt _ _ _ hal).trans a2, (World.cell?_alloc_lt _ _ _ hgl).trans hcell⟩
                      refine AnyTill.one_go (n := 3) (i := 9) (by kernel_rfl) rfl (by rfl) (fun K hK => ?_)
                      have HK := hid hK
                      clear hK
                      go_simp
                      refine HK.out _ _ (fun _ => hS1) ?_
                      clear HK
                      try simp only [Act.put, List.setIfInBounds_toArray, List.set_cons_zero, List.set_cons_succ]
                      refine AnyTill.one_go (n := 2) (i := 10) (by kernel_rfl) rfl (by rfl) (fun K hK => ?_)
                      refine wp_append_at (.tmp 84) (.tmp 88) _ rfl 0 9 i0 (.string ⟨#[]⟩) 1 16 Try.underlying30 hi0 hz0_ hz1 hz2 rfl (Nat.succ_pos 0) (.slice Aa n ca) n ((ms a).map .string) rfl hown' ⟨w5.heap.size, 0, none⟩ 1 1 [.string z0] rfl rfl own_one Hone.out Hb1.out Hb2.out (Nat.zero_le _) ?_
                      intro v3 w3 hown3 hgr3 hat3
                      obtain ⟨A3, c3, rfl⟩ := own_shape hown3
                      obtain ⟨q3, z3, hS6, hF6, hF63⟩ := Hsa.out w3 _ hown3 hgr3 hat3
                      obtain ⟨b0, b1, b2⟩ := HXc.out _ (HF5.out.trans hF63)
                      have H6 := hid (And.intro hS6 (And.intro hF6 hF63))
                      clear hown3 hgr3 hat3 hS6 hF6 hF63
                      refine hK _ _ (fun _ => ⟨b1, b2, q3⟩) ?_
                      clear hK
                      have hS2 : w3.cell? ⟨wr.heap.size, 1, none⟩ = some (.int .i64 a) ∧ w3.cell? ⟨wr.heap.size, 2, none⟩ = some (.string s) ∧ w3.cell? ⟨w2.heap.size, a, none⟩ = some (.slice Aa n ca) := ⟨b1, b2, q3⟩
                      try simp only [Act.put, List.setIfInBounds_toArray, List.set_cons_zero, List.set_cons_succ]
                      refine AnyTill.take (n := 1) (i := 11) (oi := _) (v := .pointer (some ⟨w2.heap.size, a, none⟩)) rfl (by kernel_rfl) (by kernel_rfl) (by kernel_rfl) (by kernel_rfl) (fun _ _ _ h => h) (Or.inl ⟨by rfl, fun w' hw' => ?_⟩) hS2 ?_
                      · obtain ⟨g1, g2, g3⟩ := hw'
                        go_simp
                      try simp only [Act.put, List.setIfInBounds_toArray, List.set_cons_zero, List.set_cons_succ]
                      refine AnyTill.one_go (n := 0) (i := 12) (by kernel_rfl) rfl (by rfl) (fun K hK => ?_)
                      have HK := hid hK
                      clear hK
                      go_simp
                      refine HK.out _ _ (fun h => absurd h (by decide)) ?_
                      clear HK
                      refine AnyTill.over (by kernel_rfl) ?_
                      obtain ⟨d0, _, _⟩ := HXc.out _ (HF5.out.trans H6.out.2.1)
                      have HAft := hid Hres.out
                      have H5 := hid (And.intro H6.out.1 (H5.out.2.news (H6.out.2.1.mono fun k _ h => h.1)))
                      have Hlen0' := hid (fun (j : Nat) => show (addAt ms a z0 j).length ≤ k + 2 by have := Hlen0.out j; unfold addAt; split <;> simp <;> omega)
                      clear hS0 hS1 hS2 hown' Hone Hb1 Hb2 Hsa HFs b0 b1 b2 q3 z3 H6 HX HT HXc Hres
                      go_wp2_with fail
                      generalize (d.write a s).2 = d' at H5 HAft
                      obtain ⟨vs', hvs'⟩ : ∃ x, x = setAt vs a (.slice A3 (n + 1) c3) := ⟨_, rfl⟩
                      obtain ⟨ms', hms'⟩ : ∃ x, x = addAt ms a z0 := ⟨_, rfl⟩
                      rw [← hvs', ← hms'] at H5
                      rw [← hms'] at HAft
                      have Hlen : Hid (∀ j, (ms' j).length ≤ k + 2) := hid (fun j => by rw [hms']; exact Hlen0'.out j)
                      clear hvs' hms'
                      have Hpw := hid (sv_Power H5.out.1)
                      go_wp2_with fail
                      refine Hpw.out.mono ?_
                      rintro e w6 ⟨rfl, hS6, hF6⟩
                      have H6 : Hid (Surv (w.heap.size ≤ ·) w6 b (N + 1) { d' with down := false } w2.heap.size vs' ms' ∧ Nul w w6) := hid ⟨hS6.mono (fun k _ h => h.1), H5.out.2.news (hF6.mono fun k _ h => h.1)⟩
                      clear hS6 hF6 Hpw
                      go_wp2_with fail
                      go_loopg [12, 13, 14, 15, 16] 6 (fun m i _ _ _ _ wr => ∃ (kk : Nat) (vs : Nat → Value), kk + m = 6 ∧ i = .int .i64 kk ∧ Surv (w.heap.size ≤ ·) wr b (N + 1) { d' with down := false } w2.heap.size vs (fun j => if j < kk then [fullS (d'.th j)] else ms' j) ∧ Nul w wr)
                      case atStart => exact ⟨0, vs', by omega, rfl, by simpa using H6.out.1, H6.out.2⟩
                      case round =>
                        obtain ⟨kk, vs, hk, rfl, hS, hN⟩ := hrel
                        have Hkk := hid hk
                        have HS := hid (And.intro hS hN)
                        obtain ⟨gkB, HgB⟩ : ∃ x, Hid (x = gk) := ⟨gk, hid rfl⟩
                        clear hk hS hN
                        by_cases hkk : kk < 6
                        · go_wp2_with fail
                          refine (sv_Read HS.out.1 (by omega) kk).mono ?_
                          rw [read_after HAft.out kk hkk]
                          generalize hy : fullS (d'.th kk) = y
                          rintro e w8 ⟨rfl, hf8⟩
                          have hM8 := (HS.out.1.nul hf8).may
                          have H8 := hid (And.intro (HS.out.1.nul hf8) (HS.out.2.nul hf8))
                          have hcell8 := hM8.cell kk hkk
                          have hown8 := hM8.2.1 kk hkk
                          have hzz : (fun j => if j < kk then [fullS (d'.th j)] else ms' j) kk = ms' kk := by simp
                          rw [hzz] at hown8
                          have hgl : w2.heap.size < w8.heap.size := hM8.1.lt
                          have hz8 : w8.frozen? ⟨w2.heap.size, kk, none⟩ = false := hM8.1.frozen kk
                          clear hM8 hf8 hzz
                          obtain ⟨Ak, ck, hvk⟩ := own_shape hown8
                          rw [hvk] at hcell8 hown8
                          obtain ⟨n, hL⟩ : ∃ n, (ms' kk).length = n := ⟨_, rfl⟩
                          rw [hL] at hcell8 hown8
                          have hany : anyEq (ms' kk) y = true := by
                            unfold anyEq
                            rw [List.any_eq_true]
                            exact ⟨y, by rw [← hy]; exact HAft.out.2.2 kk hkk, by simp⟩
                          have hnpos : 0 < n := by
                            rw [← hL]
                            cases h : ms' kk with
                            | nil => rw [h] at hany; simp [anyEq] at hany
                            | cons _ _ => simp
                          obtain ⟨gq, rfl⟩ := own_str hown8 (k := 0) hnpos
                          have Hown8 := hid hown8
                          have Hany := hid hany
                          have HL := hid hL
                          have Hy := hid hy
                          have Hvk := hid hvk
                          have hnb : n ≤ 60 := by have := Hlen.out kk; omega
                          clear hany hvk hown8
                          go_wp2_with fail
                          go_loopg [15, 16] n (fun m q i wr => ∃ jj : Nat, jj + m = n ∧ i = .int .i64 jj ∧ q = .bool (anyEq ((ms' kk).take jj) y) ∧ wr = w8)
                          case atStart => exact ⟨0, by omega, rfl, by simp [anyEq], rfl⟩
                          case round =>
                            obtain ⟨jj, hj, rfl, rfl, rfl⟩ := hrel
                            have Hj := hid hj
                            clear hj
                            by_cases hjn : jj < n
                            · have hjl : jj < (ms' kk).length := by omega
                              have cj : wr.cell? ⟨gq, jj, none⟩ = some (.string ((ms' kk)[jj])) := by
                                have h := Hown8.out.cells (g := gq) (by rfl) jj (.string ((ms' kk)[jj])) (by simp [hjl])
                                rw [Addr.add_lit, Nat.zero_add] at h
                                exact h
                              have hst := hid (anyEq_take (ms' kk) y jj hjl)
                              generalize (ms' kk)[jj] = x at cj hst
                              cases hq : anyEq ((ms' kk).take jj) y with
                              | true =>
                                have Hq := hid hq
                                clear hq
                                go_wp2_with fail
                                go_roundg (gk - 1)
                                case rel => exact ⟨jj + 1, by have := Hj.out; omega, by go_num, by rw [hst.out, Hq.out]; rfl, rfl⟩
                                case measure => have := Hj.out; omega
                              | false =>
                                have Hq := hid hq
                                clear hq
                                cases hx : (x.toList == y.toList) with
                                | true =>
                                  have Hx := hid hx
                                  go_wp2_with fail
                                  go_roundg (gk - 1)
                                  case rel => exact ⟨jj + 1, by have := Hj.out; omega, by go_num, by rw [hst.out, Hq.out, Hx.out]; rfl, rfl⟩
                                  case measure => have := Hj.out; omega
                                | false =>
                                  have Hx := hid hx
                                  go_wp2_with fail
                                  go_roundg (gk - 1)
                                  case rel => exact ⟨jj + 1, by have := Hj.out; omega, by go_num, by rw [hst.out, Hq.out, Hx.out]; rfl, rfl⟩
                                  case measure => have := Hj.out; omega
                            · obtain rfl : jj = n := by have := Hj.out; omega
                              have hq : anyEq ((ms' kk).take jj) y = true := by
                                rw [← HL.out, List.take_length]
                                exact Hany.out
                              rw [hq]
                              clear hq
                              obtain ⟨n1, hn1⟩ : ∃ n1, jj = n1 + 1 := ⟨jj - 1, by omega⟩
                              have hn1' : (jj : Int) - 1 = (n1 : Int) := by omega
                              have hn2 : n1 < jj := by omega
                              have hown8 := Hown8.out
                              have hL := HL.out
                              have hy := Hy.out

                              have Hn1 := hid hn1
                              clear hown8 hn1 hL hy
                              go_wp2_with fail
                              go_quiet (fail)
                              have HQ : Hid (Surv (w.heap.size ≤ ·) (wr.drewN nq) b (N + 1) { d' with down := false } w2.heap.size vs (fun j => if j < kk then [fullS (d'.th j)] else ms' j) ∧ Nul w (wr.drewN nq)) := hid ⟨H8.out.1.nul ((Frm.refl (fun _ => False) _).drewN _), H8.out.2.drewN _⟩
                              generalize wr.drewN nq = wq at HQ ⊢
                              have hz9 : wq.frozen? ⟨w2.heap.size, kk, none⟩ = false := HQ.out.1.may.1.frozen kk
                              have hc9 := HQ.out.1.may.cell kk hkk
                              have hl9 : w2.heap.size < wq.heap.size := HQ.out.1.lt.1
                              have Hset := hid (sv_set' HQ.out.1 (fun j hj => Nat.le_trans HQ.out.2.size hj) kk hkk y)
                              go_wp2_with fail
                              go_roundg (gkB - 1)
                              case rel =>
                                have h := Hset.out.1
                                rw [aft_set ms' _ kk y (by rw [Hy.out])] at h
                                exact ⟨kk + 1, setAt vs kk (.slice (some ⟨wq.heap.size, 0, none⟩) 1 1), by have := Hkk.out; have := HgB.out; omega, by go_num, h, HQ.out.2.news Hset.out.2⟩
                              case measure => have := Hkk.out; have := HgB.out; omega
                        · obtain rfl : kk = 6 := by have := Hkk.out; omega
                          go_wp2_with fail
                          go_roundg (gkA - 1)
                          case rel =>
                            refine ⟨k + 1, N + 1, _, vs, _, by have := Hk.out; have := HgA.out; omega, by omega, by go_num, by omega, HS.out.1, inv_congr (inv_after HAft.out) (fun j hj => by rw [if_pos hj]), fun j => ?_, HS.out.2⟩
                            have := Hlen.out j
                            split
                            · simp
                            · omega
                          case measure => have := Hk.out; have := HgA.out; omega
          · have e1 : decide ((k : Int) < (l.length : Int)) = true := decide_eq_true (by omega)
            have e2 : decide ((k : Int) < 50) = false := decide_eq_false (by omega)
            go_wp2_with fail
            go_ret
            exact ⟨rfl, HS.out.2⟩
        · have e1 : decide ((k : Int) < (l.length : Int)) = false := decide_eq_false (by omega)
          go_wp2_with fail
          go_ret
          exact ⟨rfl, HS.out.2⟩

theorem law_DiskSurvives (A0 A1 : Option Addr) (c0 c1 : Nat) (cr : List (Int × List UInt8)) (l : List (Int × Int × ByteArray)) (w : World) (hA : CrashesAt w (· < w.heap.size) A0 cr) (hB : ActsAt w w.heap.size A1 l) (hl : cr.length ≤ 9223372036854775807) (hll : l.length ≤ 9223372036854775807) :
    Calls Try.prog 3 #[.slice A0 cr.length c0, .slice A1 l.length c1] w fun e w' => e = .returned (.bool true) ∧ Nul w w' := by
  cases hlt : lightB cr with
  | false => exact surv_awake A0 A1 c0 c1 _ cr _ w hA hl hlt
  | true => exact surv_go A0 A1 c0 c1 cr l w hA hB hl hll hlt
end Go.Proofs.Ytdpffgcekjdneaa
