/-
  Walks: the document's disk begins an operation.
-/
import Derived.Test.YtdpffgcekjdneaaRefV
set_option linter.all false
namespace Go.Proofs.Ytdpffgcekjdneaa
open Go.RowKit

/-- The crashes as they are read behind a turn of F's blocks. -/
theorem RefV.crashes {w : World} {F G : Nat → Prop} {b c : Nat} {d : Dk} {vL vW : Value} {A : Option Addr} (h : RefV w F G b d vL vW A c) : CrashesAt w G A d.cr := h.2.2.2.2.2.2.1

theorem own_str {w : World} {A : Option Addr} {n c : Nat} {xs : List Value} {k : Nat} (h : w.ownsRow 0 9 1 (.slice A n c) n xs) (hk : k < n) : ∃ g, A = some ⟨g, 0, none⟩ := by
  rcases h.2 with ⟨_, h0⟩ | ⟨g, cap, cur, e, _⟩
  · omega
  · injection e with e
    exact ⟨g, e⟩
theorem own_two' {w : World} {A : Option Addr} {c : Nat} {l : List (Int × ByteArray)} {k : Nat} (h : w.ownsRow 0 95 2 (.slice A l.length c) l.length (prCells l)) (hk : k < l.length) :
    ∃ g, A = some ⟨g, 0, none⟩ ∧ w.cell? ⟨g, k * 2, none⟩ = some (.int .i64 (l[k]).1) ∧ w.cell? ⟨g, k * 2 + 1, none⟩ = some (.string (l[k]).2) := own_pair' h hk

theorem RefV.crash_at {w : World} {F G : Nat → Prop} {b c g off : Nat} {d : Dk} {vL vW : Value} (h : RefV w F G b d vL vW (some ⟨g, off, none⟩) c) {k : Nat} (hk : k < d.cr.length) :
    ∃ B cB, w.cell? ⟨g, off + k * 2, none⟩ = some (.int .i64 (d.cr[k]).1) ∧ w.cell? ⟨g, off + k * 2 + 1, none⟩ = some (.slice B (d.cr[k]).2.length cB) ∧ BytesAt w G B (d.cr[k]).2 := by
  rcases h.crashes with hnil | ⟨g', off', e, hG, hcc⟩
  · rw [hnil] at hk; simp at hk
  · injection e with e
    injection e with e1 e2
    subst e1
    subst e2
    obtain ⟨q0, B, cB, q1, hBc, hBy⟩ := hcc k hk
    exact ⟨B, cB, q0, q1, hBy⟩

/-- What a store of a write needs and gives. -/
theorem RefV.at_ {w : World} {F G : Nat → Prop} {b c cL cW : Nat} {d : Dk} {AL AW A : Option Addr} (h : RefV w F G b d (.slice AL d.n cL) (.slice AW d.wait.length cW) A c) {j : Nat} (hj : j < d.wait.length) (hp : (d.wait[j]).2.size = 128) {s : Nat} (hs : (d.wait[j]).1 = s) (hsn : s < d.n) :
    ∃ gL gW u, AL = some ⟨gL, 0, none⟩ ∧ AW = some ⟨gW, 0, none⟩ ∧ w.cell? ⟨gW, j * 2, none⟩ = some (.int .i64 s) ∧ w.cell? ⟨gW, j * 2 + 1, none⟩ = some (.string (d.wait[j]).2) ∧ w.cell? ⟨gL, s, none⟩ = some u ∧ w.frozen? ⟨gL, s, none⟩ = false ∧
      RefV (w.setCell ⟨gL, s, none⟩ (.string (d.wait[j]).2)) F G b { d with th := updTh d.th s (d.wait[j]).2 } (.slice AL d.n cL) (.slice AW d.wait.length cW) A c ∧ One gL w (w.setCell ⟨gL, s, none⟩ (.string (d.wait[j]).2)) ∧ F gL := by
  obtain ⟨gL, rfl⟩ := own_str h.2.2.1 hsn
  obtain ⟨gW, rfl, k0, k1⟩ := own_two' h.2.2.2.2.1 hj
  rw [hs] at k0
  have hu := h.2.2.1.cells (g := gL) (by rfl) s _ (lCells_get d.n d.th s hsn)
  rw [Addr.add_lit, Nat.zero_add] at hu
  obtain ⟨p1, p2, p3⟩ := h.put s (d.wait[j]).2 hp
  exact ⟨gL, gW, _, rfl, rfl, k0, k1, hu, h.2.2.1.frozenAt s, p1, p2, p3⟩

set_option maxRecDepth 100000 in
set_option maxHeartbeats 2000000 in
theorem ref_begin (F G : Nat → Prop) (b c : Nat) (d : Dk) (vL vW : Value) (A : Option Addr) (w : World) (h : RefV w F G b d vL vW A c) (hfull : d.full) (hok : d.ok2) :
    Calls Try.prog 54 #[.pointer (some ⟨b, 0, none⟩)] w fun e w' => e = .returned (.bool d.crash.1) ∧ (∃ vW', RefV w' F G b d.crash.2 vL vW' A c) ∧ Frm F w w' := by
  have c3 : w.cell? ⟨b, 3, none⟩ = some (.int .i64 d.ops) := h.2.1.cell 3
  have z3 : w.frozen? ⟨b, 3, none⟩ = false := h.2.1.frozen 3
  have o3 : d.ops ≤ 200000 := hok.2.1
  have o4 : d.cr.length ≤ 100000 := hok.2.2.1
  have hbl : b < w.heap.size := h.2.1.lt
  have hFb : F b := h.1
  have hV0 : RefV (w.setCell ⟨b, 3, none⟩ (.int .i64 ((d.ops : Int) + 1))) F G b { d with ops := d.ops + 1 } vL vW A c := h.upd { d with ops := d.ops + 1 } 3 (.int .i64 ((d.ops : Int) + 1)) vW (by rw [ops_cast]; rfl) rfl rfl rfl (fun w' hon => h.keep w' hon)
  have hF0 : Frm F w (w.setCell ⟨b, 3, none⟩ (.int .i64 ((d.ops : Int) + 1))) := (Frm.refl F w).setCell (p := ⟨b, 3, none⟩) (.inr hFb) _
  have H0 := hid (And.intro hV0 hF0)
  have HF := hid hfull
  have Hok := hid hok
  have e2 : w.cell? ⟨b, 2, none⟩ = some (.slice A d.cr.length c) := h.2.1.cell 2
  have E2 := hid hV0.2.1
  clear hV0 hF0 h hfull hok
  go_enter Try.func54, Try.ntmps54
  go_wp2_with fail
  generalize hw1 : w.setCell ⟨b, 3, none⟩ (.int .i64 ((d.ops : Int) + 1)) = w1 at H0 E2 ⊢
  have f2 : w1.cell? ⟨b, 2, none⟩ = some (.slice A d.cr.length c) := E2.out.cell 2
  clear hw1 c3 z3 e2 E2
  go_loopg [4, 5] d.cr.length (fun n i _ wr => ∃ k : Nat, k + n = d.cr.length ∧ i = .int .i64 k ∧ Hid (∀ (j : Nat) (hj : j < d.cr.length), j < k → (d.cr[j]).1 ≠ d.ops) ∧ wr = w1)
  case atStart => exact ⟨0, by omega, rfl, hid (fun j _ hj => by omega), rfl⟩
  case round =>
    obtain ⟨k, hk, rfl, hn, rfl⟩ := hrel
    have Hk := hid hk
    clear hk
    by_cases hlt : k < d.cr.length
    · obtain ⟨hV, hFw⟩ := H0.out
      rcases hV.crashes with hnil | ⟨g, off, rfl, hG, hcc⟩
      · have : d.cr = [] := hnil
        rw [this] at hlt; simp at hlt
      obtain ⟨q0, B, cB, q1, hBc, hBy⟩ := hcc k hlt
      have o7 : (d.cr[k]).2.length ≤ 100000 := Hok.out.2.2.2 _ (List.getElem_mem hlt)
      have HBy := hid hBy
      have q0' : wr.cell? ⟨g, off + k * 2, none⟩ = some (.int .i64 (d.cr[k]).1) := q0
      have q1' : wr.cell? ⟨g, off + k * 2 + 1, none⟩ = some (.slice B (d.cr[k]).2.length cB) := q1
      clear hV hFw hcc hBy hBc q0 q1
      by_cases ht : (d.cr[k]).1 = d.ops
      · have HD := hid (crash_some d _ (find_at d.cr d.ops k hlt ht hn.out))
        have Ht := hid ht
        generalize hc : d.cr[k] = cc at q0' q1' HBy o7 HD ht
        have Hc := hid hc
        have hb1 : (cc.1 == (d.ops : Int)) = true := by simpa using ht
        clear hc ht q1' HBy
        obtain ⟨AL, cL, rfl⟩ := own_shape H0.out.1.2.2.1
        obtain ⟨AW, cW, rfl⟩ := own_shape H0.out.1.2.2.2.2.1
        have f1 : wr.cell? ⟨b, 1, none⟩ = some (.slice AW d.wait.length cW) := H0.out.1.2.1.cell 1
        go_wp2_with fail
        clear f1 f2 q0'
        go_loopg [5] d.wait.length (fun n i wr => ∃ j : Nat, j + n = d.wait.length ∧ i = .int .i64 j ∧ Frm F w wr ∧ RefV wr F G b { d with ops := d.ops + 1, th := standL (mbit cc.2) 0 (d.wait.take j) d.th } (.slice AL d.n cL) (.slice AW d.wait.length cW) (some ⟨g, off, none⟩) c)
        case atStart => exact ⟨0, by omega, rfl, H0.out.2, H0.out.1⟩
        case round =>
          obtain ⟨j, hj, rfl, hFr, hVr⟩ := hrel
          have Hj := hid hj
          have HVr := hid hVr
          have HFr := hid hFr
          have f1 : wr.cell? ⟨b, 1, none⟩ = some (.slice AW d.wait.length cW) := hVr.2.1.cell 1
          clear hj hVr hFr
          by_cases hlj : j < d.wait.length
          · have f0 : wr.cell? ⟨b, 0, none⟩ = some (.slice AL d.n cL) := HVr.out.2.1.cell 0
            have f2 : wr.cell? ⟨b, 2, none⟩ = some (.slice (some ⟨g, off, none⟩) d.cr.length c) := HVr.out.2.1.cell 2
            obtain ⟨B', cB', _, q1, hBy⟩ := HVr.out.crash_at (k := k) hlt
            have q1' : wr.cell? ⟨g, off + k * 2 + 1, none⟩ = some (.slice B' (d.cr[k]).2.length cB') := q1
            have hBy' : BytesAt wr G B' (d.cr[k]).2 := hBy
            rw [Hc.out] at q1' hBy'
            have HBy := hid hBy'
            have hst := hid (standL_take (mbit cc.2) d.wait j hlj d.th)
            have hjw : j ≤ 200000 := by have := Hok.out.1; omega
            clear q1 hBy hBy'
            cases hm : mbit cc.2 j with
            | true =>
              obtain ⟨hp, s, hs, hsn⟩ := HF.out _ (List.getElem_mem hlj)
              obtain ⟨gL, gW, u, rfl, rfl, k0, k1, kL, zL, hV', hO', hFg⟩ := HVr.out.at_ (j := j) hlj hp hs hsn
              have Hst : Hid (standL (mbit cc.2) 0 (List.take (j + 1) d.wait) d.th = updTh (standL (mbit cc.2) 0 (List.take j d.wait) d.th) s (d.wait[j]).2) := by
                have := hst.out
                rw [hm, if_pos rfl, hs] at this
                exact hid this
              have k1' : wr.cell? ⟨gW, j * 2 + 1, none⟩ = some (.string (d.wait[j]).2) := k1
              have HV' := hid hV'
              have HO' := hid hO'
              have HFg := hid hFg
              have HM := hid hm
              clear hst hp hs k1 hV' hO' hFg hm
              generalize hpp : (d.wait[j]).2 = x at k1' HV' HO' Hst
              clear hpp
              have f0' : wr.drew.cell? ⟨b, 0, none⟩ = some (.slice (some ⟨gL, 0, none⟩) d.n cL) := f0
              have f1' : wr.drew.cell? ⟨b, 1, none⟩ = some (.slice (some ⟨gW, 0, none⟩) d.wait.length cW) := f1
              have k0'' : wr.drew.cell? ⟨gW, j * 2, none⟩ = some (.int .i64 s) := k0
              have k1'' : wr.drew.cell? ⟨gW, j * 2 + 1, none⟩ = some (.string x) := k1'
              have kL' : wr.drew.cell? ⟨gL, s, none⟩ = some u := kL
              have zL' : wr.drew.frozen? ⟨gL, s, none⟩ = false := zL
              go_wp2_with fail
              refine (ref_Bit j cB' cc.2 G B' wr HBy.out hjw o7).mono ?_
              rw [HM.out]
              rintro e w' ⟨rfl, rfl⟩
              go_wp2_with fail
              go_still_tail 21, (by kernel_rfl)
              change wpList _ _ _ _ _ wr.drew
              go_wp2_with fail
              go_roundg (gk - 1)
              case rel =>
                have h2 := HV'.out
                rw [← Hst.out] at h2
                exact ⟨j + 1, by have := Hj.out; omega, by go_num, (HFr.out.one HO'.out (.inr HFg.out)).drew, h2.nul ((Frm.refl _ _).drew)⟩
              case measure => have := Hj.out; omega
            | false =>
              have Hst : Hid (standL (mbit cc.2) 0 (List.take (j + 1) d.wait) d.th = standL (mbit cc.2) 0 (List.take j d.wait) d.th) := by
                have := hst.out
                rw [hm] at this
                exact hid (by simpa using this)
              have HM := hid hm
              clear hst hm
              go_wp2_with fail
              refine (ref_Bit j cB' cc.2 G B' wr HBy.out hjw o7).mono ?_
              rw [HM.out]
              rintro e w' ⟨rfl, rfl⟩
              go_wp2_with fail
              go_roundg (gk - 1)
              case rel =>
                refine ⟨j + 1, by have := Hj.out; omega, by go_num, HFr.out, ?_⟩
                rw [Hst.out]
                exact HVr.out
              case measure => have := Hj.out; omega
          · obtain rfl : j = d.wait.length := by have := Hj.out; omega
            have z1 : wr.frozen? ⟨b, 1, none⟩ = false := HVr.out.2.1.frozen 1
            have f4 : wr.cell? ⟨b, 4, none⟩ = some (.bool d.down) := HVr.out.2.1.cell 4
            have z4 : wr.frozen? ⟨b, 4, none⟩ = false := HVr.out.2.1.frozen 4
            go_wp2_with fail
            go_ret
            rw [HD.out]
            have hV := HVr.out
            rw [List.take_length] at hV
            have hV1 := hV.upd { d with ops := d.ops + 1, th := standL (mbit cc.2) 0 d.wait d.th, wait := [] } 1 (.slice none 0 0) (.slice none 0 0) rfl rfl rfl rfl (fun w' _ => ⟨fun k hk => by simp [Value.ownBlock] at hk, World.ownsRow_nil _ _ _ _⟩)
            have hV2 := hV1.upd { d with ops := d.ops + 1, th := standL (mbit cc.2) 0 d.wait d.th, wait := [], down := true } 4 (.bool true) (.slice none 0 0) rfl rfl rfl rfl (fun w' _ => ⟨fun k hk => by simp [Value.ownBlock] at hk, World.ownsRow_nil _ _ _ _⟩)
            exact ⟨rfl, ⟨_, hV2⟩, (HFr.out.setCell (p := ⟨b, 1, none⟩) (.inr hV.1) _).setCell (p := ⟨b, 4, none⟩) (.inr hV.1) _⟩
      · have Ht := hid ht
        generalize hc : d.cr[k] = cc at q0' q1' HBy o7 ht
        have Hc := hid hc
        have hb1 : (cc.1 == (d.ops : Int)) = false := by simpa using ht
        clear hc ht
        go_wp2_with fail
        go_roundg (gk - 1)
        case rel =>
          refine ⟨k + 1, by have := Hk.out; omega, by go_num, hid (fun j hj hjk => ?_), rfl⟩
          rcases Nat.lt_succ_iff_lt_or_eq.1 hjk with h | h
          · exact hn.out j hj h
          · subst h
            exact Ht.out
        case measure => have := Hk.out; omega
    · obtain rfl : k = d.cr.length := by have := Hk.out; omega
      have HD := hid (crash_none d (find_none d.cr d.ops fun j hj => hn.out j hj hj))
      go_wp2_with fail
      go_ret
      rw [HD.out]
      exact ⟨rfl, ⟨vW, H0.out.1⟩, H0.out.2⟩
end Go.Proofs.Ytdpffgcekjdneaa
