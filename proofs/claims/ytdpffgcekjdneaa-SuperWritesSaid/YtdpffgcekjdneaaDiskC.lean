/-
  Walks: a disk's writes stand.
-/
import Derived.Test.YtdpffgcekjdneaaDiskB
import Derived.StillTailTactics
set_option linter.all false
namespace Go.Proofs.Ytdpffgcekjdneaa
open Go.RowKit

theorem own_map_ne {w : World} {base size n bm : Nat} {e : TypeId} {v : Value} {xs : List Value} {th : Int → ByteArray} (h : w.ownsRow base e size v n xs) (hm : MapAt w bm th) : v.ownBlock ≠ some bm := by
  intro hk
  obtain ⟨es, clock, l, hb, _⟩ := hm
  rcases h.2 with ⟨rfl, _⟩ | ⟨g, cap, cur, rfl, _, hg, _⟩
  · simp [Value.ownBlock] at hk
  · simp [Value.ownBlock] at hk
    subst hk
    rw [hb] at hg
    cases hg

/-- The map has turned, nothing else. -/
theorem DiskV.mapped {w w' : World} {F G : Nat → Prop} {b bm c : Nat} {d : Dk} {vw : Value} {A : Option Addr} (h : DiskV w F G b d bm vw A c) (th : Int → ByteArray) (hm : MapAt w' bm th) (hon : One bm w w') :
    DiskV w' F G b { d with th := th } bm vw A c := by
  obtain ⟨p1, p2, p3, p4, p5, p6, p7, p8, p9⟩ := h
  have hne := map_ne p3 p4
  exact ⟨p1, p2, p3.one hon (fun e => hne e.symm), hm, own_frm p5 hon (fun k _ hk e => own_map_ne p5 p4 (e ▸ hk)), p6, p7.frm hon (fun k hk e => p9 bm p2 (e ▸ hk)), fun k hk => Nat.lt_of_lt_of_le (p8 k hk) hon.size, p9⟩

set_option maxRecDepth 100000 in
set_option maxHeartbeats 1000000 in
theorem stand_mask (F G : Nat → Prop) (b : Nat) (d : Dk) (so : Nat → Bool) (g0 : Nat) (w : World) (h : DiskAt w F G b d) (o2 : d.wait.length ≤ 200000)
    (hso : ∀ (i : Nat) (w' : World), i < d.wait.length → Frm F w w' → Calls Try.prog 68 #[.int .i64 i, .pointer (some ⟨g0, 0, none⟩)] w' fun e w'' => e = .returned (.bool (so i)) ∧ Nul w' w'') :
    Calls Try.prog 51 #[.pointer (some ⟨b, 0, none⟩), .func (.func 68) #[] #[.pointer (some ⟨g0, 0, none⟩)]] w fun e w' => e = .returned (.tuple #[]) ∧ DiskAt w' F G b { d with th := standL so 0 d.wait d.th, wait := [] } ∧ Frm F w w' := by
  have Hso := hid hso
  obtain ⟨bm, vw, A, c, hV⟩ := h
  have HV := hid hV
  obtain ⟨h1, h2, h3, h4, h5, h6, h7, h8, h9⟩ := hV
  have c2 : w.cell? ⟨b, 2, none⟩ = some vw := h3.cell 2
  obtain ⟨Av, cv, rfl⟩ := own_shape h5
  clear hso h1 h2 h3 h4 h5 h6 h7 h8 h9
  go_enter Try.func51, Try.ntmps51
  go_wp2_with fail
  clear c2
  go_loopg [4, 5, 11] d.wait.length (fun n _ _ i wr => ∃ k : Nat, k + n = d.wait.length ∧ i = .int .i64 k ∧ Frm F w wr ∧ DiskV wr F G b { d with th := standL so 0 (d.wait.take k) d.th } bm (.slice Av d.wait.length cv) A c)
  case atStart => exact ⟨0, by omega, rfl, Frm.refl _ _, HV.out⟩
  case round =>
    obtain ⟨k, hk, rfl, hf, hV⟩ := hrel
    have Hk := hid hk
    have Hf := hid hf
    have HVr := hid hV
    clear hk hf hV
    by_cases hlt : k < d.wait.length
    · obtain ⟨g, rfl, k0, k1⟩ := own_pair' HVr.out.2.2.2.2.1 hlt
      have hst := hid (standL_take so d.wait k hlt d.th)
      generalize hp : d.wait[k]'hlt = p at k0 k1 hst
      clear hp
      have Hsk := hid (Hso.out k (wr.alloc (.cells #[.int .i64 p.1, .string p.2] 93)) hlt (Hf.out.alloc _))
      cases hsok : so k with
      | true =>
        rw [hsok] at Hsk hst
        have Hst : Hid (standL so 0 (List.take (k + 1) d.wait) d.th = updTh (standL so 0 (List.take k d.wait) d.th) p.1 p.2) := hst.out
        clear hst hsok
        go_wp2_with fail
        refine Hsk.out.mono ?_
        rintro e w3 ⟨rfl, hf3⟩
        have hV3 := (HVr.out.nul ((Frm.refl _ wr).alloc _)).nul hf3
        have hX := Blk.nul (Blk.new wr 93 [.int .i64 p.1, .string p.2]) hf3
        have m1 : w3.drew.cell? ⟨b, 1, none⟩ = some (.map (some bm)) := hV3.2.2.1.cell 1
        have x0 : w3.drew.cell? ⟨wr.heap.size, 0, none⟩ = some (.int .i64 p.1) := hX.cell 0
        have x1 : w3.drew.cell? ⟨wr.heap.size, 1, none⟩ = some (.string p.2) := hX.cell 1
        have hV3' : DiskV w3.drew F G b { d with th := standL so 0 (d.wait.take k) d.th } bm (.slice (some ⟨g, 0, none⟩) d.wait.length cv) A c := hV3.nul ((Frm.refl _ w3).drew)
        obtain ⟨w4, hmu, hM4, hO4⟩ := run_mapUpdate_is (P := Try.prog) w3.drew bm _ p.1 p.2 Try.underlying86 Try.underlying3 hV3'.2.2.2.1
        have H3 := hid hV3'
        have Hf3 := hid hf3
        have HM4 := hid hM4
        have HO4 := hid hO4
        clear hV3 hV3' hf3 hM4 hO4 hX
        go_wp2_with fail
        go_still_tail 8, (by kernel_rfl)
        change wpList _ _ _ _ _ w3.drew
        go_wp2_with fail
        go_roundg (gk - 1)
        case rel =>
          refine ⟨k + 1, by have := Hk.out; omega, by go_num, ((((Hf.out.alloc _).nul Hf3.out).drew).one HO4.out (.inr H3.out.2.1)), ?_⟩
          rw [Hst.out]
          exact H3.out.mapped _ HM4.out HO4.out
        case measure => have := Hk.out; omega
      | false =>
        rw [hsok] at Hsk hst
        have Hst : Hid (standL so 0 (List.take (k + 1) d.wait) d.th = standL so 0 (List.take k d.wait) d.th) := by
          have := hst.out
          exact hid (by simpa using this)
        clear hst hsok
        go_wp2_with fail
        refine Hsk.out.mono ?_
        rintro e w3 ⟨rfl, hf3⟩
        have Hf3 := hid hf3
        clear hf3
        go_wp2_with fail
        go_roundg (gk - 1)
        case rel =>
          refine ⟨k + 1, by have := Hk.out; omega, by go_num, (Hf.out.alloc _).nul Hf3.out, ?_⟩
          rw [Hst.out]
          exact (HVr.out.nul ((Frm.refl _ wr).alloc _)).nul Hf3.out
        case measure => have := Hk.out; omega
    · obtain rfl : k = d.wait.length := by have := Hk.out; omega
      have hV := HVr.out
      rw [List.take_length] at hV
      have d2 : wr.cell? ⟨b, 2, none⟩ = some (.slice Av d.wait.length cv) := hV.2.2.1.cell 2
      have z2 : wr.frozen? ⟨b, 2, none⟩ = false := hV.2.2.1.frozen 2
      have H := hid hV
      clear hV
      go_wp2_with fail
      go_end0
      have hA : DiskAt wr F G b { d with th := standL so 0 d.wait d.th } := ⟨_, _, _, _, H.out⟩
      exact ⟨rfl, hA.clear, Hf.out.setCell (p := ⟨b, 2, none⟩) (.inr H.out.1) _⟩

set_option maxRecDepth 100000 in
set_option maxHeartbeats 1000000 in
theorem stand_all (F G : Nat → Prop) (b : Nat) (d : Dk) (so : Nat → Bool) (w : World) (h : DiskAt w F G b d) (o2 : d.wait.length ≤ 200000)
    (hso : ∀ (i : Nat) (w' : World), i < d.wait.length → Frm F w w' → Calls Try.prog 52 #[.int .i64 i] w' fun e w'' => e = .returned (.bool (so i)) ∧ Nul w' w'') :
    Calls Try.prog 51 #[.pointer (some ⟨b, 0, none⟩), .func (.func 52) #[] #[]] w fun e w' => e = .returned (.tuple #[]) ∧ DiskAt w' F G b { d with th := standL so 0 d.wait d.th, wait := [] } ∧ Frm F w w' := by
  have Hso := hid hso
  obtain ⟨bm, vw, A, c, hV⟩ := h
  have HV := hid hV
  obtain ⟨h1, h2, h3, h4, h5, h6, h7, h8, h9⟩ := hV
  have c2 : w.cell? ⟨b, 2, none⟩ = some vw := h3.cell 2
  obtain ⟨Av, cv, rfl⟩ := own_shape h5
  clear hso h1 h2 h3 h4 h5 h6 h7 h8 h9
  go_enter Try.func51, Try.ntmps51
  go_wp2_with fail
  clear c2
  go_loopg [4, 5, 11] d.wait.length (fun n _ _ i wr => ∃ k : Nat, k + n = d.wait.length ∧ i = .int .i64 k ∧ Frm F w wr ∧ DiskV wr F G b { d with th := standL so 0 (d.wait.take k) d.th } bm (.slice Av d.wait.length cv) A c)
  case atStart => exact ⟨0, by omega, rfl, Frm.refl _ _, HV.out⟩
  case round =>
    obtain ⟨k, hk, rfl, hf, hV⟩ := hrel
    have Hk := hid hk
    have Hf := hid hf
    have HVr := hid hV
    clear hk hf hV
    by_cases hlt : k < d.wait.length
    · obtain ⟨g, rfl, k0, k1⟩ := own_pair' HVr.out.2.2.2.2.1 hlt
      have hst := hid (standL_take so d.wait k hlt d.th)
      generalize hp : d.wait[k]'hlt = p at k0 k1 hst
      clear hp
      have Hsk := hid (Hso.out k (wr.alloc (.cells #[.int .i64 p.1, .string p.2] 93)) hlt (Hf.out.alloc _))
      cases hsok : so k with
      | true =>
        rw [hsok] at Hsk hst
        have Hst : Hid (standL so 0 (List.take (k + 1) d.wait) d.th = updTh (standL so 0 (List.take k d.wait) d.th) p.1 p.2) := hst.out
        clear hst hsok
        go_wp2_with fail
        refine Hsk.out.mono ?_
        rintro e w3 ⟨rfl, hf3⟩
        have hV3 := (HVr.out.nul ((Frm.refl _ wr).alloc _)).nul hf3
        have hX := Blk.nul (Blk.new wr 93 [.int .i64 p.1, .string p.2]) hf3
        have m1 : w3.drew.cell? ⟨b, 1, none⟩ = some (.map (some bm)) := hV3.2.2.1.cell 1
        have x0 : w3.drew.cell? ⟨wr.heap.size, 0, none⟩ = some (.int .i64 p.1) := hX.cell 0
        have x1 : w3.drew.cell? ⟨wr.heap.size, 1, none⟩ = some (.string p.2) := hX.cell 1
        have hV3' : DiskV w3.drew F G b { d with th := standL so 0 (d.wait.take k) d.th } bm (.slice (some ⟨g, 0, none⟩) d.wait.length cv) A c := hV3.nul ((Frm.refl _ w3).drew)
        obtain ⟨w4, hmu, hM4, hO4⟩ := run_mapUpdate_is (P := Try.prog) w3.drew bm _ p.1 p.2 Try.underlying86 Try.underlying3 hV3'.2.2.2.1
        have H3 := hid hV3'
        have Hf3 := hid hf3
        have HM4 := hid hM4
        have HO4 := hid hO4
        clear hV3 hV3' hf3 hM4 hO4 hX
        go_wp2_with fail
        go_still_tail 8, (by kernel_rfl)
        change wpList _ _ _ _ _ w3.drew
        go_wp2_with fail
        go_roundg (gk - 1)
        case rel =>
          refine ⟨k + 1, by have := Hk.out; omega, by go_num, ((((Hf.out.alloc _).nul Hf3.out).drew).one HO4.out (.inr H3.out.2.1)), ?_⟩
          rw [Hst.out]
          exact H3.out.mapped _ HM4.out HO4.out
        case measure => have := Hk.out; omega
      | false =>
        rw [hsok] at Hsk hst
        have Hst : Hid (standL so 0 (List.take (k + 1) d.wait) d.th = standL so 0 (List.take k d.wait) d.th) := by
          have := hst.out
          exact hid (by simpa using this)
        clear hst hsok
        go_wp2_with fail
        refine Hsk.out.mono ?_
        rintro e w3 ⟨rfl, hf3⟩
        have Hf3 := hid hf3
        clear hf3
        go_wp2_with fail
        go_roundg (gk - 1)
        case rel =>
          refine ⟨k + 1, by have := Hk.out; omega, by go_num, (Hf.out.alloc _).nul Hf3.out, ?_⟩
          rw [Hst.out]
          exact (HVr.out.nul ((Frm.refl _ wr).alloc _)).nul Hf3.out
        case measure => have := Hk.out; omega
    · obtain rfl : k = d.wait.length := by have := Hk.out; omega
      have hV := HVr.out
      rw [List.take_length] at hV
      have d2 : wr.cell? ⟨b, 2, none⟩ = some (.slice Av d.wait.length cv) := hV.2.2.1.cell 2
      have z2 : wr.frozen? ⟨b, 2, none⟩ = false := hV.2.2.1.frozen 2
      have H := hid hV
      clear hV
      go_wp2_with fail
      go_end0
      have hA : DiskAt wr F G b { d with th := standL so 0 d.wait d.th } := ⟨_, _, _, _, H.out⟩
      exact ⟨rfl, hA.clear, Hf.out.setCell (p := ⟨b, 2, none⟩) (.inr H.out.1) _⟩
end Go.Proofs.Ytdpffgcekjdneaa
