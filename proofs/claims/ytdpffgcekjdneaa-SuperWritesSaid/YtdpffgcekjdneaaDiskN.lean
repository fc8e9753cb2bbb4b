/-
  Walks: a disk is made.
-/
import Derived.Test.YtdpffgcekjdneaaDiskF
import Derived.Laws.CopyOwn
set_option linter.all false
namespace Go.Proofs.Ytdpffgcekjdneaa
open Go.RowKit

theorem Try.infoCrash : (Try.prog.info? 49).map (fun i => (i.zero, i.size, i.bytes)) = some (some (.agg #[.int .i64 0, .slice none 0 0]), 2, 32) := by kernel_rfl
theorem Try.infoU8s : (Try.prog.info? 5).map (·.size) = some 1 := by kernel_rfl

/-- Bytes as cells. -/
def u8V (m : List UInt8) : List Value := m.map fun b => .int .u8 b.toNat

theorem own_two {w : World} {t : TypeId} {u v : Value} : ∀ (j : Nat) (x : Value), [u, v][j]? = some x → (w.alloc (.cells #[u, v] t)).cell? ((⟨w.heap.size, 0, none⟩ : Addr).add j) = some x := by
  intro j x hu
  rw [Addr.add_lit, Nat.zero_add, (Blk.new w t [u, v]).cell]
  exact hu

/-- Crashes as cells, their masks in blocks of their own. -/
def CrOk (w : World) (B : Nat) (xs : List Value) (cr : List (Int × List UInt8)) : Prop :=
  xs.length = cr.length * 2 ∧ ∀ (i : Nat) (h : i < cr.length), xs[i * 2]? = some (.int .i64 cr[i].1) ∧
    ∃ g c, xs[i * 2 + 1]? = some (.slice (some ⟨g, 0, none⟩) cr[i].2.length c) ∧ cr[i].2.length ≤ c ∧ B ≤ g ∧ Blk w g 5 (u8V cr[i].2)

theorem CrOk.nul {w w' : World} {B : Nat} {xs : List Value} {cr : List (Int × List UInt8)} (h : CrOk w B xs cr) (hf : Nul w w') : CrOk w' B xs cr :=
  ⟨h.1, fun i hi => by
    obtain ⟨h1, g, c, h2, h3, h4, h5⟩ := h.2 i hi
    exact ⟨h1, g, c, h2, h3, h4, h5.nul hf⟩⟩
theorem CrOk.one {w w' : World} {B b : Nat} {xs : List Value} {cr : List (Int × List UInt8)} (h : CrOk w B xs cr) (hf : One b w w') (hb : b < B) : CrOk w' B xs cr :=
  ⟨h.1, fun i hi => by
    obtain ⟨h1, g, c, h2, h3, h4, h5⟩ := h.2 i hi
    exact ⟨h1, g, c, h2, h3, h4, h5.one hf (by omega)⟩⟩
theorem CrOk.grown {w w' : World} {B base n : Nat} {xs ys : List Value} {v : Value} {cr : List (Int × List UInt8)} (h : CrOk w B xs cr) (hown : w.ownsRow base 49 2 v n ys) (hg : w.grownBy w' v.ownBlock) : CrOk w' B xs cr :=
  ⟨h.1, fun i hi => by
    obtain ⟨h1, g, c, h2, h3, h4, h5⟩ := h.2 i hi
    exact ⟨h1, g, c, h2, h3, h4, h5.grown hg (own_ne hown h5 (by decide))⟩⟩
theorem CrOk.snoc {w : World} {B g c : Nat} {xs : List Value} {cr : List (Int × List UInt8)} (h : CrOk w B xs cr) (p : Int × List UInt8) (hc : p.2.length ≤ c) (hB : B ≤ g) (hg : Blk w g 5 (u8V p.2)) :
    CrOk w B (xs ++ [.int .i64 p.1, .slice (some ⟨g, 0, none⟩) p.2.length c]) (cr ++ [p]) := by
  obtain ⟨hl, h⟩ := h
  refine ⟨by simp [hl]; omega, fun i hi => ?_⟩
  by_cases hi' : i < cr.length
  · rw [List.getElem_append_left hi', List.getElem?_append_left (by omega), List.getElem?_append_left (by omega)]
    exact h i hi'
  · obtain rfl : i = cr.length := by simp at hi; omega
    have e : (cr ++ [p])[cr.length] = p := by simp
    rw [e, List.getElem?_append_right (by omega), List.getElem?_append_right (by omega), hl]
    have e1 : cr.length * 2 - cr.length * 2 = 0 := by omega
    have e2 : cr.length * 2 + 1 - cr.length * 2 = 1 := by omega
    rw [e1, e2]
    exact ⟨rfl, g, c, rfl, hc, hB, hg⟩

/-- What is owned and stands so is read so. -/
theorem CrOk.crashes {w : World} {B base n : Nat} {xs : List Value} {A : Option Addr} {c : Nat} {cr : List (Int × List UInt8)} (h : CrOk w B xs cr) (hown : w.ownsRow base 49 2 (.slice A n c) n xs) (S : Nat → Prop) (hS : ∀ k, k < w.heap.size → B ≤ k → S k) (hb : B ≤ base) : CrashesAt w S A cr := by
  by_cases hcr : cr = []
  · exact .inl hcr
  · have hpos : 0 < cr.length := by
      cases cr with
      | nil => exact absurd rfl hcr
      | cons _ _ => simp
    have hl1 := hown.1
    have hl2 := h.1
    rcases hown.2 with ⟨_, rfl⟩ | ⟨g, cap, cur, e, hbg, hgB, _⟩
    · omega
    · injection e with e1 e2 e3
      subst e1
      refine .inr ⟨g, 0, rfl, hS g (Array.getElem?_eq_some_iff.1 hgB).1 (by omega), fun i hi => ?_⟩
      obtain ⟨h1, g', c', h2, h3, h4, h5⟩ := h.2 i hi
      have q1 := hown.cells (g := g) (by rfl) (i * 2) _ h1
      have q2 := hown.cells (g := g) (by rfl) (i * 2 + 1) _ h2
      rw [Addr.add_lit] at q1 q2
      refine ⟨q1, _, _, q2, h3, .inr ⟨g', 0, rfl, hS g' h5.lt (by omega), fun j hj => ?_⟩⟩
      rw [h5.cell]
      simp [u8V, hj]

theorem crash_take (cr : List (Int × List UInt8)) (k : Nat) (h : k < cr.length) : cr.take (k + 1) = cr.take k ++ [cr[k]] := List.take_succ_eq_append_getElem h

theorem made_u8 (n : Nat) : madeCells #[.int .u8 0] n = (List.replicate n (Value.int .u8 0)).toArray := by rw [← toList_madeCells_one]

theorem splice_all (m : List UInt8) : splice (List.replicate m.length (Value.int .u8 0)) 0 (u8V m) = u8V m := by
  simp [splice, u8V]

/-- A disk that is being made: so many of its crashes are in. -/
def NewAt (n : Nat) (w wr : World) (k : Nat) (Ac : Option Addr) (cc : Nat) (xs : List Value) (cr : List (Int × List UInt8)) : Prop :=
  Blk wr (w.heap.size + 1) 89 [.int .i64 n, .map (some w.heap.size), .slice none 0 0, .slice Ac k cc, .int .i64 0, .bool false] ∧ MapAt wr w.heap.size (fun _ => ⟨#[]⟩) ∧
    wr.ownsRow (w.heap.size + 2) 49 2 (.slice Ac k cc) k xs ∧ CrOk wr (w.heap.size + 2) xs cr ∧ Nul w wr ∧ w.heap.size + 2 ≤ wr.heap.size

theorem NewAt.step {n k cc c3 g : Nat} {w wr w2 w3 : World} {Ac A3 : Option Addr} {xs : List Value} {cr : List (Int × List UInt8)} {p : Int × List UInt8} {o : Obj} (h : NewAt n w wr k Ac cc xs cr) (hn : Nul wr w2) (hm : Blk w2 g 5 (u8V p.2)) (hg : w.heap.size + 2 ≤ g)
    (hown : w3.ownsRow (w.heap.size + 2) 49 2 (.slice A3 (k + 1) c3) (k + 1) (xs ++ [.int .i64 p.1, .slice (some ⟨g, 0, none⟩) p.2.length p.2.length])) (hgr : (w2.drew.alloc o).grownBy w3 (Value.slice Ac k cc).ownBlock) :
    Blk w3 (w.heap.size + 1) 89 [.int .i64 n, .map (some w.heap.size), .slice none 0 0, .slice Ac k cc, .int .i64 0, .bool false] ∧
      NewAt n w (w3.setCell ⟨w.heap.size + 1, 3, none⟩ (.slice A3 (k + 1) c3)) (k + 1) A3 c3 (xs ++ [.int .i64 p.1, .slice (some ⟨g, 0, none⟩) p.2.length p.2.length]) (cr ++ [p]) := by
  obtain ⟨hB, hM, hO, hC, hf, hsz⟩ := h
  have hn' : Nul wr (w2.drew.alloc o) := (hn.drew).alloc _
  have hm' : Blk (w2.drew.alloc o) g 5 (u8V p.2) := (hm.drew).alloc _
  have hO' := own_nul hO hn'
  have hB3 := (hB.nul hn').grown hgr (own_ne hO' (hB.nul hn') (by decide))
  have hm3 := hm'.grown hgr (own_ne hO' hm' (by decide))
  have hC3 := ((hC.nul hn').grown hO' hgr).snoc p (Nat.le_refl _) hg hm3
  have hon : One (w.heap.size + 1) w3 (w3.setCell ⟨w.heap.size + 1, 3, none⟩ (.slice A3 (k + 1) c3)) := (One.refl _ w3).put 3 _
  have hf3 : Nul w w3 := (hf.nul hn').grown hgr (fun j hj => .inl (by have := (hO.lt j hj).1; omega))
  have hfM : w.heap.size ≠ w.heap.size + 1 := by omega
  refine ⟨hB3, hB3.put 3 _, ?_, own_far hown (p := ⟨w.heap.size + 1, 3, none⟩) (own_ne hown hB3 (by decide)) _, hC3.one hon (by omega), hf3.one hon (.inl (by omega)), ?_⟩
  · exact ((hM.frm hn' (fun h => h)).grown hgr (own_map_ne hO' (hM.frm hn' (fun h => h)))).frm hon hfM
  · have h1 := hn'.size
    have h2 := hgr.size
    have h3 := hon.size
    omega

theorem setRow_one (w : World) (g : Nat) (cs : Array Value) : One g w (w.setRow g cs) :=
  ⟨rfl, rfl, rfl, by simp [World.setRow], fun k _ hk => setRow_other w g k cs hk⟩

theorem run_copy_made {P : Program} (dT sT ty e : TypeId) (m : List UInt8) (B : Option Addr) (c : Nat) (w : World) (g dc : Nat) (t : TypeId) (hu : P.underlying dT = some (.slice e)) (hs : (P.info? e).map (·.size) = some 1)
    (hg : w.heap[g]? = some (.cells (List.replicate m.length (Value.int .u8 0)).toArray t (0, 0)))
    (hsrc : 0 < (u8V m).length → ∃ ad, B = some ad ∧ ∀ j v, (u8V m)[j]? = some v → w.cell? (ad.add j) = some v) :
    ∃ w2, (Builtin.copy_ #[dT, sT] ty #[.slice (some ⟨g, 0, none⟩) m.length dc, .slice B m.length c]).run P w = .ok (goInt m.length) w2 ∧ w2.heap[g]? = some (.cells (u8V m).toArray t (0, 0)) ∧ One g w w2 := by
  by_cases hm : m = []
  · subst hm
    exact ⟨w, run_copy_none (P := P) w dT sT ty e _ _ _ _ _ _ hu hs (by simp), hg, One.refl g w⟩
  · have hlen : (u8V m).length = m.length := by simp [u8V]
    have hpos : 0 < m.length := by
      cases m with
      | nil => exact absurd rfl hm
      | cons _ _ => simp
    obtain ⟨ad, rfl, hc⟩ := hsrc (by omega)
    have hr := run_copy_row (P := P) w dT sT ty e g 0 m.length dc ad m.length c _ t (u8V m) hu hs hg (by simp [hlen]) hc (by simp [hlen]) (by
      intro v hv
      simp only [u8V, List.mem_map] at hv
      obtain ⟨_, _, rfl⟩ := hv
      rfl)
    rw [hlen] at hr
    refine ⟨_, hr, ?_, setRow_one _ _ _⟩
    rw [setRow_heap w g _ _ t (0, 0) hg]
    simp

set_option maxRecDepth 100000 in
set_option maxHeartbeats 1000000 in
theorem disk_New (S : Nat → Prop) (n : Nat) (A : Option Addr) (c : Nat) (cr : List (Int × List UInt8)) (w : World) (hA : CrashesAt w S A cr) (hn1 : 1 ≤ n) (hn2 : n ≤ 65536) (hcl : cr.length ≤ 100000) (hml : ∀ p ∈ cr, p.2.length ≤ 100000) :
    Calls Try.prog 14 #[.int .i64 n, .slice A cr.length c] w fun e w' => e = .returned (.tuple #[.pointer (some ⟨w.heap.size + 1, 0, none⟩), .int .i64 0]) ∧
      DiskAt w' (fun k => k = w.heap.size ∨ k = w.heap.size + 1) (fun k => w.heap.size + 2 ≤ k ∧ k < w'.heap.size) (w.heap.size + 1) ⟨n, fun _ => ⟨#[]⟩, [], cr, 0, false⟩ ∧ Nul w w' ∧ w.heap.size + 2 ≤ w'.heap.size := by
  obtain ⟨i0, hi0, hz0, hz1, hz2⟩ := info_parts Try.infoCrash
  have HA := hid hA
  have Hml := hid hml
  have hmk := fun (N : Nat) (hN : N ≤ 100000) (w : World) => run_make_row' (P := Try.prog) 47 5 (.int .u8 0) 1 Try.underlying47 info_u8 rfl .i64 .i64 N (by omega) (by omega) w
  have Hmk := hid hmk
  clear hA hml hmk
  have hmm : ∀ w : World, (Instr.makeMap 86 none).run Try.prog w = .ok (.map (some w.heap.size)) (w.alloc (.map #[] 0)) := fun _ => rfl
  go_enter Try.func14, Try.ntmps14
  go_wp2_with fail
  go_loopg [8, 9, 22] cr.length (fun m _ _ i wr => ∃ (k : Nat) (Ac : Option Addr) (cc : Nat) (xs : List Value), k + m = cr.length ∧ i = .int .i64 k ∧ NewAt n w wr k Ac cc xs (cr.take k))
  case atStart =>
    refine ⟨0, none, 0, [], by omega, rfl, ?_, ?_, World.ownsRow_nil _ _ _ _, ⟨rfl, fun i h => by simp at h⟩, ((Frm.refl _ _).alloc _).alloc _, by simp⟩
    · exact Blk.new_at (w.alloc (.map #[] 0)) 89 [.int .i64 n, .map (some w.heap.size), .slice none 0 0, .slice none 0 0, .int .i64 0, .bool false] (by simp)
    · have hm : MapAt (w.alloc (.map #[] 0)) w.heap.size (fun _ => ⟨#[]⟩) := ⟨#[], 0, [], heap_alloc_new w _, rfl, fun _ => rfl⟩
      exact MapAt.frm hm ((Frm.refl (fun _ => False) _).alloc _) (fun h => h)
  case round =>
    obtain ⟨k, Ac, cc, xs, hk, rfl, hN⟩ := hrel
    have Hk := hid hk
    have HH := hid hN
    have hf : Nul w wr := hN.2.2.2.2.1
    clear hk hN
    by_cases hlt : k < cr.length
    · rcases HA.out with hA | ⟨ga, off, rfl, hS, hcc⟩
      · rw [hA] at hlt; simp at hlt
      obtain ⟨k0, B, cB, k1, hBc, hBy⟩ := hcc k hlt
      have q0 := cell_frm k0 hf (fun h => h)
      have q1 := cell_frm k1 hf (fun h => h)
      have hBy' := hid (hBy.frm hf (fun _ _ h => h))
      have hpl : (cr[k]).2.length ≤ 100000 := Hml.out _ (List.getElem_mem hlt)
      have HT := hid (crash_take cr k hlt)
      have HS : Hid (∀ k, S k → S k) := hid (fun _ h => h)
      generalize hp : cr[k] = p at q0 q1 hBy' hpl HT
      clear hp k0 k1 hBy hcc hf hmm
      have hmk := Hmk.out p.2.length hpl
      have hW1 : (wr.alloc (.cells #[.int .i64 p.1, .slice B p.2.length cB] 49)).heap.size = wr.heap.size + 1 := by simp
      have hgm : ((wr.alloc (.cells #[.int .i64 p.1, .slice B p.2.length cB] 49)).alloc (.cells (madeCells #[.int .u8 0] p.2.length) 5)).heap[wr.heap.size + 1]? = some (.cells (List.replicate p.2.length (Value.int .u8 0)).toArray 5 (0, 0)) := by
        rw [made_u8, ← hW1]; exact heap_alloc_new _ _
      have hsrc : 0 < (u8V p.2).length → ∃ ad, B = some ad ∧ ∀ j v, (u8V p.2)[j]? = some v → ((wr.alloc (.cells #[.int .i64 p.1, .slice B p.2.length cB] 49)).alloc (.cells (madeCells #[.int .u8 0] p.2.length) 5)).cell? (ad.add j) = some v := by
        intro hpos
        rcases hBy'.out.frm (((Frm.refl (fun _ => False) wr).alloc (.cells #[.int .i64 p.1, .slice B p.2.length cB] 49)).alloc (.cells (madeCells #[.int .u8 0] p.2.length) 5)) (fun _ _ h => h) with h | ⟨gb, ob, hb, _, hc⟩
        · rw [h] at hpos; simp [u8V] at hpos
        · refine ⟨_, hb, fun j v hv => ?_⟩
          rw [Addr.add_lit]
          obtain ⟨hj, rfl⟩ := List.getElem?_eq_some_iff.1 hv
          have hj' : j < p.2.length := by simpa [u8V] using hj
          rw [hc j hj']
          simp [u8V]
      obtain ⟨w2, hcp, hG2, hO2⟩ := run_copy_made (P := Try.prog) 47 47 3 5 p.2 B cB _ (wr.heap.size + 1) p.2.length 5 Try.underlying47 Try.infoU8s hgm hsrc
      have hN2 : Nul wr w2 := (((Frm.refl (fun _ => False) wr).alloc (.cells #[.int .i64 p.1, .slice B p.2.length cB] 49)).alloc (.cells (madeCells #[.int .u8 0] p.2.length) 5)).one hO2 (.inl (by omega))
      have hcb : Blk w2 wr.heap.size 49 [.int .i64 p.1, .slice B p.2.length cB] := ((Blk.new wr 49 [.int .i64 p.1, .slice B p.2.length cB]).alloc (.cells (madeCells #[.int .u8 0] p.2.length) 5)).one hO2 (by omega)
      have hmb : Blk w2 (wr.heap.size + 1) 5 (u8V p.2) := hG2
      obtain ⟨hB, hM, hown, hcr, hf, hsz⟩ := HH.out
      have hBd := hB.nul hN2
      have c0 : w2.cell? ⟨wr.heap.size, 0, none⟩ = some (.int .i64 p.1) := hcb.cell 0
      have c3 : w2.cell? ⟨w.heap.size + 1, 3, none⟩ = some (.slice Ac k cc) := hBd.cell 3
      have hbl : w.heap.size + 1 < w2.heap.size := hBd.lt
      have hcl2 : wr.heap.size < w2.heap.size := hcb.lt
      have HN2 := hid hN2
      have hown' : (w2.drew.alloc (.cells #[.int .i64 p.1, .slice (some ⟨wr.heap.size + 1, 0, none⟩) p.2.length p.2.length] 49)).ownsRow (w.heap.size + 2) 49 2 (.slice Ac k cc) k xs := own_nul hown ((hN2.drew).alloc _)
      have Hone := hid (show ∀ u ∈ [Value.int .i64 p.1, .slice (some ⟨wr.heap.size + 1, 0, none⟩) p.2.length p.2.length], u.oneCell' = true from fun u hu => by
        simp at hu
        rcases hu with rfl | rfl <;> rfl)
      have Hb1 := hid (show (k + 1) * 32 ≤ 140737488355328 from by omega)
      have Hb2 := hid (show k + 1 ≤ maxLen from by simp only [maxLen]; omega)
      have Hb3 := hid (show w.heap.size + 2 ≤ (w2.drew.alloc (.cells #[.int .i64 p.1, .slice (some ⟨wr.heap.size + 1, 0, none⟩) p.2.length p.2.length] 49)).heap.size from by simp; omega)
      have Hmb := hid hmb
      have Hg := hid (show w.heap.size + 2 ≤ wr.heap.size + 1 by omega)
      have HSt := hid (fun (w3 : World) (A3 : Option Addr) (c3 : Nat) => HH.out.step (o := .cells #[.int .i64 p.1, .slice (some ⟨wr.heap.size + 1, 0, none⟩) p.2.length p.2.length] 49) (w3 := w3) (A3 := A3) (c3 := c3) HN2.out Hmb.out Hg.out)
      clear hmb hcb hBd hN2 hW1 hB hM  hown hcr hf hsz hgm hsrc hO2 hG2
      go_wp2_with fail
      go_region_law (have _h := c3; refine step_append_at rfl (.tmp 38) (.tmp 43) _ rfl (w.heap.size + 2) 49 i0 (.agg #[.int .i64 0, .slice none 0 0]) 2 32 Try.underlying22 hi0 hz0 hz1 hz2 rfl (Nat.succ_pos 1) (.slice Ac k cc) k xs rfl hown' ⟨w2.heap.size, 0, none⟩ 1 1 [.int .i64 p.1, .slice (some ⟨wr.heap.size + 1, 0, none⟩) p.2.length p.2.length] rfl rfl own_two Hone.out Hb1.out Hb2.out Hb3.out ?_; intro v3 w3 hown3 hgr3 hat3; obtain ⟨A3, c3', rfl⟩ := own_shape hown3; have HS3 := hid (HSt.out w3 A3 c3' hown3 hgr3); have z3 : w3.frozen? ⟨w.heap.size + 1, 3, none⟩ = false := HS3.out.1.frozen 3; have q3 : w3.cell? ⟨w.heap.size + 1, 3, none⟩ = some (.slice Ac k cc) := HS3.out.1.cell 3; clear hown3 hgr3 hat3)
      all_goals
        go_wp2_with fail
        go_roundg (gk - 1)
        case rel =>
          have h2 := HS3.out.2
          rw [← HT.out] at h2
          exact ⟨k + 1, A3, c3', _, by have := Hk.out; omega, by go_num, h2⟩
        case measure => have := Hk.out; omega
    · obtain rfl : k = cr.length := by have := Hk.out; omega
      clear hmm hf
      go_wp2_with fail
      go_ret2
      obtain ⟨hB, hM, hown, hcr, hf, hsz⟩ := HH.out
      rw [List.take_length] at hcr
      refine ⟨rfl, ⟨w.heap.size, .slice none 0 0, Ac, cc, .inr rfl, .inl rfl, hB, hM, World.ownsRow_nil _ _ _ _, fun k hk => by simp [Value.ownBlock] at hk, hcr.crashes hown _ (fun k h1 h2 => ⟨h2, h1⟩) (Nat.le_refl _), fun k hk => by rcases hk with rfl | rfl <;> omega, fun k hk hh => by rcases hk with rfl | rfl <;> omega⟩, hf, hsz⟩
end Go.Proofs.Ytdpffgcekjdneaa
