/-
  Walks: the document's disk: write.
-/
import Derived.Test.YtdpffgcekjdneaaRefB
set_option linter.all false
namespace Go.Proofs.Ytdpffgcekjdneaa
open Go.RowKit

theorem Try.infoW : (Try.prog.info? 95).map (fun i => (i.zero, i.size, i.bytes)) = some (some (.agg #[.int .i64 0, .string ⟨#[]⟩]), 2, 24) := by kernel_rfl

/-- A write more waits. -/
theorem RefV.append {w W w3 : World} {F G : Nat → Prop} {b c : Nat} {d : Dk} {vL vw v3 : Value} {A : Option Addr} {p : Int × ByteArray} (h : RefV w F G b d vL vw A c) (hf : Nul w W) (hG : ∀ k, G k → k < w.heap.size)
    (hown : w3.ownsRow 0 95 2 v3 (d.wait.length + 1) (prCells d.wait ++ [.int .i64 p.1, .string p.2])) (hgr : W.grownBy w3 vw.ownBlock) (hat : v3.ownBlock = vw.ownBlock ∨ v3.ownBlock = some W.heap.size) :
    RefV (w3.setCell ⟨b, 1, none⟩ v3) (ext F w (w3.setCell ⟨b, 1, none⟩ v3)) G b { d with wait := d.wait ++ [p] } vL v3 A c ∧ Frm F w (w3.setCell ⟨b, 1, none⟩ v3) ∧ w3.cell? ⟨b, 1, none⟩ = some vw ∧ w3.frozen? ⟨b, 1, none⟩ = false := by
  have h' := h.nul hf
  obtain ⟨h1, h2, h3, h4, h5, h6, h7, h8, h9⟩ := h
  obtain ⟨_, g2, g3, _, g5, _, _, _, _⟩ := h'
  have hB3 : Blk w3 b _ _ := g2.grown hgr (own_ne g5 g2 (by decide))
  have hfr : Frm F w (w3.setCell ⟨b, 1, none⟩ v3) := ((Frm.of_nul hf).grown hgr (fun k hk => .inr (h6 k hk))).setCell (p := ⟨b, 1, none⟩) (.inr h1) v3
  have hsz : (w3.setCell ⟨b, 1, none⟩ v3).heap.size = w3.heap.size := by simp [World.setCell]
  have hon : One b w3 (w3.setCell ⟨b, 1, none⟩ v3) := (One.refl b w3).put 1 v3
  refine ⟨⟨.inl h1, hB3.put 1 v3, ?_, fun k hk => .inl (h4 k hk), ?_, ?_, h7.frm hfr (fun k hk hF => h9 k hF hk), ?_, ?_⟩, hfr, hB3.cell 1, hB3.frozen 1⟩
  · have g3' : w3.ownsRow 0 9 1 vL d.n (lCells d.n d.th) := own_frm (S := fun k => vw.ownBlock = some k) g3 ⟨hgr.os, hgr.tape, hgr.output, hgr.size, fun k hk hn => hgr.block k hk (fun e => hn e.symm)⟩ (fun k _ hk hv => own_own_ne g3 g5 (by decide) hk hv)
    exact own_frm g3' hon (fun k _ hk e => own_ne g3' hB3 (by decide) (by rw [hk, e]))
  · have e1 : (d.wait ++ [p]).length = d.wait.length + 1 := by simp
    have e2 : prCells (d.wait ++ [p]) = prCells d.wait ++ [.int .i64 p.1, .string p.2] := by simp [prCells]
    show World.ownsRow _ 0 _ 2 v3 (d.wait ++ [p]).length (prCells (d.wait ++ [p]))
    rw [e1, e2]
    exact own_far hown (p := ⟨b, 1, none⟩) (own_ne hown hB3 (by decide)) v3
  · intro k hk
    rcases hat with e | e
    · rw [e] at hk; exact .inl (h6 k hk)
    · rw [hk] at e
      injection e with e
      have := (hown.lt k hk).2
      exact .inr ⟨by have := hf.size; omega, by rw [hsz]; exact this⟩
  · intro k hk
    rcases hk with hk | hk
    · exact Nat.lt_of_lt_of_le (h8 k hk) hfr.size
    · exact hk.2
  · intro k hk hGk
    rcases hk with hk | hk
    · exact h9 k hk hGk
    · have := hG k hGk; omega

/-- The document's disk in memory. -/
def RefAt (w : World) (F G : Nat → Prop) (b : Nat) (d : Dk) : Prop := ∃ (vL vW : Value) (A : Option Addr) (c : Nat), RefV w F G b d vL vW A c

theorem RefAt.more' {w W w' : World} {F G : Nat → Prop} {b : Nat} {d : Dk} (h : RefAt w' (ext F w W) G b d) (hs : w.heap.size ≤ W.heap.size) (hG : ∀ k, G k → k < w.heap.size) (hf : Frm (ext F w W) W w') : RefAt w' (ext F w w') G b d := by
  obtain ⟨vL, vW, A, c, h1, h2, h3, h4, h5, h6, h7, h8, h9⟩ := h
  refine ⟨vL, vW, A, c, ext_mono hf.size b h1, h2, h3, fun k hk => ext_mono hf.size k (h4 k hk), h5, fun k hk => ext_mono hf.size k (h6 k hk), h7, fun k hk => ?_, fun k hk hg => ?_⟩
  · rcases hk with hk | hk
    · exact h8 k (.inl hk)
    · exact hk.2
  · rcases hk with hk | hk
    · exact h9 k (.inl hk) hg
    · have := hG k hg; omega
theorem RefAt.widen {w : World} {F G : Nat → Prop} {b : Nat} {d : Dk} (h : RefAt w F G b d) : RefAt w (ext F w w) G b d := by
  obtain ⟨vL, vW, A, c, h1, h2, h3, h4, h5, h6, h7, h8, h9⟩ := h
  refine ⟨vL, vW, A, c, .inl h1, h2, h3, fun k hk => .inl (h4 k hk), h5, fun k hk => .inl (h6 k hk), h7, fun k hk => ?_, fun k hk => ?_⟩
  · rcases hk with hk | hk
    · exact h8 k hk
    · exact hk.2
  · rcases hk with hk | hk
    · exact h9 k hk
    · omega

set_option maxRecDepth 100000 in
set_option maxHeartbeats 1000000 in
theorem ref_Write_go (F G : Nat → Prop) (b : Nat) (d : Dk) (s : Nat) (x : ByteArray) (w : World) (h : RefAt w F G b d) (hok : d.ok) (hfull : d.full) (hG : ∀ k, G k → k < w.heap.size) (hd : d.down = false) (hs : s < d.n) (hx : x.size ≤ 128)
    (r : Bool) (hr : ({ d with wait := d.wait ++ [((s : Int), fullS x)] } : Dk).crash.1 = r) :
    Calls Try.prog 22 #[.pointer (some ⟨b, 0, none⟩), .int .i64 s, .string x] w fun e w' => e = .returned (.int .i64 (if r then 12 else 0)) ∧ RefAt w' (ext F w w') G b ({ d with wait := d.wait ++ [((s : Int), fullS x)] } : Dk).crash.2 ∧ Frm F w w' := by
  obtain ⟨i0, hi0, hz0, hz1, hz2⟩ := info_parts Try.infoW
  have Hok := hid hok
  have HG := hid hG
  have HR := hid hr
  have HFu : Hid (Dk.full { d with wait := d.wait ++ [((s : Int), fullS x)] }) := hid (fun p hp => by
    rcases List.mem_append.1 hp with hp | hp
    · exact hfull p hp
    · simp at hp
      subst hp
      exact ⟨fullS_size x hx, s, rfl, hs⟩)
  obtain ⟨vL, vw, A, c, hV⟩ := h
  have HV := hid hV
  obtain ⟨AL, cL, rfl⟩ := own_shape hV.2.2.1
  obtain ⟨Av, cv, rfl⟩ := own_shape hV.2.2.2.2.1
  have c0 : w.cell? ⟨b, 0, none⟩ = some (.slice AL d.n cL) := hV.2.1.cell 0
  have c1 : w.cell? ⟨b, 1, none⟩ = some (.slice Av d.wait.length cv) := hV.2.1.cell 1
  have c4 : w.cell? ⟨b, 4, none⟩ = some (.bool d.down) := hV.2.1.cell 4
  rw [hd] at c4
  have hbl : b < w.heap.size := hV.2.1.lt
  have hlw : d.wait.length ≤ 100000 := hok.2.1
  have Hone := hid (show ∀ u ∈ [Value.int .i64 s, Value.string (fullS x)], u.oneCell' = true from fun u hu => by
    simp at hu
    rcases hu with rfl | rfl <;> rfl)
  have Hb1 := hid (show (d.wait.length + 1) * 24 ≤ 140737488355328 from by omega)
  have Hb2 := hid (show d.wait.length + 1 ≤ maxLen from by simp only [maxLen]; omega)
  clear hV hok hG hr hd hfull
  have hown' : (w.drew.alloc (.cells #[.int .i64 s, .string (fullS x)] 95)).ownsRow 0 95 2 (.slice Av d.wait.length cv) d.wait.length (prCells d.wait) := own_nul HV.out.2.2.2.2.1 (((Frm.refl _ w).drew).alloc _)
  have HNu := hid (show Nul w (w.drew.alloc (.cells #[.int .i64 s, .string (fullS x)] 95)) from ((Frm.refl _ w).drew).alloc _)
  have c1' : w.drew.cell? ⟨b, 1, none⟩ = some (.slice Av d.wait.length cv) := c1
  have Hap := hid (fun (w3 : World) (v3 : Value) => HV.out.append (w3 := w3) (v3 := v3) (p := ((s : Int), fullS x)) HNu.out HG.out)
  go_enter Try.func22, Try.ntmps22
  go_wp2_with fail
  go_region_law (first
    | (go_simp
       go_at_call 15
       refine (ref_Full x _).mono ?_
       rintro e w1 ⟨rfl, rfl⟩)
    | (have _h := c1
       refine step_append_at rfl (.tmp 29) (.tmp 34) _ rfl 0 95 i0 (.agg #[.int .i64 0, .string ⟨#[]⟩]) 2 24 Try.underlying43 hi0 hz0 hz1 hz2 rfl (Nat.succ_pos 1) (.slice Av d.wait.length cv) d.wait.length (prCells d.wait) rfl hown' ⟨w.heap.size, 0, none⟩ 1 1 [.int .i64 s, .string (fullS x)] rfl rfl own_two Hone.out Hb1.out Hb2.out (Nat.zero_le _) ?_
       intro v3 w3 hown3 hgr3 hat3
       obtain ⟨A3, c3, rfl⟩ := own_shape hown3
       obtain ⟨hV4, hF4, q3, z3⟩ := Hap.out w3 _ hown3 hgr3 hat3
       have H4 := hid (And.intro hV4 hF4)
       clear hV4 hF4 hown3 hgr3 hat3))
  all_goals
    have hcr := ref_begin _ G b c _ _ _ A _ H4.out.1 HFu.out (Hok.out.more _)
    have Hcr := hid hcr
    clear hcr q3 z3 c1' hown'
    go_wp2_with fail
    refine Hcr.out.mono ?_
    rw [HR.out]
    rintro e w5 ⟨rfl, ⟨vW5, hA5⟩, hf5⟩
    have H5 := hid (And.intro hA5 hf5)
    clear hA5 hf5
    cases r with
    | true =>
      go_wp2_with fail
      go_ret
      exact ⟨rfl, RefAt.more' ⟨_, _, _, _, H5.out.1⟩ H4.out.2.size HG.out H5.out.2, H4.out.2.ext H5.out.2⟩
    | false =>
      go_wp2_with fail
      go_ret
      exact ⟨rfl, RefAt.more' ⟨_, _, _, _, H5.out.1⟩ H4.out.2.size HG.out H5.out.2, H4.out.2.ext H5.out.2⟩

set_option maxRecDepth 100000 in
set_option maxHeartbeats 1000000 in
theorem ref_Write (F G : Nat → Prop) (b : Nat) (d : Dk) (s : Int) (x : ByteArray) (w : World) (h : RefAt w F G b d) (hok : d.ok) (hfull : d.full) (hG : ∀ k, G k → k < w.heap.size) :
    Calls Try.prog 22 #[.pointer (some ⟨b, 0, none⟩), .int .i64 s, .string x] w fun e w' => e = .returned (.int .i64 (d.write s x).1) ∧ RefAt w' (ext F w w') G b (d.write s x).2 ∧ Frm F w w' := by
  have H := hid h
  have c4 : w.cell? ⟨b, 4, none⟩ = some (.bool d.down) := by
    obtain ⟨vL, vw, A, c, hV⟩ := h
    exact hV.2.1.cell 4
  obtain ⟨AL, cL, c0⟩ : ∃ AL cL, w.cell? ⟨b, 0, none⟩ = some (.slice AL d.n cL) := by
    obtain ⟨vL, vw, A, c, hV⟩ := h
    obtain ⟨AL, cL, rfl⟩ := own_shape hV.2.2.1
    exact ⟨AL, cL, hV.2.1.cell 0⟩
  cases hd : d.down with
  | true =>
    rw [hd] at c4
    have HD := hid (show d.write s x = (12, d) by unfold Dk.write; rw [hd]; rfl)
    clear h hd hok hG
    go_enter Try.func22, Try.ntmps22
    go_wp2_with fail
    go_ret
    rw [HD.out]
    exact ⟨rfl, H.out.widen, Frm.refl _ _⟩
  | false =>
    by_cases hsb : s < 0 ∨ (d.n : Int) ≤ s
    · rw [hd] at c4
      have HD := hid (show d.write s x = (3, d) by unfold Dk.write; rw [hd, if_neg (by decide), if_pos hsb])
      clear h hd hok hG
      by_cases hs0 : s < 0
      · have hdd : decide (s < 0) = true := decide_eq_true hs0
        clear hsb
        go_enter Try.func22, Try.ntmps22
        go_wp2_with fail
        go_ret
        rw [HD.out]
        exact ⟨rfl, H.out.widen, Frm.refl _ _⟩
      · have hdd : decide (s < 0) = false := decide_eq_false hs0
        have hdn : decide ((d.n : Int) ≤ s) = true := decide_eq_true (by omega)
        clear hsb
        go_enter Try.func22, Try.ntmps22
        go_wp2_with fail
        go_ret
        rw [HD.out]
        exact ⟨rfl, H.out.widen, Frm.refl _ _⟩
    · by_cases hx : 128 < x.size
      · rw [hd] at c4
        have HD := hid (show d.write s x = (4, d) by unfold Dk.write; rw [hd, if_neg (by decide), if_neg hsb, if_pos hx])
        have hdd : decide (s < 0) = false := decide_eq_false (by omega)
        have hdn : decide ((d.n : Int) ≤ s) = false := decide_eq_false (by omega)
        clear h hd hok hG hsb
        go_enter Try.func22, Try.ntmps22
        go_wp2_with fail
        go_ret
        rw [HD.out]
        exact ⟨rfl, H.out.widen, Frm.refl _ _⟩
      · obtain ⟨k, rfl⟩ : ∃ k : Nat, s = (k : Int) := ⟨s.toNat, by omega⟩
        have HD : d.write k x = ((if ({ d with wait := d.wait ++ [((k : Int), fullS x)] } : Dk).crash.1 then 12 else 0), ({ d with wait := d.wait ++ [((k : Int), fullS x)] } : Dk).crash.2) := by
          unfold Dk.write; rw [hd, if_neg (by decide), if_neg (by omega), if_neg hx]
        rw [HD]
        exact ref_Write_go F G b d k x w h hok hfull hG hd (by omega) (by omega) _ rfl
end Go.Proofs.Ytdpffgcekjdneaa
