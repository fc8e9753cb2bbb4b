/-
  Walks: a disk's crash, write and flush.
-/
import Derived.Test.YtdpffgcekjdneaaDiskC
set_option linter.all false
namespace Go.Proofs.Ytdpffgcekjdneaa
open Go.RowKit

theorem ops_cast (n : Nat) : ((n + 1 : Nat) : Int) = (n : Int) + 1 := by omega

theorem DiskV.upd {w : World} {F G : Nat → Prop} {b bm c : Nat} {d : Dk} {vw : Value} {A : Option Addr} (h : DiskV w F G b d bm vw A c) (d' : Dk) (i : Nat) (u : Value)
    (hcells : [.int .i64 d.n, .map (some bm), vw, .slice A d.cr.length c, .int .i64 d.ops, .bool d.down].set i u = [.int .i64 d'.n, .map (some bm), vw, .slice A d'.cr.length c, .int .i64 d'.ops, .bool d'.down])
    (hth : d'.th = d.th) (hwt : d'.wait = d.wait) (hcr : d'.cr = d.cr) : DiskV (w.setCell ⟨b, i, none⟩ u) F G b d' bm vw A c := by
  obtain ⟨h1, h2, h3, h4, h5, h6, h7, h8, h9⟩ := h
  have hon : One b w (w.setCell ⟨b, i, none⟩ u) := (One.refl b w).put i u
  refine ⟨h1, h2, ?_, ?_, ?_, h6, ?_, fun k hk => Nat.lt_of_lt_of_le (h8 k hk) hon.size, h9⟩
  · rw [← hcells]; exact h3.put i u
  · rw [hth]; exact h4.frm hon (map_ne h3 h4)
  · rw [hwt]; exact own_frm h5 hon fun k _ hk e => own_ne h5 h3 (by decide) (by rw [hk, e])
  · rw [hcr]; exact h7.frm hon fun k hk e => h9 b h1 (e ▸ hk)

theorem crash_none (d : Dk) (h : d.cr.find? (fun c => decide (c.1 = (d.ops : Int))) = none) : d.crash = (false, { d with ops := d.ops + 1 }) := by unfold Dk.crash; rw [h]
theorem crash_some (d : Dk) (c : Int × List UInt8) (h : d.cr.find? (fun c => decide (c.1 = (d.ops : Int))) = some c) :
    d.crash = (true, { d with ops := d.ops + 1, th := standL (mbit c.2) 0 d.wait d.th, wait := [], down := true }) := by unfold Dk.crash; rw [h]

/-- Sizes that a crash asks. -/
def Dk.ok2 (d : Dk) : Prop := d.wait.length ≤ 200000 ∧ d.ops ≤ 200000 ∧ d.cr.length ≤ 100000 ∧ ∀ c ∈ d.cr, c.2.length ≤ 100000
theorem Dk.ok.two {d : Dk} (h : d.ok) : d.ok2 := ⟨by have := h.2.1; omega, by have := h.2.2.1; omega, h.2.2.2.1, h.2.2.2.2.2.2⟩
theorem Dk.ok.more {d : Dk} (h : d.ok) (p : Int × ByteArray) : ({ d with wait := d.wait ++ [p] } : Dk).ok2 :=
  ⟨by show (d.wait ++ [p]).length ≤ _; have := h.2.1; rw [List.length_append]; simp; omega, by show d.ops ≤ _; have := h.2.2.1; omega, h.2.2.2.1, h.2.2.2.2.2.2⟩

set_option maxRecDepth 100000 in
set_option maxHeartbeats 1000000 in
theorem disk_crash (F G : Nat → Prop) (b : Nat) (d : Dk) (w : World) (h : DiskAt w F G b d) (hok : d.ok2) :
    Calls Try.prog 50 #[.pointer (some ⟨b, 0, none⟩)] w fun e w' => e = .returned (.bool d.crash.1) ∧ DiskAt w' F G b d.crash.2 ∧ Frm F w w' := by
  have hmf : ∀ (fn : Fn) (first cap : Array Value) (w : World), (Instr.makeFunc fn first cap).run Try.prog w = .ok (.func fn first cap) w := fun _ _ _ _ => rfl
  obtain ⟨bm, vw, A, c, hV⟩ := h
  have HV := hid hV
  have Hok := hid hok
  have hFb := hV.1
  have c4 : w.cell? ⟨b, 4, none⟩ = some (.int .i64 d.ops) := hV.2.2.1.cell 4
  have z4 : w.frozen? ⟨b, 4, none⟩ = false := hV.2.2.1.frozen 4
  have c3 : w.cell? ⟨b, 3, none⟩ = some (.slice A d.cr.length c) := hV.2.2.1.cell 3
  have o3 : d.ops ≤ 200000 := hok.2.1
  have o4 : d.cr.length ≤ 100000 := hok.2.2.1
  have hbl : b < w.heap.size := hV.2.2.1.lt
  have HFb := hid hFb
  clear hFb hV hok
  go_enter Try.func50, Try.ntmps50
  go_wp2_with fail
  have hV2 : DiskV ((w.setCell ⟨b, 4, none⟩ (.int .i64 ((d.ops : Int) + 1))).alloc (.cells #[.int .i64 d.ops] 3)) F G b { d with ops := d.ops + 1 } bm vw A c :=
    (HV.out.upd { d with ops := d.ops + 1 } 4 (.int .i64 ((d.ops : Int) + 1)) (by rw [ops_cast]; rfl) rfl rfl rfl).nul ((Frm.refl _ _).alloc _)
  have hf2 : Frm F w ((w.setCell ⟨b, 4, none⟩ (.int .i64 ((d.ops : Int) + 1))).alloc (.cells #[.int .i64 d.ops] 3)) := ((Frm.refl F w).setCell (p := ⟨b, 4, none⟩) (.inr HFb.out) _).alloc _
  have hbx : ((w.setCell ⟨b, 4, none⟩ (.int .i64 ((d.ops : Int) + 1))).alloc (.cells #[.int .i64 d.ops] 3)).cell? ⟨w.heap.size, 0, none⟩ = some (.int .i64 d.ops) :=
    (Blk.new_at (w.setCell ⟨b, 4, none⟩ (.int .i64 ((d.ops : Int) + 1))) 3 [.int .i64 d.ops] (by simp [World.setCell])).cell 0
  refine (index_func G A c w.heap.size d.ops d.cr _ hV2.2.2.2.2.2.2.1 hbx o4).mono ?_
  rintro e w3 ⟨⟨r, rfl, hr⟩, hf3⟩
  have hV3 := hV2.nul hf3
  have hF3 := hf2.nul hf3
  clear hbx hf2 hV2 hf3 c4 z4 c3
  rcases hr with ⟨rfl, hfind⟩ | ⟨k, hk, rfl, hfind⟩
  · have HD := hid (crash_none d hfind)
    have H3 := hid (And.intro hV3 hF3)
    clear hfind hV3 hF3
    go_wp2_with fail
    go_ret
    rw [HD.out]
    exact ⟨rfl, ⟨bm, vw, A, c, H3.out.1⟩, H3.out.2⟩
  · have HD := hid (crash_some d _ hfind)
    have d3 : w3.cell? ⟨b, 3, none⟩ = some (.slice A d.cr.length c) := hV3.2.2.1.cell 3
    have hcr := hV3.2.2.2.2.2.2.1
    rcases hcr with hcr | ⟨g, off, rfl, hG, hcc⟩
    · have hcr' : d.cr = [] := hcr
      rw [hcr'] at hk; simp at hk
    obtain ⟨_, B, cB, q1, hBc, hBy⟩ := hcc k hk
    have o7 : (d.cr[k]).2.length ≤ 100000 := Hok.out.2.2.2 _ (List.getElem_mem hk)
    have H3 := hid (And.intro hV3 hF3)
    have HBy := hid hBy
    clear hfind hV3 hF3 hcc hBy
    generalize hc : d.cr[k] = cc at q1 HBy o7 HD
    clear hc
    go_wp2_with fail
    have hV4 : DiskV (w3.alloc (.cells #[.slice B cc.2.length cB] 47)) F G b { d with ops := d.ops + 1 } bm vw (some ⟨g, off, none⟩) c := H3.out.1.nul ((Frm.refl _ _).alloc _)
    have o2 : d.wait.length ≤ 200000 := Hok.out.1
    refine (stand_mask F G b { d with ops := d.ops + 1 } (mbit cc.2) w3.heap.size _ ⟨_, _, _, _, hV4⟩ o2 (fun i w' hi hf' => ?_)).mono ?_
    · have hcell : w'.cell? ⟨w3.heap.size, 0, none⟩ = some (.slice B cc.2.length cB) := by
        refine cell_frm ((Blk.new w3 47 [.slice B cc.2.length cB]).cell 0) hf' (fun hF => ?_)
        have hlt : w3.heap.size < w3.heap.size := H3.out.1.2.2.2.2.2.2.2.1 _ hF
        omega
      exact crash_2 i w3.heap.size cB cc.2 G B w' hcell (HBy.out.frm (((Frm.refl F w3).alloc _).trans hf') (fun k hk hF => H3.out.1.2.2.2.2.2.2.2.2 k hF hk)) (by have := Hok.out.1; have hi' : i < d.wait.length := hi; omega) o7
    · rintro e w5 ⟨rfl, hA5, hf5⟩
      have hA := hid hA5
      obtain ⟨bm5, vw5, A5, c5, hV5⟩ := hA5
      have q5 : w5.cell? ⟨b, 5, none⟩ = some (.bool d.down) := hV5.2.2.1.cell 5
      have z5 : w5.frozen? ⟨b, 5, none⟩ = false := hV5.2.2.1.frozen 5
      have HF5 := hid (((H3.out.2.alloc (.cells #[.slice B cc.2.length cB] 47))).trans hf5)
      clear hV5 hf5 hV4 q1 d3
      go_wp2_with fail
      go_ret
      rw [HD.out]
      exact ⟨rfl, hA.out.upd _ 5 (.bool true) (fun _ _ _ _ => rfl) rfl rfl rfl, HF5.out.setCell (p := ⟨b, 5, none⟩) (.inr HFb.out) _⟩
end Go.Proofs.Ytdpffgcekjdneaa
