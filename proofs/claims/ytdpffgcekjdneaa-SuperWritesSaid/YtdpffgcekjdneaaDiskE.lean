/-
  Walks: a disk's write and flush.
-/
import Derived.Test.YtdpffgcekjdneaaDiskD
import Derived.Maps.AppendAt
import Derived.Deep.RegionLaw
set_option linter.all false
namespace Go.Proofs.Ytdpffgcekjdneaa
open Go.RowKit

theorem step_append_at {P : Program} {ops : Array Oper} {o : Oper} {a : Act} {w : World} {K : Act → World → Prop} {Q : Exit → Act → World → Prop} {E : Prop} (hgd : o.guard = none) (s x : Operand) (t : TypeId)
    (ho : o.op = .call { callee := .builtin .append, args := #[s, x], argTypes := #[t, t] })
    (base : Nat) (e : TypeId) (i : TypeInfo) (z : Value) (size bytes : Nat) (ht : P.underlying t = some (.slice e)) (hi : P.info? e = some i) (hz : i.zero = some z)
    (hsize : i.size = size) (hby : i.bytes = bytes) (hzs : z.cells.size = size) (hsz : 0 < size)
    (v : Value) (n : Nat) (xs : List Value) (hs : a.eval s = v) (hown : w.ownsRow base e size v n xs)
    (ad : Addr) (m c : Nat) (news : List Value) (hx : a.eval x = .slice (some ad) m c) (hl : news.length = m * size) (hnews : ∀ j u, news[j]? = some u → w.cell? (ad.add j) = some u) (h1 : ∀ u ∈ news, u.oneCell' = true)
    (hbytes : (n + m) * bytes ≤ 140737488355328) (h63 : n + m ≤ maxLen) (hbase : base ≤ w.heap.size)
    (h : ∀ v' w', w'.ownsRow base e size v' (n + m) (xs ++ news) → w.grownBy w' v.ownBlock → (v'.ownBlock = v.ownBlock ∨ v'.ownBlock = some w.heap.size) → K (a.put o.dst v') w') :
    if Region.wanted o (yielded ops a.tmps) = true then Oper.wp P o a w K Q else E := by
  have hw : Region.wanted o (yielded ops a.tmps) = true := by simp [Region.wanted, hgd]
  rw [if_pos hw]
  obtain ⟨v', w', hr, h2, h3, _, h5⟩ := run_append_own_at (P := P) w base t o.type e i z size bytes ht hi hz hsize hby hzs hsz v n xs hown ad m c news hl hnews h1 h63 hbytes hbase
  unfold Oper.wp execOp
  simp only [ho, resolve, invoke, builtin, Sem.run_bind, Sem.run_pure, Result.andThen_ok, List.map_toArray, List.map_cons, List.map_nil, hs, hx, hr]
  exact h v' w' h2 h3 h5

theorem Try.infoWrite : (Try.prog.info? 93).map (fun i => (i.zero, i.size, i.bytes)) = some (some (.agg #[.int .i64 0, .string ⟨#[]⟩]), 2, 24) := by kernel_rfl

theorem crash_wait_le (d : Dk) : d.crash.2.wait.length ≤ d.wait.length := by
  unfold Dk.crash; split
  · exact Nat.le_refl _
  · exact Nat.zero_le _

theorem flush_1 (i : Nat) (w : World) : Calls Try.prog 52 #[.int .i64 i] w fun e w' => e = .returned (.bool true) ∧ w = w' := by
  go_enter Try.func52, Try.ntmps52
  go_wp2
  go_ret
  exact ⟨rfl, rfl⟩

set_option maxRecDepth 100000 in
set_option maxHeartbeats 1000000 in
theorem disk_Flush (F G : Nat → Prop) (b : Nat) (d : Dk) (w : World) (h : DiskAt w F G b d) (hok : d.ok) :
    Calls Try.prog 16 #[.pointer (some ⟨b, 0, none⟩)] w fun e w' => e = .returned (.int .i64 d.flush.1) ∧ DiskAt w' F G b d.flush.2 ∧ Frm F w w' := by
  have hup := disk_up F G b d w h
  have hcr := disk_crash F G b d w h hok.two
  have Hok := hid hok
  have H := hid h
  unfold Dk.flush
  cases hd : d.down with
  | true =>
    rw [hd] at hup
    clear hcr h hok
    go_enter Try.func16, Try.ntmps16
    go_wp2_with fail
    refine hup.mono ?_
    rintro e w1 ⟨rfl, rfl⟩
    go_wp2_with fail
    go_ret
    exact ⟨rfl, H.out, Frm.refl _ _⟩
  | false =>
    rw [hd] at hup
    simp only [Bool.false_eq_true, if_false] at hup ⊢
    have Hup := hid hup
    have Hcr := hid hcr
    clear hup hcr h hok hd
    cases hc : d.crash.1 with
    | true =>
      have HC := hid hc
      clear hc
      go_enter Try.func16, Try.ntmps16
      go_wp2_with fail
      refine Hup.out.mono ?_
      rintro e w1 ⟨rfl, rfl⟩
      go_wp2_with fail
      refine Hcr.out.mono ?_
      rw [HC.out]
      rintro e w1 ⟨rfl, hA, hf⟩
      have HA := hid (And.intro hA hf)
      clear hA hf
      go_wp2_with fail
      go_ret
      exact ⟨rfl, HA.out.1, HA.out.2⟩
    | false =>
      have HC := hid hc
      clear hc
      go_enter Try.func16, Try.ntmps16
      go_wp2_with fail
      refine Hup.out.mono ?_
      rintro e w1 ⟨rfl, rfl⟩
      go_wp2_with fail
      refine Hcr.out.mono ?_
      rw [HC.out]
      rintro e w1 ⟨rfl, hA, hf⟩
      have HA := hid (And.intro hA hf)
      clear hA hf
      go_wp2_with fail
      refine (stand_all F G b d.crash.2 (fun _ => true) w1 HA.out.1 (Nat.le_trans (crash_wait_le d) Hok.out.two.1) (fun i w' _ _ => (flush_1 i w').mono fun _ _ ⟨h1, h2⟩ => ⟨h1, h2 ▸ Frm.refl _ _⟩)).mono ?_
      rintro e w2 ⟨rfl, hA2, hf2⟩
      have HA2 := hid (And.intro hA2 hf2)
      clear hA2 hf2
      go_wp2_with fail
      go_ret
      simp only [Bool.false_eq_true, if_false]
      exact ⟨rfl, HA2.out.1, HA.out.2.trans HA2.out.2⟩

theorem own_single {P : Program} {w : World} {t : TypeId} {s : Int} {x : ByteArray} : ∀ (j : Nat) (u : Value), [Value.int .i64 s, Value.string x][j]? = some u → (w.alloc (.cells #[.int .i64 s, .string x] t)).cell? ((⟨w.heap.size, 0, none⟩ : Addr).add j) = some u := by
  intro j u hu
  rw [Addr.add_lit, Nat.zero_add, (Blk.new w t [.int .i64 s, .string x]).cell]
  exact hu

theorem MapAt.grown {w w' : World} {b : Nat} {th : Int → ByteArray} {row : Option Nat} (h : MapAt w b th) (hg : w.grownBy w' row) (hr : row ≠ some b) : MapAt w' b th := by
  obtain ⟨es, clock, l, hb, r⟩ := h
  exact ⟨es, clock, l, (hg.block b (Array.getElem?_eq_some_iff.1 hb).1 (fun e => hr e.symm)).trans hb, r⟩

/-- A write more waits. -/
theorem DiskV.append {w W w3 : World} {F G : Nat → Prop} {b bm c : Nat} {d : Dk} {vw v3 : Value} {A : Option Addr} {p : Int × ByteArray} (h : DiskV w F G b d bm vw A c) (hf : Nul w W) (hG : ∀ k, G k → k < w.heap.size)
    (hown : w3.ownsRow 0 93 2 v3 (d.wait.length + 1) (prCells d.wait ++ [.int .i64 p.1, .string p.2])) (hgr : W.grownBy w3 vw.ownBlock) (hat : v3.ownBlock = vw.ownBlock ∨ v3.ownBlock = some W.heap.size) :
    DiskV (w3.setCell ⟨b, 2, none⟩ v3) (ext F w (w3.setCell ⟨b, 2, none⟩ v3)) G b { d with wait := d.wait ++ [p] } bm v3 A c ∧ Frm F w (w3.setCell ⟨b, 2, none⟩ v3) ∧ w3.cell? ⟨b, 2, none⟩ = some vw ∧ w3.frozen? ⟨b, 2, none⟩ = false := by
  have h' := h.nul hf
  obtain ⟨h1, h2, h3, h4, h5, h6, h7, h8, h9⟩ := h
  obtain ⟨_, _, g3, g4, g5, _, _, _, _⟩ := h'
  have hB3 : Blk w3 b _ _ := g3.grown hgr (own_ne g5 g3 (by decide))
  have hfr : Frm F w (w3.setCell ⟨b, 2, none⟩ v3) := ((Frm.of_nul hf).grown hgr (fun k hk => .inr (h6 k hk))).setCell (p := ⟨b, 2, none⟩) (.inr h1) v3
  have hsz : (w3.setCell ⟨b, 2, none⟩ v3).heap.size = w3.heap.size := by simp [World.setCell]
  refine ⟨⟨.inl h1, .inl h2, hB3.put 2 v3, ?_, ?_, ?_, h7.frm hfr (fun k hk hF => h9 k hF hk), ?_, ?_⟩, hfr, hB3.cell 2, hB3.frozen 2⟩
  · exact (g4.grown hgr (own_map_ne g5 g4)).frm ((One.refl b w3).put 2 v3) (map_ne h3 h4)
  · have e1 : (d.wait ++ [p]).length = d.wait.length + 1 := by simp
    have e2 : prCells (d.wait ++ [p]) = prCells d.wait ++ [.int .i64 p.1, .string p.2] := by simp [prCells]
    show World.ownsRow _ 0 _ 2 v3 (d.wait ++ [p]).length (prCells (d.wait ++ [p]))
    rw [e1, e2]
    exact own_far hown (p := ⟨b, 2, none⟩) (own_ne hown hB3 (by decide)) v3
  · intro k hk
    rcases hat with e | e
    · rw [e] at hk; exact .inl (h6 k hk)
    · rw [hk] at e
      injection e with e
      have := (hown.lt k hk).2
      exact .inr ⟨by have := hf.size; omega, by rw [hsz]; exact this⟩
  · intro k hk
    rcases hk with hk | hk
    · exact Nat.lt_of_lt_of_le (h8 k hk) hfr.size
    · exact hk.2
  · intro k hk hGk
    rcases hk with hk | hk
    · exact h9 k hk hGk
    · have := hG k hGk; omega

theorem DiskAt.more' {w W w' : World} {F G : Nat → Prop} {b : Nat} {d : Dk} (h : DiskAt w' (ext F w W) G b d) (hs : w.heap.size ≤ W.heap.size) (hG : ∀ k, G k → k < w.heap.size) (hf : Frm (ext F w W) W w') : DiskAt w' (ext F w w') G b d := by
  obtain ⟨bm, vw, A, c, h1, h2, h3, h4, h5, h6, h7, h8, h9⟩ := h
  refine ⟨bm, vw, A, c, ext_mono hf.size b h1, ext_mono hf.size bm h2, h3, h4, h5, fun k hk => ext_mono hf.size k (h6 k hk), h7, fun k hk => ?_, fun k hk hg => ?_⟩
  · rcases hk with hk | hk
    · exact h8 k (.inl hk)
    · exact hk.2
  · rcases hk with hk | hk
    · exact h9 k (.inl hk) hg
    · have := hG k hg; omega

set_option maxRecDepth 100000 in
set_option maxHeartbeats 1000000 in
theorem disk_Write_go (F G : Nat → Prop) (b : Nat) (d : Dk) (s : Nat) (x : ByteArray) (w : World) (h : DiskAt w F G b d) (hok : d.ok) (hG : ∀ k, G k → k < w.heap.size) (hd : d.down = false) (hs : s < d.n) (hx : x.size ≤ 128)
    (r : Bool) (hr : ({ d with wait := d.wait ++ [((s : Int), fullS x)] } : Dk).crash.1 = r) :
    Calls Try.prog 17 #[.pointer (some ⟨b, 0, none⟩), .int .i64 s, .string x] w fun e w' => e = .returned (.int .i64 (if r then 12 else 0)) ∧ DiskAt w' (ext F w w') G b ({ d with wait := d.wait ++ [((s : Int), fullS x)] } : Dk).crash.2 ∧ Frm F w w' := by
  obtain ⟨i0, hi0, hz0, hz1, hz2⟩ := info_parts Try.infoWrite
  have hup := disk_up F G b d w h
  rw [hd] at hup
  have Hup := hid hup
  have H := hid h
  have Hok := hid hok
  have HG := hid hG
  have HR := hid hr
  obtain ⟨bm, vw, A, c, hV⟩ := h
  have HV := hid hV
  have c0 : w.cell? ⟨b, 0, none⟩ = some (.int .i64 d.n) := hV.2.2.1.cell 0
  have c2 : w.cell? ⟨b, 2, none⟩ = some vw := hV.2.2.1.cell 2
  have hbl : b < w.heap.size := hV.2.2.1.lt
  obtain ⟨Av, cv, rfl⟩ := own_shape hV.2.2.2.2.1
  have hlw : d.wait.length ≤ 100000 := hok.2.1
  have Hone := hid (show ∀ u ∈ [Value.int .i64 s, Value.string (fullS x)], u.oneCell' = true from fun u hu => by
    simp at hu
    rcases hu with rfl | rfl <;> rfl)
  have Hb1 := hid (show (d.wait.length + 1) * 24 ≤ 140737488355328 from by omega)
  have Hb2 := hid (show d.wait.length + 1 ≤ maxLen from by simp only [maxLen]; omega)
  clear hV hok hG hr hup hd
  go_enter Try.func17, Try.ntmps17
  go_wp2_with fail
  refine Hup.out.mono ?_
  rintro e w1 ⟨rfl, rfl⟩
  go_wp2_with fail
  go_region_law (first
    | (go_simp
       go_at_call 53
       refine (disk_full x _ hx).mono ?_
       rintro e w1 ⟨rfl, hf1⟩
       have hf0 : Nul w w1 := ((Frm.refl _ w).drew).nul hf1
       have hbl1 : b < w1.heap.size := Nat.lt_of_lt_of_le hbl hf0.size
       have c2' : w1.cell? ⟨b, 2, none⟩ = some (.slice Av d.wait.length cv) := cell_frm c2 hf0 (fun h => h)
       have hown' : (w1.alloc (.cells #[.int .i64 s, .string (fullS x)] 93)).ownsRow 0 93 2 (.slice Av d.wait.length cv) d.wait.length (prCells d.wait) := own_nul HV.out.2.2.2.2.1 (hf0.alloc _))
    | (have _h := c2'
       refine step_append_at rfl (.tmp 32) (.tmp 37) _ rfl 0 93 i0 (.agg #[.int .i64 0, .string ⟨#[]⟩]) 2 24 Try.underlying87 hi0 hz0 hz1 hz2 rfl (Nat.succ_pos 1) (.slice Av d.wait.length cv) d.wait.length (prCells d.wait) rfl hown' ⟨w1.heap.size, 0, none⟩ 1 1 [.int .i64 s, .string (fullS x)] rfl rfl (own_single (P := Try.prog)) Hone.out Hb1.out Hb2.out (Nat.zero_le _) ?_
       intro v3 w3 hown3 hgr3 hat3
       obtain ⟨A3, c3, rfl⟩ := own_shape hown3
       obtain ⟨hV4, hF4, q3, z3⟩ := HV.out.append (p := ((s : Int), fullS x)) (hf0.alloc _) HG.out hown3 hgr3 hat3
       have H4 := hid (And.intro hV4 hF4)
       clear hV4 hF4 hown3 hgr3 hat3))
  all_goals
    have hcr := disk_crash _ G b _ _ ⟨_, _, _, _, H4.out.1⟩ (Hok.out.more _)
    have Hcr := hid hcr
    clear hcr q3 z3 c2'
    go_wp2_with fail
    refine Hcr.out.mono ?_
    rw [HR.out]
    rintro e w5 ⟨rfl, hA5, hf5⟩
    have H5 := hid (And.intro hA5 hf5)
    clear hA5 hf5
    cases r with
    | true =>
      go_wp2_with fail
      go_ret
      exact ⟨rfl, H5.out.1.more' H4.out.2.size HG.out H5.out.2, H4.out.2.ext H5.out.2⟩
    | false =>
      go_wp2_with fail
      go_ret
      exact ⟨rfl, H5.out.1.more' H4.out.2.size HG.out H5.out.2, H4.out.2.ext H5.out.2⟩

end Go.Proofs.Ytdpffgcekjdneaa
