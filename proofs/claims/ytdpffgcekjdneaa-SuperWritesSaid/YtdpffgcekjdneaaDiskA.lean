/-
  Walks: a disk in memory, and its small functions.
-/
import Derived.Test.YtdpffgcekjdneaaRows
import Derived.Test.YtdpffgcekjdneaaDiskM
import Derived.Deep.LoopGhost
import Derived.Deep.QuietTactic
import Derived.BigQuiet
import Derived.IntWalk
import Derived.Deep.OwnRows
set_option linter.all false
namespace Go.Proofs.Ytdpffgcekjdneaa
open Go.RowKit

/-- Bytes that a slice reads, in blocks of S. -/
def BytesAt (w : World) (S : Nat → Prop) (A : Option Addr) (m : List UInt8) : Prop :=
  m = [] ∨ ∃ g off, A = some ⟨g, off, none⟩ ∧ S g ∧ ∀ (j : Nat) (h : j < m.length), w.cell? ⟨g, off + j, none⟩ = some (.int .u8 m[j].toNat)

/-- Crashes that a slice reads, in blocks of S. -/
def CrashesAt (w : World) (S : Nat → Prop) (A : Option Addr) (cr : List (Int × List UInt8)) : Prop :=
  cr = [] ∨ ∃ g off, A = some ⟨g, off, none⟩ ∧ S g ∧ ∀ (i : Nat) (h : i < cr.length), w.cell? ⟨g, off + i * 2, none⟩ = some (.int .i64 cr[i].1) ∧
    ∃ B c, w.cell? ⟨g, off + i * 2 + 1, none⟩ = some (.slice B cr[i].2.length c) ∧ cr[i].2.length ≤ c ∧ BytesAt w S B cr[i].2

theorem cell_frm {T : Nat → Prop} {w w' : World} {p : Addr} {v : Value} (h : w.cell? p = some v) (hf : Frm T w w') (hs : ¬ T p.block) : w'.cell? p = some v :=
  (hf.cell (World.block_lt_of_cell? w _ h) hs).trans h

theorem BytesAt.frm {S T : Nat → Prop} {w w' : World} {A : Option Addr} {m : List UInt8} (h : BytesAt w S A m) (hf : Frm T w w') (hs : ∀ k, S k → ¬ T k) : BytesAt w' S A m := by
  rcases h with h | ⟨g, off, hA, hg, hc⟩
  · exact .inl h
  · exact .inr ⟨g, off, hA, hg, fun j hj => cell_frm (hc j hj) hf (hs g hg)⟩
theorem CrashesAt.frm {S T : Nat → Prop} {w w' : World} {A : Option Addr} {cr : List (Int × List UInt8)} (h : CrashesAt w S A cr) (hf : Frm T w w') (hs : ∀ k, S k → ¬ T k) : CrashesAt w' S A cr := by
  rcases h with h | ⟨g, off, hA, hg, hc⟩
  · exact .inl h
  · refine .inr ⟨g, off, hA, hg, fun i hi => ?_⟩
    obtain ⟨h1, B, c, h2, h3, h4⟩ := hc i hi
    exact ⟨cell_frm h1 hf (hs g hg), B, c, cell_frm h2 hf (hs g hg), h3, h4.frm hf hs⟩

/-- Pairs of a number and a text, as cells. -/
def prCells (l : List (Int × ByteArray)) : List Value := l.flatMap fun p => [.int .i64 p.1, .string p.2]

theorem prCells_length (l : List (Int × ByteArray)) : (prCells l).length = l.length * 2 := by
  induction l with
  | nil => rfl
  | cons p l ih => simp only [prCells, List.flatMap_cons, List.length_append, List.length_cons, List.length_nil] at ih ⊢; omega
theorem prCells_get (l : List (Int × ByteArray)) (k : Nat) (h : k < l.length) : (prCells l)[k * 2]? = some (.int .i64 (l[k]).1) ∧ (prCells l)[k * 2 + 1]? = some (.string (l[k]).2) := by
  induction l generalizing k with
  | nil => simp at h
  | cons p l ih =>
    cases k with
    | zero => exact ⟨rfl, rfl⟩
    | succ k =>
      have := ih k (by simpa using h)
      have e : (k + 1) * 2 = k * 2 + 1 + 1 := by omega
      simp only [prCells, List.flatMap_cons, List.cons_append, List.nil_append, List.getElem_cons_succ, e, List.getElem?_cons_succ] at this ⊢
      exact this

/-- A row of pairs that is owned: where its pairs lie. -/
theorem own_pair {w : World} {e : TypeId} {v : Value} {l : List (Int × ByteArray)} {k : Nat} (h : w.ownsRow 0 e 2 v l.length (prCells l)) (hk : k < l.length) :
    ∃ g c, v = .slice (some ⟨g, 0, none⟩) l.length c ∧ v.ownBlock = some g ∧ w.cell? ⟨g, k * 2, none⟩ = some (.int .i64 (l[k]).1) ∧ w.cell? ⟨g, k * 2 + 1, none⟩ = some (.string (l[k]).2) := by
  rcases h.2 with ⟨_, h0⟩ | ⟨g, cap, cur, rfl, hb, hg, _⟩
  · omega
  · have h1 := h.cells (g := g) rfl (k * 2) _ (prCells_get l k hk).1
    have h2 := h.cells (g := g) rfl (k * 2 + 1) _ (prCells_get l k hk).2
    rw [Addr.add_lit, Nat.zero_add] at h1 h2
    exact ⟨g, cap, rfl, rfl, h1, h2⟩

theorem own_pair' {w : World} {e : TypeId} {A : Option Addr} {c : Nat} {l : List (Int × ByteArray)} {k : Nat} (h : w.ownsRow 0 e 2 (.slice A l.length c) l.length (prCells l)) (hk : k < l.length) :
    ∃ g, A = some ⟨g, 0, none⟩ ∧ w.cell? ⟨g, k * 2, none⟩ = some (.int .i64 (l[k]).1) ∧ w.cell? ⟨g, k * 2 + 1, none⟩ = some (.string (l[k]).2) := by
  obtain ⟨g, c', e1, _, k0, k1⟩ := own_pair h hk
  injection e1 with e1
  exact ⟨g, e1, k0, k1⟩

/-- A disk in memory: F: the blocks that its calls turn; G: those that they only read; its parts by name. -/
def DiskV (w : World) (F G : Nat → Prop) (b : Nat) (d : Dk) (bm : Nat) (vw : Value) (A : Option Addr) (c : Nat) : Prop :=
  F b ∧ F bm ∧
    Blk w b 89 [.int .i64 d.n, .map (some bm), vw, .slice A d.cr.length c, .int .i64 d.ops, .bool d.down] ∧ MapAt w bm d.th ∧
    w.ownsRow 0 93 2 vw d.wait.length (prCells d.wait) ∧ (∀ k, vw.ownBlock = some k → F k) ∧ CrashesAt w G A d.cr ∧ (∀ k, F k → k < w.heap.size) ∧ (∀ k, F k → ¬ G k)

/-- A disk in memory. -/
def DiskAt (w : World) (F G : Nat → Prop) (b : Nat) (d : Dk) : Prop := ∃ (bm : Nat) (vw : Value) (A : Option Addr) (c : Nat), DiskV w F G b d bm vw A c

/-- The same, sized: what every walk asks of a disk. -/
def Dk.ok (d : Dk) : Prop := d.n ≤ 65536 ∧ d.wait.length ≤ 100000 ∧ d.ops ≤ 100000 ∧ d.cr.length ≤ 100000 ∧ (∀ k, (d.th k).size ≤ 128) ∧ (∀ p ∈ d.wait, p.2.size ≤ 128) ∧ (∀ c ∈ d.cr, c.2.length ≤ 100000)

theorem DiskV.frm {w w' : World} {F G T : Nat → Prop} {b bm c : Nat} {d : Dk} {vw : Value} {A : Option Addr} (h : DiskV w F G b d bm vw A c) (hf : Frm T w w') (hF : ∀ k, F k → ¬ T k) (hG : ∀ k, G k → ¬ T k) : DiskV w' F G b d bm vw A c := by
  obtain ⟨h1, h2, h3, h4, h5, h6, h7, h8, h9⟩ := h
  exact ⟨h1, h2, h3.frm hf (hF b h1), h4.frm hf (hF bm h2), own_frm h5 hf (fun k _ hk => hF k (h6 k hk)), h6, h7.frm hf hG, fun k hk => Nat.lt_of_lt_of_le (h8 k hk) hf.size, h9⟩
theorem DiskV.nul {w w' : World} {F G : Nat → Prop} {b bm c : Nat} {d : Dk} {vw : Value} {A : Option Addr} (h : DiskV w F G b d bm vw A c) (hf : Nul w w') : DiskV w' F G b d bm vw A c := h.frm hf (fun _ _ hh => hh) (fun _ _ hh => hh)
theorem DiskAt.frm {w w' : World} {F G T : Nat → Prop} {b : Nat} {d : Dk} (h : DiskAt w F G b d) (hf : Frm T w w') (hF : ∀ k, F k → ¬ T k) (hG : ∀ k, G k → ¬ T k) : DiskAt w' F G b d := by
  obtain ⟨bm, vw, A, c, h1, h2, h3, h4, h5, h6, h7, h8, h9⟩ := h
  exact ⟨bm, vw, A, c, h1, h2, h3.frm hf (hF b h1), h4.frm hf (hF bm h2), own_frm h5 hf (fun k _ hk => hF k (h6 k hk)), h6, h7.frm hf hG, fun k hk => Nat.lt_of_lt_of_le (h8 k hk) hf.size, h9⟩
theorem DiskAt.nul {w w' : World} {F G : Nat → Prop} {b : Nat} {d : Dk} (h : DiskAt w F G b d) (hf : Nul w w') : DiskAt w' F G b d := h.frm hf (fun _ _ hh => hh) (fun _ _ hh => hh)
theorem DiskAt.drewN {w : World} {F G : Nat → Prop} {b : Nat} {d : Dk} (h : DiskAt w F G b d) (n : Nat) : DiskAt (w.drewN n) F G b d := h.nul ((Frm.refl _ w).drewN n)

theorem map_ne {w : World} {b bm : Nat} {t : TypeId} {cs : List Value} {th : Int → ByteArray} (h : Blk w b t cs) (hm : MapAt w bm th) : bm ≠ b := by
  rintro rfl
  obtain ⟨es, clock, l, hb, _⟩ := hm
  rw [Blk, hb] at h
  cases h

/-- A store into the disk's own struct that leaves sectors, waiting writes and crashes. -/
theorem DiskAt.upd {w : World} {F G : Nat → Prop} {b : Nat} {d : Dk} (h : DiskAt w F G b d) (d' : Dk) (i : Nat) (u : Value)
    (hcells : ∀ bm vw A c, [.int .i64 d.n, .map (some bm), vw, .slice A d.cr.length c, .int .i64 d.ops, .bool d.down].set i u = [.int .i64 d'.n, .map (some bm), vw, .slice A d'.cr.length c, .int .i64 d'.ops, .bool d'.down])
    (hth : d'.th = d.th) (hwt : d'.wait = d.wait) (hcr : d'.cr = d.cr) : DiskAt (w.setCell ⟨b, i, none⟩ u) F G b d' := by
  obtain ⟨bm, vw, A, c, h1, h2, h3, h4, h5, h6, h7, h8, h9⟩ := h
  have hon : One b w (w.setCell ⟨b, i, none⟩ u) := (One.refl b w).put i u
  refine ⟨bm, vw, A, c, h1, h2, ?_, ?_, ?_, h6, ?_, fun k hk => Nat.lt_of_lt_of_le (h8 k hk) hon.size, h9⟩
  · rw [← hcells bm vw A c]; exact h3.put i u
  · rw [hth]; exact h4.frm hon (map_ne h3 h4)
  · rw [hwt]; exact own_frm h5 hon fun k _ hk e => own_ne h5 h3 (by decide) (by rw [hk, e])
  · rw [hcr]; exact h7.frm hon fun k hk e => h9 b h1 (e ▸ hk)

/-- No write waits any more. -/
theorem DiskAt.clear {w : World} {F G : Nat → Prop} {b : Nat} {d : Dk} (h : DiskAt w F G b d) : DiskAt (w.setCell ⟨b, 2, none⟩ (.slice none 0 0)) F G b { d with wait := [] } := by
  obtain ⟨bm, vw, A, c, h1, h2, h3, h4, h5, h6, h7, h8, h9⟩ := h
  have hon : One b w (w.setCell ⟨b, 2, none⟩ (.slice none 0 0)) := (One.refl b w).put 2 _
  exact ⟨bm, .slice none 0 0, A, c, h1, h2, h3.put 2 (.slice none 0 0), h4.frm hon (map_ne h3 h4), World.ownsRow_nil _ _ _ _, fun k hk => by simp [Value.ownBlock] at hk,
    h7.frm hon fun k hk e => h9 b h1 (e ▸ hk), fun k hk => Nat.lt_of_lt_of_le (h8 k hk) hon.size, h9⟩

/-- The blocks that a call may own behind itself: those that it owned, and new ones. -/
def ext (F : Nat → Prop) (w w' : World) : Nat → Prop := fun k => F k ∨ (w.heap.size ≤ k ∧ k < w'.heap.size)

theorem Frm.ext {F : Nat → Prop} {a w w' : World} (h : Frm F a w) (h' : Frm (ext F a w) w w') : Frm F a w' :=
  h.next h' fun k hk hh => by
    rcases hh with hh | hh
    · exact hh
    · omega
theorem ext_mono {F : Nat → Prop} {a w w' : World} (h : w.heap.size ≤ w'.heap.size) (k : Nat) (hk : ext F a w k) : ext F a w' k := by
  rcases hk with hk | hk
  · exact .inl hk
  · exact .inr ⟨hk.1, by omega⟩

theorem DiskAt.more {w : World} {F F' G : Nat → Prop} {b : Nat} {d : Dk} (h : DiskAt w F G b d) (hF : ∀ k, F k → F' k) (hlt : ∀ k, F' k → k < w.heap.size) (hG : ∀ k, F' k → ¬ G k) : DiskAt w F' G b d := by
  obtain ⟨bm, vw, A, c, h1, h2, h3, h4, h5, h6, h7, h8, h9⟩ := h
  exact ⟨bm, vw, A, c, hF b h1, hF bm h2, h3, h4, h5, fun k hk => hF k (h6 k hk), h7, hlt, hG⟩

theorem info_u8 : (Try.prog.info? 5).map (fun i => (i.zero, i.size, i.bytes)) = some (some (.int .u8 0), 1, 1) := by kernel_rfl

theorem zeros_string {P : Program} (src dst e : TypeId) (hs : P.underlying src = some (.slice e)) (he : P.underlying e = some (.int .u8)) (hd : P.underlying dst = some .string) (w : World) (n c : Nat) (cs : Array Value) (hcs : cs = (List.replicate n (Value.int .u8 0)).toArray) :
    (convert src dst (.slice (some ⟨w.heap.size, 0, none⟩) n c)).run P (w.alloc (.cells cs e)) = .ok (.string (zeroS n)) (w.alloc (.cells cs e)) := by
  subst hcs
  have := run_convert_bytes_back (w.alloc (.cells (List.replicate n (Value.int .u8 0)).toArray e)) src dst e ⟨w.heap.size, 0, none⟩ c (List.replicate n (0 : UInt8)) hs he hd (fun j hj => by
    rw [Addr.add_lit, (Blk.new w e (List.replicate n (Value.int .u8 0))).cell]
    have hj' : j < n := by simpa using hj
    simp [hj'])
  rw [List.length_replicate] at this
  exact this

theorem zero_string (w : World) : (zeroValue 9).run Try.prog w = .ok (.string ⟨#[]⟩) w := by kernel_rfl

set_option maxHeartbeats 400000 in
theorem disk_full (s : ByteArray) (w : World) (hs : s.size ≤ 128) :
    Calls Try.prog 53 #[.string s] w fun e w' => e = .returned (.string (fullS s)) ∧ Nul w w' := by
  obtain ⟨N, hN⟩ : ∃ N, 128 - s.size = N := ⟨_, rfl⟩
  have hi : (128 : Int) - s.size = (N : Int) := by omega
  have hmk := run_make_row' (P := Try.prog) 47 5 (.int .u8 0) 1 Try.underlying47 info_u8 rfl .i64 .i64 N (by omega) (by omega)
  rw [← hi] at hmk
  have hcv := fun w => zeros_string (P := Try.prog) 47 9 5 Try.underlying47 Try.underlying5 Try.underlying9 w N N (madeCells #[.int .u8 0] N) (by rw [← toList_madeCells_one])
  have hz : (zeroS N).size ≤ 128 := by rw [zeroS_size]; omega
  unfold fullS
  rw [hN]
  clear hN hi
  go_enter Try.func53, Try.ntmps53
  go_wp2_with fail
  go_ret
  exact ⟨rfl, (Frm.refl _ _).alloc _⟩

set_option maxHeartbeats 400000 in
theorem disk_up (F G : Nat → Prop) (b : Nat) (d : Dk) (w : World) (h : DiskAt w F G b d) :
    Calls Try.prog 49 #[.pointer (some ⟨b, 0, none⟩)] w fun e w' => e = .returned (.int .i64 (if d.down then 12 else 0)) ∧ w = w' := by
  obtain ⟨bm, vw, A, c, h1, h2, h3, _⟩ := h
  have c5 : w.cell? ⟨b, 5, none⟩ = some (.bool d.down) := h3.cell 5
  cases hd : d.down with
  | true =>
    rw [hd] at c5
    go_enter Try.func49, Try.ntmps49
    go_wp2
    go_ret
    exact ⟨rfl, rfl⟩
  | false =>
    rw [hd] at c5
    go_enter Try.func49, Try.ntmps49
    go_wp2
    go_ret
    exact ⟨rfl, rfl⟩

set_option maxHeartbeats 400000 in
theorem disk_up_nil (w : World) :
    Calls Try.prog 49 #[.pointer none] w fun e w' => e = .returned (.int .i64 1) ∧ w = w' := by
  go_enter Try.func49, Try.ntmps49
  go_wp2
  go_ret
  exact ⟨rfl, rfl⟩

set_option maxHeartbeats 400000 in
theorem disk_Sectors (F G : Nat → Prop) (b : Nat) (d : Dk) (w : World) (h : DiskAt w F G b d) :
    Calls Try.prog 20 #[.pointer (some ⟨b, 0, none⟩)] w fun e w' => e = .returned (.int .i64 d.n) ∧ w = w' := by
  obtain ⟨bm, vw, A, c, h1, h2, h3, _, h5, _⟩ := h
  have c0 : w.cell? ⟨b, 0, none⟩ = some (.int .i64 d.n) := h3.cell 0
  go_enter Try.func20, Try.ntmps20
  go_wp2
  go_ret
  exact ⟨rfl, rfl⟩

set_option maxHeartbeats 400000 in
theorem disk_Sectors_nil (w : World) :
    Calls Try.prog 20 #[.pointer none] w fun e w' => e = .returned (.int .i64 0) ∧ w = w' := by
  go_enter Try.func20, Try.ntmps20
  go_wp2
  go_ret
  exact ⟨rfl, rfl⟩

set_option maxHeartbeats 400000 in
theorem disk_Ops (F G : Nat → Prop) (b : Nat) (d : Dk) (w : World) (h : DiskAt w F G b d) :
    Calls Try.prog 25 #[.pointer (some ⟨b, 0, none⟩)] w fun e w' => e = .returned (.int .i64 d.ops) ∧ w = w' := by
  obtain ⟨bm, vw, A, c, h1, h2, h3, _, h5, _⟩ := h
  have c0 : w.cell? ⟨b, 4, none⟩ = some (.int .i64 d.ops) := h3.cell 4
  go_enter Try.func25, Try.ntmps25
  go_wp2
  go_ret
  exact ⟨rfl, rfl⟩

set_option maxHeartbeats 400000 in
theorem disk_Ops_nil (w : World) :
    Calls Try.prog 25 #[.pointer none] w fun e w' => e = .returned (.int .i64 0) ∧ w = w' := by
  go_enter Try.func25, Try.ntmps25
  go_wp2
  go_ret
  exact ⟨rfl, rfl⟩

set_option maxHeartbeats 400000 in
theorem disk_Waiting (F G : Nat → Prop) (b : Nat) (d : Dk) (w : World) (h : DiskAt w F G b d) :
    Calls Try.prog 27 #[.pointer (some ⟨b, 0, none⟩)] w fun e w' => e = .returned (.int .i64 d.wait.length) ∧ w = w' := by
  obtain ⟨bm, vw, A, c, h1, h2, h3, _, h5, _⟩ := h
  have c0 : w.cell? ⟨b, 2, none⟩ = some (vw) := h3.cell 2
  obtain ⟨Av, cv, rfl⟩ := own_shape h5
  go_enter Try.func27, Try.ntmps27
  go_wp2
  go_ret
  exact ⟨rfl, rfl⟩

set_option maxHeartbeats 400000 in
theorem disk_Waiting_nil (w : World) :
    Calls Try.prog 27 #[.pointer none] w fun e w' => e = .returned (.int .i64 0) ∧ w = w' := by
  go_enter Try.func27, Try.ntmps27
  go_wp2
  go_ret
  exact ⟨rfl, rfl⟩

set_option maxHeartbeats 400000 in
theorem disk_Down (F G : Nat → Prop) (b : Nat) (d : Dk) (w : World) (h : DiskAt w F G b d) :
    Calls Try.prog 26 #[.pointer (some ⟨b, 0, none⟩)] w fun e w' => e = .returned (.bool d.down) ∧ w = w' := by
  obtain ⟨bm, vw, A, c, h1, h2, h3, _, h5, _⟩ := h
  have c0 : w.cell? ⟨b, 5, none⟩ = some (.bool d.down) := h3.cell 5
  go_enter Try.func26, Try.ntmps26
  go_wp2
  go_ret
  exact ⟨rfl, rfl⟩

set_option maxHeartbeats 400000 in
theorem disk_Down_nil (w : World) :
    Calls Try.prog 26 #[.pointer none] w fun e w' => e = .returned (.bool false) ∧ w = w' := by
  go_enter Try.func26, Try.ntmps26
  go_wp2
  go_ret
  exact ⟨rfl, rfl⟩

set_option maxHeartbeats 400000 in
theorem disk_Power (F G : Nat → Prop) (b : Nat) (d : Dk) (w : World) (h : DiskAt w F G b d) :
    Calls Try.prog 18 #[.pointer (some ⟨b, 0, none⟩)] w fun e w' => e = .returned (.tuple #[]) ∧ DiskAt w' F G b { d with down := false } ∧ One b w w' := by
  have hh := h
  obtain ⟨bm, vw, A, c, h1, h2, h3, h4, h5, h6, h7, h8, h9⟩ := h
  have c0 : w.cell? ⟨b, 5, none⟩ = some (.bool d.down) := h3.cell 5
  have z0 : w.frozen? ⟨b, 5, none⟩ = false := h3.frozen 5
  go_enter Try.func18, Try.ntmps18
  go_wp2
  go_end0
  exact ⟨rfl, hh.upd _ 5 (.bool false) (fun _ _ _ _ => rfl) rfl rfl rfl, (One.refl b w).put 5 _⟩

set_option maxRecDepth 100000 in
set_option maxHeartbeats 400000 in
theorem disk_Read (F G : Nat → Prop) (b : Nat) (d : Dk) (s : Int) (w : World) (h : DiskAt w F G b d) (hok : d.ok) :
    Calls Try.prog 19 #[.pointer (some ⟨b, 0, none⟩), .int .i64 s] w fun e w' => e = .returned (.tuple #[.string (d.read s).1, .int .i64 (d.read s).2]) ∧ Nul w w' := by
  have hh := h
  obtain ⟨bm, vw, A, c, h1, h2, h3, h4, h5, h6, h7, h8, h9⟩ := h
  obtain ⟨o1, o2, o3, o4, o5, o6, o7⟩ := hok
  have c0 : w.cell? ⟨b, 0, none⟩ = some (.int .i64 d.n) := h3.cell 0
  unfold Dk.read
  cases hd : d.down with
  | true =>
    have hup := disk_up F G b d w hh
    rw [hd] at hup
    go_enter Try.func19, Try.ntmps19
    go_wp2_with fail
    refine hup.mono ?_
    rintro e w1 ⟨rfl, rfl⟩
    go_wp2_with fail
    go_ret2
    exact ⟨rfl, Frm.refl _ _⟩
  | false =>
    have hup := disk_up F G b d w hh
    rw [hd] at hup
    simp only [Bool.false_eq_true, if_false] at hup ⊢
    by_cases hs0 : s < 0
    · rw [if_pos (.inl hs0)]
      go_enter Try.func19, Try.ntmps19
      go_wp2_with fail
      refine hup.mono ?_
      rintro e w1 ⟨rfl, rfl⟩
      go_wp2_with fail
      go_ret2
      exact ⟨rfl, Frm.refl _ _⟩
    · by_cases hsn : (d.n : Int) ≤ s
      · rw [if_pos (.inr hsn)]
        go_enter Try.func19, Try.ntmps19
        go_wp2_with fail
        refine hup.mono ?_
        rintro e w1 ⟨rfl, rfl⟩
        go_wp2_with fail
        go_ret2
        exact ⟨rfl, Frm.refl _ _⟩
      · rw [if_neg (by omega)]
        have c1 : w.cell? ⟨b, 1, none⟩ = some (.map (some bm)) := h3.cell 1
        have c2 : w.cell? ⟨b, 2, none⟩ = some vw := h3.cell 2
        have hlk := run_lookup_is (P := Try.prog) w bm d.th s Try.underlying86 Try.underlying3 zero_string h4
        obtain ⟨Av, cv, rfl⟩ := own_shape h5
        have H5 := hid h5
        have O5 := hid (o5 s)
        clear h5 hh h3 h4 h6 h7 h8 h9 o5 o6 o7 h1 h2
        go_enter Try.func19, Try.ntmps19
        go_wp2_with fail
        refine hup.mono ?_
        rintro e w1 ⟨rfl, rfl⟩
        clear hup
        go_wp2_with fail
        refine (disk_full _ w O5.out).mono ?_
        rintro e w1 ⟨rfl, hf1⟩
        have c2' : w1.cell? ⟨b, 2, none⟩ = some (.slice Av d.wait.length cv) := cell_frm c2 hf1 (fun h => h)
        clear hlk c2 c1 c0
        go_wp2_with fail
        go_loopg [7, 9, 37] d.wait.length (fun g x _ i wr => ∃ k : Nat, k + g = d.wait.length ∧ i = .int .i64 k ∧ x = .string (lastW s (d.wait.take k) (fullS (d.th s))) ∧ Nul w wr)
        case atStart => exact ⟨0, by omega, rfl, rfl, hf1⟩
        case round =>
          obtain ⟨k, hk, rfl, rfl, hfr⟩ := hrel
          have Hk := hid hk
          clear hk
          by_cases hlt : k < d.wait.length
          · obtain ⟨g, rfl, k0, k1⟩ := own_pair' H5.out hlt
            have q0 := cell_frm k0 hfr (fun h => h)
            have q1 := cell_frm k1 hfr (fun h => h)
            have hst := lastW_take s d.wait k hlt (fullS (d.th s))
            have Hst := hid hst
            clear k0 k1 hst
            generalize hp : d.wait[k] = p at q0 q1 Hst
            clear hp
            by_cases hps : p.1 = s
            · have hb1 : (p.1 == s) = true := by simpa using hps
              go_wp2_with fail
              go_roundg (gk - 1)
              case rel => exact ⟨k + 1, by have := Hk.out; omega, by go_num, by rw [Hst.out, if_pos hps], hfr.alloc _⟩
              case measure => have := Hk.out; omega
            · have hb1 : (p.1 == s) = false := by simpa using hps
              go_wp2_with fail
              go_roundg (gk - 1)
              case rel => exact ⟨k + 1, by have := Hk.out; omega, by go_num, by rw [Hst.out, if_neg hps], hfr.alloc _⟩
              case measure => have := Hk.out; omega
          · obtain rfl : k = d.wait.length := by have := Hk.out; omega
            rw [List.take_length]
            go_wp2_with fail
            go_ret2
            exact ⟨rfl, hfr⟩
end Go.Proofs.Ytdpffgcekjdneaa
