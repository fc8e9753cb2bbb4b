/-
  Plain facts on memory: which blocks a run may have turned ('Frm'), a block that is known whole ('Blk').
-/
import Derived.WalkKit
import Derived.Deep.Draws
set_option linter.all false
namespace Go.Proofs.Ythocjhiapngacaa
open Go.RowKit

theorem hid {p : Prop} (h : p) : Hid p := h

/-- From w to w' only blocks of S, and new ones, have turned. -/
structure Frm (S : Nat → Prop) (w w' : World) : Prop where
  os : w'.os = w.os
  tape : w'.tape = w.tape
  output : w'.output = w.output
  size : w.heap.size ≤ w'.heap.size
  at_ : ∀ k, k < w.heap.size → ¬ S k → w'.heap[k]? = w.heap[k]?

/-- Nothing that was there has turned. -/
abbrev Nul (w w' : World) : Prop := Frm (fun _ => False) w w'
/-- Of what was there only block g has turned. -/
abbrev One (g : Nat) (w w' : World) : Prop := Frm (fun k => k = g) w w'

section
variable {S S' : Nat → Prop} {a w w' : World}
theorem Frm.refl (S : Nat → Prop) (w : World) : Frm S w w := ⟨rfl, rfl, rfl, Nat.le_refl _, fun _ _ _ => rfl⟩
theorem Frm.mono (h : Frm S w w') (hs : ∀ k, k < w.heap.size → S k → S' k) : Frm S' w w' :=
  ⟨h.os, h.tape, h.output, h.size, fun k hk hn => h.at_ k hk fun hh => hn (hs k hk hh)⟩
theorem Frm.of_nul (h : Nul w w') : Frm S w w' := h.mono fun _ _ hf => hf.elim
theorem Frm.next (h : Frm S a w) (h' : Frm S' w w') (hs : ∀ k, k < a.heap.size → S' k → S k) : Frm S a w' :=
  ⟨h'.os.trans h.os, h'.tape.trans h.tape, h'.output.trans h.output, Nat.le_trans h.size h'.size,
    fun k hk hn => (h'.at_ k (Nat.lt_of_lt_of_le hk h.size) fun hh => hn (hs k hk hh)).trans (h.at_ k hk hn)⟩
theorem Frm.trans (h : Frm S a w) (h' : Frm S w w') : Frm S a w' := h.next h' fun _ _ hh => hh
theorem Frm.nul (h : Frm S a w) (h' : Nul w w') : Frm S a w' := h.next h' fun _ _ hh => hh.elim
/-- A block that is new is turned. -/
theorem Frm.one {g : Nat} (h : Frm S a w) (h' : One g w w') (hg : a.heap.size ≤ g ∨ S g) : Frm S a w' :=
  h.next h' fun k hk e => by
    subst e
    rcases hg with hg | hg
    · omega
    · exact hg
theorem Frm.drew (h : Frm S a w) : Frm S a w.drew := ⟨h.os, h.tape, h.output, h.size, h.at_⟩
theorem Frm.drewN (h : Frm S a w) (n : Nat) : Frm S a (w.drewN n) := ⟨h.os, h.tape, h.output, h.size, h.at_⟩
theorem Frm.alloc (h : Frm S a w) (o : Obj) : Frm S a (w.alloc o) :=
  ⟨h.os, h.tape, h.output, Nat.le_trans h.size (by simp), fun k hk hn => (Below.heap_alloc w o k (Nat.lt_of_lt_of_le hk h.size)).trans (h.at_ k hk hn)⟩
theorem Frm.setCell (h : Frm S a w) {p : Addr} (hp : a.heap.size ≤ p.block ∨ S p.block) (u : Value) : Frm S a (w.setCell p u) :=
  ⟨h.os, h.tape, h.output, by simpa [World.setCell] using h.size, fun k hk hn => (Below.heap_setCell w p u k (by
    rintro rfl
    rcases hp with hp | hp
    · omega
    · exact hn hp)).trans (h.at_ k hk hn)⟩
theorem Frm.grown {row : Option Nat} (h : Frm S a w) (hg : w.grownBy w' row) (hr : ∀ k, row = some k → a.heap.size ≤ k ∨ S k) : Frm S a w' :=
  ⟨hg.os.trans h.os, hg.tape.trans h.tape, hg.output.trans h.output, Nat.le_trans h.size hg.size, fun k hk hn =>
    (hg.block k (Nat.lt_of_lt_of_le hk h.size) (fun e => by
      rcases hr k e.symm with hh | hh
      · omega
      · exact hn hh)).trans (h.at_ k hk hn)⟩
theorem Frm.below (h : Nul w w') : Below w.heap.size w w' := ⟨h.os, h.tape, h.output, h.size, fun k hk => h.at_ k hk fun hf => hf⟩
theorem Frm.ofBelow (h : Below w.heap.size w w') : Nul w w' := ⟨h.os, h.tape, h.output, h.size, fun k hk _ => h.block k hk⟩
theorem Frm.cell (h : Frm S w w') {p : Addr} (hp : p.block < w.heap.size) (hn : ¬ S p.block) : w'.cell? p = w.cell? p := World.cell?_of_block (h.at_ _ hp hn)
theorem Frm.frozen (h : Frm S w w') {p : Addr} (hp : p.block < w.heap.size) (hn : ¬ S p.block) : w'.frozen? p = w.frozen? p := World.frozen?_of_block (h.at_ _ hp hn)
end

theorem One.refl (g : Nat) (w : World) : One g w w := Frm.refl _ _
theorem One.put {g : Nat} {a w : World} (h : One g a w) (i : Nat) (u : Value) : One g a (w.setCell ⟨g, i, none⟩ u) := Frm.setCell h (p := ⟨g, i, none⟩) (.inr rfl) u

/-- Block g is just these cells, of element type t, none frozen. -/
def Blk (w : World) (g : Nat) (t : TypeId) (cs : List Value) : Prop := w.heap[g]? = some (.cells cs.toArray t (0, 0))

section
variable {S : Nat → Prop} {w w' : World} {g : Nat} {t : TypeId} {cs : List Value}
theorem Blk.lt (h : Blk w g t cs) : g < w.heap.size := by
  rcases Nat.lt_or_ge g w.heap.size with hh | hh
  · exact hh
  · rw [Blk, Array.getElem?_eq_none hh] at h; cases h
theorem Blk.cell (h : Blk w g t cs) (i : Nat) : w.cell? ⟨g, i, none⟩ = cs[i]? := by
  rw [cell_of_row w g i cs.toArray t (0, 0) h]; simp
theorem Blk.frozen (h : Blk w g t cs) (i : Nat) : w.frozen? ⟨g, i, none⟩ = false := by
  rw [Blk] at h; simp [World.frozen?, h]
theorem Blk.new (w : World) (t : TypeId) (cs : List Value) : Blk (w.alloc (.cells cs.toArray t)) w.heap.size t cs := heap_alloc_new w _
theorem Blk.new_at (w : World) (t : TypeId) (cs : List Value) {g : Nat} (hg : g = w.heap.size) : Blk (w.alloc (.cells cs.toArray t)) g t cs := hg ▸ Blk.new w t cs
theorem Blk.drew (h : Blk w g t cs) : Blk w.drew g t cs := h
theorem Blk.drewN (h : Blk w g t cs) (n : Nat) : Blk (w.drewN n) g t cs := h
theorem Blk.alloc (h : Blk w g t cs) (o : Obj) : Blk (w.alloc o) g t cs := (Below.heap_alloc w o g h.lt).trans h
theorem Blk.put (h : Blk w g t cs) (i : Nat) (u : Value) : Blk (w.setCell ⟨g, i, none⟩ u) g t (cs.set i u) := by
  rw [Blk] at h ⊢; simp [World.setCell, Array.getElem?_modify, h]
theorem Blk.far (h : Blk w g t cs) {p : Addr} (hp : g ≠ p.block) (u : Value) : Blk (w.setCell p u) g t cs := (Below.heap_setCell w p u g hp).trans h
theorem Blk.frm (h : Blk w g t cs) (hf : Frm S w w') (hs : ¬ S g) : Blk w' g t cs := (hf.at_ g h.lt hs).trans h
theorem Blk.nul (h : Blk w g t cs) (hf : Nul w w') : Blk w' g t cs := h.frm hf fun hh => hh
theorem Blk.one {b : Nat} (h : Blk w g t cs) (hf : One b w w') (hs : g ≠ b) : Blk w' g t cs := h.frm hf hs
theorem Blk.same {t' : TypeId} {cs' : List Value} (h : Blk w g t cs) (h' : Blk w g t' cs') : cs = cs' ∧ t = t' := by
  rw [Blk] at h h'
  rw [h] at h'
  injection h' with h'
  injection h' with h1 h2
  exact ⟨by simpa using h1, h2⟩
end

section
variable {S : Nat → Prop} {w w' : World} {g base size n : Nat} {t e : TypeId} {cs xs : List Value} {v : Value} {row : Option Nat}
theorem Blk.grown (h : Blk w g t cs) (hb : w.grownBy w' row) (hg : some g ≠ row) : Blk w' g t cs := (hb.block g h.lt hg).trans h
theorem own_ne (h : w.ownsRow base e size v n xs) (hg : Blk w g t cs) (hne : e ≠ t) : some g ≠ v.ownBlock := by
  intro hv
  rcases h.2 with ⟨rfl, _⟩ | ⟨b, cap, cur, rfl, _, hb, _⟩
  · simp [Value.ownBlock] at hv
  · simp only [Value.ownBlock, Option.some.injEq] at hv
    subst hv
    rw [Blk, hb] at hg
    injection hg with hg
    injection hg with _ h2
    exact hne h2
theorem own_frm (h : w.ownsRow base e size v n xs) (hf : Frm S w w') (hs : ∀ k, base ≤ k → v.ownBlock = some k → ¬ S k) : w'.ownsRow base e size v n xs := by
  refine ⟨h.1, ?_⟩
  rcases h.2 with hn | ⟨b, cap, cur, rfl, hB, hb, r⟩
  · exact .inl hn
  · exact .inr ⟨b, cap, cur, rfl, hB, (hf.at_ b (Array.getElem?_eq_some_iff.1 hb).1 (hs b hB rfl)).trans hb, r⟩
theorem own_shape (h : w.ownsRow base e size v n xs) : ∃ A c, v = .slice A n c := by
  rcases h.2 with ⟨rfl, rfl⟩ | ⟨b, cap, cur, rfl, _⟩
  · exact ⟨_, _, rfl⟩
  · exact ⟨_, _, rfl⟩
theorem own_nul (h : w.ownsRow base e size v n xs) (hf : Nul w w') : w'.ownsRow base e size v n xs := own_frm h hf fun _ _ _ hh => hh
theorem own_far (h : w.ownsRow base e size v n xs) {p : Addr} (hp : some p.block ≠ v.ownBlock) (u : Value) : (w.setCell p u).ownsRow base e size v n xs :=
  own_frm (S := fun k => k = p.block) h (Frm.setCell (S := fun k => k = p.block) (Frm.refl _ w) (.inr rfl) u) fun k _ hk e => hp (by rw [hk, e])
theorem Frm.own {B : Nat} {a : World} (h : Frm (B ≤ ·) a w) (hown : w.ownsRow B e size v n xs) (hg : w.grownBy w' v.ownBlock) : Frm (B ≤ ·) a w' :=
  h.grown hg fun k hk => .inr (hown.lt k hk).1
end

/-- A slice value whose cells are cs, below block B. -/
def Rd (w : World) (B : Nat) (A : Option Addr) (cs : List Value) : Prop :=
  cs = [] ∨ ∃ b off, A = some ⟨b, off, none⟩ ∧ b < B ∧ ∀ (i : Nat) (v : Value), cs[i]? = some v → w.cell? ⟨b, off + i, none⟩ = some v

theorem Rd.frm {S : Nat → Prop} {w w' : World} {B : Nat} {A : Option Addr} {cs : List Value} (h : Rd w B A cs) (hB : B ≤ w.heap.size) (hf : Frm S w w') (hs : ∀ k, k < B → ¬ S k) : Rd w' B A cs := by
  rcases h with h | ⟨b, off, rfl, hb, hc⟩
  · exact .inl h
  · exact .inr ⟨b, off, rfl, hb, fun i v hv => (hf.cell (p := ⟨b, off + i, none⟩) (by show b < _; omega) (hs b hb)).trans (hc i v hv)⟩

theorem Rd.at_ {w : World} {B : Nat} {A : Option Addr} {cs : List Value} (h : Rd w B A cs) {k : Nat} (hk : k < cs.length) :
    ∃ b off, A = some ⟨b, off, none⟩ ∧ b < B ∧ ∀ (i : Nat) (v : Value), cs[i]? = some v → w.cell? ⟨b, off + i, none⟩ = some v := by
  rcases h with rfl | h
  · simp at hk
  · exact h

end Go.Proofs.Ythocjhiapngacaa
