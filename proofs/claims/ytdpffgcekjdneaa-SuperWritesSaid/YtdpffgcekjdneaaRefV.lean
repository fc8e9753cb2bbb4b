/-
  The document's disk in memory.
-/
import Derived.Test.YtdpffgcekjdneaaRefA
set_option linter.all false
namespace Go.Proofs.Ytdpffgcekjdneaa
open Go.RowKit

/-- What is there, as cells. -/
def lCells (n : Nat) (th : Int → ByteArray) : List Value := (List.range n).map fun (k : Nat) => .string (fullS (th k))

theorem lCells_length (n : Nat) (th : Int → ByteArray) : (lCells n th).length = n := by simp [lCells]
theorem lCells_get (n : Nat) (th : Int → ByteArray) (k : Nat) (h : k < n) : (lCells n th)[k]? = some (.string (fullS (th k))) := by simp [lCells, h]
theorem lCells_set (n : Nat) (th : Int → ByteArray) (k : Nat) (x : ByteArray) (hx : x.size = 128) : (lCells n th).set k (.string x) = lCells n (updTh th k x) := by
  apply List.ext_getElem?
  intro j
  rw [List.getElem?_set]
  by_cases hj : j < n
  · by_cases hkj : k = j
    · subst hkj
      rw [if_pos rfl, lCells_length, if_pos hj, lCells_get _ _ _ hj, updTh, if_pos rfl, fullS_full x hx]
    · rw [if_neg hkj, lCells_get _ _ _ hj, lCells_get _ _ _ hj, updTh, if_neg (by omega)]
  · have h1 : (lCells n th)[j]? = none := by rw [List.getElem?_eq_none]; rw [lCells_length]; omega
    have h2 : (lCells n (updTh th k x))[j]? = none := by rw [List.getElem?_eq_none]; rw [lCells_length]; omega
    rw [h1, h2]
    by_cases hkj : k = j
    · subst hkj
      rw [if_pos rfl, lCells_length, if_neg hj]
    · rw [if_neg hkj]
theorem lCells_snoc (n : Nat) (th : Int → ByteArray) : lCells (n + 1) th = lCells n th ++ [.string (fullS (th n))] := by
  simp [lCells, List.range_succ]

/-- What waits is whole, for sectors that there are. -/
def Dk.full (d : Dk) : Prop := ∀ p ∈ d.wait, p.2.size = 128 ∧ ∃ k : Nat, p.1 = k ∧ k < d.n

theorem own_own_ne {w : World} {B1 B2 e1 e2 s1 s2 n1 n2 g : Nat} {v1 v2 : Value} {xs1 xs2 : List Value} (h : w.ownsRow B1 e1 s1 v1 n1 xs1) (h' : w.ownsRow B2 e2 s2 v2 n2 xs2) (hne : e1 ≠ e2) (h1 : v1.ownBlock = some g) : v2.ownBlock ≠ some g := by
  intro h2
  rcases h.2 with ⟨rfl, _⟩ | ⟨g1, cap, cur, rfl, _, hg1, _⟩
  · simp [Value.ownBlock] at h1
  · rcases h'.2 with ⟨rfl, _⟩ | ⟨g2, cap2, cur2, rfl, _, hg2, _⟩
    · simp [Value.ownBlock] at h2
    · simp [Value.ownBlock] at h1 h2
      subst h1
      subst h2
      rw [hg1] at hg2
      injection hg2 with hg2
      injection hg2 with _ hg2
      exact hne hg2

/-- The document's disk: F: the blocks that its calls turn; G: those that they only read; its parts by name. -/
def RefV (w : World) (F G : Nat → Prop) (b : Nat) (d : Dk) (vL vW : Value) (A : Option Addr) (c : Nat) : Prop :=
  F b ∧ Blk w b 45 [vL, vW, .slice A d.cr.length c, .int .i64 d.ops, .bool d.down] ∧
    w.ownsRow 0 9 1 vL d.n (lCells d.n d.th) ∧ (∀ k, vL.ownBlock = some k → F k) ∧
    w.ownsRow 0 95 2 vW d.wait.length (prCells d.wait) ∧ (∀ k, vW.ownBlock = some k → F k) ∧ CrashesAt w G A d.cr ∧ (∀ k, F k → k < w.heap.size) ∧ (∀ k, F k → ¬ G k)

theorem RefV.frm {w w' : World} {F G T : Nat → Prop} {b c : Nat} {d : Dk} {vL vW : Value} {A : Option Addr} (h : RefV w F G b d vL vW A c) (hf : Frm T w w') (hF : ∀ k, F k → ¬ T k) (hG : ∀ k, G k → ¬ T k) : RefV w' F G b d vL vW A c := by
  obtain ⟨h1, h2, h3, h4, h5, h6, h7, h8, h9⟩ := h
  exact ⟨h1, h2.frm hf (hF b h1), own_frm h3 hf (fun k _ hk => hF k (h4 k hk)), h4, own_frm h5 hf (fun k _ hk => hF k (h6 k hk)), h6, h7.frm hf hG, fun k hk => Nat.lt_of_lt_of_le (h8 k hk) hf.size, h9⟩
theorem RefV.nul {w w' : World} {F G : Nat → Prop} {b c : Nat} {d : Dk} {vL vW : Value} {A : Option Addr} (h : RefV w F G b d vL vW A c) (hf : Nul w w') : RefV w' F G b d vL vW A c := h.frm hf (fun _ _ hh => hh) (fun _ _ hh => hh)

/-- A store into the struct itself. -/
theorem RefV.upd {w : World} {F G : Nat → Prop} {b c : Nat} {d : Dk} {vL vW : Value} {A : Option Addr} (h : RefV w F G b d vL vW A c) (d' : Dk) (i : Nat) (u vW' : Value)
    (hcells : [vL, vW, .slice A d.cr.length c, .int .i64 d.ops, .bool d.down].set i u = [vL, vW', .slice A d'.cr.length c, .int .i64 d'.ops, .bool d'.down])
    (hn : d'.n = d.n) (hth : d'.th = d.th) (hcr : d'.cr = d.cr)
    (hw : ∀ w' : World, One b w w' → (∀ k, vW'.ownBlock = some k → F k) ∧ w'.ownsRow 0 95 2 vW' d'.wait.length (prCells d'.wait)) : RefV (w.setCell ⟨b, i, none⟩ u) F G b d' vL vW' A c := by
  obtain ⟨h1, h2, h3, h4, h5, h6, h7, h8, h9⟩ := h
  have hon : One b w (w.setCell ⟨b, i, none⟩ u) := (One.refl b w).put i u
  refine ⟨h1, ?_, ?_, h4, (hw _ hon).2, (hw _ hon).1, ?_, fun k hk => Nat.lt_of_lt_of_le (h8 k hk) hon.size, h9⟩
  · rw [← hcells]; exact h2.put i u
  · rw [hth, hn]; exact own_frm h3 hon fun k _ hk e => own_ne h3 h2 (by decide) (by rw [hk, e])
  · rw [hcr]; exact h7.frm hon fun k hk e => h9 b h1 (e ▸ hk)

theorem RefV.keep {w : World} {F G : Nat → Prop} {b c : Nat} {d : Dk} {vL vW : Value} {A : Option Addr} (h : RefV w F G b d vL vW A c) (w' : World) (hon : One b w w') : (∀ k, vW.ownBlock = some k → F k) ∧ w'.ownsRow 0 95 2 vW d.wait.length (prCells d.wait) := by
  obtain ⟨h1, h2, h3, h4, h5, h6, h7, h8, h9⟩ := h
  exact ⟨h6, own_frm h5 hon fun k _ hk e => own_ne h5 h2 (by decide) (by rw [hk, e])⟩

/-- One sector more stands. -/
theorem RefV.put {w : World} {F G : Nat → Prop} {b c g cL : Nat} {d : Dk} {vW : Value} {A : Option Addr} (h : RefV w F G b d (.slice (some ⟨g, 0, none⟩) d.n cL) vW A c) (k : Nat) (x : ByteArray) (hx : x.size = 128) :
    RefV (w.setCell ⟨g, k, none⟩ (.string x)) F G b { d with th := updTh d.th k x } (.slice (some ⟨g, 0, none⟩) d.n cL) vW A c ∧ One g w (w.setCell ⟨g, k, none⟩ (.string x)) ∧ F g := by
  obtain ⟨h1, h2, h3, h4, h5, h6, h7, h8, h9⟩ := h
  have hon : One g w (w.setCell ⟨g, k, none⟩ (.string x)) := (One.refl g w).put k _
  have hgF : F g := h4 g rfl
  have hgb : g ≠ b := fun e => own_ne h3 h2 (by decide) (by rw [← e]; rfl)
  refine ⟨⟨h1, h2.one hon (fun e => hgb e.symm), ?_, h4, own_frm h5 hon (fun j _ hj e => ?_), h6, h7.frm hon (fun j hj e => h9 g hgF (e ▸ hj)), fun k hk => Nat.lt_of_lt_of_le (h8 k hk) hon.size, h9⟩, hon, hgF⟩
  · have := (h3.stored k (.string x)).1
    rw [lCells_set d.n d.th k x hx] at this
    exact this
  · subst e
    exact own_own_ne h3 h5 (by decide) rfl hj
end Go.Proofs.Ytdpffgcekjdneaa
