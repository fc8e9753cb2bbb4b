/-
  The disk beside a law's six lists of texts in memory.
-/
import Derived.Test.YtdpffgcekjdneaaSurvP
set_option linter.all false
namespace Go.Proofs.Ytdpffgcekjdneaa
open Go.RowKit

/-- Six lists of texts: an array's slices, each with a row of its own. -/
def MayAt (w : World) (g : Nat) (vs : Nat → Value) (ms : Nat → List ByteArray) : Prop :=
  Blk w g 31 ((List.range 6).map vs) ∧ (∀ k, k < 6 → w.ownsRow 0 9 1 (vs k) (ms k).length ((ms k).map .string)) ∧ ∀ j k h, j < 6 → k < 6 → (vs j).ownBlock = some h → (vs k).ownBlock = some h → j = k

/-- One thing turned. -/
def setAt {α : Type} (f : Nat → α) (a : Nat) (x : α) : Nat → α := fun k => if k = a then x else f k

theorem range_set (vs : Nat → Value) (a : Nat) (v : Value) : ((List.range 6).map vs).set a v = (List.range 6).map (setAt vs a v) := by
  apply List.ext_getElem?
  intro j
  rw [List.getElem?_set]
  by_cases hj : j < 6
  · by_cases ha : a = j
    · subst ha
      simp [hj, setAt]
    · have ha' : ¬ j = a := fun e => ha e.symm
      simp [hj, ha, ha', setAt]
  · have h1 : ((List.range 6).map vs)[j]? = none := by rw [List.getElem?_eq_none]; simp; omega
    have h2 : ((List.range 6).map (setAt vs a v))[j]? = none := by rw [List.getElem?_eq_none]; simp; omega
    rw [h1, h2]
    split
    · split
      · rename_i h; simp at h; omega
      · rfl
    · rfl

theorem MayAt.cell {w : World} {g : Nat} {vs : Nat → Value} {ms : Nat → List ByteArray} (h : MayAt w g vs ms) (k : Nat) (hk : k < 6) : w.cell? ⟨g, k, none⟩ = some (vs k) := by
  rw [h.1.cell]; simp [hk]
theorem MayAt.frm {T : Nat → Prop} {w w' : World} {g : Nat} {vs : Nat → Value} {ms : Nat → List ByteArray} (h : MayAt w g vs ms) (hf : Frm T w w') (hg : ¬ T g) (ho : ∀ k j, k < 6 → (vs k).ownBlock = some j → ¬ T j) : MayAt w' g vs ms :=
  ⟨h.1.frm hf hg, fun k hk => own_frm (h.2.1 k hk) hf (fun j _ hj => ho k j hk hj), h.2.2⟩

/-- A list is laid anew: its slice is v, whose row is v's own. -/
theorem MayAt.put {w w' : World} {g a : Nat} {vs : Nat → Value} {ms : Nat → List ByteArray} {v : Value} {l : List ByteArray} (h : MayAt w g vs ms)
    (hB : Blk w' g 31 ((List.range 6).map vs)) (hv : w'.ownsRow 0 9 1 v l.length (l.map .string)) (hk : ∀ k, k < 6 → k ≠ a → w'.ownsRow 0 9 1 (vs k) (ms k).length ((ms k).map .string))
    (hne : ∀ k j, k < 6 → k ≠ a → (vs k).ownBlock = some j → v.ownBlock ≠ some j) : MayAt (w'.setCell ⟨g, a, none⟩ v) g (setAt vs a v) (setAt ms a l) := by
  have hon : One g w' (w'.setCell ⟨g, a, none⟩ v) := (One.refl g w').put a v
  refine ⟨?_, fun k hk6 => ?_, fun j k i hj hk6 h1 h2 => ?_⟩
  · rw [← range_set]; exact hB.put a v
  · unfold setAt
    by_cases hka : k = a
    · rw [if_pos hka, if_pos hka]
      exact own_far hv (p := ⟨g, a, none⟩) (own_ne hv hB (by decide)) v
    · rw [if_neg hka, if_neg hka]
      exact own_far (hk k hk6 hka) (p := ⟨g, a, none⟩) (own_ne (hk k hk6 hka) hB (by decide)) v
  · unfold setAt at h1 h2
    by_cases hja : j = a
    · rw [if_pos hja] at h1
      by_cases hka : k = a
      · omega
      · rw [if_neg hka] at h2
        exact absurd h1 (hne k i hk6 hka h2)
    · rw [if_neg hja] at h1
      by_cases hka : k = a
      · rw [if_pos hka] at h2
        exact absurd h2 (hne j i hj hja h1)
      · rw [if_neg hka] at h2
        exact h.2.2 j k i hj hk6 h1 h2

/-- The disk and the six lists, in blocks of T. -/
def Surv (T : Nat → Prop) (w : World) (b N : Nat) (d : Dk) (g : Nat) (vs : Nat → Value) (ms : Nat → List ByteArray) : Prop :=
  ∃ S, DiskIn S w b N d ∧ MayAt w g vs ms ∧ (∀ k, S k → T k ∧ k < w.heap.size ∧ k ≠ g ∧ ∀ j, j < 6 → (vs j).ownBlock ≠ some k) ∧ T g ∧ ∀ j k, j < 6 → (vs j).ownBlock = some k → T k

section
variable {T : Nat → Prop} {b N g : Nat} {w w' : World} {d : Dk} {vs : Nat → Value} {ms : Nat → List ByteArray}
theorem Surv.nul (h : Surv T w b N d g vs ms) (hf : Nul w w') : Surv T w' b N d g vs ms := by
  obtain ⟨S, h1, h2, h3, h4, h5⟩ := h
  exact ⟨S, h1.nul hf, h2.frm hf (fun h => h) (fun _ _ _ _ h => h), fun k hk => ⟨(h3 k hk).1, Nat.lt_of_lt_of_le (h3 k hk).2.1 hf.size, (h3 k hk).2.2⟩, h4, h5⟩
theorem Surv.lt (h : Surv T w b N d g vs ms) : g < w.heap.size ∧ ∀ j k, j < 6 → (vs j).ownBlock = some k → k < w.heap.size := by
  obtain ⟨S, h1, h2, h3, h4, h5⟩ := h
  exact ⟨h2.1.lt, fun j k hj hk => ((h2.2.1 j hj).lt k hk).2⟩
theorem Surv.mono {T' : Nat → Prop} (h : Surv T w b N d g vs ms) (hT : ∀ k, k < w.heap.size → T k → T' k) : Surv T' w b N d g vs ms := by
  have hl := h.lt
  obtain ⟨S, h1, h2, h3, h4, h5⟩ := h
  exact ⟨S, h1, h2, fun k hk => ⟨hT k (h3 k hk).2.1 (h3 k hk).1, (h3 k hk).2⟩, hT g hl.1 h4, fun j k hj hk => hT k (hl.2 j k hj hk) (h5 j k hj hk)⟩
theorem Surv.may (h : Surv T w b N d g vs ms) : MayAt w g vs ms := by
  obtain ⟨S, h1, h2, _⟩ := h
  exact h2

theorem sv_Write (h : Surv T w b N d g vs ms) (hT : ∀ k, w.heap.size ≤ k → T k) (hN : N ≤ 99999) (s : Int) (x : ByteArray) :
    Calls Try.prog 17 #[.pointer (some ⟨b, 0, none⟩), .int .i64 s, .string x] w fun e w' => e = .returned (.int .i64 (d.write s x).1) ∧ Surv T w' b (N + 1) (d.write s x).2 g vs ms ∧ Frm T w w' := by
  have hl := h.lt
  obtain ⟨S, h1, h2, h3, h4, h5⟩ := h
  refine (in_Write h1 (by omega) s x).mono ?_
  rintro e w' ⟨rfl, hD, hf⟩
  refine ⟨rfl, ⟨fun k => ext S w w' k ∧ k < w'.heap.size, hD.mono (fun k hk h => ⟨h, hk⟩), h2.frm hf (fun hS => (h3 g hS).2.2.1 rfl) (fun k j hk hj hS => (h3 j hS).2.2.2 k hk hj), ?_, h4, h5⟩, hf.mono fun k _ hk => (h3 k hk).1⟩
  rintro k ⟨hk | hk, hk2⟩
  · exact ⟨(h3 k hk).1, hk2, (h3 k hk).2.2⟩
  · refine ⟨hT k hk.1, hk2, fun e => ?_, fun j hj e => ?_⟩
    · have := hl.1; omega
    · have := hl.2 j k hj e; omega
theorem sv_Flush (h : Surv T w b N d g vs ms) (hN : N ≤ 99999) :
    Calls Try.prog 16 #[.pointer (some ⟨b, 0, none⟩)] w fun e w' => e = .returned (.int .i64 d.flush.1) ∧ Surv T w' b (N + 1) d.flush.2 g vs ms ∧ Frm T w w' := by
  obtain ⟨S, h1, h2, h3, h4, h5⟩ := h
  refine (in_Flush h1 (by omega)).mono ?_
  rintro e w' ⟨rfl, hD, hf⟩
  exact ⟨rfl, ⟨S, hD, h2.frm hf (fun hS => (h3 g hS).2.2.1 rfl) (fun k j hk hj hS => (h3 j hS).2.2.2 k hk hj), fun k hk => ⟨(h3 k hk).1, Nat.lt_of_lt_of_le (h3 k hk).2.1 hf.size, (h3 k hk).2.2⟩, h4, h5⟩, hf.mono fun k _ hk => (h3 k hk).1⟩
theorem sv_Power (h : Surv T w b N d g vs ms) :
    Calls Try.prog 18 #[.pointer (some ⟨b, 0, none⟩)] w fun e w' => e = .returned (.tuple #[]) ∧ Surv T w' b N { d with down := false } g vs ms ∧ Frm T w w' := by
  obtain ⟨S, h1, h2, h3, h4, h5⟩ := h
  refine (in_Power h1).mono ?_
  rintro e w' ⟨rfl, hD, hf⟩
  exact ⟨rfl, ⟨S, hD, h2.frm hf (fun hS => (h3 g hS).2.2.1 rfl) (fun k j hk hj hS => (h3 j hS).2.2.2 k hk hj), fun k hk => ⟨(h3 k hk).1, Nat.lt_of_lt_of_le (h3 k hk).2.1 hf.size, (h3 k hk).2.2⟩, h4, h5⟩, hf.mono fun k _ hk => (h3 k hk).1⟩
theorem sv_Read (h : Surv T w b N d g vs ms) (hN : N ≤ 99999) (s : Int) :
    Calls Try.prog 19 #[.pointer (some ⟨b, 0, none⟩), .int .i64 s] w fun e w' => e = .returned (.tuple #[.string (d.read s).1, .int .i64 (d.read s).2]) ∧ Nul w w' := by
  obtain ⟨S, h1, _⟩ := h
  exact in_Read h1 (by omega) s

/-- A list of one text is laid. -/
theorem sv_set (h : Surv T w b N d g vs ms) (hT : ∀ k, w.heap.size ≤ k → T k) (a : Nat) (ha : a < 6) (x : ByteArray) :
    Surv T ((w.alloc (.cells #[.string x] 9)).setCell ⟨g, a, none⟩ (.slice (some ⟨w.heap.size, 0, none⟩) 1 1)) b N d g (setAt vs a (.slice (some ⟨w.heap.size, 0, none⟩) 1 1)) (setAt ms a [x]) ∧
      Frm T w ((w.alloc (.cells #[.string x] 9)).setCell ⟨g, a, none⟩ (.slice (some ⟨w.heap.size, 0, none⟩) 1 1)) := by
  have hl := h.lt
  have hn : Nul w (w.alloc (.cells #[.string x] 9)) := (Frm.refl _ w).alloc _
  have hown : (w.alloc (.cells #[.string x] 9)).ownsRow 0 9 1 (.slice (some ⟨w.heap.size, 0, none⟩) 1 1) [x].length ([x].map .string) :=
    ⟨rfl, .inr ⟨w.heap.size, 1, #[.string x], rfl, Nat.zero_le _, heap_alloc_new w _, Nat.le_refl _, by simp [maxLen], rfl, rfl⟩⟩
  have hfr : Frm (fun k => k = g) w ((w.alloc (.cells #[.string x] 9)).setCell ⟨g, a, none⟩ (.slice (some ⟨w.heap.size, 0, none⟩) 1 1)) := ((Frm.refl (fun k => k = g) w).alloc _).setCell (p := ⟨g, a, none⟩) (.inr rfl) _
  obtain ⟨S, h1, h2, h3, h4, h5⟩ := h
  have h2' := h2.frm hn (fun h => h) (fun _ _ _ _ h => h)
  refine ⟨⟨S, h1.frm hfr (fun k hk e => (h3 k hk).2.2.1 e), h2'.put h2'.1 hown (fun k hk _ => h2'.2.1 k hk) (fun k j hk _ hj e => ?_), fun k hk => ⟨(h3 k hk).1, Nat.lt_of_lt_of_le (h3 k hk).2.1 hfr.size, (h3 k hk).2.2.1, fun j hj e => ?_⟩, h4, fun j k hj hk => ?_⟩, hfr.mono fun k _ hk => hk ▸ h4⟩
  · have := hl.2 k j hk hj
    simp [Value.ownBlock] at e
    omega
  · unfold setAt at e
    by_cases hja : j = a
    · rw [if_pos hja] at e
      have := (h3 k hk).2.1
      simp [Value.ownBlock] at e
      omega
    · rw [if_neg hja] at e
      exact (h3 k hk).2.2.2 j hj e
  · unfold setAt at hk
    by_cases hja : j = a
    · rw [if_pos hja] at hk
      simp [Value.ownBlock] at hk
      exact hT k (by omega)
    · rw [if_neg hja] at hk
      exact h5 j k hj hk

theorem sv_set' (h : Surv T w b N d g vs ms) (hT : ∀ k, w.heap.size ≤ k → T k) (a : Nat) (ha : a < 6) (x : ByteArray) :
    Surv T ((w.setCell ⟨g, a, none⟩ (.slice (some ⟨w.heap.size, 0, none⟩) 1 1)).alloc (.cells #[.string x] 9)) b N d g (setAt vs a (.slice (some ⟨w.heap.size, 0, none⟩) 1 1)) (setAt ms a [x]) ∧
      Frm T w ((w.setCell ⟨g, a, none⟩ (.slice (some ⟨w.heap.size, 0, none⟩) 1 1)).alloc (.cells #[.string x] 9)) := by
  have h2 := sv_set h hT a ha x
  rw [World.setCell_alloc_past (hn := h.lt.1)] at h2
  exact h2

/-- A list gets one text more. -/
theorem sv_append {W w3 : World} {v3 : Value} (h : Surv T w b N d g vs ms) (hT : ∀ k, w.heap.size ≤ k → T k) (a : Nat) (ha : a < 6) (x : ByteArray) (hf : Nul w W)
    (hown : w3.ownsRow 0 9 1 v3 ((ms a).length + 1) ((ms a).map .string ++ [.string x])) (hgr : W.grownBy w3 (vs a).ownBlock) (hat : v3.ownBlock = (vs a).ownBlock ∨ v3.ownBlock = some W.heap.size) :
    w3.cell? ⟨g, a, none⟩ = some (vs a) ∧ w3.frozen? ⟨g, a, none⟩ = false ∧ Surv T (w3.setCell ⟨g, a, none⟩ v3) b N d g (setAt vs a v3) (addAt ms a x) ∧ Frm T w (w3.setCell ⟨g, a, none⟩ v3) ∧ Frm T w w3 := by
  have hl := h.lt
  obtain ⟨S, h1, h2, h3, h4, h5⟩ := h
  have h2' := h2.frm hf (fun h => h) (fun _ _ _ _ h => h)
  have hB3 : Blk w3 g 31 ((List.range 6).map vs) := h2'.1.grown hgr (own_ne (h2'.2.1 a ha) h2'.1 (by decide))
  have hfr3 : Frm (fun k => (vs a).ownBlock = some k) w w3 := (Frm.of_nul hf).grown hgr (fun k hk => .inr hk)
  have hfr : Frm (fun k => k = g ∨ (vs a).ownBlock = some k) w (w3.setCell ⟨g, a, none⟩ v3) := (hfr3.mono (fun k _ hk => .inr hk)).setCell (p := ⟨g, a, none⟩) (.inr (.inl rfl)) _
  have hown' : w3.ownsRow 0 9 1 v3 (ms a ++ [x]).length ((ms a ++ [x]).map .string) := by
    have e1 : (ms a ++ [x]).length = (ms a).length + 1 := by simp
    have e2 : (ms a ++ [x]).map Value.string = (ms a).map .string ++ [.string x] := by simp
    rw [e1, e2]; exact hown
  have hms : addAt ms a x = setAt ms a (ms a ++ [x]) := by
    funext k
    unfold addAt setAt
    by_cases hk : k = a
    · rw [if_pos hk, if_pos hk, hk]
    · rw [if_neg hk, if_neg hk]
  have hcell : w3.cell? ⟨g, a, none⟩ = some (vs a) := by rw [hB3.cell]; simp [ha]
  have hnew : ∀ k, v3.ownBlock = some k → T k ∧ (∀ j, j < 6 → j ≠ a → (vs j).ownBlock ≠ some k) ∧ ¬ S k := fun k hk => by
    rcases hat with e | e
    · rw [e] at hk
      exact ⟨h5 a k ha hk, fun j hj hja hjk => hja (h2.2.2 j a k hj ha hjk hk), fun hS => (h3 k hS).2.2.2 a ha hk⟩
    · rw [hk] at e
      injection e with e
      have hsz := hf.size
      exact ⟨hT k (by omega), fun j hj _ hjk => by have := hl.2 j k hj hjk; omega, fun hS => by have := (h3 k hS).2.1; omega⟩
  refine ⟨hcell, hB3.frozen a, ⟨S, h1.frm hfr (fun k hk e => ?_), ?_, fun k hk => ⟨(h3 k hk).1, Nat.lt_of_lt_of_le (h3 k hk).2.1 hfr.size, (h3 k hk).2.2.1, fun j hj e => ?_⟩, h4, fun j k hj hk => ?_⟩, hfr.mono fun k _ hk => ?_, hfr3.mono fun k _ hk => h5 a k ha hk⟩
  · rcases e with e | e
    · exact (h3 k hk).2.2.1 e
    · exact (h3 k hk).2.2.2 a ha e
  · rw [hms]
    refine h2'.put hB3 hown' (fun k hk hka => ?_) (fun k j hk hka hj e => (hnew j e).2.1 k hk hka hj)
    exact own_frm (S := fun j => (vs a).ownBlock = some j) (h2.2.1 k hk) hfr3 (fun j _ hj e => hka (h2.2.2 k a j hk ha hj e))
  · unfold setAt at e
    by_cases hja : j = a
    · rw [if_pos hja] at e
      exact (hnew k e).2.2 hk
    · rw [if_neg hja] at e
      exact (h3 k hk).2.2.2 j hj e
  · unfold setAt at hk
    by_cases hja : j = a
    · rw [if_pos hja] at hk
      exact (hnew k hk).1
    · rw [if_neg hja] at hk
      exact h5 j k hj hk
  · rcases hk with hk | hk
    · exact hk ▸ h4
    · exact h5 a k ha hk
end
end Go.Proofs.Ytdpffgcekjdneaa
