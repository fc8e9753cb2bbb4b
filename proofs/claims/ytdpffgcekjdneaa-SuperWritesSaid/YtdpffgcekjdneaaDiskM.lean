/-
  A map from whole numbers to texts, in memory.
-/
import Derived.Test.YtdpffgcekjdneaaDiskP
import Derived.WalkSpells
import Derived.WalkLawsBesides
set_option linter.all false
namespace Go.Proofs.Ytdpffgcekjdneaa
open Go.RowKit

/-- The first entry of a key. -/
def mget : List (Int × ByteArray) → Int → Option ByteArray
  | [], _ => none
  | p :: l, k => if p.1 = k then some p.2 else mget l k
def mset : List (Int × ByteArray) → Int → ByteArray → List (Int × ByteArray)
  | [], k, v => [(k, v)]
  | p :: l, k, v => if p.1 = k then (p.1, v) :: l else p :: mset l k v

theorem mget_mset (l : List (Int × ByteArray)) (k j : Int) (v : ByteArray) : mget (mset l k v) j = if j = k then some v else mget l j := by
  induction l with
  | nil =>
    simp only [mset, mget]
    by_cases h : j = k
    · subst h; simp
    · rw [if_neg h, if_neg (fun e => h e.symm)]
  | cons p l ih =>
    simp only [mset]
    by_cases hp : p.1 = k
    · rw [if_pos hp]
      simp only [mget]
      by_cases h : j = k
      · subst h; simp [hp]
      · rw [if_neg (fun e => h (e.symm.trans hp)), if_neg h, if_neg (fun e => h (e.symm.trans hp))]
    · rw [if_neg hp]
      simp only [mget, ih]
      by_cases hj : p.1 = j
      · rw [if_pos hj, if_pos hj, if_neg (fun e => hp (hj.trans e))]
      · rw [if_neg hj, if_neg hj]

/-- Entries as the model has them. -/
def entryOf (e : MapEntry) (p : Int × ByteArray) : Prop := e.key = .int .i64 p.1 ∧ e.val = .string p.2

/-- Block b is a map that reads so. -/
def MapAt (w : World) (b : Nat) (th : Int → ByteArray) : Prop :=
  ∃ (es : Array MapEntry) (clock : Nat) (l : List (Int × ByteArray)), w.heap[b]? = some (.map es clock) ∧ es.toList.map (fun e => (e.key, e.val)) = l.map (fun p => (Value.int .i64 p.1, Value.string p.2)) ∧ ∀ k, (mget l k).getD ByteArray.empty = th k

theorem findNow_int (k : Int) : ∀ (es : List MapEntry) (l : List (Int × ByteArray)) (i : Nat), es.map (fun e => (e.key, e.val)) = l.map (fun p => (Value.int .i64 p.1, Value.string p.2)) →
    (∃ j, Instr.findNow (.int .i64) (.int .i64 k) es i = some (some (i + j, .string ((mget l k).getD ByteArray.empty))) ∧ (mget l k).isSome = true ∧
      (∃ e, es[j]? = some e ∧ e.key = .int .i64 k) ∧ ∀ v, (es.modify j fun e => { e with key := .int .i64 k, val := .string v }).map (fun e => (e.key, e.val)) = (mset l k v).map (fun p => (Value.int .i64 p.1, Value.string p.2))) ∨
    (Instr.findNow (.int .i64) (.int .i64 k) es i = some none ∧ mget l k = none ∧ ∀ v, mset l k v = l ++ [(k, v)])
  | [], [], i, _ => .inr ⟨rfl, rfl, fun v => rfl⟩
  | [], _ :: _, _, h => by simp at h
  | _ :: _, [], _, h => by simp at h
  | e :: es, p :: l, i, h => by
    simp only [List.map_cons, List.cons.injEq, Prod.mk.injEq] at h
    obtain ⟨⟨hk, hv⟩, ht⟩ := h
    by_cases hp : p.1 = k
    · refine .inl ⟨0, ?_, ?_, ⟨e, rfl, by rw [hk, hp]⟩, fun v => ?_⟩
      · simp [Instr.findNow, Instr.sameNow, hk, hv, hp, mget]
      · simp [mget, hp]
      · simp [mset, hp, ht]
    · have hne : (k == p.1) = false := by simp; exact fun e => hp e.symm
      rcases findNow_int k es l (i + 1) ht with ⟨j, h1, h2, ⟨e', he', hke⟩, h3⟩ | ⟨h1, h2, h3⟩
      · refine .inl ⟨j + 1, ?_, ?_, ⟨e', by simpa using he', hke⟩, fun v => ?_⟩
        · simp only [Instr.findNow, Instr.sameNow, hk, hne, if_true, mget, hp, if_false]
          rw [h1]
          simp [Nat.add_assoc, Nat.add_comm 1 j]
        · simpa [mget, hp] using h2
        · have := h3 v
          simp [mset, hp, hk, hv, this]
      · refine .inr ⟨?_, by simpa [mget, hp] using h2, fun v => by simp [mset, hp, h3 v]⟩
        simp only [Instr.findNow, Instr.sameNow, hk, hne, if_true]
        exact h1

section
variable {P : Program} {tm tk te : TypeId}
theorem run_checkKey_int (w : World) (e : Bool) (n : Nat) (k : Int) (hk : P.underlying tk = some (.int .i64)) : (Instr.checkKey e (n + 1) tk (.int .i64 k)).run P w = .ok () w := by
  simp [Instr.checkKey, run_underlying hk]

theorem run_lookup_is (w : World) (b : Nat) (th : Int → ByteArray) (k : Int) (hm : P.underlying tm = some (.map tk te)) (hk : P.underlying tk = some (.int .i64)) (he : ∀ w, (zeroValue te).run P w = .ok (.string ⟨#[]⟩) w) (h : MapAt w b th) :
    (Instr.lookup tm (.map (some b)) (.int .i64 k) false).run P w = .ok (.string (th k)) w := by
  obtain ⟨es, clock, l, hb, hl, hth⟩ := h
  have hck := fun e => run_checkKey_int (P := P) w e 9999 k hk
  rw [← hth]
  rcases findNow_int k es.toList l 0 hl with ⟨j, h1, _⟩ | ⟨h1, h2, _⟩
  · simp [Instr.lookup, run_underlying hm, run_underlying hk, getObj, Sem.run, hb, hck, Instr.findKey, h1]
  · simp [Instr.lookup, run_underlying hm, run_underlying hk, getObj, Sem.run, hb, hck, Instr.findKey, h1, h2, he]
    rfl

theorem run_mapUpdate_is (w : World) (b : Nat) (th : Int → ByteArray) (k : Int) (v : ByteArray) (hm : P.underlying tm = some (.map tk te)) (hk : P.underlying tk = some (.int .i64)) (h : MapAt w b th) :
    ∃ w', (Instr.mapUpdate tm (.map (some b)) (.int .i64 k) (.string v)).run P w = .ok () w' ∧ MapAt w' b (updTh th k v) ∧ One b w w' := by
  obtain ⟨es, clock, l, hb, hl, hth⟩ := h
  have hbl : b < w.heap.size := (Array.getElem?_eq_some_iff.1 hb).1
  have hck := fun e => run_checkKey_int (P := P) w e 9999 k hk
  have hon : ∀ o : Obj, One b w { w with heap := w.heap.setIfInBounds b o } := fun o =>
    ⟨rfl, rfl, rfl, by simp, fun i _ hi => by rw [Array.getElem?_setIfInBounds_ne (fun e => hi e.symm)]⟩
  have hat : ∀ (es' : Array MapEntry) (c : Nat), es'.toList.map (fun e => (e.key, e.val)) = (mset l k v).map (fun p => (Value.int .i64 p.1, Value.string p.2)) →
      MapAt { w with heap := w.heap.setIfInBounds b (.map es' c) } b (updTh th k v) := fun es' c he =>
    ⟨es', c, mset l k v, by simp [hbl], he, fun j => by
      rw [mget_mset, updTh]
      by_cases hj : j = k
      · rw [if_pos hj, if_pos hj]; rfl
      · rw [if_neg hj, if_neg hj, hth]⟩
  rcases findNow_int k es.toList l 0 hl with ⟨j, h1, _, ⟨e, he, hke⟩, h3⟩ | ⟨h1, h2, h3⟩
  · refine ⟨_, ?_, hat (es.modify j fun e => { e with key := .int .i64 k, val := .string v }) clock (by rw [Array.toList_modify]; exact h3 v), hon _⟩
    have he' : es[j]? = some e := by simpa using he
    simp [Instr.mapUpdate, run_underlying hm, run_underlying hk, getObj, setObj, Sem.run, hb, hck, Instr.findKey, h1, Instr.keyThatStays, he', hke, Instr.sameBits]
  · refine ⟨_, ?_, hat (es.push { key := .int .i64 k, val := .string v, born := clock }) (clock + 1) (by rw [h3 v]; simp [hl]), hon _⟩
    simp [Instr.mapUpdate, run_underlying hm, run_underlying hk, getObj, setObj, Sem.run, hb, hck, Instr.findKey, h1]
end

theorem MapAt.frm {S : Nat → Prop} {w w' : World} {b : Nat} {th : Int → ByteArray} (h : MapAt w b th) (hf : Frm S w w') (hs : ¬ S b) : MapAt w' b th := by
  obtain ⟨es, clock, l, hb, r⟩ := h
  exact ⟨es, clock, l, (hf.at_ b (Array.getElem?_eq_some_iff.1 hb).1 hs).trans hb, r⟩
theorem MapAt.lt {w : World} {b : Nat} {th : Int → ByteArray} (h : MapAt w b th) : b < w.heap.size := by
  obtain ⟨es, clock, l, hb, r⟩ := h
  exact (Array.getElem?_eq_some_iff.1 hb).1
end Go.Proofs.Ytdpffgcekjdneaa
