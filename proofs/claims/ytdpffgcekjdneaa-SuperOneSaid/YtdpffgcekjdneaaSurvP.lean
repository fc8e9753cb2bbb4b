/-
  Plain: what survives a crash of a disk. No program in sight.
-/
import Derived.Test.YtdpffgcekjdneaaBoth
set_option linter.all false
namespace Go.Proofs.Ytdpffgcekjdneaa

/-- A sector's bytes behind standing writes are what was there, or a write's to it. -/
theorem standL_mem (so : Nat → Bool) (s : Int) : ∀ (l : List (Int × ByteArray)) (i : Nat) (th : Int → ByteArray), standL so i l th s = th s ∨ ∃ p ∈ l, p.1 = s ∧ standL so i l th s = p.2
  | [], _, th => .inl rfl
  | p :: l, i, th => by
    rw [standL]
    rcases standL_mem so s l (i + 1) (if so i = true then updTh th p.1 p.2 else th) with h | ⟨q, hq, h1, h2⟩
    · rw [h]
      split
      · rw [updTh]
        split
        · rename_i hs
          exact .inr ⟨p, List.mem_cons_self .., hs.symm, rfl⟩
        · exact .inl rfl
      · exact .inl rfl
    · exact .inr ⟨q, List.mem_cons_of_mem _ hq, h1, h2⟩

/-- Where all stand: the last write's. -/
theorem standL_last (s : Int) : ∀ (l : List (Int × ByteArray)) (i : Nat) (th : Int → ByteArray), (∀ p ∈ l, p.2.size = 128) → fullS (standL (fun _ => true) i l th s) = lastW s l (fullS (th s))
  | [], _, th, _ => rfl
  | p :: l, i, th, h => by
    rw [standL, if_pos rfl, standL_last s l (i + 1) _ (fun q hq => h q (List.mem_cons_of_mem _ hq))]
    show _ = List.foldl _ _ (p :: l)
    rw [List.foldl_cons, updTh]
    by_cases hs : s = p.1
    · rw [if_pos hs, if_pos hs.symm, fullS_full _ (h p (List.mem_cons_self ..))]
      rfl
    · rw [if_neg hs, if_neg (fun e => hs e.symm)]
      rfl

/-- What may be read of six sectors, by the law's own lists. -/
def Inv (d : Dk) (ms : Nat → List ByteArray) : Prop :=
  d.down = false ∧ d.n = 6 ∧ d.full ∧ ∀ k, k < 6 → fullS (d.th k) ∈ ms k ∧ (∀ p ∈ d.wait, p.1 = (k : Int) → p.2 ∈ ms k) ∧ (ms k).getLast? = some (lastW k d.wait (fullS (d.th k)))
/-- Behind a crash or a flush: nothing waits. -/
def Aft (d : Dk) (ms : Nat → List ByteArray) : Prop := d.n = 6 ∧ d.wait = [] ∧ ∀ k, k < 6 → fullS (d.th k) ∈ ms k

theorem inv_new (cr : List (Int × List UInt8)) : Inv (dk0 6 cr) (fun j => if j < 6 then [fullS ⟨#[]⟩] else []) :=
  ⟨rfl, rfl, fun p hp => by simp [dk0] at hp, fun k hk => ⟨by simp [dk0, hk], fun p hp => by simp [dk0] at hp, by simp [hk, dk0, lastW]⟩⟩

/-- One list more. -/
def addAt (ms : Nat → List ByteArray) (a : Nat) (x : ByteArray) : Nat → List ByteArray := fun k => if k = a then ms k ++ [x] else ms k

theorem crash_aft {d : Dk} {ms : Nat → List ByteArray} (hn : d.n = 6) (h : ∀ k, k < 6 → fullS (d.th k) ∈ ms k ∧ ∀ p ∈ d.wait, p.1 = (k : Int) → p.2 ∈ ms k) (hf : d.full) (hc : d.crash.1 = true) : Aft d.crash.2 ms := by
  unfold Dk.crash at hc ⊢
  split at hc
  · cases hc
  · rename_i c _
    refine ⟨hn, rfl, fun k hk => ?_⟩
    show fullS (standL (mbit c.2) 0 d.wait d.th k) ∈ ms k
    rcases standL_mem (mbit c.2) k d.wait 0 d.th with e | ⟨p, hp, h1, h2⟩
    · rw [e]; exact (h k hk).1
    · rw [h2, fullS_full _ (hf p hp).1]
      exact (h k hk).2 p hp h1

theorem lastW_snoc (s : Int) (l : List (Int × ByteArray)) (p : Int × ByteArray) (x : ByteArray) : lastW s (l ++ [p]) x = if p.1 = s then p.2 else lastW s l x := by
  simp [lastW, List.foldl_append]

theorem inv_write {d : Dk} {ms : Nat → List ByteArray} (h : Inv d ms) (a : Nat) (ha : a < 6) (x : ByteArray) (hx : x.size ≤ 128) :
    ((d.write a x).1 = 0 ∧ Inv (d.write a x).2 (addAt ms a (fullS x))) ∨ ((d.write a x).1 = 12 ∧ Aft (d.write a x).2 (addAt ms a (fullS x))) := by
  obtain ⟨hd, hn, hf, hi⟩ := h
  have e : d.write a x = ((if ({ d with wait := d.wait ++ [((a : Int), fullS x)] } : Dk).crash.1 then 12 else 0), ({ d with wait := d.wait ++ [((a : Int), fullS x)] } : Dk).crash.2) := by
    unfold Dk.write; rw [hd, if_neg (by decide), if_neg (by omega), if_neg (by omega)]
  have hf' : ({ d with wait := d.wait ++ [((a : Int), fullS x)] } : Dk).full := fun p hp => by
    rcases List.mem_append.1 hp with hp | hp
    · exact hf p hp
    · simp at hp
      subst hp
      exact ⟨fullS_size x hx, a, rfl, by show a < d.n; omega⟩
  have hsub : ∀ k y, y ∈ ms k → y ∈ addAt ms a (fullS x) k := fun k y hy => by
    unfold addAt
    split
    · exact List.mem_append_left _ hy
    · exact hy
  have hw : ∀ k, k < 6 → fullS (d.th k) ∈ addAt ms a (fullS x) k ∧ ∀ p ∈ d.wait ++ [((a : Int), fullS x)], p.1 = (k : Int) → p.2 ∈ addAt ms a (fullS x) k := fun k hk => ⟨hsub k _ (hi k hk).1, fun p hp he => by
    rcases List.mem_append.1 hp with hp | hp
    · exact hsub k _ ((hi k hk).2.1 p hp he)
    · simp at hp
      subst hp
      have : k = a := by simp at he; omega
      unfold addAt
      rw [if_pos this]
      simp⟩
  rw [e]
  cases hc : ({ d with wait := d.wait ++ [((a : Int), fullS x)] } : Dk).crash.1 with
  | true => exact .inr ⟨rfl, crash_aft hn hw hf' hc⟩
  | false =>
    refine .inl ⟨rfl, ?_⟩
    rw [crash_w _ hc]
    refine ⟨hd, hn, hf', fun k hk => ⟨(hw k hk).1, (hw k hk).2, ?_⟩⟩
    show (addAt ms a (fullS x) k).getLast? = some (lastW k (d.wait ++ [((a : Int), fullS x)]) (fullS (d.th k)))
    rw [lastW_snoc]
    unfold addAt
    by_cases hk' : k = a
    · subst hk'
      rw [if_pos rfl, if_pos rfl]
      simp
    · rw [if_neg hk', if_neg (by simp; omega)]
      exact (hi k hk).2.2

theorem inv_flush {d : Dk} {ms : Nat → List ByteArray} (h : Inv d ms) :
    (d.flush.1 = 0 ∧ Aft d.flush.2 ms ∧ ∀ k, k < 6 → (ms k).getLast? = some (fullS (d.flush.2.th k))) ∨ (d.flush.1 = 12 ∧ Aft d.flush.2 ms) := by
  obtain ⟨hd, hn, hf, hi⟩ := h
  have e : d.flush = if d.crash.1 = true then (12, d.crash.2) else (0, { d.crash.2 with th := standL (fun _ => true) 0 d.crash.2.wait d.crash.2.th, wait := [] }) := by
    unfold Dk.flush
    rw [hd, if_neg (by decide)]
  rw [e]
  cases hc : d.crash.1 with
  | true => exact .inr ⟨rfl, crash_aft hn (fun k hk => ⟨(hi k hk).1, (hi k hk).2.1⟩) hf hc⟩
  | false =>
    refine .inl ⟨rfl, ?_⟩
    rw [if_neg (by decide), crash_w _ hc]
    have hl : ∀ k, k < 6 → (ms k).getLast? = some (fullS (standL (fun _ => true) 0 d.wait d.th k)) := fun k hk => by
      rw [standL_last k d.wait 0 d.th (fun p hp => (hf p hp).1)]
      exact (hi k hk).2.2
    refine ⟨⟨hn, rfl, fun k hk => ?_⟩, hl⟩
    exact List.mem_of_getLast? (hl k hk)

/-- The power is back; what is read is all that may be. -/
theorem inv_after {d : Dk} {ms : Nat → List ByteArray} (h : Aft d ms) : Inv { d with down := false } (fun k => [fullS (d.th k)]) := by
  obtain ⟨hn, hw, hi⟩ := h
  refine ⟨rfl, hn, fun p hp => ?_, fun k hk => ⟨by simp, fun p hp => ?_, ?_⟩⟩
  · rw [hw] at hp; simp at hp
  · rw [hw] at hp; simp at hp
  · rw [hw]; rfl
theorem read_after {d : Dk} {ms : Nat → List ByteArray} (h : Aft d ms) (k : Nat) (hk : k < 6) : ({ d with down := false } : Dk).read k = (fullS (d.th k), 0) := by
  obtain ⟨hn, hw, hi⟩ := h
  unfold Dk.read
  rw [if_neg (by simp), if_neg (by rw [hn]; omega), hw]
  rfl
end Go.Proofs.Ytdpffgcekjdneaa
