/-
  Plain: one of both supers is the newest, whatever survives. No program in sight.
-/
import Derived.Test.YtdpffgcekjdneaaSupK
import Derived.Test.YtdpffgcekjdneaaStaysP
set_option linter.all false
namespace Go.Proofs.Ytdpffgcekjdneaa

theorem fulls_one (k : Int) (x : ByteArray) : fulls [(k, x)] = [(k, fullS x)] := rfl
theorem newest_eq (d : Dk) : newest d = nstep (nstep (Sup.zero, -1) 0 (d.read 0).1) 1 (d.read 1).1 := rfl
theorem newest_congr {d d' : Dk} (h0 : (d'.read 0).1 = (d.read 0).1) (h1 : (d'.read 1).1 = (d.read 1).1) : newest d' = newest d := by
  rw [newest_eq, newest_eq, h0, h1]
theorem read_sec {d : Dk} (hd : d.down = false) (hw : d.wait = []) (hn : 2 ≤ d.n) (k : Int) (h0 : 0 ≤ k) (h1 : k ≤ 1) : (d.read k).1 = fullS (d.th k) := by
  rw [read_ok hd h0 (by omega), hw]
  rfl

theorem newest_cases (d : Dk) : newest d = if (supR (d.read 0).1).2 = 0 then (if (supR (d.read 1).1).2 = 0 ∧ (supR (d.read 0).1).1.g < (supR (d.read 1).1).1.g then ((supR (d.read 1).1).1, 1) else ((supR (d.read 0).1).1, 0))
    else (if (supR (d.read 1).1).2 = 0 then ((supR (d.read 1).1).1, 1) else (Sup.zero, -1)) := by
  rw [newest_eq]
  unfold nstep
  generalize supR (d.read 0).1 = e0
  generalize supR (d.read 1).1 = e1
  by_cases h0 : e0.2 = 0
  · have c0 : ((Sup.zero, -1) : Sup × Int).2 < 0 ∨ ((Sup.zero, -1) : Sup × Int).1.g < e0.1.g := Or.inl (by decide)
    rw [if_pos h0, if_pos h0, if_pos c0]
    by_cases h1 : e1.2 = 0
    · rw [if_pos h1]
      by_cases hg : e0.1.g < e1.1.g
      · rw [if_pos (Or.inr hg), if_pos ⟨h1, hg⟩]
      · have c2 : ¬ (((e0.1, (0 : Int)) : Sup × Int).2 < 0 ∨ ((e0.1, (0 : Int)) : Sup × Int).1.g < e1.1.g) := by
          intro h
          cases h with
          | inl h => simp at h
          | inr h => exact hg h
        rw [if_neg c2, if_neg (fun h => hg h.2)]
    · rw [if_neg h1, if_neg (fun h => h1 h.1)]
  · rw [if_neg h0, if_neg h0]
    by_cases h1 : e1.2 = 0
    · rw [if_pos h1, if_pos h1, if_pos (Or.inl (by decide))]
    · rw [if_neg h1, if_neg h1]

/-- The other sector gets a super that is newer. -/
theorem newest_put {d d' : Dk} {A L : Nat} (hs : supB ((newest d).1.g + 1 : Nat) A L = true)
    (hto : (d'.read d.to).1 = supS ((newest d).1.g + 1) A L) (hot : (d'.read (1 - d.to)).1 = (d.read (1 - d.to)).1) : newest d' = (⟨(newest d).1.g + 1, A, L⟩, d.to) := by
  have hx := supR_supS hs
  have hn := newest_cases d
  have hn' := newest_cases d'
  unfold Dk.to at hto hot ⊢
  obtain ⟨st, hst⟩ : ∃ st, newest d = st := ⟨_, rfl⟩
  rw [hst] at hx hto hot hn ⊢
  by_cases h0 : st.2 = 0
  · rw [if_pos h0] at hto hot ⊢
    rw [show (1 : Int) - 1 = 0 from rfl] at hot
    rw [hto, hot, hx] at hn'
    generalize supR (d.read 0).1 = e0 at hn hn'
    generalize supR (d.read 1).1 = e1 at hn hn'
    by_cases c0 : e0.2 = 0
    · rw [if_pos c0] at hn hn'
      have hg : st.1.g = e0.1.g := by
        by_cases c1 : e1.2 = 0 ∧ e0.1.g < e1.1.g
        · rw [if_pos c1] at hn
          rw [hn] at h0
          simp at h0
        · rw [if_neg c1] at hn
          rw [hn]
      rw [hn', if_pos]
      exact ⟨rfl, by show e0.1.g < st.1.g + 1; omega⟩
    · rw [if_neg c0] at hn
      exfalso
      by_cases c1 : e1.2 = 0
      · rw [if_pos c1] at hn
        rw [hn] at h0
        simp at h0
      · rw [if_neg c1] at hn
        rw [hn] at h0
        simp at h0
  · rw [if_neg h0] at hto hot ⊢
    rw [show (1 : Int) - 0 = 1 from rfl] at hot
    rw [hto, hot, hx] at hn'
    generalize supR (d.read 0).1 = e0 at hn hn'
    generalize supR (d.read 1).1 = e1 at hn hn'
    rw [if_pos rfl] at hn'
    rw [hn', if_neg]
    rintro ⟨c1, hlt⟩
    have hlt' : st.1.g + 1 < e1.1.g := hlt
    have hg : st.1.g = e1.1.g := by
      by_cases c0 : e0.2 = 0
      · rw [if_pos c0] at hn
        by_cases c2 : e1.2 = 0 ∧ e0.1.g < e1.1.g
        · rw [if_pos c2] at hn
          rw [hn]
        · rw [if_neg c2] at hn
          rw [hn] at h0
          simp at h0
      · rw [if_neg c0, if_pos c1] at hn
        rw [hn]
    omega

/-- A disk of three sectors, of which nothing waits, and its newest super. -/
structure OneD (d : Dk) (was : Sup) : Prop where
  down : d.down = false
  n : d.n = 3
  wait : d.wait = []
  new : (newest d).1 = was

theorem one_new (cr : List (Int × List UInt8)) : OneD (dk0 3 cr) Sup.zero := by
  refine ⟨rfl, rfl, rfl, ?_⟩
  have h0 : ((dk0 3 cr).read 0).1 = fullS ⟨#[]⟩ := read_sec rfl rfl (by show 2 ≤ 3; omega) 0 (by omega) (by omega)
  have h1 : ((dk0 3 cr).read 1).1 = fullS ⟨#[]⟩ := read_sec rfl rfl (by show 2 ≤ 3; omega) 1 (by omega) (by omega)
  have hz : (supR (fullS ⟨#[]⟩)).2 ≠ 0 := by decide +kernel
  rw [newest_eq, h0, h1]
  unfold nstep
  rw [if_neg hz, if_neg hz]

theorem one_R {d : Dk} {was : Sup} (h : OneD d was) : ∃ at_ e, newR d = (was, at_, e) ∧ (e = 0 ∨ (e = 7 ∧ was = Sup.zero)) := by
  unfold newR
  rw [h.down, if_neg (by decide)]
  by_cases h0 : (newest d).2 < 0
  · rw [if_pos h0]
    have hz : was = Sup.zero := by
      rcases newest_in d with ⟨_, h2⟩ | ⟨h1, _⟩
      · rw [← h.new, h2]
      · omega
    rw [hz]
    exact ⟨0, 7, rfl, .inr ⟨rfl, rfl⟩⟩
  · rw [if_neg h0, h.new]
    exact ⟨_, 0, rfl, .inl rfl⟩

/-- What survives a write of a super. -/
theorem one_step {d : Dk} {N : Nat} {was : Sup} (hok : d.okn N) (h : OneD d was) (a l : Int) :
    (∃ A L : Nat, a = A ∧ l = L ∧ OneD { (d.swrite a l).2 with down := false } ⟨was.g + 1, A, L⟩) ∨
      ((d.swrite a l).1 ≠ 0 ∧ OneD { (d.swrite a l).2 with down := false } was) := by
  have hsw : d.swrite a l = if supB (was.g + 1 : Nat) a l = true then
      if (d.write d.to (supS (was.g + 1) a.toNat l.toNat)).1 = 0 then (d.write d.to (supS (was.g + 1) a.toNat l.toNat)).2.flush
      else d.write d.to (supS (was.g + 1) a.toNat l.toNat)
    else (3, d) := by
    unfold Dk.swrite
    rw [h.down, if_neg (by decide), h.new, h.n]
    by_cases hb : supB (was.g + 1 : Nat) a l = true
    · rw [if_pos ⟨hb, by omega⟩, if_pos hb]
    · rw [if_neg (fun e => hb e.1), if_neg hb]
  by_cases hb : supB (was.g + 1 : Nat) a l = true
  · rw [if_pos hb] at hsw
    obtain ⟨_, _, a0, a1, l0, l1⟩ := supB_true hb
    obtain ⟨A, rfl⟩ : ∃ A : Nat, a = (A : Int) := ⟨a.toNat, by omega⟩
    obtain ⟨L, rfl⟩ : ∃ L : Nat, l = (L : Int) := ⟨l.toNat, by omega⟩
    rw [show ((A : Int)).toNat = A from by omega, show ((L : Int)).toNat = L from by omega] at hsw
    obtain ⟨x, hx⟩ : ∃ x, supS (was.g + 1) A L = x := ⟨_, rfl⟩
    have hxs : x.size = 128 := by rw [← hx]; exact supS_size _ _ _
    have hxf : fullS x = x := fullS_full x hxs
    rw [hx] at hsw
    have hfull : d.full := fun p hp => by rw [h.wait] at hp; simp at hp
    have hto : d.to = 0 ∨ d.to = 1 := by unfold Dk.to; split <;> simp
    have ht0 : 0 ≤ d.to := by omega
    have ht1 : d.to ≤ 1 := by omega
    -- of any disk behind it: that sector is the old one's or the write's, the other is as it was
    have keep : ∀ d' : Dk, d'.n = 3 → d'.wait = [] → (∀ k, fullS (d'.th k) = fullS (d.th k) ∨ ∃ p ∈ [(d.to, x)], p.1 = k ∧ fullS (d'.th k) = p.2) →
        OneD { d' with down := false } ⟨was.g + 1, A, L⟩ ∨ OneD { d' with down := false } was := fun d' hn hw hk => by
      have hr : ∀ k : Int, 0 ≤ k → k ≤ 1 → (({ d' with down := false } : Dk).read k).1 = fullS (d'.th k) := fun k k0 k1 => read_sec (d := { d' with down := false }) rfl hw (by show 2 ≤ d'.n; omega) k k0 k1
      have hr0 : ∀ k : Int, 0 ≤ k → k ≤ 1 → (d.read k).1 = fullS (d.th k) := fun k k0 k1 => read_sec h.down h.wait (by rw [h.n]; omega) k k0 k1
      have hother : ∀ k, k ≠ d.to → fullS (d'.th k) = fullS (d.th k) := fun k hne => by
        rcases hk k with e | ⟨p, hp, h1, h2⟩
        · exact e
        · simp at hp
          subst hp
          exact absurd h1.symm hne
      rcases hk d.to with e | ⟨p, hp, h1, h2⟩
      · right
        refine ⟨rfl, hn, hw, ?_⟩
        rw [newest_congr (d := d) (d' := { d' with down := false }), h.new]
        · rw [hr 0 (by omega) (by omega), hr0 0 (by omega) (by omega)]
          by_cases h0 : (0 : Int) = d.to
          · rw [h0]; exact e
          · exact hother 0 h0
        · rw [hr 1 (by omega) (by omega), hr0 1 (by omega) (by omega)]
          by_cases h0 : (1 : Int) = d.to
          · rw [h0]; exact e
          · exact hother 1 h0
      · left
        simp at hp
        subst hp
        refine ⟨rfl, hn, hw, ?_⟩
        have := newest_put (d := d) (d' := { d' with down := false }) (A := A) (L := L) (by rw [h.new]; exact hb) (by rw [hr _ ht0 ht1, h2, h.new, hx]) (by rw [hr _ (by omega) (by omega), hr0 _ (by omega) (by omega)]; exact hother _ (by omega))
        rw [this, h.new]
    obtain ⟨wn, wf, ww⟩ := write_go (s := d.to) (x := x) h.down hfull ht0 (by rw [h.n]; omega) (by omega)
    rw [h.wait, List.nil_append, hxf] at ww
    rcases ww with ⟨w0, w1, w2, w3⟩ | ⟨w0, w1, w2⟩
    · rw [if_pos w0] at hsw
      rw [hsw]
      obtain ⟨fn, fw, ff⟩ := flush_go w1 wf
      rw [w3, w2] at ff
      rcases ff with ⟨f0, f1⟩ | ⟨f0, f1⟩
      · left
        refine ⟨A, L, rfl, rfl, ?_⟩
        rcases keep (d.write d.to x).2.flush.2 (by rw [fn, wn, h.n]) fw (fun k => by
          rw [f1 k]
          rcases lastW_mem k [(d.to, x)] (fullS (d.th k)) with ⟨h1, _⟩ | ⟨p, hp, h1, h2⟩
          · exact .inl h1
          · exact .inr ⟨p, hp, h1, h2⟩) with h3 | h3
        · exact h3
        · exfalso
          -- the sector is the write's
          have hn3 := h3.new
          have hr : (({ (d.write d.to x).2.flush.2 with down := false } : Dk).read d.to).1 = x := by
            rw [read_sec (d := { (d.write d.to x).2.flush.2 with down := false }) rfl fw (by show 2 ≤ (d.write d.to x).2.flush.2.n; rw [fn, wn, h.n]; omega) _ ht0 ht1]
            show fullS ((d.write d.to x).2.flush.2.th d.to) = x
            rw [f1]
            simp [lastW]
          have := newest_put (d := d) (d' := { (d.write d.to x).2.flush.2 with down := false }) (A := A) (L := L) (by rw [h.new]; exact hb) (by rw [hr, h.new, hx]) (by
            rw [read_sec (d := { (d.write d.to x).2.flush.2 with down := false }) rfl fw (by show 2 ≤ (d.write d.to x).2.flush.2.n; rw [fn, wn, h.n]; omega) _ (by omega) (by omega), read_sec h.down h.wait (by rw [h.n]; omega) _ (by omega) (by omega)]
            show fullS ((d.write d.to x).2.flush.2.th (1 - d.to)) = _
            rw [f1]
            have hne : ¬ d.to = 1 - d.to := by omega
            simp [lastW, hne])
          rw [this, h.new] at hn3
          have := congrArg Sup.g hn3
          simp at this
      · rcases keep (d.write d.to x).2.flush.2 (by rw [fn, wn, h.n]) fw f1 with h3 | h3
        · exact .inl ⟨A, L, rfl, rfl, h3⟩
        · exact .inr ⟨by rw [f0]; decide, h3⟩
    · rw [if_neg (by rw [w0]; decide)] at hsw
      rw [hsw]
      rcases keep (d.write d.to x).2 (by rw [wn, h.n]) w1 w2 with h3 | h3
      · exact .inl ⟨A, L, rfl, rfl, h3⟩
      · exact .inr ⟨by rw [w0]; decide, h3⟩
  · rw [if_neg hb] at hsw
    rw [hsw]
    exact .inr ⟨by simp, ⟨rfl, h.n, h.wait, by
      rw [newest_congr (d := d) (d' := { d with down := false }), h.new]
      · unfold Dk.read; rw [h.down]
      · unfold Dk.read; rw [h.down]⟩⟩
end Go.Proofs.Ytdpffgcekjdneaa
