/-
  A disk in memory as one fact: it lies in blocks of S; its calls turn only such.
-/
import Derived.Test.YtdpffgcekjdneaaDiskN
set_option linter.all false
namespace Go.Proofs.Ytdpffgcekjdneaa
open Go.RowKit

/-- Sizes of a disk: of what grows at most N. -/
def Dk.okn (N : Nat) (d : Dk) : Prop := d.n ≤ 65536 ∧ d.wait.length ≤ N ∧ d.ops ≤ N ∧ d.cr.length ≤ 100000 ∧ (∀ k, (d.th k).size ≤ 128) ∧ (∀ p ∈ d.wait, p.2.size ≤ 128) ∧ (∀ c ∈ d.cr, c.2.length ≤ 100000)

theorem Dk.okn.ok {N : Nat} {d : Dk} (h : d.okn N) (hN : N ≤ 100000) : d.ok := ⟨h.1, by have := h.2.1; omega, by have := h.2.2.1; omega, h.2.2.2⟩
theorem Dk.okn.mono {N M : Nat} {d : Dk} (h : d.okn N) (hN : N ≤ M) : d.okn M := ⟨h.1, by have := h.2.1; omega, by have := h.2.2.1; omega, h.2.2.2⟩

theorem standL_size (so : Nat → Bool) : ∀ (l : List (Int × ByteArray)) (i : Nat) (th : Int → ByteArray), (∀ k, (th k).size ≤ 128) → (∀ p ∈ l, p.2.size ≤ 128) → ∀ k, (standL so i l th k).size ≤ 128
  | [], _, th, h, _, k => h k
  | p :: l, i, th, h, hl, k => by
    rw [standL]
    refine standL_size so l (i + 1) _ (fun j => ?_) (fun q hq => hl q (List.mem_cons_of_mem _ hq)) k
    split
    · rw [updTh]
      split
      · exact hl p (List.mem_cons_self ..)
      · exact h j
    · exact h j

theorem Dk.okn.crash {N M : Nat} {d : Dk} (hw : d.wait.length ≤ M) (ho : d.ops ≤ N) (hM : N + 1 ≤ M) (h1 : d.n ≤ 65536) (h2 : d.cr.length ≤ 100000) (h3 : ∀ k, (d.th k).size ≤ 128) (h4 : ∀ p ∈ d.wait, p.2.size ≤ 128) (h5 : ∀ c ∈ d.cr, c.2.length ≤ 100000) : d.crash.2.okn M := by
  unfold Dk.crash
  split
  · exact ⟨h1, hw, by show d.ops + 1 ≤ M; omega, h2, h3, h4, h5⟩
  · exact ⟨h1, Nat.zero_le _, by show d.ops + 1 ≤ M; omega, h2, standL_size _ _ _ _ h3 h4, fun p hp => by simp at hp, h5⟩
theorem Dk.okn.write {N : Nat} {d : Dk} (h : d.okn N) (s : Int) (x : ByteArray) : (d.write s x).2.okn (N + 1) := by
  unfold Dk.write
  split
  · exact h.mono (by omega)
  · split
    · exact h.mono (by omega)
    · split
      · exact h.mono (by omega)
      · rename_i hx
        refine Dk.okn.crash (N := N) (d := { d with wait := d.wait ++ [(s, fullS x)] }) ?_ h.2.2.1 (Nat.le_refl _) h.1 h.2.2.2.1 h.2.2.2.2.1 ?_ h.2.2.2.2.2.2
        · show (d.wait ++ [(s, fullS x)]).length ≤ N + 1
          have := h.2.1
          simp; omega
        · intro p hp
          rcases List.mem_append.1 hp with hp | hp
          · exact h.2.2.2.2.2.1 p hp
          · simp at hp; subst hp
            rw [fullS_size x (by omega)]
            exact Nat.le_refl _
theorem Dk.okn.flush {N : Nat} {d : Dk} (h : d.okn N) : d.flush.2.okn (N + 1) := by
  have hc : d.crash.2.okn (N + 1) := Dk.okn.crash (N := N) (by have := h.2.1; omega) h.2.2.1 (Nat.le_refl _) h.1 h.2.2.2.1 h.2.2.2.2.1 h.2.2.2.2.2.1 h.2.2.2.2.2.2
  unfold Dk.flush
  split
  · exact h.mono (by omega)
  · simp only
    split
    · exact hc
    · exact ⟨hc.1, Nat.zero_le _, hc.2.2.1, hc.2.2.2.1, standL_size _ _ _ _ hc.2.2.2.2.1 hc.2.2.2.2.2.1, fun p hp => by simp at hp, hc.2.2.2.2.2.2⟩
theorem Dk.okn.power {N : Nat} {d : Dk} (h : d.okn N) (u : Bool) : ({ d with down := u } : Dk).okn N := h

/-- A disk in blocks of S. -/
def DiskIn (S : Nat → Prop) (w : World) (b N : Nat) (d : Dk) : Prop := ∃ F G, DiskAt w F G b d ∧ (∀ k, F k → S k) ∧ (∀ k, G k → S k ∧ k < w.heap.size) ∧ d.okn N

section
variable {S T : Nat → Prop} {w w' : World} {b N : Nat} {d : Dk}
theorem DiskIn.frm (h : DiskIn S w b N d) (hf : Frm T w w') (hS : ∀ k, S k → ¬ T k) : DiskIn S w' b N d := by
  obtain ⟨F, G, h1, h2, h3, h4⟩ := h
  exact ⟨F, G, h1.frm hf (fun k hk => hS k (h2 k hk)) (fun k hk => hS k (h3 k hk).1), h2, fun k hk => ⟨(h3 k hk).1, Nat.lt_of_lt_of_le (h3 k hk).2 hf.size⟩, h4⟩
theorem DiskIn.nul (h : DiskIn S w b N d) (hf : Nul w w') : DiskIn S w' b N d := h.frm hf (fun _ _ hh => hh)
theorem DiskIn.mono (h : DiskIn S w b N d) (hS : ∀ k, k < w.heap.size → S k → T k) : DiskIn T w b N d := by
  obtain ⟨F, G, h1, h2, h3, h4⟩ := h
  have hF : ∀ k, F k → k < w.heap.size := by
    obtain ⟨_, _, _, _, _, _, _, _, _, _, _, h8, _⟩ := h1
    exact h8
  exact ⟨F, G, h1, fun k hk => hS k (hF k hk) (h2 k hk), fun k hk => ⟨hS k (h3 k hk).2 (h3 k hk).1, (h3 k hk).2⟩, h4⟩
theorem DiskIn.ok (h : DiskIn S w b N d) (hN : N ≤ 100000) : d.ok := by
  obtain ⟨F, G, h1, h2, h3, h4⟩ := h
  exact h4.ok hN

theorem in_Write (h : DiskIn S w b N d) (hN : N ≤ 100000) (s : Int) (x : ByteArray) :
    Calls Try.prog 17 #[.pointer (some ⟨b, 0, none⟩), .int .i64 s, .string x] w fun e w' => e = .returned (.int .i64 (d.write s x).1) ∧ DiskIn (ext S w w') w' b (N + 1) (d.write s x).2 ∧ Frm S w w' := by
  obtain ⟨F, G, h1, h2, h3, h4⟩ := h
  refine (disk_Write F G b d s x w h1 (h4.ok hN) (fun k hk => (h3 k hk).2)).mono ?_
  rintro e w' ⟨rfl, hA, hf⟩
  refine ⟨rfl, ⟨_, G, hA, fun k hk => ?_, fun k hk => ⟨.inl (h3 k hk).1, Nat.lt_of_lt_of_le (h3 k hk).2 hf.size⟩, h4.write s x⟩, hf.mono fun k _ hk => h2 k hk⟩
  rcases hk with hk | hk
  · exact .inl (h2 k hk)
  · exact .inr hk
theorem in_Flush (h : DiskIn S w b N d) (hN : N ≤ 100000) :
    Calls Try.prog 16 #[.pointer (some ⟨b, 0, none⟩)] w fun e w' => e = .returned (.int .i64 d.flush.1) ∧ DiskIn S w' b (N + 1) d.flush.2 ∧ Frm S w w' := by
  obtain ⟨F, G, h1, h2, h3, h4⟩ := h
  refine (disk_Flush F G b d w h1 (h4.ok hN)).mono ?_
  rintro e w' ⟨rfl, hA, hf⟩
  exact ⟨rfl, ⟨F, G, hA, h2, fun k hk => ⟨(h3 k hk).1, Nat.lt_of_lt_of_le (h3 k hk).2 hf.size⟩, h4.flush⟩, hf.mono fun k _ hk => h2 k hk⟩
theorem in_Power (h : DiskIn S w b N d) :
    Calls Try.prog 18 #[.pointer (some ⟨b, 0, none⟩)] w fun e w' => e = .returned (.tuple #[]) ∧ DiskIn S w' b N { d with down := false } ∧ Frm S w w' := by
  obtain ⟨F, G, h1, h2, h3, h4⟩ := h
  have hb : F b := by
    obtain ⟨_, _, _, _, hb, _⟩ := h1
    exact hb
  refine (disk_Power F G b d w h1).mono ?_
  rintro e w' ⟨rfl, hA, hf⟩
  exact ⟨rfl, ⟨F, G, hA, h2, fun k hk => ⟨(h3 k hk).1, Nat.lt_of_lt_of_le (h3 k hk).2 hf.size⟩, h4⟩, hf.mono fun k _ hk => hk ▸ h2 b hb⟩
theorem in_Read (h : DiskIn S w b N d) (hN : N ≤ 100000) (s : Int) :
    Calls Try.prog 19 #[.pointer (some ⟨b, 0, none⟩), .int .i64 s] w fun e w' => e = .returned (.tuple #[.string (d.read s).1, .int .i64 (d.read s).2]) ∧ Nul w w' := by
  obtain ⟨F, G, h1, h2, h3, h4⟩ := h
  exact disk_Read F G b d s w h1 (h4.ok hN)
theorem in_Ops (h : DiskIn S w b N d) :
    Calls Try.prog 25 #[.pointer (some ⟨b, 0, none⟩)] w fun e w' => e = .returned (.int .i64 d.ops) ∧ w = w' := by
  obtain ⟨F, G, h1, _⟩ := h
  exact disk_Ops F G b d w h1
theorem in_Down (h : DiskIn S w b N d) :
    Calls Try.prog 26 #[.pointer (some ⟨b, 0, none⟩)] w fun e w' => e = .returned (.bool d.down) ∧ w = w' := by
  obtain ⟨F, G, h1, _⟩ := h
  exact disk_Down F G b d w h1
theorem in_Waiting (h : DiskIn S w b N d) :
    Calls Try.prog 27 #[.pointer (some ⟨b, 0, none⟩)] w fun e w' => e = .returned (.int .i64 d.wait.length) ∧ w = w' := by
  obtain ⟨F, G, h1, _⟩ := h
  exact disk_Waiting F G b d w h1
theorem in_Sectors (h : DiskIn S w b N d) :
    Calls Try.prog 20 #[.pointer (some ⟨b, 0, none⟩)] w fun e w' => e = .returned (.int .i64 d.n) ∧ w = w' := by
  obtain ⟨F, G, h1, _⟩ := h
  exact disk_Sectors F G b d w h1
end

/-- A disk that is new. -/
def dk0 (n : Nat) (cr : List (Int × List UInt8)) : Dk := ⟨n, fun _ => ⟨#[]⟩, [], cr, 0, false⟩

theorem in_New {S : Nat → Prop} {n c : Nat} {A : Option Addr} {cr : List (Int × List UInt8)} {w : World} (hA : CrashesAt w S A cr) (hn1 : 1 ≤ n) (hn2 : n ≤ 65536) (hcl : cr.length ≤ 100000) (hml : ∀ p ∈ cr, p.2.length ≤ 100000) :
    Calls Try.prog 14 #[.int .i64 n, .slice A cr.length c] w fun e w' => ∃ b, e = .returned (.tuple #[.pointer (some ⟨b, 0, none⟩), .int .i64 0]) ∧ DiskIn (ext (fun _ => False) w w') w' b 0 (dk0 n cr) ∧ Nul w w' := by
  refine (disk_New S n A c cr w hA hn1 hn2 hcl hml).mono ?_
  rintro e w' ⟨rfl, hD, hf, hs⟩
  exact ⟨_, rfl, ⟨_, _, hD, fun k hk => .inr ⟨by omega, by omega⟩, fun k hk => ⟨.inr ⟨by omega, hk.2⟩, hk.2⟩, hn2, Nat.zero_le _, Nat.zero_le _, hcl, fun _ => Nat.zero_le _, fun p hp => by simp [dk0] at hp, hml⟩, hf⟩
theorem in_New_range (n : Int) (A : Option Addr) (l c : Nat) (w : World) (hn : n < 1 ∨ 65536 < n) :
    Calls Try.prog 14 #[.int .i64 n, .slice A l c] w fun e w' => e = .returned (.tuple #[.pointer none, .int .i64 3]) ∧ w = w' := by
  rcases hn with hn | hn
  · have hd : decide (n < 1) = true := decide_eq_true hn
    go_enter Try.func14, Try.ntmps14
    go_wp2_with fail
    go_ret2
    exact ⟨rfl, rfl⟩
  · have hd : decide (n < 1) = false := decide_eq_false (by omega)
    go_enter Try.func14, Try.ntmps14
    go_wp2_with fail
    go_ret2
    exact ⟨rfl, rfl⟩
end Go.Proofs.Ytdpffgcekjdneaa
