/-
  The disk and the document's disk side by side: what a call of one leaves of the other.
-/
import Derived.Test.YtdpffgcekjdneaaRefN
set_option linter.all false
namespace Go.Proofs.Ytdpffgcekjdneaa
open Go.RowKit

theorem RefAt.frm {w w' : World} {F G T : Nat → Prop} {b : Nat} {d : Dk} (h : RefAt w F G b d) (hf : Frm T w w') (hF : ∀ k, F k → ¬ T k) (hG : ∀ k, G k → ¬ T k) : RefAt w' F G b d := by
  obtain ⟨vL, vW, A, c, hV⟩ := h
  exact ⟨vL, vW, A, c, hV.frm hf hF hG⟩
theorem RefAt.lt {w : World} {F G : Nat → Prop} {b : Nat} {d : Dk} (h : RefAt w F G b d) : ∀ k, F k → k < w.heap.size := by
  obtain ⟨vL, vW, A, c, h1, h2, h3, h4, h5, h6, h7, h8, h9⟩ := h
  exact h8

theorem Dk.full.write {d : Dk} (h : d.full) (s : Int) (x : ByteArray) : (d.write s x).2.full := by
  unfold Dk.write
  split
  · exact h
  · split
    · exact h
    · rename_i h1
      split
      · exact h
      · rename_i hx
        refine Dk.full.crash (d := { d with wait := d.wait ++ [(s, fullS x)] }) (fun p hp => ?_)
        rcases List.mem_append.1 hp with hp | hp
        · exact h p hp
        · simp at hp
          subst hp
          exact ⟨fullS_size x (by omega), s.toNat, by show s = _; omega, by show s.toNat < d.n; omega⟩
theorem Dk.full.flush {d : Dk} (h : d.full) : d.flush.2.full := by
  unfold Dk.flush
  split
  · exact h
  · simp only
    split
    · exact h.crash
    · intro p hp
      simp at hp

/-- Both, in blocks of T; what they only read lies below B. -/
def Both (T : Nat → Prop) (B : Nat) (w : World) (b1 b2 N : Nat) (d1 d2 : Dk) : Prop :=
  ∃ S F, DiskIn S w b1 N d1 ∧ RefAt w F (· < B) b2 d2 ∧ (∀ k, S k → ¬ F k) ∧ (∀ k, S k → T k ∧ k < w.heap.size) ∧ (∀ k, F k → T k) ∧ (∀ k, T k → B ≤ k) ∧ d2.okn N ∧ d2.full

section
variable {T : Nat → Prop} {B b1 b2 N : Nat} {w w' : World} {d d1 d2 : Dk}
theorem Both.nul (h : Both T B w b1 b2 N d1 d2) (hf : Nul w w') : Both T B w' b1 b2 N d1 d2 := by
  obtain ⟨S, F, h1, h2, h3, h4, h5, h6, h7, h8⟩ := h
  exact ⟨S, F, h1.nul hf, h2.frm hf (fun _ _ h => h) (fun _ _ h => h), h3, fun k hk => ⟨(h4 k hk).1, Nat.lt_of_lt_of_le (h4 k hk).2 hf.size⟩, h5, h6, h7, h8⟩
theorem Both.mono {T' : Nat → Prop} (h : Both T B w b1 b2 N d1 d2) (hT : ∀ k, k < w.heap.size → T k → T' k) (hB : ∀ k, T' k → B ≤ k) : Both T' B w b1 b2 N d1 d2 := by
  obtain ⟨S, F, h1, h2, h3, h4, h5, h6, h7, h8⟩ := h
  exact ⟨S, F, h1, h2, h3, fun k hk => ⟨hT k (h4 k hk).2 (h4 k hk).1, (h4 k hk).2⟩, fun k hk => hT k (h2.lt k hk) (h5 k hk), hB, h7, h8⟩

theorem bd_Write (h : Both T B w b1 b2 N d1 d2) (hT : ∀ k, w.heap.size ≤ k → T k) (hB : B ≤ w.heap.size) (hN : N ≤ 99999) (s : Int) (x : ByteArray) :
    Calls Try.prog 17 #[.pointer (some ⟨b1, 0, none⟩), .int .i64 s, .string x] w fun e w' => e = .returned (.int .i64 (d1.write s x).1) ∧ Both T B w' b1 b2 (N + 1) (d1.write s x).2 d2 ∧ Frm T w w' := by
  obtain ⟨S, F, h1, h2, h3, h4, h5, h6, h7, h8⟩ := h
  refine (in_Write h1 (by omega) s x).mono ?_
  rintro e w' ⟨rfl, hD, hf⟩
  refine ⟨rfl, ⟨fun k => ext S w w' k ∧ k < w'.heap.size, F, hD.mono (fun k hk h => ⟨h, hk⟩), h2.frm hf (fun k hk hS => h3 k hS hk) (fun k hk hS => ?_), ?_, ?_, h5, h6, h7.mono (by omega), h8⟩, hf.mono fun k _ hk => (h4 k hk).1⟩
  · have := h6 k (h4 k hS).1
    have hk' : k < B := hk
    omega
  · rintro k ⟨hk | hk, _⟩ hF
    · exact h3 k hk hF
    · have := h2.lt k hF; omega
  · rintro k ⟨hk | hk, hk2⟩
    · exact ⟨(h4 k hk).1, hk2⟩
    · exact ⟨hT k hk.1, hk2⟩
theorem br_Write (h : Both T B w b1 b2 N d1 d2) (hT : ∀ k, w.heap.size ≤ k → T k) (hB : B ≤ w.heap.size) (hN : N ≤ 99999) (s : Int) (x : ByteArray) :
    Calls Try.prog 22 #[.pointer (some ⟨b2, 0, none⟩), .int .i64 s, .string x] w fun e w' => e = .returned (.int .i64 (d2.write s x).1) ∧ Both T B w' b1 b2 (N + 1) d1 (d2.write s x).2 ∧ Frm T w w' := by
  obtain ⟨S, F, h1, h2, h3, h4, h5, h6, h7, h8⟩ := h
  refine (ref_Write F (· < B) b2 d2 s x w h2 (h7.ok (by omega)) h8 (fun k hk => by have hk' : k < B := hk; omega)).mono ?_
  rintro e w' ⟨rfl, hD, hf⟩
  refine ⟨rfl, ⟨S, _, ?_, hD, ?_, fun k hk => ⟨(h4 k hk).1, Nat.lt_of_lt_of_le (h4 k hk).2 hf.size⟩, ?_, h6, h7.write s x, h8.write s x⟩, hf.mono fun k _ hk => h5 k hk⟩
  · obtain ⟨F1, G1, e1, e2, e3, e4⟩ := h1.frm hf h3
    exact ⟨F1, G1, e1, e2, e3, e4.mono (by omega)⟩
  · rintro k hk (hF | hF)
    · exact h3 k hk hF
    · have := (h4 k hk).2; omega
  · rintro k (hF | hF)
    · exact h5 k hF
    · exact hT k hF.1
theorem bd_Flush (h : Both T B w b1 b2 N d1 d2) (hN : N ≤ 99999) :
    Calls Try.prog 16 #[.pointer (some ⟨b1, 0, none⟩)] w fun e w' => e = .returned (.int .i64 d1.flush.1) ∧ Both T B w' b1 b2 (N + 1) d1.flush.2 d2 ∧ Frm T w w' := by
  obtain ⟨S, F, h1, h2, h3, h4, h5, h6, h7, h8⟩ := h
  refine (in_Flush h1 (by omega)).mono ?_
  rintro e w' ⟨rfl, hD, hf⟩
  refine ⟨rfl, ⟨S, F, hD, h2.frm hf (fun k hk hS => h3 k hS hk) (fun k hk hS => ?_), h3, fun k hk => ⟨(h4 k hk).1, Nat.lt_of_lt_of_le (h4 k hk).2 hf.size⟩, h5, h6, h7.mono (by omega), h8⟩, hf.mono fun k _ hk => (h4 k hk).1⟩
  have := h6 k (h4 k hS).1
  have hk' : k < B := hk
  omega
theorem br_Flush (h : Both T B w b1 b2 N d1 d2) (hN : N ≤ 99999) :
    Calls Try.prog 23 #[.pointer (some ⟨b2, 0, none⟩)] w fun e w' => e = .returned (.int .i64 d2.flush.1) ∧ Both T B w' b1 b2 (N + 1) d1 d2.flush.2 ∧ Frm T w w' := by
  obtain ⟨S, F, h1, h2, h3, h4, h5, h6, h7, h8⟩ := h
  refine (ref_Flush F (· < B) b2 d2 w h2 (h7.ok (by omega)) h8).mono ?_
  rintro e w' ⟨rfl, hD, hf⟩
  refine ⟨rfl, ⟨S, F, ?_, hD, h3, fun k hk => ⟨(h4 k hk).1, Nat.lt_of_lt_of_le (h4 k hk).2 hf.size⟩, h5, h6, h7.flush, h8.flush⟩, hf.mono fun k _ hk => h5 k hk⟩
  obtain ⟨F1, G1, e1, e2, e3, e4⟩ := h1.frm hf h3
  exact ⟨F1, G1, e1, e2, e3, e4.mono (by omega)⟩
theorem bd_Power (h : Both T B w b1 b2 N d1 d2) :
    Calls Try.prog 18 #[.pointer (some ⟨b1, 0, none⟩)] w fun e w' => e = .returned (.tuple #[]) ∧ Both T B w' b1 b2 N { d1 with down := false } d2 ∧ Frm T w w' := by
  obtain ⟨S, F, h1, h2, h3, h4, h5, h6, h7, h8⟩ := h
  refine (in_Power h1).mono ?_
  rintro e w' ⟨rfl, hD, hf⟩
  refine ⟨rfl, ⟨S, F, hD, h2.frm hf (fun k hk hS => h3 k hS hk) (fun k hk hS => ?_), h3, fun k hk => ⟨(h4 k hk).1, Nat.lt_of_lt_of_le (h4 k hk).2 hf.size⟩, h5, h6, h7, h8⟩, hf.mono fun k _ hk => (h4 k hk).1⟩
  have := h6 k (h4 k hS).1
  have hk' : k < B := hk
  omega
/-- The document's disk gets its power back by a plain store. -/
theorem br_Power (h : Both T B w b1 b2 N d1 d2) :
    (∃ u, w.cell? ⟨b2, 4, none⟩ = some (.bool u)) ∧ w.frozen? ⟨b2, 4, none⟩ = false ∧ Both T B (w.setCell ⟨b2, 4, none⟩ (.bool false)) b1 b2 N d1 { d2 with down := false } ∧ Frm T w (w.setCell ⟨b2, 4, none⟩ (.bool false)) := by
  obtain ⟨S, F, h1, ⟨vL, vW, A, c, hV⟩, h3, h4, h5, h6, h7, h8⟩ := h
  have hf : Frm F w (w.setCell ⟨b2, 4, none⟩ (.bool false)) := (Frm.refl F w).setCell (p := ⟨b2, 4, none⟩) (.inr hV.1) _
  refine ⟨⟨_, hV.2.1.cell 4⟩, hV.2.1.frozen 4, ⟨S, F, h1.frm hf h3, ⟨vL, vW, A, c, hV.upd { d2 with down := false } 4 (.bool false) vW rfl rfl rfl rfl (fun w' hon => hV.keep w' hon)⟩, h3, fun k hk => ⟨(h4 k hk).1, Nat.lt_of_lt_of_le (h4 k hk).2 hf.size⟩, h5, h6, h7, h8⟩, hf.mono fun k _ hk => h5 k hk⟩
theorem bd_Read (h : Both T B w b1 b2 N d1 d2) (hN : N ≤ 99999) (s : Int) :
    Calls Try.prog 19 #[.pointer (some ⟨b1, 0, none⟩), .int .i64 s] w fun e w' => e = .returned (.tuple #[.string (d1.read s).1, .int .i64 (d1.read s).2]) ∧ Nul w w' := by
  obtain ⟨S, F, h1, _⟩ := h
  exact in_Read h1 (by omega) s
theorem br_Read (h : Both T B w b1 b2 N d1 d2) (hN : N ≤ 99999) (s : Int) :
    Calls Try.prog 24 #[.pointer (some ⟨b2, 0, none⟩), .int .i64 s] w fun e w' => e = .returned (.tuple #[.string (d2.read s).1, .int .i64 (d2.read s).2]) ∧ w = w' := by
  obtain ⟨S, F, h1, h2, h3, h4, h5, h6, h7, h8⟩ := h
  exact ref_Read F _ b2 d2 s w h2 (h7.ok (by omega))
theorem bd_Ops (h : Both T B w b1 b2 N d1 d2) : Calls Try.prog 25 #[.pointer (some ⟨b1, 0, none⟩)] w fun e w' => e = .returned (.int .i64 d1.ops) ∧ w = w' := by
  obtain ⟨S, F, h1, _⟩ := h
  exact in_Ops h1
theorem bd_Down (h : Both T B w b1 b2 N d1 d2) : Calls Try.prog 26 #[.pointer (some ⟨b1, 0, none⟩)] w fun e w' => e = .returned (.bool d1.down) ∧ w = w' := by
  obtain ⟨S, F, h1, _⟩ := h
  exact in_Down h1
theorem bd_Waiting (h : Both T B w b1 b2 N d1 d2) : Calls Try.prog 27 #[.pointer (some ⟨b1, 0, none⟩)] w fun e w' => e = .returned (.int .i64 d1.wait.length) ∧ w = w' := by
  obtain ⟨S, F, h1, _⟩ := h
  exact in_Waiting h1
theorem br_cells (h : Both T B w b1 b2 N d1 d2) : w.cell? ⟨b2, 3, none⟩ = some (.int .i64 d2.ops) ∧ w.cell? ⟨b2, 4, none⟩ = some (.bool d2.down) ∧ ∃ A c, w.cell? ⟨b2, 1, none⟩ = some (.slice A d2.wait.length c) := by
  obtain ⟨S, F, h1, ⟨vL, vW, A, c, hV⟩, _⟩ := h
  obtain ⟨AW, cW, rfl⟩ := own_shape hV.2.2.2.2.1
  exact ⟨hV.2.1.cell 3, hV.2.1.cell 4, AW, cW, hV.2.1.cell 1⟩
end

/-- Calls of a law: kind, sector, text. -/
def ActsAt (w : World) (B : Nat) (A : Option Addr) (l : List (Int × Int × ByteArray)) : Prop :=
  l = [] ∨ ∃ g off, A = some ⟨g, off, none⟩ ∧ g < B ∧ ∀ (i : Nat) (h : i < l.length), w.cell? ⟨g, off + i * 3, none⟩ = some (.int .i64 l[i].1) ∧ w.cell? ⟨g, off + i * 3 + 1, none⟩ = some (.int .i64 l[i].2.1) ∧ w.cell? ⟨g, off + i * 3 + 2, none⟩ = some (.string l[i].2.2)

theorem ActsAt.frm {T : Nat → Prop} {w w' : World} {B : Nat} {A : Option Addr} {l : List (Int × Int × ByteArray)} (h : ActsAt w B A l) (hf : Frm T w w') (hT : ∀ k, k < B → ¬ T k) : ActsAt w' B A l := by
  rcases h with h | ⟨g, off, hA, hg, hc⟩
  · exact .inl h
  · refine .inr ⟨g, off, hA, hg, fun i hi => ?_⟩
    obtain ⟨h1, h2, h3⟩ := hc i hi
    exact ⟨cell_frm h1 hf (hT g hg), cell_frm h2 hf (hT g hg), cell_frm h3 hf (hT g hg)⟩
theorem ActsAt.at_ {w : World} {B : Nat} {A : Option Addr} {l : List (Int × Int × ByteArray)} (h : ActsAt w B A l) {i : Nat} (hi : i < l.length) :
    ∃ g off, A = some ⟨g, off, none⟩ ∧ w.cell? ⟨g, off + i * 3, none⟩ = some (.int .i64 l[i].1) ∧ w.cell? ⟨g, off + i * 3 + 1, none⟩ = some (.int .i64 l[i].2.1) ∧ w.cell? ⟨g, off + i * 3 + 2, none⟩ = some (.string l[i].2.2) := by
  rcases h with rfl | ⟨g, off, hA, hg, hc⟩
  · simp at hi
  · exact ⟨g, off, hA, hc i hi⟩
end Go.Proofs.Ytdpffgcekjdneaa
