/-
  What came in, opened: crashes with their masks; a law's calls of a disk.
-/
import Derived.Test.YtdpffgcekjdneaaSlices
import Derived.Test.YtdpffgcekjdneaaDiskDoes
set_option linter.all false
namespace Go.Proofs.Ytdpffgcekjdneaa
open Go.ChangeShapes Go.WideShapes Go.ChangeAt Go.RowKit Go.Deep

theorem Try.cellsU8 : Try.prog.cellsOf 5 = 1 := by kernel_rfl
theorem Try.cellsCrash : Try.prog.cellsOf 49 = 2 := by kernel_rfl

section
variable {H : Type} {enc : TypeId × Value → H} {P : Program} {w : World} {base : Nat} {spare : Nat → Bool} {held : Bool}

theorem slice_cs {t e : TypeId} {fuel : Nat} {cs : List Value} {x : DataW H × List MemPlace} (ht : P.underlying t = some (.slice e)) (hpos : 0 < P.cellsOf e) (h : DataW.trod enc P w base spare held fuel t cs = some x) :
    ∃ (A : Option Addr) (len cap : Nat) (V : Nat → List Value), cs = [.slice A len cap] ∧ len ≤ cap ∧ cap ≤ maxLen ∧
      (∀ i, i < len → (V i).length = P.cellsOf e ∧ ∃ n y, DataW.trod enc P w base spare held n e (V i) = some y) ∧
      (0 < len → ∃ b off, A = some ⟨b, off, none⟩ ∧ b < w.heap.size ∧ ∀ i, i < len → ∀ j, j < P.cellsOf e → w.cell? ⟨b, off + i * P.cellsOf e + j, none⟩ = (V i)[j]?) := by
  rcases open_slice ht h with ⟨hcs, _⟩ | ⟨a, len, cap, m, n, D, Pl, hcs, hb, hl, hm, hmm, hx, hi⟩
  · exact ⟨none, 0, 0, fun _ => [], hcs, Nat.le_refl _, by simp [maxLen], fun i hi => by omega, fun hh => by omega⟩
  · have hlm : len ≤ m := by rw [hmm]; split <;> omega
    obtain ⟨V, hV⟩ := choose_lt (α := List Value) (p := fun i cs' => w.cells? base (a.add (i * P.cellsOf e)) (P.cellsOf e) = some cs' ∧ DataW.trod enc P w base spare held n e cs' = some (D i, Pl i)) hi
    refine ⟨some a, len, cap, V, hcs, hl, hm, fun i hil => ⟨(World.cells?_some (hV i (by omega)).1).2.1, n, _, (hV i (by omega)).2⟩, fun h0 => ?_⟩
    have hc0 := (World.cells?_some (hV 0 (by omega)).1).2.2 0 hpos
    have hl0 := (World.cells?_some (hV 0 (by omega)).1).2.1
    rw [List.getElem?_eq_getElem (by omega)] at hc0
    obtain ⟨b, off, spot⟩ := a
    have hz : ((⟨b, off, spot⟩ : Addr).add (0 * P.cellsOf e)).add 0 = ⟨b, off, spot⟩ := by simp [Addr.add]
    rw [hz] at hc0
    have hs := World.cell?_spot hc0
    subst hs
    refine ⟨b, off, rfl, World.block_lt_of_cell? w _ hc0, fun i hil j hj => ?_⟩
    have := (World.cells?_some (hV i (by omega)).1).2.2 j hj
    rw [Addr.add_lit, Addr.add_lit] at this
    exact this

/-- A slice of bytes. -/
theorem bytes_cs {t e : TypeId} {fuel : Nat} {cs : List Value} {x : DataW H × List MemPlace} (ht : P.underlying t = some (.slice e)) (he : P.underlying e = some (.int .u8)) (hc : P.cellsOf e = 1) (h : DataW.trod enc P w base spare held fuel t cs = some x) :
    ∃ (B : Option Addr) (cap : Nat) (m : List UInt8), cs = [.slice B m.length cap] ∧ m.length ≤ cap ∧ cap ≤ maxLen ∧ BytesAt w (· < w.heap.size) B m := by
  obtain ⟨A, len, cap, V, hcs, hlc, hcm, hV1, hV2⟩ := slice_cs ht (by omega) h
  obtain ⟨K, hK⟩ := choose_lt (α := UInt8) (p := fun i k => V i = [.int .u8 k.toNat]) (fun i hi => by
    obtain ⟨n, y, hy⟩ := (hV1 i hi).2
    obtain ⟨a, ha, _, hw⟩ := DataW.trod_int he hy
    have hr : 0 ≤ a ∧ a ≤ 255 := by simpa [Lit.wf, IntKind.min, IntKind.max, IntKind.signed, IntKind.bits] using hw
    refine ⟨UInt8.ofNat a.toNat, ?_⟩
    rw [ha]
    have : (UInt8.ofNat a.toNat).toNat = a.toNat := by
      simp; omega
    rw [this]
    congr 2
    omega)
  refine ⟨A, cap, (List.range len).map K, by rw [hcs]; simp, by simpa using hlc, hcm, ?_⟩
  rcases Nat.eq_zero_or_pos len with h0 | h0
  · subst h0
    exact .inl rfl
  · obtain ⟨b, off, hA, hb, hcell⟩ := hV2 h0
    refine .inr ⟨b, off, hA, hb, fun j hj => ?_⟩
    have hjl : j < len := by simpa using hj
    have e0 := hcell j hjl 0 (by omega)
    rw [hc, hK j hjl] at e0
    simp at e0 ⊢
    exact e0

/-- A whole number and a slice of bytes side by side. -/
theorem crash_cs {t e : TypeId} {f0 f1 : Field} {fuel : Nat} {cs : List Value} {x : DataW H × List MemPlace} (ht : P.underlying t = some (.struct #[f0, f1])) (hone : oneCellFields P #[f0, f1] = true) (hc : P.cellsOf t = 2)
    (h0 : P.underlying f0.type = some (.int .i64)) (h1 : P.underlying f1.type = some (.slice e)) (he : P.underlying e = some (.int .u8)) (hce : P.cellsOf e = 1) (h : DataW.trod enc P w base spare held fuel t cs = some x) :
    ∃ (a : Int) (B : Option Addr) (cap : Nat) (m : List UInt8), cs = [.int .i64 a, .slice B m.length cap] ∧ m.length ≤ cap ∧ cap ≤ maxLen ∧ BytesAt w (· < w.heap.size) B m := by
  obtain ⟨xs, n, _, _, hlen, hxl, hf⟩ := DataW.trod_struct ht h
  obtain ⟨o0, k0⟩ := hone_of hone 0 f0 rfl
  obtain ⟨o1, k1⟩ := hone_of hone 1 f1 rfl
  rw [hc] at hlen
  match cs, hlen, xs, hxl with
  | [c0, c1], _, [y0, y1], _ =>
    have e0 := hf 0 f0 rfl
    have e1 := hf 1 f1 rfl
    rw [o0, k0] at e0
    rw [o1, k1] at e1
    obtain ⟨a, ha, _⟩ := DataW.trod_int h0 (x := y0) (by simpa using e0)
    obtain ⟨B, cap, m, hb, hm, hm2, hB⟩ := bytes_cs h1 he hce (cs := [c1]) (x := y1) (by simpa using e1)
    simp only [List.cons.injEq, and_true] at ha hb
    exact ⟨a, B, cap, m, by rw [ha, hb], hm, hm2, hB⟩

/-- Crashes. -/
theorem crashes_of {e : TypeId} {A : Option Addr} {len : Nat} {V : Nat → List Value} (hc : P.cellsOf e = 2)
    (hV : ∀ i, i < len → ∃ (a : Int) (B : Option Addr) (cap : Nat) (m : List UInt8), V i = [.int .i64 a, .slice B m.length cap] ∧ m.length ≤ cap ∧ cap ≤ maxLen ∧ BytesAt w (· < w.heap.size) B m)
    (h : 0 < len → ∃ b off, A = some ⟨b, off, none⟩ ∧ b < w.heap.size ∧ ∀ i, i < len → ∀ j, j < P.cellsOf e → w.cell? ⟨b, off + i * P.cellsOf e + j, none⟩ = (V i)[j]?) :
    ∃ cr : List (Int × List UInt8), cr.length = len ∧ CrashesAt w (· < w.heap.size) A cr := by
  obtain ⟨K, hK⟩ := choose_lt (α := Int × List UInt8) (p := fun i k => ∃ (B : Option Addr) (cap : Nat), V i = [.int .i64 k.1, .slice B k.2.length cap] ∧ k.2.length ≤ cap ∧ BytesAt w (· < w.heap.size) B k.2) (fun i hi => by
    obtain ⟨a, B, cap, m, h1, h2, _, h3⟩ := hV i hi
    exact ⟨(a, m), B, cap, h1, h2, h3⟩)
  refine ⟨(List.range len).map K, by simp, ?_⟩
  rcases Nat.eq_zero_or_pos len with h0 | h0
  · subst h0
    exact .inl rfl
  · obtain ⟨b, off, hA, hb, hcell⟩ := h h0
    refine .inr ⟨b, off, hA, hb, fun i hi => ?_⟩
    have hil : i < len := by simpa using hi
    obtain ⟨B, cap, h1, h2, h3⟩ := hK i hil
    have e0 := hcell i hil 0 (by omega)
    have e1 := hcell i hil 1 (by omega)
    rw [hc, h1] at e0 e1
    have eK : ((List.range len).map K)[i] = K i := by simp
    rw [eK]
    refine ⟨by simpa using e0, B, cap, by simpa using e1, h2, h3⟩

/-- Two whole numbers and a text side by side. -/
theorem act_cs {t : TypeId} {f0 f1 f2 : Field} {fuel : Nat} {cs : List Value} {x : DataW H × List MemPlace} (ht : P.underlying t = some (.struct #[f0, f1, f2])) (hone : oneCellFields P #[f0, f1, f2] = true) (hc : P.cellsOf t = 3)
    (h0 : P.underlying f0.type = some (.int .i64)) (h1 : P.underlying f1.type = some (.int .i64)) (h2 : P.underlying f2.type = some .string) (h : DataW.trod enc P w base spare held fuel t cs = some x) :
    ∃ (a b : Int) (s : ByteArray), cs = [.int .i64 a, .int .i64 b, .string s] := by
  obtain ⟨xs, n, _, _, hlen, hxl, hf⟩ := DataW.trod_struct ht h
  obtain ⟨o0, k0⟩ := hone_of hone 0 f0 rfl
  obtain ⟨o1, k1⟩ := hone_of hone 1 f1 rfl
  obtain ⟨o2, k2⟩ := hone_of hone 2 f2 rfl
  rw [hc] at hlen
  match cs, hlen, xs, hxl with
  | [c0, c1, c2], _, [y0, y1, y2], _ =>
    have e0 := hf 0 f0 rfl
    have e1 := hf 1 f1 rfl
    have e2 := hf 2 f2 rfl
    rw [o0, k0] at e0
    rw [o1, k1] at e1
    rw [o2, k2] at e2
    obtain ⟨a, ha, _⟩ := DataW.trod_int h0 (x := y0) (by simpa using e0)
    obtain ⟨b, hb, _⟩ := DataW.trod_int h1 (x := y1) (by simpa using e1)
    obtain ⟨s, hs, _⟩ := DataW.trod_string h2 (x := y2) (by simpa using e2)
    simp only [List.cons.injEq, and_true] at ha hb hs
    exact ⟨a, b, s, by rw [ha, hb, hs]⟩

theorem acts_of {e : TypeId} {A : Option Addr} {len : Nat} {V : Nat → List Value} (hc : P.cellsOf e = 3) (hV : ∀ i, i < len → ∃ (a b : Int) (s : ByteArray), V i = [.int .i64 a, .int .i64 b, .string s])
    (h : 0 < len → ∃ b off, A = some ⟨b, off, none⟩ ∧ b < w.heap.size ∧ ∀ i, i < len → ∀ j, j < P.cellsOf e → w.cell? ⟨b, off + i * P.cellsOf e + j, none⟩ = (V i)[j]?) :
    ∃ l : List (Int × Int × ByteArray), l.length = len ∧ ActsAt w w.heap.size A l := by
  obtain ⟨K, hK⟩ := choose_lt (α := Int × Int × ByteArray) (p := fun i k => V i = [.int .i64 k.1, .int .i64 k.2.1, .string k.2.2]) (fun i hi => by
    obtain ⟨a, b, s, h1⟩ := hV i hi
    exact ⟨(a, b, s), h1⟩)
  refine ⟨(List.range len).map K, by simp, ?_⟩
  rcases Nat.eq_zero_or_pos len with h0 | h0
  · subst h0
    exact .inl rfl
  · obtain ⟨b, off, hA, hb, hcell⟩ := h h0
    refine .inr ⟨b, off, hA, hb, fun i hi => ?_⟩
    have hil : i < len := by simpa using hi
    have e0 := hcell i hil 0 (by omega)
    have e1 := hcell i hil 1 (by omega)
    have e2 := hcell i hil 2 (by omega)
    rw [hc, hK i hil] at e0 e1 e2
    have eK : ((List.range len).map K)[i] = K i := by simp
    rw [eK]
    exact ⟨by simpa using e0, by simpa using e1, by simpa using e2⟩
end

theorem law_DiskDoes (n : Int) (A0 A1 : Option Addr) (c0 c1 : Nat) (cr : List (Int × List UInt8)) (l : List (Int × Int × ByteArray)) (w : World) (hA : CrashesAt w (· < w.heap.size) A0 cr) (hB : ActsAt w w.heap.size A1 l) (hl : cr.length ≤ 9223372036854775807) (hll : l.length ≤ 9223372036854775807) :
    Calls Try.prog 4 #[.int .i64 n, .slice A0 cr.length c0, .slice A1 l.length c1] w fun e w' => e = .returned (.bool true) ∧ Nul w w' := by
  cases hlt : lightB cr with
  | false => exact does_awake n A0 A1 c0 c1 _ cr _ w hA hl (.inl hlt)
  | true =>
    by_cases hr : n < 1 ∨ 65536 < n
    · exact does_range n A0 A1 c0 c1 _ cr _ w hA hl hlt hr
    · by_cases h40 : 40 < n
      · exact does_awake n A0 A1 c0 c1 _ cr _ w hA hl (.inr ⟨h40, by omega⟩)
      · obtain ⟨k, rfl⟩ : ∃ k : Nat, n = (k : Int) := ⟨n.toNat, by omega⟩
        exact does_go k A0 A1 c0 c1 cr l w hA hB hl hll hlt (by omega) (by omega)
end Go.Proofs.Ytdpffgcekjdneaa
