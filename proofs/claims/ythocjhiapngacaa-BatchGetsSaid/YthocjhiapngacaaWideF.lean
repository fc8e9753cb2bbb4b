/-
  Walks: wide.Texts.
-/
import Derived.Test.YthocjhiapngacaaWideE
set_option linter.all false
namespace Go.Proofs.Ythocjhiapngacaa
open Go.RowKit

def byteV (b : UInt8) : Value := .int .u8 b.toNat
/-- The bytes of texts within a text. -/
def textsL (ss : List ByteArray) : List UInt8 := ss.flatMap fun s => numL s.size 4 ++ s.data.toList
def textsS (ss : List ByteArray) : ByteArray := ⟨(textsL ss).toArray⟩

theorem textCells_eq (s : ByteArray) : textCells s = (numL s.size 4 ++ s.data.toList).map byteV := by
  simp only [textCells, Lib.strCells, numS, List.map_append]; rfl

theorem textsL_snoc (ss : List ByteArray) (s : ByteArray) : textsL (ss ++ [s]) = textsL ss ++ (numL s.size 4 ++ s.data.toList) := by
  simp [textsL]

theorem textsL_take (ss : List ByteArray) (k : Nat) (h : k < ss.length) : textsL (ss.take (k + 1)) = textsL (ss.take k) ++ (numL (ss[k]).size 4 ++ (ss[k]).data.toList) := by
  rw [List.take_succ_eq_append_getElem h, textsL_snoc]

theorem textsL_take_le (ss : List ByteArray) (k : Nat) : (textsL (ss.take k)).length ≤ (textsL ss).length := by
  have h : textsL ss = textsL (ss.take k) ++ textsL (ss.drop k) := by
    rw [textsL, textsL, textsL, ← List.flatMap_append, List.take_append_drop]
  rw [h, List.length_append]; omega

/-- What a slice of bytes of the call's own reads as a text. -/
theorem own_string {P : Program} {w : World} {base : Nat} {v : Value} {n : Nat} {l : List UInt8} (src dst e : TypeId) (hs : P.underlying src = some (.slice e)) (he : P.underlying e = some (.int .u8)) (hd : P.underlying dst = some .string)
    (h : w.ownsRow base e 1 v n (l.map byteV)) : (convert src dst v).run P w = .ok (.string ⟨l.toArray⟩) w := by
  have hl : l.length = n := by have := h.1; simpa using this
  rcases h.2 with ⟨rfl, rfl⟩ | ⟨g, cap, cur, rfl, hb, hg, _⟩
  · obtain rfl : l = [] := List.eq_nil_of_length_eq_zero hl
    exact run_convert_bytes_nil w src e hs he 0 0 dst hd
  · subst hl
    refine run_convert_bytes_back w src dst e _ cap l hs he hd fun j hj => ?_
    have := h.cells (g := g) rfl j (.int .u8 (l[j].toNat : Int)) (by simp [hj, byteV])
    exact this

set_option maxHeartbeats 400000 in
theorem wide_Texts (A : Option Addr) (c : Nat) (ss : List ByteArray) (w : World) (hA : Rd w w.heap.size A (ss.map .string)) (hn : (textsL ss).length ≤ 140737488351232) (hl : ss.length ≤ 140737488351232) :
    Calls Try.prog 51 #[.slice A ss.length c] w fun e w' => e = .returned (.string (textsS ss)) ∧ Nul w w' := by
  have hmf : ∀ (fn : Fn) (first cap : Array Value) (w : World), (Instr.makeFunc fn first cap).run Try.prog w = .ok (.func fn first cap) w := fun _ _ _ _ => rfl
  go_enter Try.func51, Try.ntmps51
  go_wp2
  go_loopg [6, 10] ss.length (fun g u i wr => ∃ (k : Nat) (v : Value), k + g = ss.length ∧ i = .int .i64 k ∧ Nul w wr ∧ Blk wr w.heap.size 64 [v] ∧ wr.ownsRow w.heap.size 5 1 v (textsL (ss.take k)).length ((textsL (ss.take k)).map byteV))
  case atStart => exact ⟨0, _, by omega, rfl, (Frm.refl _ _).alloc _, Blk.new w _ _, by simp [World.ownsRow, textsL]⟩
  case round =>
    obtain ⟨k, v, hk, rfl, hf, hB, hown⟩ := hrel
    have Hk := hid hk
    clear hk
    by_cases hlt : k < ss.length
    · obtain ⟨b, off, rfl, hb, hcc⟩ := hA.at_ (k := k) (by simpa using hlt)
      have hc : wr.cell? ⟨b, off + k, none⟩ = some (.string (ss[k]'hlt)) := by
        rw [hf.cell (p := ⟨b, off + k, none⟩) hb (fun hh => hh)]
        exact hcc k _ (by simp [hlt])
      clear hcc
      go_wp2_with fail
      have hle := textsL_take_le ss (k + 1)
      rw [textsL_take ss k hlt, List.length_append, List.length_append, numL_length] at hle
      have hsz : (ss[k]'hlt).data.toList.length = (ss[k]'hlt).size := by simp
      refine (texts_lay w.heap.size w.heap.size (ss[k]'hlt) v _ _ wr (Nat.le_refl _) hB hown (by omega)).mono ?_
      rintro e w1 ⟨rfl, v1, hB1, hown1, hf1⟩
      go_wp2_with fail
      go_roundg (gk - 1)
      case rel =>
        refine ⟨k + 1, v1, by have := Hk.out; omega, by go_num, hf.next hf1 (fun k hk h => by omega), hB1, ?_⟩
        rw [textsL_take ss k hlt, List.length_append, List.length_append, numL_length, List.map_append, ← textCells_eq, hsz, ← Nat.add_assoc]
        exact hown1
      case measure => have := Hk.out; omega
    · obtain rfl : k = ss.length := by have := Hk.out; omega
      have hcl : wr.cell? ⟨w.heap.size, 0, none⟩ = some v := hB.cell 0
      rw [List.take_length] at hown
      have hcv := own_string 64 9 5 Try.underlying64 Try.underlying5 Try.underlying9 hown
      obtain ⟨A2, c2, rfl⟩ := own_shape hown
      go_wp2
      go_ret
      exact ⟨rfl, hf⟩
end Go.Proofs.Ythocjhiapngacaa
