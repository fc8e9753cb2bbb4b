/-
  Walks: keys as texts.
-/
import Derived.Test.YthocjhiapngacaaEntD
import Derived.Lib.BufferWrite
set_option linter.all false
namespace Go.Proofs.Ythocjhiapngacaa
open Go.RowKit

/-- The text of a block of bytes. -/
theorem text_block (w : World) (g : Nat) (t : TypeId) (k : List UInt8) (hk : k.length = 32) (hb : Blk w g t (keyL k)) :
    (convert 64 9 (.slice (some ⟨g, 0, none⟩) 32 32)).run Try.prog w = .ok (.string ⟨k.toArray⟩) w := by
  have := run_convert_bytes_back (P := Try.prog) w 64 9 5 ⟨g, 0, none⟩ 32 k Try.underlying64 Try.underlying5 Try.underlying9 (fun j hj => by
    have h := hb.cell j
    have e : (⟨g, 0, none⟩ : Addr).add j = ⟨g, j, none⟩ := by unfold Addr.add; split <;> simp_all
    rw [e, h]
    simp [keyL, byteV, hj])
  rwa [hk] at this

set_option maxHeartbeats 1000000 in
theorem sum_Text (k : List UInt8) (w : World) (hk : k.length = 32) :
    Calls Try.prog 35 #[.agg (keyL k).toArray] w fun e w' => e = .returned (.string ⟨k.toArray⟩) ∧ Nul w w' := by
  have hcv := text_block _ w.heap.size 26 k hk (Blk.new w 26 (keyL k))
  go_enter Try.func35, Try.ntmps35
  go_wp2
  go_ret
  exact ⟨rfl, (Frm.refl _ _).alloc _⟩

theorem take_snoc {k : List UInt8} {i : Nat} (h : i < k.length) : (⟨(k.take i).toArray⟩ : ByteArray) ++ strOfNums [((k[i]).toNat : Int)] = ⟨(k.take (i + 1)).toArray⟩ := by
  apply ByteArray.ext
  apply Array.ext'
  simp only [ByteArray.data_append, Array.toList_append, strOfNums, List.map_cons, List.map_nil, Int.toNat_natCast, UInt8.ofNat_toNat]
  rw [List.take_succ_eq_append_getElem h]

set_option maxHeartbeats 1000000 in
theorem ref_Bytes (k : List UInt8) (w : World) (hk : k.length = 32) :
    Calls Try.prog 46 #[.agg (keyL k).toArray] w fun e w' => e = .returned (.string ⟨k.toArray⟩) ∧ Nul w w' := by
  have hcv := str_one Try.prog 64 9 5 Try.underlying64 Try.underlying5 Try.underlying9
  have HB := hid (Blk.new w 23 (keyL k))
  have hlast : (⟨(k.take 32).toArray⟩ : ByteArray) = ⟨k.toArray⟩ := by rw [List.take_of_length_le (by omega)]
  go_enter Try.func46, Try.ntmps46
  go_wp2
  go_loopg [3, 4] 32 (fun g s i wr => ∃ (n : Nat), n + g = 32 ∧ i = .int .i64 n ∧ s = .string ⟨(k.take n).toArray⟩ ∧ Blk wr w.heap.size 23 (keyL k) ∧ Nul w wr)
  case atStart => exact ⟨0, by omega, rfl, rfl, HB.out, (Frm.refl _ _).alloc _⟩
  case round =>
    obtain ⟨n, hn, rfl, rfl, hb, hf⟩ := hrel
    have HH := hid (And.intro hn (And.intro hb hf))
    by_cases hlt : n < 32
    · have hik : n < k.length := hk ▸ hlt
      have hc := hb.cell n
      rw [show (keyL k)[n]? = some (.int .u8 ((k[n]'hik).toNat : Int)) by simp [keyL, byteV, hk, hlt]] at hc
      have hs := take_snoc (k := k) (i := n) hik
      have hz1 : ∀ x, (strOfNums [x]).size = 1 := fun _ => rfl
      have hsz : (⟨(k.take n).toArray⟩ : ByteArray).size ≤ 32 := by show (k.take n).toArray.size ≤ 32; simp; omega
      clear hn hb hf
      go_wp2
      go_roundg (gk - 1)
      case rel => exact ⟨n + 1, by have := HH.out.1; omega, by go_num, by rw [← hs], HH.out.2.1.alloc _, HH.out.2.2.alloc _⟩
      case measure => have := HH.out.1; omega
    · have hq := hid (show n = 32 by omega)
      have e1 : decide ((n : Int) < 32) = false := decide_eq_false (by omega)
      have e2 : decide (n < 32) = false := decide_eq_false (by omega)
      clear hn hb hf
      go_wp2_with fail
      go_ret
      exact ⟨by rw [hq.out, hlast]; rfl, HH.out.2.2⟩

/-- The key's cells while it is filled. -/
theorem key_step {l : List UInt8} {i : Nat} (hi : i < 32) (h : i < l.length) : (keyL (l.take i ++ List.replicate (32 - i) 0)).set i (.int .u8 ((l[i]).toNat : Int)) = keyL (l.take (i + 1) ++ List.replicate (32 - (i + 1)) 0) := by
  have e : (Value.int .u8 ((l[i]).toNat : Int)) = byteV l[i] := rfl
  have hl : (l.take i).length = i := by rw [List.length_take]; omega
  rw [e, keyL, keyL, ← List.map_set, List.set_append_right _ _ (by omega), hl, Nat.sub_self, show 32 - i = (32 - (i + 1)) + 1 by omega, List.replicate_succ, List.set_cons_zero, List.take_succ_eq_append_getElem h, List.append_assoc]
  rfl

set_option maxRecDepth 100000 in
set_option maxHeartbeats 1000000 in
theorem ref_key (s : ByteArray) (w : World) (hs : 32 ≤ s.size) (hz : s.size ≤ 140737488351232) :
    Calls Try.prog 49 #[.string s] w fun e w' => e = .returned (.agg (keyL (s.data.toList.take 32)).toArray) ∧ Nul w w' := by
  have hzk := (zero_of_info zero_key).1
  have hl : s.data.toList.length = s.size := rfl
  have HB : Hid (∀ o, Blk (w.alloc o) w.heap.size 23 (keyL zero32) → Blk ((w.alloc o).alloc (.cells (keyL zero32).toArray 23)) w.heap.size 23 (keyL zero32) ∧ Blk ((w.alloc o).alloc (.cells (keyL zero32).toArray 23)) (w.heap.size + 1) 23 (keyL zero32) ∧ Nul w ((w.alloc o).alloc (.cells (keyL zero32).toArray 23))) := hid (fun o h => ⟨h.alloc _, Blk.new_at (w.alloc o) 23 (keyL zero32) (by simp), ((Frm.refl _ w).alloc _).alloc _⟩)
  have HB0 := hid (Blk.new w 23 (keyL zero32))
  go_enter Try.func49, Try.ntmps49
  go_wp2_with fail
  go_loopg [4] 32 (fun g i wr => ∃ (n : Nat), n + g = 32 ∧ i = .int .i64 n ∧ Blk wr w.heap.size 23 (keyL zero32) ∧ Blk wr (w.heap.size + 1) 23 (keyL (s.data.toList.take n ++ List.replicate (32 - n) 0)) ∧ Nul w wr)
  case atStart => exact ⟨0, by omega, rfl, (HB.out _ HB0.out).1, (HB.out _ HB0.out).2.1, (HB.out _ HB0.out).2.2⟩
  case round =>
    obtain ⟨n, hn, rfl, hb0, hb, hf⟩ := hrel
    have HH := hid (And.intro hn (And.intro hb0 (And.intro hb hf)))
    by_cases hlt : n < 32
    · have hin : n < s.size := Nat.lt_of_lt_of_le hlt hs
      have hi := index_str s n hin
      have hst := key_step (l := s.data.toList) (i := n) hlt hin
      have hc := hb.cell n
      have hfz := hb.frozen n
      have hlk : (keyL (s.data.toList.take n ++ List.replicate (32 - n) 0)).length = 32 := by rw [keyL_length]; simp; omega
      obtain ⟨v0, hv0⟩ : ∃ v0, (keyL (s.data.toList.take n ++ List.replicate (32 - n) 0))[n]? = some v0 := ⟨_, List.getElem?_eq_getElem (by omega)⟩
      rw [hv0] at hc
      have hp := HH.out.2.2.1.put n (.int .u8 ((s[n]'hin).toNat : Int))
      have hst2 : (keyL (s.data.toList.take n ++ List.replicate (32 - n) 0)).set n (.int .u8 ((s[n]'hin).toNat : Int)) = keyL (s.data.toList.take (n + 1) ++ List.replicate (32 - (n + 1)) 0) := hst
      rw [hst2] at hp
      have HP := hid hp
      clear hn hb hf hb0 hst hst2 hp hlk hv0
      go_wp2_with fail
      go_roundg (gk - 1)
      case rel => exact ⟨n + 1, by have := HH.out.1; omega, by go_num, HH.out.2.1.far (by simp) _, HP.out, HH.out.2.2.2.setCell (.inl (by simp)) _⟩
      case measure => have := HH.out.1; omega
    · have hq : n = 32 := by omega
      rw [hq, show (32 - 32 : Nat) = 0 from rfl, List.replicate_zero, List.append_nil] at hb
      have HK := hid hb
      have hkl := hid (show (keyL (s.data.toList.take 32)).length = 32 by rw [keyL_length]; simp; omega)
      have HN := hid HH.out.2.2.2
      have HZ := hid hb0
      clear hn hb hf hb0 HH hq
      go_wp2_with (first
        | (with_reducible refine wpList_load_blk rfl 23 (.tmp 3) rfl (w.heap.size + 1) rfl 23 (keyL (s.data.toList.take 32)) 32 _ HK.out key_array rfl size_key hkl.out ?_)
        | (refine wpList_store_blk rfl 23 (.tmp 2) (.tmp 14) rfl w.heap.size (keyL (s.data.toList.take 32)) rfl rfl 23 (keyL zero32) 32 HZ.out size_key hkl.out rfl (keyL_one _) ?_; intro w' hB hO))
      exact bodyPost_ret (ret_rec rfl rfl hB key_array rfl size_key hkl.out) rfl ⟨rfl, HN.out.one hO (.inl (by omega))⟩
end Go.Proofs.Ythocjhiapngacaa
