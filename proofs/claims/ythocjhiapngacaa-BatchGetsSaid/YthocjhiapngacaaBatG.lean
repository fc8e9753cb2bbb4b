/-
  Walks: batches read: all, how many, the first.
-/
import Derived.Test.YthocjhiapngacaaBatF
set_option linter.all false
namespace Go.Proofs.Ythocjhiapngacaa
open Go.RowKit

theorem call_Get1 (args : Array Value) (w : World) : (callFunc 53 args).run Try.prog w = .ok (.enter 53 args) w := by kernel_rfl
theorem call_Many1 (args : Array Value) (w : World) : (callFunc 56 args).run Try.prog w = .ok (.enter 56 args) w := by kernel_rfl
theorem call_First1 (args : Array Value) (w : World) : (callFunc 55 args).run Try.prog w = .ok (.enter 55 args) w := by kernel_rfl

/-- A number in a block of its own. -/
def NumAt (w0 : World) (n : Int) (w : World) : Prop := Blk w w0.heap.size 3 [.int .i64 n] ∧ Frm (w0.heap.size ≤ ·) w0 w

set_option maxRecDepth 100000 in
set_option maxHeartbeats 1000000 in
theorem bat_Many1 (x : Rcd) (w0 : World) (n : Int) (w : World) (h : NumAt w0 n w) (hn : 0 ≤ n ∧ n ≤ 1000000) :
    Calls Try.prog 56 #[.agg (recL x).toArray, .pointer (some ⟨w0.heap.size, 0, none⟩)] w fun e w' => e = .returned (.bool true) ∧ NumAt w0 (n + 1) w' ∧ Frm (fun q => q = w0.heap.size) w w' := by
  obtain ⟨hb, hf⟩ := h
  obtain ⟨hn0, hn1⟩ := hn
  have HW : Hid (Blk (w.alloc (.cells (recL x).toArray 28)) w0.heap.size 3 [.int .i64 n] ∧ Frm (w0.heap.size ≤ ·) w0 (w.alloc (.cells (recL x).toArray 28)) ∧ Frm (fun q => q = w0.heap.size) w (w.alloc (.cells (recL x).toArray 28))) := hid ⟨hb.alloc _, hf.alloc _, (Frm.refl _ w).alloc _⟩
  have c0 : (w.alloc (.cells (recL x).toArray 28)).cell? ⟨w0.heap.size, 0, none⟩ = some (.int .i64 n) := HW.out.1.cell 0
  have f0 := HW.out.1.frozen 0
  clear hb hf
  go_enter Try.func56, Try.ntmps56
  go_wp2_with fail
  go_ret
  exact ⟨rfl, ⟨HW.out.1.put 0 _, HW.out.2.1.setCell (p := ⟨w0.heap.size, 0, none⟩) (.inr (Nat.le_refl _)) _⟩, HW.out.2.2.setCell (p := ⟨w0.heap.size, 0, none⟩) (.inr rfl) _⟩

set_option maxRecDepth 100000 in
set_option maxHeartbeats 1000000 in
theorem bat_First1 (x : Rcd) (w0 : World) (n : Int) (w : World) (h : NumAt w0 n w) (hn : 0 ≤ n ∧ n ≤ 9223372036854775807) :
    Calls Try.prog 55 #[.agg (recL x).toArray, .pointer (some ⟨w0.heap.size, 0, none⟩)] w fun e w' => e = .returned (.bool (decide (1 ≤ n))) ∧ NumAt w0 (n - 1) w' ∧ Frm (fun q => q = w0.heap.size) w w' := by
  obtain ⟨hb, hf⟩ := h
  obtain ⟨hn0, hn1⟩ := hn
  have HW : Hid (Blk (w.alloc (.cells (recL x).toArray 28)) w0.heap.size 3 [.int .i64 n] ∧ Frm (w0.heap.size ≤ ·) w0 (w.alloc (.cells (recL x).toArray 28)) ∧ Frm (fun q => q = w0.heap.size) w (w.alloc (.cells (recL x).toArray 28))) := hid ⟨hb.alloc _, hf.alloc _, (Frm.refl _ w).alloc _⟩
  have c0 : (w.alloc (.cells (recL x).toArray 28)).cell? ⟨w0.heap.size, 0, none⟩ = some (.int .i64 n) := HW.out.1.cell 0
  have f0 := HW.out.1.frozen 0
  clear hb hf
  go_enter Try.func55, Try.ntmps55
  go_wp2_with fail
  go_ret
  exact ⟨rfl, ⟨HW.out.1.put 0 _, HW.out.2.1.setCell (p := ⟨w0.heap.size, 0, none⟩) (.inr (Nat.le_refl _)) _⟩, HW.out.2.2.setCell (p := ⟨w0.heap.size, 0, none⟩) (.inr rfl) _⟩

/-- What 'Get' answers. -/
def BatGot (rs : List Rcd) (e : Int) (w : World) (x : Ending) (w' : World) : Prop :=
  (e = 0 → ∃ A c, x = .returned (.tuple #[.slice A rs.length c, .int .i64 0]) ∧ RdR w' (fun _ => True) A rs) ∧ (e ≠ 0 → x = .returned (.tuple #[.slice none 0 0, .int .i64 e])) ∧ Nul w w'

set_option maxRecDepth 100000 in
set_option maxHeartbeats 1000000 in
theorem bat_Get (l : List UInt8) (w : World) (hl : l.length ≤ 100000) (rs : List Rcd) (e : Int) (hrs : batP (l.length + 1) l = (rs, e)) :
    Calls Try.prog 27 #[.string (bs l)] w (BatGot rs e w) := by
  have hsp := batP_spec (l.length + 1) l
  rw [hrs] at hsp
  have HO := hid hsp
  have hw1 : (w.alloc (.cells #[.slice none 0 0] 44)).heap.size = w.heap.size + 1 := by simp
  have HE := hid (bat_each 53 w.heap.size l (w.alloc (.cells #[.slice none 0 0] 44)) (fun q => q = w.heap.size ∨ w.heap.size + 2 ≤ q)
    (fun k w1 => ∃ v, Blk w1 w.heap.size 44 [v] ∧ w1.ownsRow (w.heap.size + 2) 28 68 v k (recsL (rs.take k)) ∧ Frm (w.heap.size ≤ ·) w w1) (fun _ _ => False) rs e hrs hl call_Get1
    (by rw [hw1]; omega) ⟨.slice none 0 0, Blk.new w _ [.slice none 0 0], World.ownsRow_nil _ _ _ _, (Frm.refl _ w).alloc _⟩
    (by
      rintro k w1 w2 ⟨v, h1, h2, h3⟩ h4
      rw [hw1] at h4
      exact ⟨v, h1.one h4 (by omega), own_frm h2 h4 (fun q hq _ hh => by omega), h3.next h4 (fun q hq hh => by omega)⟩)
    (by
      rintro k r w1 hr hok ⟨v, h1, h2, h3⟩ hlt
      rw [hw1] at hlt
      have hk : k < rs.length := (List.getElem?_eq_some_iff.1 hr).1
      have hkl : rs.length ≤ l.length := hsp.2.2.2
      refine (bat_Get1 r w.heap.size (w.heap.size + 2) k v (recsL (rs.take k)) w1 hok h1 h2 (by omega) (by omega) (by omega)).mono ?_
      rintro y w2 ⟨rfl, v', g1, g2, g3⟩
      exact ⟨true, rfl, g3, fun _ => ⟨v', g1, by rw [recsL_next hr]; exact g2, h3.next g3 (fun q hq hh => by omega)⟩, fun hh => by cases hh⟩))
  have hsz : (bs l).size ≤ 100000 := by rw [bs_size]; exact hl
  generalize bs l = s at HE hsz
  clear hsp hrs hl hw1
  by_cases he : e = 0
  · subst he
    go_enter Try.func27, Try.ntmps27
    go_wp2_with fail
    refine HE.out.mono ?_
    rintro y w2 hE
    rcases hE with ⟨k, hk, rfl, hD⟩ | ⟨rfl, v, h1, h2, h3⟩
    · exact hD.elim
    · have HB := hid (And.intro h1 (And.intro h2 h3))
      have c4 : w2.cell? ⟨w.heap.size, 0, none⟩ = some v := HB.out.1.cell 0
      clear h1 h2 h3 HE
      rw [List.take_length] at HB
      obtain ⟨A, c, rfl, hR⟩ := RdR.own HB.out.2.1 HO.out.1
      have HR := hid hR
      clear hR
      go_wp2_with fail
      go_ret2
      refine ⟨fun _ => ⟨A, c, rfl, ?_⟩, fun hh => absurd rfl hh, HB.out.2.2.mono fun q hq hh => by omega⟩
      rcases HR.out with h | ⟨b, o, h1, h2, h3, h4⟩
      · exact .inl h
      · exact .inr ⟨b, o, h1, True.intro, h3, h4⟩
  · have he2 : (e != 0) = true := by simpa using he
    have Hne := hid he
    clear he
    go_enter Try.func27, Try.ntmps27
    go_wp2_with fail
    refine HE.out.mono ?_
    rintro y w2 hE
    rcases hE with ⟨k, hk, rfl, hD⟩ | ⟨rfl, v, h1, h2, h3⟩
    · exact hD.elim
    · have HB := hid h3
      clear h1 h2 h3 HE
      go_wp2_with fail
      go_ret2
      exact ⟨fun hh => absurd hh Hne.out, fun _ => rfl, HB.out.mono fun q hq hh => by omega⟩

set_option maxRecDepth 100000 in
set_option maxHeartbeats 1000000 in
theorem bat_Many (l : List UInt8) (w : World) (hl : l.length ≤ 100000) (rs : List Rcd) (e : Int) (hrs : batP (l.length + 1) l = (rs, e)) :
    Calls Try.prog 32 #[.string (bs l)] w fun x w' => x = .returned (.int .i64 rs.length) ∧ Nul w w' := by
  have hsp := batP_spec (l.length + 1) l
  rw [hrs] at hsp
  have hw1 : (w.alloc (.cells #[.int .i64 0] 3)).heap.size = w.heap.size + 1 := by simp
  have HE := hid (bat_each 56 w.heap.size l (w.alloc (.cells #[.int .i64 0] 3)) (fun q => q = w.heap.size)
    (fun k w1 => NumAt w k w1) (fun _ _ => False) rs e hrs hl call_Many1
    (by rw [hw1]; omega) ⟨Blk.new w _ [.int .i64 0], (Frm.refl _ w).alloc _⟩
    (by
      rintro k w1 w2 ⟨h1, h2⟩ h4
      rw [hw1] at h4
      exact ⟨h1.one h4 (by omega), h2.next h4 (fun q hq hh => by omega)⟩)
    (by
      rintro k r w1 hr hok h1 hlt
      have hk : k < rs.length := (List.getElem?_eq_some_iff.1 hr).1
      have hkl : rs.length ≤ l.length := hsp.2.2.2
      refine (bat_Many1 r w k w1 h1 (by omega)).mono ?_
      rintro y w2 ⟨rfl, g1, g2⟩
      exact ⟨true, rfl, g2, fun _ => g1, fun hh => by cases hh⟩))
  generalize bs l = s at HE
  clear hsp hrs hl hw1
  go_enter Try.func32, Try.ntmps32
  go_wp2_with fail
  refine HE.out.mono ?_
  rintro y w2 hE
  rcases hE with ⟨k, hk, rfl, hD⟩ | ⟨rfl, h1, h2⟩
  · exact hD.elim
  · have HB := hid (And.intro h1 h2)
    have c4 : w2.cell? ⟨w.heap.size, 0, none⟩ = some (.int .i64 rs.length) := HB.out.1.cell 0
    clear h1 h2 HE
    go_wp2_with fail
    go_ret
    exact ⟨rfl, HB.out.2.mono fun q hq hh => by omega⟩

/-- What stands of a reading at any record. -/
theorem BatAt.all {l : List UInt8} {rs : List Rcd} {e : Int} (h : batP (l.length + 1) l = (rs, e)) : ∀ k, k ≤ rs.length → ∃ f rest, BatAt l rs e k f rest
  | 0, _ => ⟨_, _, BatAt.start h⟩
  | k + 1, hk => by
    obtain ⟨f, rest, hb⟩ := BatAt.all h k (by omega)
    rcases hb.step with ⟨_, h2, _⟩ | ⟨_, _, h2, _⟩ | ⟨_, _, _, _, _, _, _, _, h2⟩ | ⟨t, x, _, _, _, _, _, _, _, h8⟩
    · omega
    · omega
    · omega
    · exact ⟨_, _, h8⟩

/-- What 'First' answers. -/
def firstB (rs : List Rcd) (m : Int) : ByteArray × Bool := if (rs.length : Int) < m then (⟨#[]⟩, false) else (batS (rs.take m.toNat), true)

set_option maxRecDepth 100000 in
set_option maxHeartbeats 1000000 in
theorem bat_First (l : List UInt8) (n : Int) (w : World) (hn : n ≤ 9223372036854775807) (hl : l.length ≤ 100000) (rs : List Rcd) (e : Int) (hrs : batP (l.length + 1) l = (rs, e)) :
    Calls Try.prog 30 #[.string (bs l), .int .i64 n] w fun x w' => x = .returned (.tuple #[.string (firstB rs (max n 0)).1, .bool (firstB rs (max n 0)).2]) ∧ Nul w w' := by
  obtain ⟨m, hm⟩ : ∃ m : Int, m = max n 0 := ⟨_, rfl⟩
  have hm0 : 0 ≤ m := by rw [hm]; exact Int.le_max_right _ _
  have hm1 : m ≤ 9223372036854775807 := by rw [hm]; omega
  rw [← hm]
  have hsp := batP_spec (l.length + 1) l
  rw [hrs] at hsp
  have hw1 : (w.alloc (.cells #[.int .i64 m] 3)).heap.size = w.heap.size + 1 := by simp
  have HE := hid (bat_each 55 w.heap.size l (w.alloc (.cells #[.int .i64 m] 3)) (fun q => q = w.heap.size)
    (fun k w1 => NumAt w (m - k) w1 ∧ (k : Int) ≤ m) (fun k w1 => NumAt w (-1) w1 ∧ (k : Int) = m) rs e hrs hl call_First1
    (by rw [hw1]; omega) ⟨by rw [show m - ((0 : Nat) : Int) = m by omega]; exact ⟨Blk.new w _ [.int .i64 m], (Frm.refl _ w).alloc _⟩, by omega⟩
    (by
      rintro k w1 w2 ⟨⟨h1, h2⟩, h3⟩ h4
      rw [hw1] at h4
      exact ⟨⟨h1.one h4 (by omega), h2.next h4 (fun q hq hh => by omega)⟩, h3⟩)
    (by
      rintro k r w1 hr hok ⟨h1, h2⟩ hlt
      have hk : k < rs.length := (List.getElem?_eq_some_iff.1 hr).1
      have hkl : rs.length ≤ l.length := hsp.2.2.2
      refine (bat_First1 r w (m - k) w1 h1 (by omega)).mono ?_
      rintro y w2 ⟨rfl, g1, g2⟩
      refine ⟨_, rfl, g2, fun hh => ?_, fun hh => ?_⟩
      · have := of_decide_eq_true hh
        exact ⟨by rw [show m - ((k + 1 : Nat) : Int) = m - k - 1 by omega]; exact g1, by omega⟩
      · have := of_decide_eq_false hh
        exact ⟨by rw [show (-1 : Int) = m - k - 1 by omega]; exact g1, by omega⟩))
  have HF : Hid (∀ k, k ≤ rs.length → (bs l).extract 0 (batS (rs.take k)).size = batS (rs.take k) ∧ (batS (rs.take k)).size ≤ (bs l).size) := hid (fun k hk => by
    obtain ⟨f, rest, hb⟩ := BatAt.all hrs k hk
    have := hb.size
    exact ⟨hb.front, by rw [bs_size]; omega⟩)
  have hsz : (bs l).size ≤ 100000 := by rw [bs_size]; exact hl
  generalize bs l = s at HE HF hsz
  clear hsp hrs hl hw1 hn
  have hfin : ∀ w2, (∃ k, k < rs.length ∧ NumAt w (-1) w2 ∧ (k : Int) = m) → firstB rs m = (batS (rs.take m.toNat), true) := by
    rintro w2 ⟨k, h1, _, h2⟩
    unfold firstB
    rw [if_neg (by omega)]
  have Hfin := hid hfin
  clear hfin
  have main : ∀ n' : Int, (n' = n ∧ 0 ≤ n ∧ m = n) ∨ (n' = 0 ∧ n < 0 ∧ m = 0) → Calls Try.prog 30 #[.string s, .int .i64 n] w fun x w' => x = .returned (.tuple #[.string (firstB rs m).1, .bool (firstB rs m).2]) ∧ Nul w w' := by
    rintro n' (⟨rfl, h0, rfl⟩ | ⟨rfl, h0, rfl⟩)
    · clear hm
      go_enter Try.func30, Try.ntmps30
      go_wp2_with fail
      refine HE.out.mono ?_
      rintro y w2 hE
      rcases hE with ⟨k, hk, rfl, ⟨hb, hf⟩, hkm⟩ | ⟨rfl, ⟨hb, hf⟩, hkm⟩
      · have c4 : w2.cell? ⟨w.heap.size, 0, none⟩ = some (.int .i64 (-1)) := hb.cell 0
        obtain ⟨hx, hz⟩ := HF.out k (by omega)
        have Hres : Hid (firstB rs m = (s.extract 0 (batS (rs.take k)).size, true)) := hid (by
          unfold firstB
          rw [if_neg (by omega), hx, show Int.toNat m = k by omega])
        have HN : Hid (Nul w w2) := hid (hf.mono fun q hq hh => by omega)
        clear hb hf hkm hx hk HE HF Hfin
        generalize (batS (rs.take k)).size = p at hz Hres ⊢
        go_wp2_with fail
        go_ret2
        exact ⟨by rw [Hres.out]; rfl, HN.out⟩
      · obtain ⟨q, hq⟩ : ∃ q : Int, q = m - (rs.length : Int) := ⟨_, rfl⟩
        rw [← hq] at hb
        have c4 : w2.cell? ⟨w.heap.size, 0, none⟩ = some (.int .i64 q) := hb.cell 0
        obtain ⟨hx, hz⟩ := HF.out rs.length (Nat.le_refl _)
        rw [List.take_length] at hx hz
        have HN : Hid (Nul w w2) := hid (hf.mono fun q hq hh => by omega)
        by_cases hpos : 0 < q
        · have Hres : Hid (firstB rs m = (⟨#[]⟩, false)) := hid (by
            unfold firstB
            rw [if_pos (by omega)])
          clear hb hf hkm hx hq HE HF Hfin
          generalize (batS rs).size = p at hz ⊢
          go_wp2_with fail
          go_ret2
          exact ⟨by rw [Hres.out]; rfl, HN.out⟩
        · have Hres : Hid (firstB rs m = (s.extract 0 (batS rs).size, true)) := hid (by
            unfold firstB
            rw [if_neg (by omega), hx, show Int.toNat m = rs.length by omega, List.take_length])
          clear hb hf hkm hx hq HE HF Hfin
          generalize (batS rs).size = p at hz Hres ⊢
          go_wp2_with fail
          go_ret2
          exact ⟨by rw [Hres.out]; rfl, HN.out⟩
    · clear hm
      go_enter Try.func30, Try.ntmps30
      go_wp2_with fail
      refine HE.out.mono ?_
      rintro y w2 hE
      rcases hE with ⟨k, hk, rfl, ⟨hb, hf⟩, hkm⟩ | ⟨rfl, ⟨hb, hf⟩, hkm⟩
      · have c4 : w2.cell? ⟨w.heap.size, 0, none⟩ = some (.int .i64 (-1)) := hb.cell 0
        obtain ⟨hx, hz⟩ := HF.out k (by omega)
        have Hres : Hid (firstB rs 0 = (s.extract 0 (batS (rs.take k)).size, true)) := hid (by
          unfold firstB
          rw [if_neg (by omega), hx, show Int.toNat 0 = k by omega])
        have HN : Hid (Nul w w2) := hid (hf.mono fun q hq hh => by omega)
        clear hb hf hkm hx hk HE HF Hfin
        generalize (batS (rs.take k)).size = p at hz Hres ⊢
        go_wp2_with fail
        go_ret2
        exact ⟨by rw [Hres.out]; rfl, HN.out⟩
      · obtain ⟨q, hq⟩ : ∃ q : Int, q = 0 - (rs.length : Int) := ⟨_, rfl⟩
        rw [← hq] at hb
        have c4 : w2.cell? ⟨w.heap.size, 0, none⟩ = some (.int .i64 q) := hb.cell 0
        obtain ⟨hx, hz⟩ := HF.out rs.length (Nat.le_refl _)
        rw [List.take_length] at hx hz
        have HN : Hid (Nul w w2) := hid (hf.mono fun q hq hh => by omega)
        by_cases hpos : 0 < q
        · have Hres : Hid (firstB rs 0 = (⟨#[]⟩, false)) := hid (by
            unfold firstB
            rw [if_pos (by omega)])
          clear hb hf hkm hx hq HE HF Hfin
          generalize (batS rs).size = p at hz ⊢
          go_wp2_with fail
          go_ret2
          exact ⟨by rw [Hres.out]; rfl, HN.out⟩
        · have Hres : Hid (firstB rs 0 = (s.extract 0 (batS rs).size, true)) := hid (by
            unfold firstB
            rw [if_neg (by omega), hx, show Int.toNat 0 = rs.length by omega, List.take_length])
          clear hb hf hkm hx hq HE HF Hfin
          generalize (batS rs).size = p at hz Hres ⊢
          go_wp2_with fail
          go_ret2
          exact ⟨by rw [Hres.out]; rfl, HN.out⟩
  by_cases h0 : 0 ≤ n
  · exact main n (.inl ⟨rfl, h0, by rw [hm]; exact Int.max_eq_left h0⟩)
  · exact main 0 (.inr ⟨rfl, by omega, by rw [hm]; exact Int.max_eq_right (by omega)⟩)
end Go.Proofs.Ythocjhiapngacaa
