/-
  Walks: entries got.
-/
import Derived.Test.YthocjhiapngacaaEntB
set_option linter.all false
namespace Go.Proofs.Ythocjhiapngacaa
open Go.RowKit

theorem toList_ne {a b : ByteArray} (h : a ≠ b) : (a.toList == b.toList) = false := by
  simp only [beq_eq_false_iff_ne, ne_eq]
  intro he
  apply h
  apply ByteArray.ext
  apply Array.ext'
  simpa [ByteArray.toList_eq] using he
theorem toList_isEmpty {v : ByteArray} (h : v.size ≠ 0) : v.toList.isEmpty = false := by
  have hne := ne_empty h
  cases h : v.toList with
  | nil => rw [h] at hne; cases hne
  | cons _ _ => rfl

set_option maxRecDepth 100000 in
set_option maxHeartbeats 1000000 in
theorem ent_Get (s : ByteArray) (w : World) (hs : s.size ≤ 140737488351232) :
    Calls Try.prog 42 #[.string s] w fun e w' => e = .returned (.tuple #[.agg #[.bool (entGet s).1, .string (entGet s).2.1], .int .i64 (entGet s).2.2]) ∧ Nul w w' := by
  have hz := (zero_of_info zero_ent).1
  obtain ⟨r, hr⟩ : ∃ r, entGet s = r := ⟨_, rfl⟩
  have hr0 := hr
  unfold entGet at hr0
  rw [hr]
  clear hr
  by_cases h0 : s.size = 0
  · rw [if_pos h0] at hr0
    subst hr0
    obtain rfl := size0 h0
    have tl := toList_nil
    have hE0 : (⟨#[]⟩ : ByteArray).toList.isEmpty = true := by rw [tl]; rfl
    clear hs h0
    have HB := hid (Blk.new w 25 [.bool false, .string ⟨#[]⟩])
    have c0 := HB.out.cell 0
    have c1 := HB.out.cell 1
    have f0 := HB.out.frozen 0
    have f1 := HB.out.frozen 1
    go_enter Try.func42, Try.ntmps42
    go_wp2_with fail
    exact bodyPost_ret (v := .tuple #[.agg #[.bool false, .string ⟨#[]⟩], .int .i64 5]) (by simp [results, Try.results42, go_sem, c0, c1]) rfl ⟨rfl, ((Frm.refl _ _).alloc _)⟩
  · rw [if_neg h0] at hr0
    have hE := ne_empty h0
    have hE2 := toList_isEmpty h0
    have HC := hid (fun w => cut_Prefix s w hs)
    cases ho : one1 s with
    | true =>
      rw [ho] at hr0 HC
      have h1 := one1_size ho
      have hsz : (s.extract 1 s.size).size = s.size - 1 := by rw [ByteArray.size_extract, Nat.min_self]
      have hcat := one1_cat ho
      have HP := hid (fun w => ent_Put false (s.extract 1 s.size) w (by omega))
      have hpu : entPut false (s.extract 1 s.size) = s := hcat
      rw [hpu] at HP
      have HC2 : Hid (∀ w, Calls Try.prog 58 #[.string s, .string ⟨#[1]⟩] w fun e w' => e = .returned (.tuple #[.string (s.extract 1 s.size), .bool true]) ∧ w = w') := hid HC.out
      clear HC
      by_cases hb : 65537 < s.size
      · have hk : entChk false (s.extract 1 s.size) = 4 := by unfold entChk; rw [if_pos (by omega)]
        rw [hk] at HP
        rw [if_pos rfl, if_pos hb] at hr0
        subst hr0
        have HP2 : Hid (∀ w, Calls Try.prog 34 #[.agg #[.bool false, .string (s.extract 1 s.size)]] w fun e w' => e = .returned (.tuple #[.string ⟨#[]⟩, .int .i64 4]) ∧ Nul w w') := hid HP.out
        generalize s.extract 1 s.size = v at HC2 HP2
        clear HP hpu hk hsz hcat ho hb h0 h1
        go_enter Try.func42, Try.ntmps42
        go_wp2_with fail
        refine (HC2.out _).mono ?_
        rintro e w1 ⟨rfl, hw1⟩
        subst hw1
        go_wp2_with fail
        have HB1 := hid (Blk.new w 25 [.bool false, .string ⟨#[]⟩])
        refine (HP2.out _).mono ?_
        rintro e w1 ⟨rfl, hf⟩
        have HB : Hid (Blk w1 w.heap.size 25 [.bool false, .string ⟨#[]⟩] ∧ Nul w w1) := hid ⟨(HB1.out.alloc _).nul hf, (((Frm.refl _ _).alloc _).alloc _).nul hf⟩
        have c0 := HB.out.1.cell 0
        have c1 := HB.out.1.cell 1
        have f0 := HB.out.1.frozen 0
        have f1 := HB.out.1.frozen 1
        clear hf
        go_wp2_with fail
        exact bodyPost_ret (v := .tuple #[.agg #[.bool false, .string ⟨#[]⟩], .int .i64 6]) (by simp [results, Try.results42, go_sem, c0, c1]) rfl ⟨rfl, (Frm.setCell (p := ⟨w.heap.size, 0, none⟩) HB.out.2 (.inl (Nat.le_refl _)) _).setCell (p := ⟨w.heap.size, 1, none⟩) (.inl (Nat.le_refl _)) _⟩
      · have hk : entChk false (s.extract 1 s.size) = 0 := by unfold entChk; rw [if_neg (by omega), if_neg (by simp)]
        rw [hk] at HP
        rw [if_pos rfl, if_neg hb] at hr0
        subst hr0
        have HP2 : Hid (∀ w, Calls Try.prog 34 #[.agg #[.bool false, .string (s.extract 1 s.size)]] w fun e w' => e = .returned (.tuple #[.string s, .int .i64 0]) ∧ Nul w w') := hid HP.out
        generalize s.extract 1 s.size = v at HC2 HP2 ⊢
        clear HP hpu hk hsz hcat ho hb h0 h1
        go_enter Try.func42, Try.ntmps42
        go_wp2_with fail
        refine (HC2.out _).mono ?_
        rintro e w1 ⟨rfl, hw1⟩
        subst hw1
        go_wp2_with fail
        have HB1 := hid (Blk.new w 25 [.bool false, .string ⟨#[]⟩])
        have HB2 := hid (Blk.new (w.alloc (.cells #[.bool false, .string ⟨#[]⟩] 25)) 25 [.bool false, .string v])
        have hsz2 : (w.alloc (.cells #[.bool false, .string ⟨#[]⟩] 25)).heap.size = w.heap.size + 1 := by simp
        rw [hsz2] at HB2
        clear hsz2
        refine (HP2.out _).mono ?_
        rintro e w1 ⟨rfl, hf⟩
        have HB : Hid (Blk w1 w.heap.size 25 [.bool false, .string ⟨#[]⟩] ∧ Nul w w1 ∧ Blk w1 (w.heap.size + 1) 25 [.bool false, .string v]) := hid ⟨(HB1.out.alloc _).nul hf, (((Frm.refl _ _).alloc _).alloc _).nul hf, HB2.out.nul hf⟩
        have c0 := HB.out.1.cell 0
        have c1 := HB.out.1.cell 1
        have f0 := HB.out.1.frozen 0
        have f1 := HB.out.1.frozen 1
        have d0 := HB.out.2.2.cell 0
        have d1 := HB.out.2.2.cell 1
        clear hf
        go_wp2_with fail
        exact bodyPost_ret (v := .tuple #[.agg #[.bool false, .string v], .int .i64 0]) (by simp [results, Try.results42, go_sem, c0, c1]) rfl ⟨rfl, (Frm.setCell (p := ⟨w.heap.size, 0, none⟩) HB.out.2.1 (.inl (Nat.le_refl _)) _).setCell (p := ⟨w.heap.size, 1, none⟩) (.inl (Nat.le_refl _)) _⟩
    | false =>
      rw [ho] at hr0 HC
      rw [if_neg (by decide)] at hr0
      have HP2 : Hid (∀ w, Calls Try.prog 34 #[.agg #[.bool true, .string ⟨#[]⟩]] w fun e w' => e = .returned (.tuple #[.string ⟨#[0]⟩, .int .i64 0]) ∧ Nul w w') := hid (fun w => ent_Put true ⟨#[]⟩ w (by show 0 ≤ _; omega))
      have HC2 : Hid (∀ w, Calls Try.prog 58 #[.string s, .string ⟨#[1]⟩] w fun e w' => e = .returned (.tuple #[.string s, .bool false]) ∧ w = w') := hid HC.out
      clear HC ho
      by_cases hq : s = ⟨#[0]⟩
      · rw [if_pos hq] at hr0
        subst hr0
        have hb1 : ((⟨#[0]⟩ : ByteArray).toList == s.toList) = true := by rw [hq]; exact beq_self_eq_true _
        clear hq h0
        generalize (⟨#[0]⟩ : ByteArray) = z at HP2 hb1
        go_enter Try.func42, Try.ntmps42
        go_wp2_with fail
        refine (HC2.out _).mono ?_
        rintro e w1 ⟨rfl, hw1⟩
        subst hw1
        go_wp2_with fail
        have HB1 := hid (Blk.new w 25 [.bool false, .string ⟨#[]⟩])
        have HB2 := hid (Blk.new (w.alloc (.cells #[.bool false, .string ⟨#[]⟩] 25)) 25 [.bool true, .string ⟨#[]⟩])
        have hsz2 : (w.alloc (.cells #[.bool false, .string ⟨#[]⟩] 25)).heap.size = w.heap.size + 1 := by simp
        rw [hsz2] at HB2
        clear hsz2
        refine (HP2.out _).mono ?_
        rintro e w1 ⟨rfl, hf⟩
        have HB : Hid (Blk w1 w.heap.size 25 [.bool false, .string ⟨#[]⟩] ∧ Nul w w1 ∧ Blk w1 (w.heap.size + 1) 25 [.bool true, .string ⟨#[]⟩]) := hid ⟨(HB1.out.alloc _).nul hf, (((Frm.refl _ _).alloc _).alloc _).nul hf, HB2.out.nul hf⟩
        have c0 := HB.out.1.cell 0
        have c1 := HB.out.1.cell 1
        have f0 := HB.out.1.frozen 0
        have f1 := HB.out.1.frozen 1
        have d0 := HB.out.2.2.cell 0
        have d1 := HB.out.2.2.cell 1
        clear hf
        go_wp2_with fail
        exact bodyPost_ret (v := .tuple #[.agg #[.bool true, .string ⟨#[]⟩], .int .i64 0]) (by simp [results, Try.results42, go_sem, c0, c1]) rfl ⟨rfl, (Frm.setCell (p := ⟨w.heap.size, 0, none⟩) HB.out.2.1 (.inl (Nat.le_refl _)) _).setCell (p := ⟨w.heap.size, 1, none⟩) (.inl (Nat.le_refl _)) _⟩
      · rw [if_neg hq] at hr0
        subst hr0
        have hb1 : ((⟨#[0]⟩ : ByteArray).toList == s.toList) = false := toList_ne (fun e => hq e.symm)
        clear hq h0
        generalize (⟨#[0]⟩ : ByteArray) = z at HP2 hb1
        go_enter Try.func42, Try.ntmps42
        go_wp2_with fail
        refine (HC2.out _).mono ?_
        rintro e w1 ⟨rfl, hw1⟩
        subst hw1
        go_wp2_with fail
        have HB1 := hid (Blk.new w 25 [.bool false, .string ⟨#[]⟩])
        refine (HP2.out _).mono ?_
        rintro e w1 ⟨rfl, hf⟩
        have HB : Hid (Blk w1 w.heap.size 25 [.bool false, .string ⟨#[]⟩] ∧ Nul w w1) := hid ⟨(HB1.out.alloc _).nul hf, (((Frm.refl _ _).alloc _).alloc _).nul hf⟩
        have c0 := HB.out.1.cell 0
        have c1 := HB.out.1.cell 1
        have f0 := HB.out.1.frozen 0
        have f1 := HB.out.1.frozen 1
        clear hf
        go_wp2_with fail
        exact bodyPost_ret (v := .tuple #[.agg #[.bool false, .string ⟨#[]⟩], .int .i64 6]) (by simp [results, Try.results42, go_sem, c0, c1]) rfl ⟨rfl, (Frm.setCell (p := ⟨w.heap.size, 0, none⟩) HB.out.2 (.inl (Nat.le_refl _)) _).setCell (p := ⟨w.heap.size, 1, none⟩) (.inl (Nat.le_refl _)) _⟩
end Go.Proofs.Ythocjhiapngacaa
