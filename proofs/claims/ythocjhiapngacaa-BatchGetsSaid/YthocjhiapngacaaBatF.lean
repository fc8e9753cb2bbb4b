/-
  Walks: batches read: each record, for any closure.
-/
import Derived.Test.YthocjhiapngacaaBatE
set_option linter.all false
namespace Go.Proofs.Ythocjhiapngacaa
open Go.RowKit

/-- What 'each' leaves: the closure said that it is enough at record k, or all were read. -/
def EachPost (rs : List Rcd) (e : Int) (J D : Nat → World → Prop) (x : Ending) (w' : World) : Prop :=
  (∃ k, k < rs.length ∧ x = .returned (.tuple #[.int .i64 (batS (rs.take k)).size, .int .i64 0]) ∧ D k w') ∨ (x = .returned (.tuple #[.int .i64 (batS rs).size, .int .i64 e]) ∧ J rs.length w')
/-- What a closure leaves of record k. -/
def DoPost (T : Nat → Prop) (J D : Nat → World → Prop) (k : Nat) (w1 : World) (y : Ending) (w2 : World) : Prop :=
  ∃ b, y = .returned (.bool b) ∧ Frm T w1 w2 ∧ (b = true → J (k + 1) w2) ∧ (b = false → D k w2)

set_option maxRecDepth 100000 in
set_option maxHeartbeats 1000000 in
theorem bat_each (f : FuncId) (g : Nat) (l : List UInt8) (w : World) (T : Nat → Prop) (J D : Nat → World → Prop) (rs : List Rcd) (e : Int) (hrs : batP (l.length + 1) l = (rs, e)) (hl : l.length ≤ 100000)
    (hcall : ∀ (args : Array Value) (w : World), (callFunc f args).run Try.prog w = .ok (.enter f args) w) (hT : ¬ T w.heap.size) (h0 : J 0 w) (hJ : ∀ k w1 w2, J k w1 → One w.heap.size w1 w2 → J k w2)
    (hF : ∀ k r w1, rs[k]? = some r → r.ok → J k w1 → w.heap.size < w1.heap.size → Calls Try.prog f #[.agg (recL r).toArray, .pointer (some ⟨g, 0, none⟩)] w1 (DoPost T J D k w1)) :
    Calls Try.prog 52 #[.string (bs l), .func (.func f) #[] #[.pointer (some ⟨g, 0, none⟩)]] w (EachPost rs e J D) := by
  have hz := (zero_of_info zero_rec).1
  have HA := hid (BatAt.start hrs)
  have hsp := batP_spec (l.length + 1) l
  rw [hrs] at hsp
  have HO := hid hsp
  clear hsp hrs
  obtain ⟨s, hs⟩ : ∃ s, s = bs l := ⟨_, rfl⟩
  have hsz : s.size = l.length := by rw [hs, bs_size]
  have hsl : s.size ≤ 100000 := by omega
  rw [← hs]
  have HS := hid hs
  have HZ := hid hsz
  have HT := hid hT
  have HCF := hid hcall
  have H0 := hid h0
  have HJ := hid hJ
  have HF := hid hF
  clear hs hsz hl hT h0 hJ hF hcall
  go_enter Try.func52, Try.ntmps52
  go_wp2_with fail
  refine (wide_On2 s _).mono ?_
  rintro y w1 ⟨rfl, hc1, hf1⟩
  have H1 : Hid (CutAt w1 w.heap.size (bs l) 0 ∧ J 0 w1 ∧ w.heap.size < w1.heap.size) := hid ⟨by rw [← HS.out]; exact hc1, HJ.out 0 w w1 H0.out (Frm.of_nul hf1), hc1.lt⟩
  clear hc1 hf1
  go_wp2_with fail
  go_loopg [7] (l.length + 1) (fun g a wr => ∃ k rest, BatAt l rs e k g rest ∧ a = .int .i64 (batS (rs.take k)).size ∧ CutAt wr w.heap.size (bs rest) 0 ∧ J k wr ∧ w.heap.size < wr.heap.size)
  case atStart => exact ⟨0, l, HA.out, rfl, H1.out.1, H1.out.2.1, H1.out.2.2⟩
  case round =>
    obtain ⟨k, rest, hb, rfl, hc, hj, hw⟩ := hrel
    have Hb := hid hb
    have HH := hid (And.intro hc (And.intro hj hw))
    have hp : (batS (rs.take k)).size + rest.length = s.size := by rw [HZ.out]; exact hb.size
    have hrz : (bs rest).size ≤ 140737488351232 := by rw [bs_size]; omega
    have HRz := hid hrz
    generalize hpp : (batS (rs.take k)).size = p at hp ⊢
    have Hpp := hid hpp
    have HC := hid (cut_Rest w.heap.size (bs rest) 0 wr hc)
    have HX := hid (cut_Text w.heap.size (bs rest) 0 wr hc hrz)
    rw [textC_bs] at HX
    clear hpp hc hj hw hb hrz
    rcases Hb.out.step with ⟨h1, h2, h3⟩ | ⟨h1, h2, h3, h4⟩ | ⟨t, x, h1, h2, h3, h4, h5, h6, h7⟩ | ⟨t, x, h1, h2, h3, h4, h5, h6, h7, h8⟩
    · rw [h1] at HC
      have HC2 : Hid (Calls Try.prog 43 #[.pointer (some ⟨w.heap.size, 0, none⟩)] wr fun e w' => e = .returned (.string ⟨#[]⟩) ∧ wr = w') := hid HC.out
      have HE : Hid (EachPost rs e J D (.returned (.tuple #[.int .i64 p, .int .i64 0])) wr) := hid (.inr ⟨by rw [← Hpp.out, h2, List.take_length, h3], by rw [← h2]; exact HH.out.2.1⟩)
      have tl := toList_nil
      have hE0 : (⟨#[]⟩ : ByteArray).toList.isEmpty = true := by rw [tl]; rfl
      clear h1 h2 h3 HC HX hp
      go_wp2_with fail
      refine HC2.out.mono ?_
      rintro y w2 ⟨rfl, hw2⟩
      subst hw2
      go_wp2_with fail
      go_ret2
      exact HE.out
    · have hne : (bs rest).size ≠ 0 := by
        rw [bs_size]
        intro hh
        exact h1 (List.eq_nil_of_length_eq_zero hh)
      rw [if_pos h2] at HX
      have hn1 := ne_empty (v := bs rest) hne
      have hn2 := toList_isEmpty (v := bs rest) hne
      have HX2 : Hid (Calls Try.prog 60 #[.pointer (some ⟨w.heap.size, 0, none⟩)] wr fun r w' => r = .returned (.string ⟨#[]⟩) ∧ CutAt w' w.heap.size ⟨#[]⟩ 5 ∧ One w.heap.size wr w') := hid HX.out
      have Hk := hid (And.intro h3 h4)
      clear h1 h2 h3 h4 HX hp hne
      generalize bs rest = q at HC hn1 hn2
      go_wp2_with fail
      refine HC.out.mono ?_
      rintro y w2 ⟨rfl, hw2⟩
      subst hw2
      go_wp2_with fail
      refine HX2.out.mono ?_
      rintro y w3 ⟨rfl, hc3, hf3⟩
      have H3 := hid (HJ.out k wr w3 HH.out.2.1 hf3)
      have HErr := hid (cut_Err w.heap.size ⟨#[]⟩ 5 w3 hc3)
      clear hc3 hf3
      go_wp2_with fail
      refine HErr.out.mono ?_
      rintro y w4 ⟨rfl, hw4⟩
      subst hw4
      have HE : Hid (EachPost rs e J D (.returned (.tuple #[.int .i64 p, .int .i64 5])) w3) := hid (.inr ⟨by rw [← Hpp.out, Hk.out.1, List.take_length, Hk.out.2], by rw [← Hk.out.1]; exact H3.out⟩)
      go_wp2_with fail
      go_ret2
      exact HE.out
    · have he : (e != 0) = true := by simpa using h6
      have hne : (bs rest).size ≠ 0 := by
        rw [bs_size]
        intro hh
        exact h1 (List.eq_nil_of_length_eq_zero hh)
      rw [if_neg (by omega), ← h4] at HX
      have hn1 := ne_empty (v := bs rest) hne
      have hn2 := toList_isEmpty (v := bs rest) hne
      have HX2 : Hid (Calls Try.prog 60 #[.pointer (some ⟨w.heap.size, 0, none⟩)] wr fun r w' => r = .returned (.string (bs t)) ∧ CutAt w' w.heap.size (bs (rest.drop (4 + vnat (rest.take 4)))) 0 ∧ One w.heap.size wr w') := hid HX.out
      have Hg := hid (fun w => rec_Get (bs t) w (by rw [bs_size, h4, List.length_take, List.length_drop]; omega))
      rw [h5] at Hg
      have hxs := (recGet_spec (bs t)).1
      rw [h5] at hxs
      have Hxl := hid (recL_length hxs)
      have Hxo := hid hxs
      have HB0 : Hid (∀ w' : World, Blk (w'.alloc (.cells (recL rzero).toArray 28)) w'.heap.size 28 (recL rzero)) := hid (fun w' => Blk.new w' _ _)
      have Hk := hid h7
      clear h1 h2 h3 h4 h5 h6 h7 HX hp hne hxs
      generalize bs rest = q at HC hn1 hn2
      generalize bs t = tt at HX2 Hg
      go_wp2_with fail
      refine HC.out.mono ?_
      rintro y w2 ⟨rfl, hw2⟩
      subst hw2
      go_wp2_with fail
      refine HX2.out.mono ?_
      rintro y w3 ⟨rfl, hc3, hf3⟩
      have H3 := hid (And.intro (HJ.out k wr w3 HH.out.2.1 hf3) (And.intro hc3 (Nat.lt_of_lt_of_le HH.out.2.2 hf3.size)))
      have HErr := hid (cut_Err w.heap.size _ 0 w3 hc3)
      clear hc3 hf3
      go_wp2_with fail
      refine HErr.out.mono ?_
      rintro y w4 ⟨rfl, hw4⟩
      subst hw4
      go_wp2_with fail
      refine (Hg.out _).mono ?_
      rintro y w5 ⟨rfl, hf5⟩
      have H5 := hid (And.intro (HJ.out k w3 w5 H3.out.1 (Frm.of_nul hf5)) (And.intro (Blk.nul H3.out.2.1 hf5 : CutAt w5 w.heap.size _ 0) (Nat.lt_of_lt_of_le H3.out.2.2 hf5.size)))
      clear hf5
      go_wp2_with (first
        | ((with_reducible refine wpList_store_blk rfl 28 (.tmp 10) (.tmp 28) rfl w5.heap.size (recL x) rfl rfl 28 (recL rzero) 68 (HB0.out w5) size_rec Hxl.out rzero_len (recL_one _) ?_); intro w6 hB hO
           have H6 : Hid (J k w6 ∧ CutAt w6 w.heap.size _ 0 ∧ w.heap.size < w6.heap.size ∧ Blk w6 w5.heap.size 28 (recL x)) := hid ⟨HJ.out k w5 w6 H5.out.1 (Frm.of_nul (((Frm.refl _ w5).alloc _).one hO (.inl (Nat.le_refl _)))), Blk.one (Blk.alloc H5.out.2.1 _) hO (by have := H5.out.2.2; omega), Nat.lt_of_lt_of_le H5.out.2.2 ((((Frm.refl (fun _ => False) w5).alloc _).one hO (.inl (Nat.le_refl _))).size), hB⟩
           clear hB hO))
      have HE : Hid (EachPost rs e J D (.returned (.tuple #[.int .i64 p, .int .i64 e])) w6) := hid (.inr ⟨by rw [← Hpp.out, Hk.out, List.take_length], by rw [← Hk.out]; exact H6.out.1⟩)
      go_wp2_with fail
      go_ret2
      exact HE.out
    · have H8 := hid h8
      have Hlt := hid h7
      have Hcl := hid (fun w1 => HF.out k x w1 h6)
      have hq : (bs (rest.drop (4 + vnat (rest.take 4)))).size + (batS (rs.take (k + 1))).size = s.size := by
        rw [bs_size, HZ.out, Nat.add_comm]
        exact h8.size
      have Hrz2 : Hid ((bs (rest.drop (4 + vnat (rest.take 4)))).size ≤ 140737488351232) := hid (by omega)
      have hne : (bs rest).size ≠ 0 := by
        rw [bs_size]
        intro hh
        exact h1 (List.eq_nil_of_length_eq_zero hh)
      rw [if_neg (by omega), ← h4] at HX
      have hn1 := ne_empty (v := bs rest) hne
      have hn2 := toList_isEmpty (v := bs rest) hne
      have HX2 : Hid (Calls Try.prog 60 #[.pointer (some ⟨w.heap.size, 0, none⟩)] wr fun r w' => r = .returned (.string (bs t)) ∧ CutAt w' w.heap.size (bs (rest.drop (4 + vnat (rest.take 4)))) 0 ∧ One w.heap.size wr w') := hid HX.out
      have Hg := hid (fun w => rec_Get (bs t) w (by rw [bs_size, h4, List.length_take, List.length_drop]; omega))
      rw [h5] at Hg
      have hxs := (recGet_spec (bs t)).1
      rw [h5] at hxs
      have Hxl := hid (recL_length hxs)
      have Hxo := hid hxs
      have HB0 : Hid (∀ w' : World, Blk (w'.alloc (.cells (recL rzero).toArray 28)) w'.heap.size 28 (recL rzero)) := hid (fun w' => Blk.new w' _ _)
      clear h1 h2 h3 h4 h5 h6 h7 h8 HX hp hne hxs
      generalize hdd : bs (rest.drop (4 + vnat (rest.take 4))) = dd at HX2 hq Hrz2
      have Hdd := hid hdd
      clear hdd
      generalize bs rest = q at HC hn1 hn2
      generalize bs t = tt at HX2 Hg
      go_wp2_with fail
      refine HC.out.mono ?_
      rintro y w2 ⟨rfl, hw2⟩
      subst hw2
      go_wp2_with fail
      refine HX2.out.mono ?_
      rintro y w3 ⟨rfl, hc3, hf3⟩
      have H3 := hid (And.intro (HJ.out k wr w3 HH.out.2.1 hf3) (And.intro hc3 (Nat.lt_of_lt_of_le HH.out.2.2 hf3.size)))
      have HErr := hid (cut_Err w.heap.size _ 0 w3 hc3)
      clear hc3 hf3
      go_wp2_with fail
      refine HErr.out.mono ?_
      rintro y w4 ⟨rfl, hw4⟩
      subst hw4
      go_wp2_with fail
      refine (Hg.out _).mono ?_
      rintro y w5 ⟨rfl, hf5⟩
      have H5 := hid (And.intro (HJ.out k w3 w5 H3.out.1 (Frm.of_nul hf5)) (And.intro (Blk.nul H3.out.2.1 hf5 : CutAt w5 w.heap.size dd 0) (Nat.lt_of_lt_of_le H3.out.2.2 hf5.size)))
      clear hf5
      go_wp2_with (first
        | ((with_reducible refine wpList_store_blk rfl 28 (.tmp 10) (.tmp 28) rfl w5.heap.size (recL x) rfl rfl 28 (recL rzero) 68 (HB0.out w5) size_rec Hxl.out rzero_len (recL_one _) ?_); intro w6 hB hO
           have H6 : Hid (J k w6 ∧ CutAt w6 w.heap.size dd 0 ∧ w.heap.size < w6.heap.size ∧ Blk w6 w5.heap.size 28 (recL x)) := hid ⟨HJ.out k w5 w6 H5.out.1 (Frm.of_nul (((Frm.refl _ w5).alloc _).one hO (.inl (Nat.le_refl _)))), Blk.one (Blk.alloc H5.out.2.1 _) hO (by have := H5.out.2.2; omega), Nat.lt_of_lt_of_le H5.out.2.2 ((((Frm.refl (fun _ => False) w5).alloc _).one hO (.inl (Nat.le_refl _))).size), hB⟩
           clear hB hO)
        | (with_reducible refine wpList_load_blk rfl 28 (.tmp 10) rfl w5.heap.size rfl 28 (recL x) 68 _ H6.out.2.2.2 rec_fields rfl size_rec Hxl.out ?_))
      rw [HCF.out]
      refine (Hcl.out w6 Hxo.out H6.out.1 H6.out.2.2.1).mono ?_
      rintro y w7 ⟨b, rfl, hfr, hyes, hno⟩
      have H7 := hid (And.intro (Blk.frm H6.out.2.1 hfr HT.out : CutAt w7 w.heap.size dd 0) (And.intro hyes (And.intro hno (Nat.lt_of_lt_of_le H6.out.2.2.1 hfr.size))))
      clear hfr hyes hno
      cases b with
      | false =>
        have HE : Hid (EachPost rs e J D (.returned (.tuple #[.int .i64 p, .int .i64 0])) w7) := hid (.inl ⟨k, Hlt.out, by rw [← Hpp.out], H7.out.2.2.1 rfl⟩)
        go_wp2_with fail
        go_ret2
        exact HE.out
      | true =>
        have HC2 := hid (cut_Rest w.heap.size dd 0 w7 H7.out.1)
        go_wp2_with fail
        refine HC2.out.mono ?_
        rintro y w8 ⟨rfl, hw8⟩
        subst hw8
        have hds : dd.size ≤ s.size := by omega
        have Hpq : Hid ((s.size : Int) - (dd.size : Int) = ((batS (rs.take (k + 1))).size : Int)) := hid (by omega)
        clear hq
        go_wp2_with fail
        go_roundg (gk - 1)
        case rel => exact ⟨k + 1, _, H8.out, by rw [← Hpq.out], by rw [Hdd.out]; exact H7.out.1, H7.out.2.1 (by simp), H7.out.2.2.2⟩
        case measure => have := Hb.out.2.2.1; omega
end Go.Proofs.Ythocjhiapngacaa
