/-
  Walks: batches read, the document's.
-/
import Derived.Test.YthocjhiapngacaaBatC
set_option linter.all false
namespace Go.Proofs.Ythocjhiapngacaa
open Go.RowKit

theorem BatAt.ext {l : List UInt8} {rs : List Rcd} {e : Int} {k f : Nat} {rest : List UInt8} (h : BatAt l rs e k f rest) (i j : Nat) : (bs l).extract ((batS (rs.take k)).size + i) ((batS (rs.take k)).size + j) = bs ((rest.drop i).take (j - i)) := by
  have e1 : (batS (rs.take k)).data.toList.length = (batS (rs.take k)).size := rfl
  rw [bs_extract, h.1, ← List.drop_drop, List.drop_left' e1]
  congr 2
  omega

theorem RdR.own2 {w : World} {B n : Nat} {v : Value} {rs : List Rcd} (h : w.ownsRow B 28 68 v n (recsL rs)) (hok : OkR rs) : ∃ A cap, v = .slice A rs.length cap ∧ RdR w (B ≤ ·) A rs ∧ rs.length ≤ cap ∧ cap ≤ maxLen ∧ (A = none → rs = [] ∧ cap = 0) := by
  obtain ⟨A, cap, rfl, hR⟩ := RdR.own h hok
  refine ⟨A, cap, rfl, hR, ?_⟩
  have hl := h.1
  rw [recsL_length hok] at hl
  rcases h.2 with ⟨h1, h2⟩ | ⟨g, c, cur, h1, _, _, h2, h3, _⟩
  · injection h1 with h3 h4 h5
    exact ⟨by omega, by rw [h5]; exact Nat.zero_le _, fun _ => ⟨List.eq_nil_of_length_eq_zero (by omega), h5⟩⟩
  · injection h1 with h4 h5 h6
    exact ⟨by omega, by omega, fun hh => by rw [hh] at h4; cases h4⟩
theorem recsL_next {rs : List Rcd} {k : Nat} {x : Rcd} (h : rs[k]? = some x) : recsL (rs.take (k + 1)) = recsL (rs.take k) ++ recL x := by
  rw [List.take_succ, h, recsL_append]
  simp [recsL]

set_option maxRecDepth 100000 in
set_option maxHeartbeats 1000000 in
theorem ref_BGet (l : List UInt8) (w : World) (hl : l.length ≤ 100000) (rs : List Rcd) (e : Int) (hrs : batP (l.length + 1) l = (rs, e)) :
    Calls Try.prog 29 #[.string (bs l)] w fun x w' => ∃ A c n, x = .returned (.tuple #[.slice A rs.length c, .int .i64 n, .int .i64 e]) ∧ RdR w' (w.heap.size ≤ ·) A rs ∧ Nul w w' ∧ rs.length ≤ c ∧ c ≤ maxLen ∧ (A = none → rs = [] ∧ c = 0) := by
  have hz := (zero_of_info zero_rec).1
  obtain ⟨i0, hi, hz0, hz1, hz2⟩ := info_parts info_recs
  have HI := hid (And.intro hi (And.intro hz0 (And.intro hz1 hz2)))
  clear hi hz0 hz1 hz2
  have HA := hid (BatAt.start hrs)
  have hsp := batP_spec (l.length + 1) l
  rw [hrs] at hsp
  have HO := hid hsp
  clear hsp hrs
  obtain ⟨s, hs⟩ : ∃ s, s = bs l := ⟨_, rfl⟩
  have hsz : s.size = l.length := by rw [hs, bs_size]
  have hsl : s.size ≤ 100000 := by omega
  rw [← hs]
  have HS := hid hs
  have HZ := hid hsz
  clear hs hsz hl
  go_enter Try.func29, Try.ntmps29
  go_wp2_with fail
  go_loopg [5, 6] (l.length + 1) (fun g o a wr => ∃ k rest, BatAt l rs e k g rest ∧ a = .int .i64 (batS (rs.take k)).size ∧ wr.ownsRow w.heap.size 28 68 o k (recsL (rs.take k)) ∧ Nul w wr)
  case atStart => exact ⟨0, l, HA.out, rfl, World.ownsRow_nil _ _ _ _, Frm.refl _ _⟩
  case round =>
    obtain ⟨k, rest, hb, rfl, hown, hfr⟩ := hrel
    have Hb := hid hb
    have HH := hid (And.intro hown hfr)
    have hp : (batS (rs.take k)).size + rest.length = s.size := by rw [HZ.out]; exact hb.size
    have Hx1 : Hid (s.extract (batS (rs.take k)).size ((batS (rs.take k)).size + 4) = bs (rest.take 4)) := hid (by rw [HS.out]; have := hb.ext 0 4; simpa using this)
    have Hx2 : Hid (∀ n, s.extract ((batS (rs.take k)).size + 4) ((batS (rs.take k)).size + 4 + n) = bs ((rest.drop 4).take n)) := hid (fun n => by rw [HS.out]; have := hb.ext 4 (4 + n); rw [← Nat.add_assoc, Nat.add_sub_cancel_left] at this; exact this)
    generalize hpp : (batS (rs.take k)).size = p at hp Hx1 Hx2 ⊢
    have Hpp := hid hpp
    -- how a way out ends: the records up to here are all
    have Hend : Hid (k = rs.length → ∃ A c, u5 = .slice A rs.length c ∧ RdR wr (w.heap.size ≤ ·) A rs ∧ rs.length ≤ c ∧ c ≤ maxLen ∧ (A = none → rs = [] ∧ c = 0)) := hid (fun hk => by
      have h1 := hown
      rw [hk, List.take_length] at h1
      exact RdR.own2 h1 HO.out.1)
    clear hpp hown hfr hb
    rcases Hb.out.step with ⟨h1, h2, h3⟩ | ⟨h1, h2, h3, h4⟩ | ⟨t, x, h1, h2, h3, h4, h5, h6, h7⟩ | ⟨t, x, h1, h2, h3, h4, h5, h6, h7, h8⟩
    · have hpe : p = s.size := by rw [h1] at hp; simpa using hp
      have hnl : ¬ p < s.size := by omega
      obtain ⟨A2, c2, rfl, hR2, hE2⟩ := Hend.out h2
      have HR := hid hR2
      have HE2 := hid hE2
      subst h3
      clear h1 h2 hpe hp hR2 hE2 Hend
      go_wp2_with fail
      go_ret3
      exact ⟨A2, c2, _, rfl, HR.out, HH.out.2, HE2.out⟩
    · obtain ⟨A2, c2, rfl, hR2, hE2⟩ := Hend.out h3
      have HR := hid hR2
      have HE2 := hid hE2
      subst h4
      have hr1 : 1 ≤ rest.length := by
        cases rest with
        | nil => exact absurd rfl h1
        | cons => simp
      have hlt : p < s.size := by omega
      by_cases hr4 : rest.length < 4
      · have hd : decide ((s.size : Int) - (p : Int) < 4) = true := decide_eq_true (by omega)
        clear h1 h2 h3 hR2 hE2 Hend hr1 hp hr4
        go_wp2_with fail
        go_ret3
        exact ⟨A2, c2, _, rfl, HR.out, HH.out.2, HE2.out⟩
      · have hn : rest.length < 4 + vnat (rest.take 4) := by omega
        have Hval := hid (fun w => r01_Val (s.extract p (p + 4)) w (by rw [Hx1.out, bs_size, List.length_take]; omega))
        rw [Hx1.out, wval_bs, List.take_take, show min 8 4 = 4 from rfl] at Hval
        rw [← Hx1.out] at Hval
        have hnb : vnat (rest.take 4) < 4294967296 := by
          have := vnat_lt (rest.take 4)
          rw [List.length_take, Nat.min_eq_left (by omega)] at this
          exact this
        have hd : decide ((s.size : Int) - (p : Int) < 4) = false := decide_eq_false (by omega)
        have hp4 : p + 4 ≤ s.size := by omega
        generalize vnat (rest.take 4) = n at hn hnb Hval
        have hwr : IntKind.u64.wrap ((s.size : Int) - (p : Int) - 4) = (s.size : Int) - (p : Int) - 4 := IntWalk.u64_in _ (by omega)
        have hd2 : decide ((s.size : Int) - (p : Int) - 4 < (n : Int)) = true := decide_eq_true (by omega)
        clear h1 h2 h3 hR2 hE2 Hend hr1 hp hr4 hn hnb
        go_wp2_with fail
        refine (Hval.out _).mono ?_
        rintro x w1 ⟨rfl, hw1⟩
        subst hw1
        go_wp2_with fail
        go_ret3
        exact ⟨A2, c2, _, rfl, HR.out, HH.out.2, HE2.out⟩
    · have hlt : p < s.size := by omega
      have Hval := hid (fun w => r01_Val (s.extract p (p + 4)) w (by rw [Hx1.out, bs_size, List.length_take]; omega))
      rw [Hx1.out, wval_bs, List.take_take, show min 8 4 = 4 from rfl] at Hval
      rw [← Hx1.out] at Hval
      have hnb : vnat (rest.take 4) < 4294967296 := by
        have := vnat_lt (rest.take 4)
        rw [List.length_take, Nat.min_eq_left (by omega)] at this
        exact this
      have hd : decide ((s.size : Int) - (p : Int) < 4) = false := decide_eq_false (by omega)
      have hp4 : p + 4 ≤ s.size := by omega
      have Hg := hid (fun w => ref_Get (s.extract (p + 4) (p + 4 + vnat (rest.take 4))) w (by rw [Hx2.out, bs_size, List.length_take, List.length_drop]; omega))
      have Ht : Hid (s.extract (p + 4) (p + 4 + vnat (rest.take 4)) = bs t) := hid (by rw [Hx2.out, h4])
      rw [Ht.out, h5] at Hg
      rw [← Ht.out] at Hg
      obtain ⟨n, hnn⟩ : ∃ n, vnat (rest.take 4) = n := ⟨_, rfl⟩
      rw [hnn] at h3 hnb Hval Hg
      have hwr : IntKind.u64.wrap ((s.size : Int) - (p : Int) - 4) = (s.size : Int) - (p : Int) - 4 := IntWalk.u64_in _ (by omega)
      have hwn : IntKind.i64.wrap (n : Int) = (n : Int) := IntWalk.i64_in _ (by omega)
      have hd2 : decide ((s.size : Int) - (p : Int) - 4 < (n : Int)) = false := decide_eq_false (by omega)
      have hpn : p + 4 + n ≤ s.size := by omega
      have hxs := (recGet_spec (bs t)).1
      rw [h5] at hxs
      have Hxl := hid (recL_length hxs)
      have Hxo := hid hxs
      obtain ⟨A2, c2, rfl, hR2, hE2⟩ := Hend.out h7
      have HR := hid hR2
      have HE2 := hid hE2
      have he : (e != 0) = true := by simpa using h6
      have HB0 : Hid (∀ w' : World, Blk (w'.alloc (.cells (recL rzero).toArray 28)) w'.heap.size 28 (recL rzero)) := hid (fun w' => Blk.new w' _ _)
      clear h1 h2 h3 h4 h5 h6 h7 hR2 hE2 Hend hp hnb hnn hxs Ht
      go_wp2_with fail
      refine (Hval.out _).mono ?_
      rintro y w1 ⟨rfl, hw1⟩
      subst hw1
      go_wp2_with fail
      refine (Hg.out _).mono ?_
      rintro y w2 ⟨rfl, hf2⟩
      have H2 := hid (And.intro (HH.out.2.nul hf2) (HR.out.nul hf2))
      clear hf2
      go_wp2_with (first
        | ((with_reducible refine wpList_store_blk rfl 28 (.tmp 8) (.tmp 48) rfl w2.heap.size (recL x) rfl rfl 28 (recL rzero) 68 (HB0.out w2) size_rec Hxl.out rzero_len (recL_one _) ?_); intro w3 hB hO
           have H3 : Hid (Nul w w3 ∧ RdR w3 (w.heap.size ≤ ·) A2 rs) := hid ⟨(H2.out.1.alloc _).one hO (.inl H2.out.1.size), H2.out.2.nul (((Frm.refl _ w2).alloc _).one hO (.inl (Nat.le_refl _)))⟩
           clear hB hO))
      go_ret3
      exact ⟨A2, c2, _, rfl, H3.out.2, H3.out.1, HE2.out⟩
    · have hlt : p < s.size := by omega
      have Hval := hid (fun w => r01_Val (s.extract p (p + 4)) w (by rw [Hx1.out, bs_size, List.length_take]; omega))
      rw [Hx1.out, wval_bs, List.take_take, show min 8 4 = 4 from rfl] at Hval
      rw [← Hx1.out] at Hval
      have hnb : vnat (rest.take 4) < 4294967296 := by
        have := vnat_lt (rest.take 4)
        rw [List.length_take, Nat.min_eq_left (by omega)] at this
        exact this
      have hd : decide ((s.size : Int) - (p : Int) < 4) = false := decide_eq_false (by omega)
      have hp4 : p + 4 ≤ s.size := by omega
      have Hg := hid (fun w => ref_Get (s.extract (p + 4) (p + 4 + vnat (rest.take 4))) w (by rw [Hx2.out, bs_size, List.length_take, List.length_drop]; omega))
      have Ht : Hid (s.extract (p + 4) (p + 4 + vnat (rest.take 4)) = bs t) := hid (by rw [Hx2.out, h4])
      rw [Ht.out, h5] at Hg
      rw [← Ht.out] at Hg
      obtain ⟨n, hnn⟩ : ∃ n, vnat (rest.take 4) = n := ⟨_, rfl⟩
      rw [hnn] at h3 h8 hnb Hval Hg
      have hwr : IntKind.u64.wrap ((s.size : Int) - (p : Int) - 4) = (s.size : Int) - (p : Int) - 4 := IntWalk.u64_in _ (by omega)
      have hwn : IntKind.i64.wrap (n : Int) = (n : Int) := IntWalk.i64_in _ (by omega)
      have hd2 : decide ((s.size : Int) - (p : Int) - 4 < (n : Int)) = false := decide_eq_false (by omega)
      have hpn : p + 4 + n ≤ s.size := by omega
      have hxs := (recGet_spec (bs t)).1
      rw [h5] at hxs
      have Hxl := hid (recL_length hxs)
      have Hxo := hid hxs
      have H8 := hid h8
      have Hlt7 := hid h7
      have Htk := hid (recsL_next h6)
      have Hp2 : Hid (p + 4 + n = (batS (rs.take (k + 1))).size) := hid (by
        have e1 := h8.size
        rw [List.length_drop] at e1
        have e2 := HZ.out
        omega)
      have HB0 : Hid (∀ w' : World, Blk (w'.alloc (.cells (recL rzero).toArray 28)) w'.heap.size 28 (recL rzero)) := hid (fun w' => Blk.new w' _ _)
      have Hokx : Hid (OkR [x]) := hid (by intro q hq; simp at hq; subst hq; exact Hxo.out)
      have Hkb : Hid (k + 1 ≤ maxLen ∧ (k + 1) * 104 ≤ 140737488355328) := hid ⟨by have := HO.out.2.2.2; have := HZ.out; unfold maxLen; omega, by have := HO.out.2.2.2; have := HZ.out; omega⟩
      clear h1 h2 h3 h4 h5 h6 h7 h8 Hend hp hnb hnn hxs Ht
      go_wp2_with fail
      refine (Hval.out _).mono ?_
      rintro y w1 ⟨rfl, hw1⟩
      subst hw1
      go_wp2_with fail
      refine (Hg.out _).mono ?_
      rintro y w2 ⟨rfl, hf2⟩
      have H2 := hid (And.intro (HH.out.2.nul hf2) (own_nul HH.out.1 hf2))
      clear hf2
      go_wp2_with (first
        | ((with_reducible refine wpList_store_blk rfl 28 (.tmp 8) (.tmp 48) rfl w2.heap.size (recL x) rfl rfl 28 (recL rzero) 68 (HB0.out w2) size_rec Hxl.out rzero_len (recL_one _) ?_); intro w3 hB hO
           have H3 : Hid (Nul w w3 ∧ w3.ownsRow w.heap.size 28 68 u5 k (recsL (rs.take k)) ∧ Blk w3 w2.heap.size 28 (recL x)) := hid ⟨(H2.out.1.alloc _).one hO (.inl H2.out.1.size), own_nul H2.out.2 (((Frm.refl _ w2).alloc _).one hO (.inl (Nat.le_refl _))), hB⟩
           clear hB hO)
        | (with_reducible refine wpList_load_blk rfl 28 (.tmp 8) rfl w2.heap.size rfl 28 (recL x) 68 _ H3.out.2.2 rec_fields rfl size_rec Hxl.out ?_)
        | ((with_reducible refine wpList_rows (by kernel_rfl) 44 28 1 _ rfl _ Try.underlying44 zero_rec [x] Hokx.out (by kernel_rfl) (by decide) (by decide) (by kernel_rfl) ?_)
           have H4 : Hid (Nul w (w3.alloc (.cells (recsL [x]).toArray 28)) ∧ (w3.alloc (.cells (recsL [x]).toArray 28)).ownsRow w.heap.size 28 68 u5 k (recsL (rs.take k)) ∧ Blk (w3.alloc (.cells (recsL [x]).toArray 28)) w3.heap.size 28 (recsL [x])) := hid ⟨H3.out.1.alloc _, H3.out.2.1.alloc _, Blk.new w3 _ _⟩
           generalize (w3.alloc (.cells (recsL [x]).toArray 28)) = w4 at H4 ⊢
           generalize w3.heap.size = b4 at H4 ⊢)
        | (at_builtin; refine wpList_append_own _ rfl (.tmp 55) (.tmp 57) 44 rfl w.heap.size 28 i0 _ 68 104 Try.underlying44 HI.out.1 HI.out.2.1 HI.out.2.2.1 HI.out.2.2.2 rfl (by decide) u5 k _ rfl H4.out.2.1 ⟨b4, 0, none⟩ 1 1 (recsL [x]) rfl (recsL_length Hokx.out) (fun q u hu => by rw [Addr.add_mid, H4.out.2.2.cell, Nat.zero_add]; exact hu) (recsL_one _) Hkb.out.1 Hkb.out.2 H4.out.1.size ?_; intro v5 w5 hown5 hgr5 _
           have H5 : Hid (Nul w w5 ∧ w5.ownsRow w.heap.size 28 68 v5 (k + 1) (recsL (rs.take (k + 1)))) := hid ⟨(((Frm.of_nul H4.out.1 : Frm (w.heap.size ≤ ·) w w4).own H4.out.2.1 hgr5).mono fun x hx hh => by omega), by rw [Htk.out]; simpa [recsL] using hown5⟩
           clear hown5 hgr5))
      go_roundg (gk - 1)
      case rel => exact ⟨k + 1, _, H8.out, by rw [← Hp2.out]; go_num, H5.out.2, H5.out.1⟩
      case measure => have := Hb.out.2.2.1; omega
end Go.Proofs.Ythocjhiapngacaa
