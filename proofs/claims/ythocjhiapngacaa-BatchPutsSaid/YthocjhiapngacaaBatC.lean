/-
  Walks: batches laid.
-/
import Derived.Test.YthocjhiapngacaaBatB
set_option linter.all false
namespace Go.Proofs.Ythocjhiapngacaa
open Go.RowKit

theorem info_str : (Try.prog.info? 9).map (fun i => (i.zero, i.size, i.bytes)) = some (some (.string ⟨#[]⟩), 1, 16) := by kernel_rfl
theorem info_recs : (Try.prog.info? 28).map (fun i => (i.zero, i.size, i.bytes)) = some (some (.agg (recL rzero).toArray), 68, 104) := by kernel_rfl

theorem rzero_len : (recL rzero).length = 68 := rfl
/-- What 'Put' answers. -/
def batO (rs : List Rcd) : ByteArray := if goodB rs then batS rs else ⟨#[]⟩
def batE (rs : List Rcd) : Int := if goodB rs then 0 else 2
theorem batO_yes {rs : List Rcd} (h : goodB rs = true) : batO rs = batS rs := by unfold batO; rw [h]; rfl
theorem batO_no {rs : List Rcd} (h : goodB rs = false) : batO rs = ⟨#[]⟩ := by unfold batO; rw [h]; rfl
theorem batE_yes {rs : List Rcd} (h : goodB rs = true) : batE rs = 0 := by unfold batE; rw [h]; rfl
theorem batE_no {rs : List Rcd} (h : goodB rs = false) : batE rs = 2 := by unfold batE; rw [h]; rfl
theorem batO_size {rs : List Rcd} (hok : OkR rs) (hf : FewR rs) : (batO rs).size ≤ 2000000 := by
  cases hg : goodB rs with
  | true => rw [batO_yes hg]; exact batS_size hok hf hg
  | false => rw [batO_no hg]; show 0 ≤ _; omega
theorem good_take_next {rs : List Rcd} {k : Nat} (hlt : k < rs.length) (h1 : goodB (rs.take k) = true) (h2 : recGood rs[k] = true) : goodB (rs.take (k + 1)) = true := by rw [goodB_snoc rs k hlt, h1, h2]; rfl

set_option maxRecDepth 100000 in
set_option maxHeartbeats 1000000 in
theorem bat_Put (A : Option Addr) (cap : Nat) (rs : List Rcd) (w : World) (hR : RdR w (fun _ => True) A rs) (hok : OkR rs) (hf : FewR rs) :
    Calls Try.prog 24 #[.slice A rs.length cap] w fun e w' => e = .returned (.tuple #[.string (batO rs), .int .i64 (batE rs)]) ∧ Nul w w' := by
  have hz := (zero_of_info zero_rec).1
  have hn := hf.1
  have HF := hid hf
  obtain ⟨i0, hi, hz0, hz1, hz2⟩ := info_parts info_str
  have HI := hid (And.intro hi (And.intro hz0 (And.intro hz1 hz2)))
  clear hf hi hz0 hz1 hz2
  go_enter Try.func24, Try.ntmps24
  go_wp2_with fail
  go_loopg [4, 12] rs.length (fun g t i wr => ∃ k : Nat, k + g = rs.length ∧ i = .int .i64 k ∧ wr.ownsRow w.heap.size 9 1 t k ((rs.take k).map fun r => .string (recS r)) ∧ goodB (rs.take k) = true ∧ Nul w wr)
  case atStart => exact ⟨0, by omega, rfl, World.ownsRow_nil _ _ _ _, rfl, Frm.refl _ _⟩
  case round =>
    obtain ⟨k, hk, rfl, hown, hg, hfr⟩ := hrel
    have HH := hid (And.intro hk (And.intro hown (And.intro hg hfr)))
    by_cases hlt : k < rs.length
    · obtain ⟨b, off, rfl, _, hbl, hc⟩ := hR.at_ hlt
      have hr := Nul.rangeAt hfr (hc k _ (List.getElem?_eq_getElem hlt))
      have hrk := hok.get hlt
      have hvk := HF.out.2 _ (List.getElem_mem hlt)
      have HP := hid (fun w => rec_Put rs[k] w hrk (by omega))
      have Hnx : Hid (recGood rs[k] = true → goodB (rs.take (k + 1)) = true) := hid (good_take_next hlt hg)
      have Hno : Hid (recGood rs[k] = false → goodB rs = false) := hid (goodB_not hlt)
      have Htk : Hid ((rs.take (k + 1)).map (fun r => Value.string (recS r)) = (rs.take k).map (fun r => Value.string (recS r)) ++ [.string (recS rs[k])]) := hid (by rw [List.take_succ_eq_append_getElem hlt, List.map_append]; rfl)
      generalize rs[k] = r at hr hrk HP Hnx Hno Htk
      have Hr := hid hr
      have Hrl := hid (recL_length hrk)
      have Hri : Hid ((Try.prog.info? 28).map (·.size) = some (recL r).length) := hid (by rw [Hrl.out, size_rec])
      have HB0 := hid (Blk.new wr 28 (recL rzero))
      have Hlt := hid hlt
      clear hr hrk hc hk hfr hown hg
      rcases recChk_cases r with ⟨hg, hc⟩ | ⟨hg, hc⟩
      · rw [hg, hc, if_pos rfl] at HP
        have Hnx2 := hid (Hnx.out hg)
        clear Hnx Hno hg hc
        generalize recS r = s at HP Htk
        go_wp2_with (first
          | (with_reducible refine wpList_load_mid rfl 28 (.tmp 14) rfl b (off + k * 68) rfl (recL r) _ Hr.out rec_fields rfl Hri.out ?_)
          | ((with_reducible refine wpList_store_blk rfl 28 (.tmp 6) (.tmp 15) rfl wr.heap.size (recL r) rfl rfl 28 (recL rzero) 68 HB0.out size_rec Hrl.out rzero_len (recL_one _) ?_); intro w1 hB hO
             have H1 : Hid (Nul wr w1 ∧ Blk w1 wr.heap.size 28 (recL r)) := hid ⟨((Frm.refl _ wr).alloc _).one hO (.inl (Nat.le_refl _)), hB⟩
             clear hB hO)
          | (with_reducible refine wpList_load_blk rfl 28 (.tmp 6) rfl wr.heap.size rfl 28 (recL r) 68 _ H1.out.2 rec_fields rfl size_rec Hrl.out ?_))
        refine (HP.out _).mono ?_
        rintro e w2 ⟨rfl, hf2⟩
        have H2 := hid (H1.out.1.nul hf2)
        clear hf2
        have Hown2 := hid (own_nul HH.out.2.1 H2.out)
        have Hnews : Hid (∀ (j : Nat) (u : Value), [Value.string s][j]? = some u → (w2.alloc (.cells #[.string s] 9)).cell? ((⟨w2.heap.size, 0, none⟩ : Addr).add j) = some u) := hid (fun j u hu => by
          rw [Addr.add_mid, (Blk.new w2 9 [.string s]).cell, Nat.zero_add]
          exact hu)
        have Hk1 : Hid (k + 1 ≤ maxLen ∧ (k + 1) * 16 ≤ 140737488355328 ∧ w.heap.size ≤ (w2.alloc (.cells #[.string s] 9)).heap.size) := hid ⟨by unfold maxLen; have := HH.out.1; omega, by have := HH.out.1; omega, by have := HH.out.2.2.2.size; have := H2.out.size; simp; omega⟩
        go_wp2_with (first
          | (at_builtin; refine wpList_append_own _ rfl (.tmp 23) (.tmp 25) 80 rfl w.heap.size 9 i0 _ 1 16 Try.underlying80 HI.out.1 HI.out.2.1 HI.out.2.2.1 HI.out.2.2.2 rfl (by decide) u4 k _ rfl (Hown2.out.alloc _) ⟨w2.heap.size, 0, none⟩ 1 1 [.string s] rfl rfl Hnews.out (by intro u hu; simp at hu; subst hu; rfl) Hk1.out.1 Hk1.out.2.1 Hk1.out.2.2 ?_; intro v3 w3 hown3 hgr3 _
             have H3 : Hid (w3.ownsRow w.heap.size 9 1 v3 (k + 1) ((rs.take (k + 1)).map fun r => .string (recS r)) ∧ Nul w w3) := hid ⟨by rw [Htk.out]; exact hown3, ((((Frm.of_nul (HH.out.2.2.2.trans H2.out) : Frm (w.heap.size ≤ ·) w w2).alloc _).own (Hown2.out.alloc _) hgr3).mono fun x hx hh => by omega)⟩
             clear hown3 hgr3))
        go_roundg (gk - 1)
        case rel => exact ⟨k + 1, by have := HH.out.1; have := Hlt.out; omega, by go_num, H3.out.1, Hnx2.out, H3.out.2⟩
        case measure => have := HH.out.1; have := Hlt.out; omega
      · rw [hg, hc, if_neg (by decide)] at HP
        have Hno2 := hid (Hno.out hg)
        clear Hnx Hno hg hc
        go_wp2_with (first
          | (with_reducible refine wpList_load_mid rfl 28 (.tmp 14) rfl b (off + k * 68) rfl (recL r) _ Hr.out rec_fields rfl Hri.out ?_)
          | ((with_reducible refine wpList_store_blk rfl 28 (.tmp 6) (.tmp 15) rfl wr.heap.size (recL r) rfl rfl 28 (recL rzero) 68 HB0.out size_rec Hrl.out rzero_len (recL_one _) ?_); intro w1 hB hO
             have H1 : Hid (Nul wr w1 ∧ Blk w1 wr.heap.size 28 (recL r)) := hid ⟨((Frm.refl _ wr).alloc _).one hO (.inl (Nat.le_refl _)), hB⟩
             clear hB hO)
          | (with_reducible refine wpList_load_blk rfl 28 (.tmp 6) rfl wr.heap.size rfl 28 (recL r) 68 _ H1.out.2 rec_fields rfl size_rec Hrl.out ?_))
        refine (HP.out _).mono ?_
        rintro e w2 ⟨rfl, hf2⟩
        have H2 := hid (HH.out.2.2.2.trans (H1.out.1.nul hf2))
        clear hf2
        go_wp2_with fail
        go_ret2
        exact ⟨by rw [batO_no Hno2.out, batE_no Hno2.out]; rfl, H2.out⟩
    · have hq : k = rs.length := by omega
      have Hg : Hid (goodB rs = true) := hid (by rw [hq, List.take_length] at hg; exact hg)
      obtain ⟨A2, c2, rfl, hrd⟩ := own_rd hown
      rw [hq, List.take_length] at hrd
      have hml : rs.map (fun r => Value.string (recS r)) = (rs.map recS).map .string := by rw [List.map_map]; rfl
      rw [hml] at hrd
      have hsz := batS_size hok HF.out Hg.out
      have hsz' := hsz
      unfold batS at hsz'
      rw [textsS_size] at hsz'
      have HT := hid (wide_Texts A2 c2 (rs.map recS) wr hrd (by omega) (by rw [List.length_map]; omega))
      rw [List.length_map, ← hq] at HT
      have HT2 : Hid (Calls Try.prog 51 #[.slice A2 k c2] wr fun e w' => e = .returned (.string (batS rs)) ∧ Nul wr w') := hid HT.out
      have HN := hid hfr
      clear HT hsz' hrd hml hown hg hfr HH hq
      generalize hs2 : batS rs = s at hsz HT2
      have Hs2 := hid hs2
      clear hs2
      go_wp2_with fail
      refine HT2.out.mono ?_
      rintro e w2 ⟨rfl, hf2⟩
      have H2 := hid (HN.out.nul hf2)
      clear hf2 HT2
      go_wp2_with fail
      go_ret2
      exact ⟨by rw [batO_yes Hg.out, batE_yes Hg.out, Hs2.out]; rfl, H2.out⟩

set_option maxHeartbeats 400000 in
theorem bat_Size (A : Option Addr) (cap : Nat) (rs : List Rcd) (w : World) (hR : RdR w (fun _ => True) A rs) (hok : OkR rs) (hf : FewR rs) :
    Calls Try.prog 26 #[.slice A rs.length cap] w fun e w' => e = .returned (.int .i64 (batO rs).size) ∧ Nul w w' := by
  have HP := hid (bat_Put A cap rs w hR hok hf)
  have hz := batO_size hok hf
  clear hR hok hf
  generalize batO rs = s at HP hz ⊢
  go_enter Try.func26, Try.ntmps26
  go_wp2_with fail
  refine HP.out.mono ?_
  rintro e w1 ⟨rfl, hf1⟩
  have H1 := hid hf1
  clear hf1
  go_wp2_with fail
  go_ret
  exact ⟨rfl, H1.out⟩

end Go.Proofs.Ythocjhiapngacaa
