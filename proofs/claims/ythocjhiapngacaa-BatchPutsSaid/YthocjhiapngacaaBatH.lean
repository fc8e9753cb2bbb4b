/-
  What must come at any rate (layer 25); the law BatchPuts, walked.
-/
import Derived.Test.YthocjhiapngacaaBatG
import Derived.Test.YthocjhiapngacaaRecV
import Derived.Laws.AppendOwnNone
set_option linter.all false
namespace Go.Proofs.Ythocjhiapngacaa
open Go.RowKit

theorem wpList_rows0 {P : Program} {ops : Array Oper} {rest : List Oper} {o : Oper} {a : Act} {w : World} {Q : Exit → Act → World → Prop} (hg : o.guard = none) (t e : TypeId) (ho : o.op = .buildSlice t 0 #[]) (hu : P.underlying t = some (.slice e)) (hi : (P.info? e).isSome = true)
    (h : wpList P ops Q rest (a.put o.dst (.slice (some ⟨w.heap.size, 0, none⟩) 0 0)) (w.alloc (.cells #[] e))) : wpList P ops Q (o :: rest) a w :=
  wpList_plain hg fun _ hK => wp_rows0 t e ho hu hi (hK _ _ h)

/-- Records behind records of one's own. -/
theorem wpList_append_recs {ops : Array Oper} {rest : List Oper} {o : Oper} {a : Act} {w : World} {Q : Exit → Act → World → Prop} (hgd : o.guard = none) (s x : Operand)
    (ho : o.op = .call { callee := .builtin .append, args := #[s, x], argTypes := #[44, 44] }) (base : Nat) (v : Value) (n : Nat) (rs0 : List Rcd) (hs : a.eval s = v) (hown : w.ownsRow base 28 68 v n (recsL rs0))
    (A : Option Addr) (c : Nat) (rs : List Rcd) (S : Nat → Prop) (hx : a.eval x = .slice A rs.length c) (hR : RdR w S A rs) (hok : OkR rs) (hnone : A = none → rs = [] ∧ c = 0) (hn : n + rs.length ≤ 1000000) (hbase : base ≤ w.heap.size)
    (h : ∀ v' w', w'.ownsRow base 28 68 v' (n + rs.length) (recsL (rs0 ++ rs)) → w.grownBy w' v.ownBlock → wpList Try.prog ops Q rest (a.put o.dst v') w') : wpList Try.prog ops Q (o :: rest) a w := by
  obtain ⟨i0, hi, hz0, hz1, hz2⟩ := info_parts info_recs
  cases A with
  | none =>
    obtain ⟨rfl, rfl⟩ := hnone rfl
    refine wpList_append_own_none hgd s x 44 ho base 28 i0 68 Try.underlying44 hi v n _ hs hown hx (h v w ?_ ⟨rfl, rfl, rfl, Nat.le_refl _, fun _ _ _ => rfl⟩)
    rw [List.append_nil]
    exact hown
  | some ad =>
    refine wpList_append_own w hgd s x 44 ho base 28 i0 _ 68 104 Try.underlying44 hi hz0 hz1 hz2 rfl (by decide) v n _ hs hown ad rs.length c (recsL rs) hx (recsL_length hok) ?_ (recsL_one _) (by unfold maxLen; omega) (by omega) hbase (fun v' w' h1 h2 _ => h v' w' (by rw [recsL_append]; exact h1) h2)
    intro j u hu
    rcases hR with rfl | ⟨b, off, hA, _, _, hc⟩
    · simp [recsL] at hu
    · injection hA with hA
      subst hA
      exact RdR.news (S := S) hc hok j u hu

def r3z : Rcd := ⟨3, zero32, false, ⟨#[]⟩, zero32, 0⟩
def two25 : List Rcd := [r53, r3z]
theorem two_ok : OkR two25 := by
  intro r hr
  simp only [two25, List.mem_cons, List.not_mem_nil, or_false] at hr
  rcases hr with rfl | rfl
  · exact ⟨rfl, rfl⟩
  · exact ⟨rfl, rfl⟩
theorem two_few : FewR two25 := ⟨by decide, by
  intro r hr
  simp only [two25, List.mem_cons, List.not_mem_nil, or_false] at hr
  rcases hr with rfl | rfl
  · show 0 ≤ _; omega
  · show 0 ≤ _; omega⟩
theorem two_good : goodB two25 = true := by decide +kernel
theorem two_size : (batS two25).size = 46 := by decide +kernel
theorem two_nine : (batS two25).extract 0 9 = batS (two25.take 1) := by decide +kernel
theorem two_get : batP ((batS two25).data.toList.length + 1) (batS two25).data.toList = (two25, 0) :=
  batP_put two25 _ two_ok two_good (fun r hr => by
    have h1 := recS_size (two_ok r hr) (List.all_eq_true.1 two_good r hr)
    have h2 := two_few.2 r hr
    omega) (by show _ < (batS two25).size + 1; omega)
theorem bs_back (s : ByteArray) : bs s.data.toList = s := by apply ByteArray.ext; simp [bs]

set_option maxRecDepth 100000 in
set_option maxHeartbeats 1000000 in
theorem awake25 (w : World) : Calls Try.prog 23 #[] w fun e w' => e = .returned (.bool true) ∧ Nul w w' := by
  have HP : Hid (∀ A c w, RdR w (fun _ => True) A two25 → Calls Try.prog 24 #[.slice A 2 c] w fun e w' => e = .returned (.tuple #[.string (batS two25), .int .i64 0]) ∧ Nul w w') := hid (fun A c w h => by
    have := bat_Put A c two25 w h two_ok two_few
    rwa [batO_yes two_good, batE_yes two_good] at this)
  have HZ : Hid (∀ A c w, RdR w (fun _ => True) A two25 → Calls Try.prog 26 #[.slice A 2 c] w fun e w' => e = .returned (.int .i64 46) ∧ Nul w w') := hid (fun A c w h => by
    have := bat_Size A c two25 w h two_ok two_few
    rw [batO_yes two_good, two_size] at this
    exact this)
  have hll : (batS two25).data.toList.length ≤ 100000 := by show (batS two25).size ≤ _; rw [two_size]; omega
  have HG := hid (fun w => bat_Get (batS two25).data.toList w hll two25 0 two_get)
  have HM := hid (fun w => bat_Many (batS two25).data.toList w hll two25 0 two_get)
  have HF := hid (fun w => bat_First (batS two25).data.toList 1 w (by omega) hll two25 0 two_get)
  have hfb : firstB two25 (max 1 0) = (batS (two25.take 1), true) := by decide +kernel
  rw [bs_back] at HG HM HF
  rw [hfb] at HF
  have h9 : ((batS (two25.take 1)).toList == ((batS two25).extract 0 9).toList) = true := by rw [two_nine]; exact beq_self_eq_true _
  have hsz := two_size
  clear hfb hll
  generalize batS (two25.take 1) = t at HF h9
  generalize batS two25 = s at HP HG HM HF h9 hsz
  have h46 : ((s.size : Int) == 46) = true := by simp only [beq_iff_eq]; omega
  have h46b : ((46 : Int) == (s.size : Int)) = true := by simp only [beq_iff_eq]; omega
  have Hb5 := hid (built_n 5 3)
  have Hb3 := hid (built_kind 3)
  go_enter Try.func23, Try.ntmps23
  go_wp2_with (first
    | (with_reducible refine wpList_builtK (o := ⟨some 8, _, _, _, _, _⟩) rfl 28 _ rfl [(0, .int .i64 5), (4, .int .i64 3)] (recL ⟨5, zero32, false, ⟨#[]⟩, zero32, 3⟩).toArray (by kernel_rfl) Hb5.out ?_)
    | (with_reducible refine wpList_builtK (o := ⟨some 9, _, _, _, _, _⟩) rfl 28 _ rfl [(0, .int .i64 3)] (recL ⟨3, zero32, false, ⟨#[]⟩, zero32, 0⟩).toArray (by kernel_rfl) Hb3.out ?_)
    | ((with_reducible refine wpList_rows (by kernel_rfl) 44 28 2 _ rfl _ Try.underlying44 zero_rec two25 two_ok (by kernel_rfl) (by decide) (by decide) (by kernel_rfl) ?_)
       have H1 : Hid (Nul w (w.alloc (.cells (recsL two25).toArray 28)) ∧ RdR (w.alloc (.cells (recsL two25).toArray 28)) (fun _ => True) (some ⟨w.heap.size, 0, none⟩) two25) := hid ⟨(Frm.refl _ w).alloc _, RdR.blk (Blk.new w _ _) two_ok True.intro⟩
       generalize (w.alloc (.cells (recsL two25).toArray 28)) = w1 at H1 ⊢))
  refine (HP.out _ _ _ H1.out.2).mono ?_
  rintro e w2 ⟨rfl, hf⟩
  have H2 := hid (And.intro (H1.out.1.nul hf) (H1.out.2.nul hf))
  clear hf
  go_wp2_with fail
  refine (HG.out _).mono ?_
  rintro e w3 ⟨hx, _, hf⟩
  obtain ⟨A3, c3, rfl, hR3⟩ := hx rfl
  have H3 := hid (And.intro (H2.out.1.nul hf) (And.intro (H2.out.2.nul hf) hR3))
  clear hx hf hR3
  go_wp2_with fail
  refine (HF.out _).mono ?_
  rintro e w4 ⟨rfl, hf⟩
  have H4 := hid (And.intro (H3.out.1.nul hf) (And.intro (H3.out.2.1.nul hf) (H3.out.2.2.nul hf)))
  clear hf
  go_wp2_with fail
  have HS : Hid (Calls Try.prog 21 #[.slice (some ⟨w.heap.size, 0, none⟩) 2 2, .slice A3 2 c3] w4 fun e w' => e = .returned (.bool true) ∧ Nul w4 w') := hid (by
    have := ref_Same (some ⟨w.heap.size, 0, none⟩) A3 2 c3 two25 two25 w4 H4.out.2.1 H4.out.2.2 two_ok two_ok (by decide) (by decide)
    rw [show sameR two25 two25 = true from decide_eq_true rfl] at this
    exact this)
  refine HS.out.mono ?_
  rintro e w5 ⟨rfl, hf⟩
  have H5 := hid (And.intro (H4.out.1.nul hf) (H4.out.2.1.nul hf))
  clear hf HS
  go_wp2_with fail
  refine (HM.out _).mono ?_
  rintro e w6 ⟨rfl, hf⟩
  have H6 := hid (And.intro (H5.out.1.nul hf) (H5.out.2.nul hf))
  clear hf
  go_wp2_with fail
  refine (HZ.out _ _ _ H6.out.2).mono ?_
  rintro e w7 ⟨rfl, hf⟩
  have H7 := hid (H6.out.1.nul hf)
  clear hf
  go_wp2_with fail
  go_ret
  exact ⟨rfl, H7.out⟩
end Go.Proofs.Ythocjhiapngacaa
