/-
  Walks: slices of records: counted, compared.
-/
import Derived.Test.YthocjhiapngacaaRecO
import Derived.Test.YthocjhiapngacaaQuiet
set_option linter.all false
namespace Go.Proofs.Ythocjhiapngacaa
open Go.RowKit

/-- A slice that reads as these records, in a block that S holds. -/
def RdR (w : World) (S : Nat → Prop) (A : Option Addr) (rs : List Rcd) : Prop :=
  rs = [] ∨ ∃ b off, A = some ⟨b, off, none⟩ ∧ S b ∧ b < w.heap.size ∧ ∀ (i : Nat) (r : Rcd), rs[i]? = some r → w.rangeAt b (off + i * 68) (recL r)
theorem RdR.frm {S T : Nat → Prop} {w w' : World} {A : Option Addr} {rs : List Rcd} (h : RdR w S A rs) (hf : Frm T w w') (hs : ∀ k, S k → k < w.heap.size → ¬ T k) : RdR w' S A rs := by
  rcases h with h | ⟨b, off, hA, hb, hlt, hc⟩
  · exact .inl h
  · refine .inr ⟨b, off, hA, hb, Nat.lt_of_lt_of_le hlt hf.size, fun i r hr j v hv => ?_⟩
    exact (hf.cell (p := ⟨b, off + i * 68 + j, none⟩) hlt (hs b hb hlt)).trans (hc i r hr j v hv)
theorem RdR.nul {S : Nat → Prop} {w w' : World} {A : Option Addr} {rs : List Rcd} (h : RdR w S A rs) (hf : Nul w w') : RdR w' S A rs := h.frm hf fun _ _ _ hh => hh
theorem RdR.at_ {w : World} {S : Nat → Prop} {A : Option Addr} {rs : List Rcd} (h : RdR w S A rs) {k : Nat} (hk : k < rs.length) :
    ∃ b off, A = some ⟨b, off, none⟩ ∧ S b ∧ b < w.heap.size ∧ ∀ (i : Nat) (r : Rcd), rs[i]? = some r → w.rangeAt b (off + i * 68) (recL r) := by
  rcases h with rfl | h
  · simp at hk
  · exact h
theorem Nul.rangeAt {w w' : World} {b o : Nat} {cs : List Value} (hf : Nul w w') (h : w.rangeAt b o cs) : w'.rangeAt b o cs := fun j v hv => by
  have h1 := h j v hv
  rw [hf.cell (p := ⟨b, o + j, none⟩) (World.block_lt_of_cell? w _ h1) (fun hh => hh)]
  exact h1
/-- All are records of the right size. -/
def OkR (rs : List Rcd) : Prop := ∀ r ∈ rs, r.ok
theorem OkR.get {rs : List Rcd} (h : OkR rs) {k : Nat} (hk : k < rs.length) : (rs[k]).ok := h _ (List.getElem_mem hk)

/-- How many are of a kind. -/
def cntR (rs : List Rcd) (kd : Int) : Nat := (rs.filter fun r => r.kind == kd).length
theorem cntR_le (rs : List Rcd) (kd : Int) : cntR rs kd ≤ rs.length := List.length_filter_le _ _
theorem cntR_snoc (rs : List Rcd) (kd : Int) (k : Nat) (h : k < rs.length) : cntR (rs.take (k + 1)) kd = cntR (rs.take k) kd + if (rs[k]).kind == kd then 1 else 0 := by
  unfold cntR
  rw [List.take_succ_eq_append_getElem h, List.filter_append, List.length_append]
  cases hg : (rs[k]).kind == kd <;> simp [List.filter_cons, hg]

set_option maxRecDepth 100000 in
set_option maxHeartbeats 1000000 in
theorem rec_Count (A : Option Addr) (cap : Nat) (rs : List Rcd) (kd : Int) (w : World) (hR : RdR w (fun _ => True) A rs) (hok : OkR rs) (hn : rs.length ≤ 9223372036854775800) :
    Calls Try.prog 20 #[.slice A rs.length cap, .int .i64 kd] w fun e w' => e = .returned (.int .i64 (cntR rs kd)) ∧ Nul w w' := by
  have hz := (zero_of_info zero_rec).1
  go_enter Try.func20, Try.ntmps20
  go_wp2_with fail
  go_loopg [5, 10] rs.length (fun g c i wr => ∃ k : Nat, k + g = rs.length ∧ i = .int .i64 k ∧ c = .int .i64 (cntR (rs.take k) kd) ∧ Nul w wr)
  case atStart => exact ⟨0, by omega, rfl, rfl, Frm.refl _ _⟩
  case round =>
    obtain ⟨k, hk, rfl, rfl, hf⟩ := hrel
    have HH := hid (And.intro hk hf)
    have hcl : cntR (rs.take k) kd ≤ k := Nat.le_trans (cntR_le _ _) (List.length_take_le _ _)
    by_cases hlt : k < rs.length
    · obtain ⟨b, off, rfl, _, hbl, hc⟩ := hR.at_ hlt
      have hr := hc k _ (List.getElem?_eq_getElem hlt)
      have hs := hid (cntR_snoc rs kd k hlt)
      have hrk := hok.get hlt
      generalize rs[k] = r at hr hs hrk
      have Hr : Hid (wr.rangeAt b (off + k * 68) (recL r)) := hid (fun j v hv => (hf.cell (p := ⟨b, off + k * 68 + j, none⟩) hbl (fun hh => hh)).trans (hr j v hv))
      have Hrl := hid (recL_length hrk)
      have Hrs := hid (show (Try.prog.info? 28).map (·.size) = some (recL r).length by rw [Hrl.out, size_rec])
      have HB0 := hid (Blk.new wr 28 (recL rzero))
      clear hr hrk hc hk hf
      cases hg : (r.kind == kd)
      · rw [hg] at hs
        go_wp2_with (first
          | (with_reducible refine wpList_load_mid rfl 28 (.tmp 12) rfl b (off + k * 68) rfl (recL r) _ Hr.out rec_fields rfl Hrs.out ?_)
          | (refine wpList_store_blk rfl 28 (.tmp 7) (.tmp 13) rfl wr.heap.size (recL r) rfl rfl 28 (recL rzero) 68 HB0.out size_rec Hrl.out rfl (recL_one _) ?_; intro w1 hB hO
             have H1 : Hid (Nul w w1) := hid ((HH.out.2.alloc _).one hO (.inl HH.out.2.size))
             have c0 : w1.cell? ⟨wr.heap.size, 0, none⟩ = some (.int .i64 r.kind) := by rw [hB.cell]; rfl
             clear hB hO))
        go_roundg (gk - 1)
        case rel => exact ⟨k + 1, by have := HH.out.1; omega, by go_num, by rw [hs.out]; rfl, H1.out⟩
        case measure => have := HH.out.1; omega
      · rw [hg] at hs
        go_wp2_with (first
          | (with_reducible refine wpList_load_mid rfl 28 (.tmp 12) rfl b (off + k * 68) rfl (recL r) _ Hr.out rec_fields rfl Hrs.out ?_)
          | (refine wpList_store_blk rfl 28 (.tmp 7) (.tmp 13) rfl wr.heap.size (recL r) rfl rfl 28 (recL rzero) 68 HB0.out size_rec Hrl.out rfl (recL_one _) ?_; intro w1 hB hO
             have H1 : Hid (Nul w w1) := hid ((HH.out.2.alloc _).one hO (.inl HH.out.2.size))
             have c0 : w1.cell? ⟨wr.heap.size, 0, none⟩ = some (.int .i64 r.kind) := by rw [hB.cell]; rfl
             clear hB hO))
        go_roundg (gk - 1)
        case rel => exact ⟨k + 1, by have := HH.out.1; omega, by go_num, by rw [hs.out]; go_num, H1.out⟩
        case measure => have := HH.out.1; omega
    · have hq : k = rs.length := by omega
      subst hq
      go_wp2_with fail
      go_ret
      exact ⟨by rw [List.take_length]; rfl, HH.out.2⟩

instance : DecidableEq Rcd := fun a b => decidable_of_iff _ (recB_iff a b)
/-- The same records? -/
def sameR (a b : List Rcd) : Bool := decide (a = b)

set_option maxRecDepth 100000 in
set_option maxHeartbeats 1000000 in
theorem ref_Same (A B : Option Addr) (ca cb : Nat) (a b : List Rcd) (w : World) (hA : RdR w (fun _ => True) A a) (hB : RdR w (fun _ => True) B b) (ha : OkR a) (hb : OkR b) (hn : a.length ≤ 9223372036854775800) (hm : b.length ≤ 9223372036854775800) :
    Calls Try.prog 21 #[.slice A a.length ca, .slice B b.length cb] w fun e w' => e = .returned (.bool (sameR a b)) ∧ Nul w w' := by
  by_cases hl : a.length = b.length
  · have e1 : ((a.length : Int) != (b.length : Int)) = false := by rw [hl]; simp
    rw [← hl]
    have e2 : ((a.length : Int) != (a.length : Int)) = false := by simp
    have Hl := hid hl
    clear hl e1
    go_enter Try.func21, Try.ntmps21
    go_wp2_with fail
    go_loopg [5] a.length (fun g i wr => ∃ k : Nat, k + g = a.length ∧ i = .int .i64 k ∧ a.take k = b.take k ∧ Nul w wr)
    case atStart => exact ⟨0, by omega, rfl, rfl, Frm.refl _ _⟩
    case round =>
      obtain ⟨k, hk, rfl, ht, hf⟩ := hrel
      have HH := hid (And.intro hk (And.intro ht hf))
      by_cases hlt : k < a.length
      · have hlt2 : k < b.length := by have := Hl.out; omega
        obtain ⟨g, o, rfl, _, hgl, hc⟩ := hA.at_ hlt
        obtain ⟨g', o', rfl, _, hgl', hc'⟩ := hB.at_ hlt2
        have hr := hc k _ (List.getElem?_eq_getElem hlt)
        have hr' := hc' k _ (List.getElem?_eq_getElem hlt2)
        have hrk := ha.get hlt
        have hrk' := hb.get hlt2
        obtain ⟨r, hrr⟩ : ∃ r, a[k] = r := ⟨_, rfl⟩
        obtain ⟨q, hqq⟩ : ∃ q, b[k] = q := ⟨_, rfl⟩
        rw [hrr] at hr hrk
        rw [hqq] at hr' hrk'
        have HA : Hid (wr.rangeAt g (o + k * 68) (recL r)) := hid (fun j v hv => (hf.cell (p := ⟨g, o + k * 68 + j, none⟩) hgl (fun hh => hh)).trans (hr j v hv))
        have HB : Hid (wr.rangeAt g' (o' + k * 68) (recL q)) := hid (fun j v hv => (hf.cell (p := ⟨g', o' + k * 68 + j, none⟩) hgl' (fun hh => hh)).trans (hr' j v hv))
        have Hlk : Hid (k < a.length ∧ k < b.length) := hid ⟨hlt, hlt2⟩
        have Hrq := hid (And.intro hrr hqq)
        have i1 : (Try.prog.info? 28).map (·.size) = some (recL r).length := by rw [recL_length hrk, size_rec]
        have i2 : (Try.prog.info? 28).map (·.size) = some (recL q).length := by rw [recL_length hrk', size_rec]
        have hne := rec_neq hrk hrk'
        have Hi1 := hid i1
        have Hi2 := hid i2
        have Hne := hid hne
        clear i1 i2 hne
        clear hr hrk hc hk hf hr' hrk' hc' ht hrr hqq
        go_wp2_with fail
        refine region_quiet (Nul wr) (by kernel_rfl) (by kernel_rfl) (Frm.refl _ _).drew ?_
        refine quiet_do (.slice (some ⟨g, o, none⟩) a.length ca) (by rfl) (fun w' _ => by go_simp) ?_
        simp only [Act.put, List.setIfInBounds_toArray, List.set_cons_zero, List.set_cons_succ]
        refine quiet_do (.int .i64 k) (by rfl) (fun w' _ => by go_simp) ?_
        simp only [Act.put, List.setIfInBounds_toArray, List.set_cons_zero, List.set_cons_succ]
        refine quiet_do (.pointer (some ⟨g, o + k * 68, none⟩)) (by rfl) (fun w' _ => by go_simp) ?_
        simp only [Act.put, List.setIfInBounds_toArray, List.set_cons_zero, List.set_cons_succ]
        refine quiet_row 28 (.tmp 19) rfl (by rfl) g (o + k * 68) rfl (recL r) _ (fun w' hw' => Nul.rangeAt hw' HA.out) rec_fields rfl Hi1.out ?_
        simp only [Act.put, List.setIfInBounds_toArray, List.set_cons_zero, List.set_cons_succ]
        refine quiet_do (.slice (some ⟨g', o', none⟩) a.length cb) (by rfl) (fun w' _ => by go_simp) ?_
        simp only [Act.put, List.setIfInBounds_toArray, List.set_cons_zero, List.set_cons_succ]
        refine quiet_do (.int .i64 k) (by rfl) (fun w' _ => by go_simp) ?_
        simp only [Act.put, List.setIfInBounds_toArray, List.set_cons_zero, List.set_cons_succ]
        refine quiet_do (.pointer (some ⟨g', o' + k * 68, none⟩)) (by rfl) (fun w' _ => by go_simp) ?_
        simp only [Act.put, List.setIfInBounds_toArray, List.set_cons_zero, List.set_cons_succ]
        refine quiet_row 28 (.tmp 23) rfl (by rfl) g' (o' + k * 68) rfl (recL q) _ (fun w' hw' => Nul.rangeAt hw' HB.out) rec_fields rfl Hi2.out ?_
        simp only [Act.put, List.setIfInBounds_toArray, List.set_cons_zero, List.set_cons_succ]
        refine quiet_do (.bool (!recB r q)) (by rfl) (fun w' _ => by have hne := Hne.out; go_simp) ?_
        simp only [Act.put, List.setIfInBounds_toArray, List.set_cons_zero, List.set_cons_succ]
        refine wpQuiet_nil ?_
        intro w1 hf1
        have H1 : Hid (Nul w w1) := hid (HH.out.2.2.trans hf1)
        clear hf1
        cases hg : recB r q
        · have HS : Hid (sameR a b = false) := hid (decide_eq_false (fun h => by
            have h1 := Hrq.out.1
            have h2 := Hrq.out.2
            subst h
            rw [h1] at h2
            rw [(recB_iff r q).2 h2] at hg
            cases hg))
          clear hg
          go_wp2_with fail
          go_ret
          exact ⟨by rw [HS.out]; rfl, H1.out⟩
        · have HS : Hid (a.take (k + 1) = b.take (k + 1)) := hid (by
            rw [List.take_succ_eq_append_getElem Hlk.out.1, List.take_succ_eq_append_getElem Hlk.out.2, HH.out.2.1, Hrq.out.1, Hrq.out.2, (recB_iff r q).1 hg])
          clear hg
          go_wp2_with fail
          go_roundg (gk - 1)
          case rel => exact ⟨k + 1, by have := HH.out.1; omega, by go_num, HS.out, H1.out⟩
          case measure => have := HH.out.1; omega
      · have hq : k = a.length := by omega
        have HS : Hid (sameR a b = true) := hid (decide_eq_true (by
          have := ht
          rw [hq, List.take_length, Hl.out, List.take_length] at this
          exact this))
        subst hq
        clear ht hf
        go_wp2_with fail
        go_ret
        exact ⟨by rw [HS.out]; rfl, HH.out.2.2⟩
  · have e1 : ((a.length : Int) != (b.length : Int)) = true := by simp; omega
    have HS : Hid (sameR a b = false) := hid (decide_eq_false (fun h => hl (by rw [h])))
    clear hl
    go_enter Try.func21, Try.ntmps21
    go_wp2_with fail
    go_ret
    exact ⟨by rw [HS.out]; rfl, Frm.refl _ _⟩
end Go.Proofs.Ythocjhiapngacaa
