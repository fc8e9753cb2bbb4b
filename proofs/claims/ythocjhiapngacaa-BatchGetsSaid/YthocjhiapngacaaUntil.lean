/-
  A region that draws its order: a fact on the world that need hold only behind SOME of its operations (those that may come ahead of a load), so that a load whose cell the region's last store hits may be taken first.
-/
import Derived.Test.YthocjhiapngacaaMem
import Derived.OrdersHeld
import Derived.Maps.AppendAt
set_option linter.all false
namespace Go.Proofs.Ythocjhiapngacaa
open Go.RowKit

section
variable {P : Program} {ops : Array Oper} {Q : Exit → Act → World → Prop} {md : Region.Mode} {J : Nat → Bool} {S : World → Prop}

/-- Every order from here on; S is shown behind operation i where J i. -/
def AnyTill (P : Program) (md : Region.Mode) (ops : Array Oper) (Q : Exit → Act → World → Prop) (J : Nat → Bool) (S : World → Prop) : Nat → Array Bool → Act → World → Prop
  | 0, done, a, w => Region.ready md ops done = [] ∧ Q .normal a w
  | n + 1, done, a, w => (Region.ready md ops done = [] → Q .normal a w) ∧
      ∀ i, i ∈ Region.ready md ops done → wpOp P ops Q i (fun a' w' => (J i = true → S w') ∧ AnyTill P md ops Q J S n (done.setIfInBounds i true) a' w') a w

theorem AnyTill.any : ∀ (n : Nat) (done : Array Bool) (a : Act) (w : World), AnyTill P md ops Q J S n done a w → wpAny P md ops Q n done a w
  | 0, _, _, _, h => h
  | n + 1, done, a, w, h => ⟨h.1, fun i hi => wpOp_mono (fun a' w' hh => AnyTill.any n _ a' w' hh.2) (h.2 i hi)⟩

/-- May each that does not wait for i come ahead of it? -/
def aheadB (md : Region.Mode) (ops : Array Oper) (J : Nat → Bool) (done : Array Bool) (i : Nat) : Bool :=
  (List.range ops.size).all fun j => j == i || done.getD j true || J j || match ops[j]? with
    | some oj => oj.after.any (fun e => Region.binds md e && e.on == i)
    | none => true

theorem aheadB_spec {i j : Nat} {oj : Oper} {done : Array Bool} (h : aheadB md ops J done i = true) (hj : ops[j]? = some oj) (hne : j ≠ i) (hun : done.getD j true = false) (hno : ∀ e ∈ oj.after, Region.binds md e = true → e.on ≠ i) : J j = true := by
  simp only [aheadB, List.all_eq_true, List.mem_range] at h
  have h1 := h j (Array.getElem?_eq_some_iff.1 hj).1
  simp only [hj, Bool.or_eq_true, beq_iff_eq, hne, false_or, hun, Bool.false_eq_true] at h1
  rcases h1 with h1 | h1
  · exact h1
  · obtain ⟨e, he, hb⟩ := Array.any_eq_true'.1 h1
    simp only [Bool.and_eq_true, beq_iff_eq] at hb
    exact absurd hb.2 (hno e he hb.1)

theorem set_keeps {i j k : Nat} {done : Array Bool} (hun : (done.setIfInBounds j true).getD k true = false) (hj : done.getD j true = false) : done.getD k true = false := by
  by_cases hjk : j = k
  · rw [← hjk]; exact hj
  · rwa [getD_set_ne true hjk] at hun

/-- An operation that yields under S is taken first. -/
theorem AnyTill.first {i : Nat} {oi : Oper} {v : Value} (hi : ops[i]? = some oi) (hsel : ∀ (j : Nat) (o : Oper) cs b, ops[j]? = some o → o.op ≠ .select cs b) (hQ : ∀ c a w, Q (.panic c) (a.put oi.dst v) w → Q (.panic c) a w) (n : Nat) :
    ∀ (done : Array Bool) (a : Act) (w : World),
      (∀ j oj, ops[j]? = some oj → j ≠ i → done.getD j true = false → (∀ e ∈ oj.after, Region.binds md e = true → e.on ≠ i) → oi.apart ops oj = true ∧ J j = true) →
      i ∈ Region.ready md ops done → YieldsIf P ops S oi v a → S w → AnyTill P md ops Q J S n (done.setIfInBounds i true) (a.put oi.dst v) w → AnyTill P md ops Q J S (n + 1) done a w := by
  induction n with
  | zero =>
    intro done a w hfr hr hy hS h
    refine ⟨fun e => absurd hr (by rw [e]; simp), fun j hj => ?_⟩
    rcases Nat.decEq j i with hne | rfl
    · have := ready_mono hj hne
      rw [h.1] at this
      simp at this
    · exact hy.wpOp hi hS ⟨fun _ => hS, h⟩
  | succ n ih =>
    intro done a w hfr hr hy hS h
    refine ⟨fun e => absurd hr (by rw [e]; simp), fun j hj => ?_⟩
    rcases Nat.decEq j i with hne | rfl
    · obtain ⟨hun, oj, hoj, hall⟩ := mem_ready.1 hj
      have hlt : i < done.size := by
        rcases Nat.lt_or_ge i done.size with hh | hh
        · exact hh
        · have := (mem_ready.1 hr).1
          simp [Array.getElem?_eq_none hh] at this
      have hno : ∀ e ∈ oj.after, Region.binds md e = true → e.on ≠ i := by
        intro e he hb heq
        have g1 := hall e he hb
        have g0 := (mem_ready.1 hr).1
        rw [heq] at g1
        simp [hlt] at g0 g1
        simp [g0] at g1
      obtain ⟨hap, hJ⟩ := hfr j oj hoj hne hun hno
      refine wpOp_mono (fun a' w' hh => ⟨fun _ => hh.2.1 hJ, ih _ a' w' ?_ (ready_mono hr (fun e => hne e.symm)) hh.1 (hh.2.1 hJ) ?_⟩)
        (wpOp_putIf hoj hap (fun cs b => hsel i oi cs b hi) (fun cs b => hsel j oj cs b hoj) hQ hy (h.2 j (ready_mono hj hne)))
      · intro k ok hk hki hkun hkno
        exact hfr k ok hk hki (set_keeps (i := i) hkun hun) hkno
      · rw [Array.setIfInBounds_comm _ _ hne]
        exact hh.2.2
    · exact hy.wpOp hi hS ⟨fun _ => hS, h⟩

theorem AnyTill.take {i : Nat} {oi : Oper} {v : Value} {n : Nat} {done : Array Bool} {a : Act} {w : World} (hi : ops[i]? = some oi) (hs : Region.noSelect ops = true) (hf : Region.free md ops done i = true) (hah : aheadB md ops J done i = true)
    (hr : (Region.ready md ops done).contains i = true) (hQ : ∀ c a w, Q (.panic c) (a.put oi.dst v) w → Q (.panic c) a w) (hy : YieldsIf P ops S oi v a) (hS : S w)
    (h : AnyTill P md ops Q J S n (done.setIfInBounds i true) (a.put oi.dst v) w) : AnyTill P md ops Q J S (n + 1) done a w :=
  AnyTill.first hi (Region.noSelect_spec hs) hQ n done a w (fun j oj hj hne hun hno => ⟨Region.free_spec hi hf j oj hj hne hun hno, aheadB_spec hah hj hne hun hno⟩) (by simpa using hr) hy hS h

/-- One alone may come up. -/
theorem AnyTill.one {i n : Nat} {done : Array Bool} {a : Act} {w : World} (hr : Region.ready md ops done = [i])
    (h : wpOp P ops Q i (fun a' w' => (J i = true → S w') ∧ AnyTill P md ops Q J S n (done.setIfInBounds i true) a' w') a w) : AnyTill P md ops Q J S (n + 1) done a w :=
  ⟨fun e => (by rw [hr] at e; cases e), fun j hj => by rw [hr] at hj; simp at hj; rw [hj]; exact h⟩
theorem AnyTill.one_go {i n : Nat} {o : Oper} {done : Array Bool} {a : Act} {w : World} (hr : Region.ready md ops done = [i]) (ho : ops[i]? = some o) (hw : Region.wanted o (yielded ops a.tmps) = true)
    (h : ∀ K : Act → World → Prop, (∀ a' w', (J i = true → S w') → AnyTill P md ops Q J S n (done.setIfInBounds i true) a' w' → K a' w') → o.wp P a w K Q) : AnyTill P md ops Q J S (n + 1) done a w := by
  refine AnyTill.one hr ?_
  unfold wpOp
  rw [ho]
  simp only [hw, if_true]
  exact .inl (h _ fun a' w' h1 h2 => ⟨h1, h2⟩)
/-- Two may come up. -/
theorem AnyTill.two_go {i j n : Nat} {oi oj : Oper} {done : Array Bool} {a : Act} {w : World} (hr : Region.ready md ops done = [i, j]) (hoi : ops[i]? = some oi) (hoj : ops[j]? = some oj)
    (hwi : Region.wanted oi (yielded ops a.tmps) = true) (hwj : Region.wanted oj (yielded ops a.tmps) = true)
    (hi : ∀ K : Act → World → Prop, (∀ a' w', (J i = true → S w') → AnyTill P md ops Q J S n (done.setIfInBounds i true) a' w' → K a' w') → oi.wp P a w K Q)
    (hj : ∀ K : Act → World → Prop, (∀ a' w', (J j = true → S w') → AnyTill P md ops Q J S n (done.setIfInBounds j true) a' w' → K a' w') → oj.wp P a w K Q) : AnyTill P md ops Q J S (n + 1) done a w := by
  refine ⟨fun e => (by rw [hr] at e; cases e), fun k hk => ?_⟩
  rw [hr] at hk
  simp only [List.mem_cons, List.not_mem_nil, or_false] at hk
  rcases hk with rfl | rfl
  · unfold wpOp
    rw [hoi]
    simp only [hwi, if_true]
    exact .inl (hi _ fun a' w' h1 h2 => ⟨h1, h2⟩)
  · unfold wpOp
    rw [hoj]
    simp only [hwj, if_true]
    exact .inl (hj _ fun a' w' h1 h2 => ⟨h1, h2⟩)
/-- Two may come up, the first not wanted. -/
theorem AnyTill.two_skip {i j n : Nat} {oi oj : Oper} {done : Array Bool} {a : Act} {w : World} (hr : Region.ready md ops done = [i, j]) (hoi : ops[i]? = some oi) (hoj : ops[j]? = some oj)
    (hwi : Region.wanted oi (yielded ops a.tmps) = false) (hwj : Region.wanted oj (yielded ops a.tmps) = true) (hS : J i = true → S w)
    (hi : AnyTill P md ops Q J S n (done.setIfInBounds i true) (a.put oi.dst undef) w)
    (hj : ∀ K : Act → World → Prop, (∀ a' w', (J j = true → S w') → AnyTill P md ops Q J S n (done.setIfInBounds j true) a' w' → K a' w') → oj.wp P a w K Q) : AnyTill P md ops Q J S (n + 1) done a w := by
  refine ⟨fun e => (by rw [hr] at e; cases e), fun k hk => ?_⟩
  rw [hr] at hk
  simp only [List.mem_cons, List.not_mem_nil, or_false] at hk
  rcases hk with rfl | rfl
  · unfold wpOp
    rw [hoi]
    simp only [hwi]
    exact ⟨hS, hi⟩
  · unfold wpOp
    rw [hoj]
    simp only [hwj, if_true]
    exact .inl (hj _ fun a' w' h1 h2 => ⟨h1, h2⟩)
theorem AnyTill.over {n : Nat} {done : Array Bool} {a : Act} {w : World} (hr : Region.ready md ops done = []) (h : Q .normal a w) : AnyTill P md ops Q J S n done a w := by
  cases n with
  | zero => exact ⟨hr, h⟩
  | succ n => exact ⟨fun _ => h, fun i hi => by rw [hr] at hi; simp at hi⟩

theorem region_till {id : Nat} {a : Act} {w : World} (J : Nat → Bool) (S : World → Prop) (hm : P.follows .mixedOrders = true) (h : AnyTill P .any ops Q J S ops.size (Array.replicate ops.size false) a w.drew) : (Code.region id ops true).wp P Q a w :=
  wp_region_any hm (AnyTill.any _ _ _ _ h)
end

theorem wp_append_at {P : Program} {o : Oper} {a : Act} {w : World} {K : Act → World → Prop} {Q : Exit → Act → World → Prop} (s x : Operand) (t : TypeId)
    (ho : o.op = .call { callee := .builtin .append, args := #[s, x], argTypes := #[t, t] })
    (base : Nat) (e : TypeId) (i : TypeInfo) (z : Value) (size bytes : Nat) (ht : P.underlying t = some (.slice e)) (hi : P.info? e = some i) (hz : i.zero = some z)
    (hsize : i.size = size) (hby : i.bytes = bytes) (hzs : z.cells.size = size) (hsz : 0 < size)
    (v : Value) (n : Nat) (xs : List Value) (hs : a.eval s = v) (hown : w.ownsRow base e size v n xs)
    (ad : Addr) (m c : Nat) (news : List Value) (hx : a.eval x = .slice (some ad) m c) (hl : news.length = m * size) (hnews : ∀ j u, news[j]? = some u → w.cell? (ad.add j) = some u) (h1 : ∀ u ∈ news, u.oneCell' = true)
    (hbytes : (n + m) * bytes ≤ 140737488355328) (h63 : n + m ≤ maxLen) (hbase : base ≤ w.heap.size)
    (h : ∀ v' w', w'.ownsRow base e size v' (n + m) (xs ++ news) → w.grownBy w' v.ownBlock → (v'.ownBlock = v.ownBlock ∨ v'.ownBlock = some w.heap.size) → K (a.put o.dst v') w') :
    Oper.wp P o a w K Q := by
  obtain ⟨v', w', hr, h2, h3, _, h5⟩ := run_append_own_at (P := P) w base t o.type e i z size bytes ht hi hz hsize hby hzs hsz v n xs hown ad m c news hl hnews h1 h63 hbytes hbase
  unfold Oper.wp execOp
  simp only [ho, resolve, invoke, builtin, Sem.run_bind, Sem.run_pure, Result.andThen_ok, List.map_toArray, List.map_cons, List.map_nil, hs, hx, hr]
  exact h v' w' h2 h3 h5
end Go.Proofs.Ythocjhiapngacaa
