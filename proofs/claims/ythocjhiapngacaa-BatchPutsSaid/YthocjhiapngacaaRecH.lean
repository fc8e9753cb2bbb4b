/-
  Records got: what a text holds; the laws of the walk.
-/
import Derived.Test.YthocjhiapngacaaRecG
set_option linter.all false
namespace Go.Proofs.Ythocjhiapngacaa
open Go.RowKit

/-- What is found at a text's front, and the cut's error. -/
def recParse (s : ByteArray) : Rcd × Int :=
  if (numC s 0 1).1 = 1 ∨ (numC s 0 1).1 = 2 then
    (⟨(numC s 0 1).1, key32 (takeC (numC s 0 1).2.1 (numC s 0 1).2.2 32).1,
      (entGet (takeC (takeC (numC s 0 1).2.1 (numC s 0 1).2.2 32).2.1 (takeC (numC s 0 1).2.1 (numC s 0 1).2.2 32).2.2 (max ((takeC (numC s 0 1).2.1 (numC s 0 1).2.2 32).2.1.size : Int) 1)).1).1,
      (entGet (takeC (takeC (numC s 0 1).2.1 (numC s 0 1).2.2 32).2.1 (takeC (numC s 0 1).2.1 (numC s 0 1).2.2 32).2.2 (max ((takeC (numC s 0 1).2.1 (numC s 0 1).2.2 32).2.1.size : Int) 1)).1).2.1, zero32, 0⟩,
      (takeC (takeC (numC s 0 1).2.1 (numC s 0 1).2.2 32).2.1 (takeC (numC s 0 1).2.1 (numC s 0 1).2.2 32).2.2 (max ((takeC (numC s 0 1).2.1 (numC s 0 1).2.2 32).2.1.size : Int) 1)).2.2)
  else if (numC s 0 1).1 = 5 then (⟨5, zero32, false, ⟨#[]⟩, zero32, (numC (numC s 0 1).2.1 (numC s 0 1).2.2 4).1⟩, (numC (numC s 0 1).2.1 (numC s 0 1).2.2 4).2.2)
  else if (numC s 0 1).1 = 3 ∨ (numC s 0 1).1 = 4 then (⟨(numC s 0 1).1, zero32, false, ⟨#[]⟩, key32 (takeC (numC s 0 1).2.1 (numC s 0 1).2.2 32).1, 0⟩, (takeC (numC s 0 1).2.1 (numC s 0 1).2.2 32).2.2)
  else (⟨(numC s 0 1).1, zero32, false, ⟨#[]⟩, zero32, 0⟩, (numC s 0 1).2.2)
/-- Is it a record whose bytes these are? -/
def recFin (s : ByteArray) (r : Rcd) (e : Int) : Rcd × Int := if e ≠ 0 then (rzero, e) else if recGood r = true ∧ recS r = s then (r, 0) else (rzero, 6)
def recGet (s : ByteArray) : Rcd × Int := recFin s (recParse s).1 (recParse s).2

theorem numC_lt (s : ByteArray) (e : Int) (n : Nat) (h1 : 1 ≤ n) (h8 : n ≤ 8) : (numC s e n).1 < 256 ^ n := by
  unfold numC
  simp only
  rw [if_neg (by omega)]
  have hsz : (takeC s e n).1.size ≤ n := by
    unfold takeC
    split
    · simp
    · split
      · simp
      · simp only [ByteArray.size_extract]; omega
  unfold wval
  refine Nat.lt_of_lt_of_le (vnat_lt _) (Nat.pow_le_pow_right (by omega) ?_)
  rw [List.length_take]
  have : (takeC s e n).1.data.toList.length = (takeC s e n).1.size := rfl
  omega

theorem entGet_size (s : ByteArray) : (entGet s).2.1.size ≤ 65536 := by
  unfold entGet
  split
  · show 0 ≤ _; omega
  · split
    · split
      · show 0 ≤ _; omega
      · show (s.extract 1 s.size).size ≤ _
        rw [ByteArray.size_extract]
        omega
    · split
      · show 0 ≤ _; omega
      · show 0 ≤ _; omega

theorem wpList_store_part {P : Program} {ops : Array Oper} {rest : List Oper} {o : Oper} {a : Act} {w : World} {Q : Exit → Act → World → Prop} (hgd : o.guard = none) (ty : TypeId) (x y : Operand) (ho : o.op = .store ty x y)
    (g i : Nat) (cs : List Value) (hx : a.eval x = .pointer (some ⟨g, i, none⟩)) (hy : a.eval y = .agg cs.toArray) (t : TypeId) (old : List Value) (hb : Blk w g t old) (hi : (P.info? ty).map (·.size) = some cs.length) (hn : i + cs.length ≤ old.length)
    (h1 : ∀ v ∈ cs, v.oneCell' = true)
    (h : ∀ w', Blk w' g t (old.take i ++ cs ++ old.drop (i + cs.length)) → One g w w' → wpList P ops Q rest (a.put o.dst undef) w') : wpList P ops Q (o :: rest) a w :=
  wpList_store_mid hgd ty x y ho g i cs.toArray hx hy (by rw [List.size_toArray]; exact hb.there i cs.length hn) (by rw [hi, List.size_toArray]) (all_oneCell_toArray h1)
    (h _ (Blk.setCells cs i old w hb hn) (Frm.setCells (S := fun k => k = g) (.inr rfl) cs i w (One.refl g w)))

theorem recL_setDV {r : Rcd} (hr : r.ok) (d : Bool) (v : ByteArray) : ((recL r).set 33 (.bool d)).set 34 (.string v) = recL { r with dead := d, val := v } := by
  have hl : (keyL r.key).length = 32 := by rw [keyL_length, hr.1]
  simp only [recL, show (33 : Nat) = 32 + 1 from rfl, show (34 : Nat) = 33 + 1 from rfl, List.set_cons_succ]
  rw [List.set_append_right _ _ (by omega), hl, List.set_append_right _ _ (by omega), hl]
  rfl
theorem ret_rec2 {P : Program} {fn : Func} {p q : Tmp} {ty : TypeId} (hr : fn.results = #[.cell p ty, .tmp q]) {tmps : Array Value} {w : World} {g : Nat} {t : TypeId} {cs : List Value} {n : Nat} {d : TypeDesc}
    (hp : tmps.getD p undef = .pointer (some ⟨g, 0, none⟩)) (hb : Blk w g t cs) (hu : P.underlying ty = some d) (hd : d.isRow = true) (hi : (P.info? ty).map (·.size) = some n) (hn : cs.length = n) :
    (results fn tmps).run P w = .ok (.tuple #[.agg cs.toArray, tmps.getD q undef]) w := by
  have h := hb.range 0 n
  rw [List.drop_zero, List.take_of_length_le (by omega)] at h
  have hl := run_loadVar_mid (P := P) w g 0 ty cs d h hu hd (by rw [hi, hn])
  have hp' : tmps[p]?.getD undef = .pointer (some ⟨g, 0, none⟩) := by simpa using hp
  simp [results, hr, hp', asAddr, hl]

set_option maxRecDepth 100000 in
set_option maxHeartbeats 1000000 in
theorem rec_Get_1 (s : ByteArray) (w : World) (hs : s.size ≤ 140737488351232) (s0 x1 s1 x2 s2 v : ByteArray) (e0 e1 e2 c : Int) (d : Bool)
    (h0 : numC s 0 1 = (1, s0, e0)) (h1 : takeC s0 e0 32 = (x1, s1, e1)) (h2 : takeC s1 e1 (max (s1.size : Int) 1) = (x2, s2, e2)) (he : entGet x2 = (d, v, c)) :
    Calls Try.prog 12 #[.string s] w fun e w' => e = .returned (.tuple #[.agg (recL (recFin s ⟨1, key32 x1, d, v, zero32, 0⟩ e2).1).toArray, .int .i64 (recFin s ⟨1, key32 x1, d, v, zero32, 0⟩ e2).2]) ∧ Nul w w' := by
  have hz := (zero_of_info zero_rec).1
  have hz0 : s0.size ≤ 140737488351232 := by have := numC_size s 0 1; rw [h0] at this; exact Nat.le_trans this hs
  have hz1 : s1.size ≤ 140737488351232 := by have := (takeC_size s0 e0 32).2; rw [h1] at this; exact Nat.le_trans this hz0
  have hx1 : x1.size ≤ 32 := by have := takeC_le s0 e0; rw [h1] at this; exact this
  have hvz : v.size ≤ 65536 := by have := entGet_size x2; rw [he] at this; exact this
  have hx2 : x2.size ≤ 140737488351232 := by have := (takeC_size s1 e1 (max (s1.size : Int) 1)).1; rw [h2] at this; exact Nat.le_trans this hz1
  have hk := key32_length hx1
  obtain ⟨k, hkk⟩ : ∃ k, key32 x1 = k := ⟨_, rfl⟩
  rw [hkk] at hk ⊢
  obtain ⟨r, hr⟩ : ∃ r : Rcd, r = ⟨1, k, d, v, zero32, 0⟩ := ⟨_, rfl⟩
  rw [← hr]
  have hrk : r.ok := by rw [hr]; exact ⟨hk, rfl⟩
  have HPut := hid (fun w => rec_Put r w hrk (by rw [hr]; show v.size ≤ _; omega))
  have Hk := hid hk
  have HR := hid hr
  have HZ := hid (And.intro hz0 (And.intro hz1 hx2))
  have HH := hid (And.intro h0 (And.intro h1 (And.intro h2 (And.intro he hkk))))
  have HQ := hid hrk
  have HB0 := hid (Blk.new w 28 (recL rzero))
  have Hs := hid hs
  have Hbk := hid (built_kind 1)
  clear hs hz0 hz1 hx1 hvz hx2 hk hkk hr hrk h0 h1 h2 he
  go_enter Try.func12, Try.ntmps12
  go_wp2_with fail
  refine (wide_On2 s _).mono ?_
  rintro e w1 ⟨rfl, hc1, hf1⟩
  have hbs : ((w.alloc (.cells (recL rzero).toArray 28)).heap.size) = w.heap.size + 1 := by simp
  rw [hbs] at hc1
  have H1 : Hid (CutAt w1 (w.heap.size + 1) s 0 ∧ Blk w1 w.heap.size 28 (recL rzero) ∧ Nul w w1) := hid ⟨hc1, HB0.out.nul hf1, ((Frm.refl (fun _ => False) w).alloc _).nul hf1⟩
  have Hlt := hid H1.out.1.lt
  clear hbs hc1 hf1
  have H2 : Hid (CutAt (w1.alloc (.cells #[.pointer (some ⟨w.heap.size + 1, 0, none⟩)] 67)) (w.heap.size + 1) s 0 ∧ Blk (w1.alloc (.cells #[.pointer (some ⟨w.heap.size + 1, 0, none⟩)] 67)) w.heap.size 28 (recL rzero) ∧ Nul w (w1.alloc (.cells #[.pointer (some ⟨w.heap.size + 1, 0, none⟩)] 67)) ∧ Blk (w1.alloc (.cells #[.pointer (some ⟨w.heap.size + 1, 0, none⟩)] 67)) w1.heap.size 67 [.pointer (some ⟨w.heap.size + 1, 0, none⟩)]) := hid ⟨Blk.alloc H1.out.1 _, H1.out.2.1.alloc _, H1.out.2.2.alloc _, Blk.new w1 _ [.pointer (some ⟨w.heap.size + 1, 0, none⟩)]⟩
  go_wp2_with fail
  have HN := hid (cut_Num (w.heap.size + 1) s 0 1 _ H2.out.1 Hs.out)
  rw [HH.out.1] at HN
  refine HN.out.mono ?_
  rintro e w3 ⟨rfl, hc3, hf3⟩
  have H3 : Hid (CutAt w3 (w.heap.size + 1) s0 e0 ∧ Blk w3 w.heap.size 28 (recL rzero) ∧ Nul w w3 ∧ Blk w3 w1.heap.size 67 [.pointer (some ⟨w.heap.size + 1, 0, none⟩)]) := hid ⟨hc3, H2.out.2.1.one hf3 (by omega), H2.out.2.2.1.one hf3 (.inl (by omega)), H2.out.2.2.2.one hf3 (by have := Hlt.out; omega)⟩
  have Hlt3 := hid (And.intro H3.out.2.2.2.lt (And.intro H3.out.2.1.lt H3.out.1.lt))
  clear hc3 hf3 HN
  go_wp2_with (first
    | (refine wpList_built rfl 28 _ rfl _ Hbk.out ?_)
    | (refine wpList_store_blk rfl 28 (.tmp 5) (.tmp 15) rfl w3.heap.size (recL ⟨1, zero32, false, ⟨#[]⟩, zero32, 0⟩) rfl rfl 28 (recL rzero) 68 (Blk.new w3 _ _) size_rec rfl rfl (recL_one _) ?_; intro w4 hB hO
       have H4 : Hid (CutAt w4 (w.heap.size + 1) s0 e0 ∧ Blk w4 w.heap.size 28 (recL rzero) ∧ Nul w w4 ∧ Blk w4 w1.heap.size 67 [.pointer (some ⟨w.heap.size + 1, 0, none⟩)] ∧ Blk w4 w3.heap.size 28 (recL ⟨1, zero32, false, ⟨#[]⟩, zero32, 0⟩)) := hid ⟨Blk.one (Blk.alloc H3.out.1 _) hO (by have := Hlt3.out; omega), (H3.out.2.1.alloc _).one hO (by have := Hlt3.out; omega), (H3.out.2.2.1.alloc _).one hO (.inl (by have := Hlt3.out; omega)), (H3.out.2.2.2.alloc _).one hO (by have := Hlt3.out; omega), hB⟩
       have c0 : w4.cell? ⟨w3.heap.size, 0, none⟩ = some (.int .i64 1) := H4.out.2.2.2.2.cell 0
       clear hB hO))
  have HG := hid (rec_Get1 w1.heap.size (w.heap.size + 1) s0 e0 w4 H4.out.2.2.2.1 H4.out.1 HZ.out.1)
  rw [HH.out.2.1] at HG
  refine HG.out.mono ?_
  rintro e w5 ⟨rfl, hc5, hf5⟩
  have H5 : Hid (CutAt w5 (w.heap.size + 1) s1 e1 ∧ Blk w5 w.heap.size 28 (recL rzero) ∧ Nul w w5 ∧ Blk w5 w1.heap.size 67 [.pointer (some ⟨w.heap.size + 1, 0, none⟩)] ∧ Blk w5 w3.heap.size 28 (recL ⟨1, zero32, false, ⟨#[]⟩, zero32, 0⟩)) := hid ⟨hc5, H4.out.2.1.one hf5 (by omega), H4.out.2.2.1.one hf5 (.inl (by omega)), H4.out.2.2.2.1.one hf5 (by have := Hlt.out; omega), H4.out.2.2.2.2.one hf5 (by have := Hlt3.out; omega)⟩
  clear hc5 hf5 HG c0
  rw [HH.out.2.2.2.2]
  have Hkl : Hid ((Try.prog.info? 23).map (·.size) = some (keyL k).length) := hid (by rw [size_key, keyL_length, Hk.out])
  have Hkn : Hid (1 + (keyL k).length ≤ (recL ⟨1, zero32, false, ⟨#[]⟩, zero32, 0⟩).length) := hid (by rw [keyL_length, Hk.out, recL_length ⟨rfl, rfl⟩]; omega)
  go_wp2_with (first
    | (refine wpList_store_part rfl 23 (.tmp 24) (.tmp 23) rfl w3.heap.size 1 (keyL k) rfl rfl 28 _ H5.out.2.2.2.2 Hkl.out Hkn.out (keyL_one _) ?_; intro w6 hB hO
       rw [recL_setKey ⟨rfl, rfl⟩ Hk.out] at hB
       have H6 : Hid (CutAt w6 (w.heap.size + 1) s1 e1 ∧ Blk w6 w.heap.size 28 (recL rzero) ∧ Nul w w6 ∧ Blk w6 w1.heap.size 67 [.pointer (some ⟨w.heap.size + 1, 0, none⟩)] ∧ Blk w6 w3.heap.size 28 (recL ⟨1, k, false, ⟨#[]⟩, zero32, 0⟩)) := hid ⟨Blk.one H5.out.1 hO (by have := Hlt3.out; omega), H5.out.2.1.one hO (by have := Hlt3.out; omega), H5.out.2.2.1.one hO (.inl (by have := Hlt3.out; omega)), H5.out.2.2.2.1.one hO (by have := Hlt3.out; omega), hB⟩
       clear hB hO))
  have HRest := hid (cut_Rest (w.heap.size + 1) s1 e1 w6.drew (show CutAt w6.drew (w.heap.size + 1) s1 e1 from H6.out.1))
  have HTake := hid (cut_Take (w.heap.size + 1) s1 e1 (max (s1.size : Int) 1) w6.drew (show CutAt w6.drew (w.heap.size + 1) s1 e1 from H6.out.1) HZ.out.2.1)
  rw [HH.out.2.2.1, show max (s1.size : Int) 1 = (if (s1.size : Int) < 1 then 1 else (s1.size : Int)) by split <;> omega] at HTake
  obtain ⟨mx, hmx⟩ : ∃ mx : Int, (if (s1.size : Int) < 1 then 1 else (s1.size : Int)) = mx := ⟨_, rfl⟩
  rw [hmx] at HTake
  have HE := hid (fun w => ent_Get x2 w HZ.out.2.2)
  rw [HH.out.2.2.2.1] at HE
  have HC6 : Hid (∀ w', One (w.heap.size + 1) w6.drew w' → w'.cell? ⟨w1.heap.size, 0, none⟩ = some (.pointer (some ⟨w.heap.size + 1, 0, none⟩)) ∧ Blk w' w.heap.size 28 (recL rzero) ∧ Nul w w' ∧ Blk w' w1.heap.size 67 [.pointer (some ⟨w.heap.size + 1, 0, none⟩)] ∧ Blk w' w3.heap.size 28 (recL ⟨1, k, false, ⟨#[]⟩, zero32, 0⟩)) := hid (fun w' hf => ⟨((H6.out.2.2.2.1.drew).one hf (by have := Hlt.out; omega)).cell 0, H6.out.2.1.drew.one hf (by omega), H6.out.2.2.1.drew.one hf (.inl (by omega)), (H6.out.2.2.2.1.drew).one hf (by have := Hlt.out; omega), H6.out.2.2.2.2.drew.one hf (by have := Hlt3.out; omega)⟩)
  go_region_held3 (fun w' => w'.cell? ⟨w1.heap.size, 0, none⟩ = some (.pointer (some ⟨w.heap.size + 1, 0, none⟩))) (first
    | exact (HC6.out _ (Frm.refl _ _)).1
    | exact HX9.out
    | exact H8.out.1
    | exact H7.out.1) (first
    | (go_at_call 43
       with_reducible refine HRest.out.mono ?_
       rintro e w7 ⟨rfl, hw⟩
       subst hw)
    | (go_at_call 41
       with_reducible refine HTake.out.mono ?_
       rintro e w7 ⟨rfl, hc7, hf7⟩
       have H7 := hid (HC6.out _ hf7)
       have H7c : Hid (CutAt w7 (w.heap.size + 1) s2 e2) := hid hc7
       clear hc7 hf7)
    | (go_at_call 42
       with_reducible refine (HE.out _).mono ?_
       rintro e w8 ⟨rfl, hf8⟩
       have H8 : Hid (w8.cell? ⟨w1.heap.size, 0, none⟩ = some (.pointer (some ⟨w.heap.size + 1, 0, none⟩)) ∧ CutAt w8 (w.heap.size + 1) s2 e2 ∧ Blk w8 w.heap.size 28 (recL rzero) ∧ Nul w w8 ∧ Blk w8 w1.heap.size 67 [.pointer (some ⟨w.heap.size + 1, 0, none⟩)] ∧ Blk w8 w3.heap.size 28 (recL ⟨1, k, false, ⟨#[]⟩, zero32, 0⟩)) := hid ⟨(H7.out.2.2.2.1.nul hf8).cell 0, Blk.nul H7c.out hf8, H7.out.2.1.nul hf8, H7.out.2.2.1.nul hf8, H7.out.2.2.2.1.nul hf8, H7.out.2.2.2.2.nul hf8⟩
       have c33 : w8.cell? ⟨w3.heap.size, 33, none⟩ = some (.bool false) := by rw [H8.out.2.2.2.2.2.cell, recL_dead ⟨Hk.out, rfl⟩]
       have c34 : w8.cell? ⟨w3.heap.size, 34, none⟩ = some (.string ⟨#[]⟩) := by rw [H8.out.2.2.2.2.2.cell, recL_val ⟨Hk.out, rfl⟩]
       have z33 := H8.out.2.2.2.2.2.frozen 33
       have z34 := H8.out.2.2.2.2.2.frozen 34
       have HX9 : Hid (((w8.setCell ⟨w3.heap.size, 33, none⟩ (.bool d)).setCell ⟨w3.heap.size, 34, none⟩ (.string v)).cell? ⟨w1.heap.size, 0, none⟩ = some (.pointer (some ⟨w.heap.size + 1, 0, none⟩))) := hid (((H8.out.2.2.2.2.1.far (by have := Hlt3.out; show w1.heap.size ≠ w3.heap.size; omega) _).far (by have := Hlt3.out; show w1.heap.size ≠ w3.heap.size; omega) _).cell 0)
       clear hf8))
  have H9 : Hid (CutAt ((w8.setCell ⟨w3.heap.size, 33, none⟩ (.bool d)).setCell ⟨w3.heap.size, 34, none⟩ (.string v)) (w.heap.size + 1) s2 e2 ∧ Blk ((w8.setCell ⟨w3.heap.size, 33, none⟩ (.bool d)).setCell ⟨w3.heap.size, 34, none⟩ (.string v)) w.heap.size 28 (recL rzero) ∧ Nul w ((w8.setCell ⟨w3.heap.size, 33, none⟩ (.bool d)).setCell ⟨w3.heap.size, 34, none⟩ (.string v)) ∧ ((w8.setCell ⟨w3.heap.size, 33, none⟩ (.bool d)).setCell ⟨w3.heap.size, 34, none⟩ (.string v)).cell? ⟨w1.heap.size, 0, none⟩ = some (.pointer (some ⟨w.heap.size + 1, 0, none⟩)) ∧ Blk ((w8.setCell ⟨w3.heap.size, 33, none⟩ (.bool d)).setCell ⟨w3.heap.size, 34, none⟩ (.string v)) w3.heap.size 28 (recL r)) := hid (by
    have hl3 := Hlt3.out
    refine ⟨(Blk.far H8.out.2.1 (by show w.heap.size + 1 ≠ w3.heap.size; omega) _).far (by show w.heap.size + 1 ≠ w3.heap.size; omega) _, (H8.out.2.2.1.far (by show w.heap.size ≠ w3.heap.size; omega) _).far (by show w.heap.size ≠ w3.heap.size; omega) _, (H8.out.2.2.2.1.setCell (.inl (by show w.heap.size ≤ w3.heap.size; omega)) _).setCell (.inl (by show w.heap.size ≤ w3.heap.size; omega)) _, HX9.out, ?_⟩
    have h := (H8.out.2.2.2.2.2.put 33 (.bool d)).put 34 (.string v)
    rw [recL_setDV ⟨Hk.out, rfl⟩] at h
    rw [HR.out]
    exact h)
  have hlt3 := Hlt3
  generalize ((w8.setCell ⟨w3.heap.size, 33, none⟩ (.bool d)).setCell ⟨w3.heap.size, 34, none⟩ (.string v)) = w9 at H9 ⊢
  have c4 := H9.out.2.2.2.1
  have HErr := hid (cut_Err (w.heap.size + 1) s2 e2 w9 H9.out.1)
  clear c33 c34 z33 z34 hmx
  go_wp2_with fail
  refine HErr.out.mono ?_
  rintro e w10 ⟨rfl, hw⟩
  subst hw
  have Hbz := hid built_zero
  have Hrl := hid (recL_length HQ.out)
  by_cases he2 : e2 = 0
  · have g1 : (e2 != 0) = false := by rw [he2]; rfl
    rcases recChk_cases r with ⟨hg, hc⟩ | ⟨hg, hc⟩
    · have HP2 : Hid (∀ w, Calls Try.prog 9 #[.agg (recL r).toArray] w fun e w' => e = .returned (.tuple #[.string (recS r), .int .i64 0]) ∧ Nul w w') := hid (fun w => by have := HPut.out w; rw [hg, hc] at this; exact this)
      by_cases hq : recS r = s
      · have Hfin : Hid (recFin s r e2 = (r, 0)) := hid (by unfold recFin; rw [if_neg (by simp [he2]), if_pos ⟨hg, hq⟩])
        have hb : ((recS r).toList == s.toList) = true := by rw [hq]; exact beq_self_eq_true _
        generalize recS r = z at HP2 hb
        clear hg hc hq he2
        go_wp2_with (first
          | (refine wpList_load_blk rfl 28 (.tmp 5) rfl w3.heap.size rfl 28 (recL r) 68 _ H9.out.2.2.2.2 rec_fields rfl size_rec Hrl.out ?_))
        refine (HP2.out _).mono ?_
        rintro e w10 ⟨rfl, hf⟩
        have H10 : Hid (Blk w10 w.heap.size 28 (recL rzero) ∧ Nul w w10 ∧ Blk w10 w3.heap.size 28 (recL r)) := hid ⟨H9.out.2.1.nul hf, H9.out.2.2.1.nul hf, H9.out.2.2.2.2.nul hf⟩
        clear hf
        go_wp2_with (first
          | (refine wpList_load_blk rfl 28 (.tmp 5) rfl w3.heap.size rfl 28 (recL r) 68 _ H10.out.2.2 rec_fields rfl size_rec Hrl.out ?_)
          | (refine wpList_store_blk rfl 28 (.tmp 2) (.tmp 67) rfl w.heap.size (recL r) rfl rfl 28 (recL rzero) 68 H10.out.1 size_rec Hrl.out rfl (recL_one _) ?_; intro w11 hB hO))
        exact bodyPost_ret (ret_rec2 rfl rfl hB rec_fields rfl size_rec Hrl.out) rfl ⟨by rw [Hfin.out]; rfl, H10.out.2.1.one hO (.inl (Nat.le_refl _))⟩
      · have Hfin : Hid (recFin s r e2 = (rzero, 6)) := hid (by unfold recFin; rw [if_neg (by simp [he2]), if_neg (fun h => hq h.2)])
        have hb : ((recS r).toList == s.toList) = false := toList_ne hq
        generalize recS r = z at HP2 hb
        clear hg hc hq he2
        go_wp2_with (first
          | (refine wpList_load_blk rfl 28 (.tmp 5) rfl w3.heap.size rfl 28 (recL r) 68 _ H9.out.2.2.2.2 rec_fields rfl size_rec Hrl.out ?_))
        refine (HP2.out _).mono ?_
        rintro e w10 ⟨rfl, hf⟩
        have H10 : Hid (Blk w10 w.heap.size 28 (recL rzero) ∧ Nul w w10 ∧ Blk w10 w3.heap.size 28 (recL r)) := hid ⟨H9.out.2.1.nul hf, H9.out.2.2.1.nul hf, H9.out.2.2.2.2.nul hf⟩
        clear hf
        go_wp2_with (first
          | (refine wpList_built rfl 28 _ rfl _ Hbz.out ?_)
          | (refine wpList_store_blk rfl 28 (.tmp 2) (.tmp 66) rfl w.heap.size (recL rzero) rfl rfl 28 (recL rzero) 68 H10.out.1 size_rec rfl rfl (recL_one _) ?_; intro w11 hB hO))
        exact bodyPost_ret (ret_rec2 rfl rfl hB rec_fields rfl size_rec rfl) rfl ⟨by rw [Hfin.out]; rfl, H10.out.2.1.one hO (.inl (Nat.le_refl _))⟩
    · have HP2 : Hid (∀ w, Calls Try.prog 9 #[.agg (recL r).toArray] w fun e w' => e = .returned (.tuple #[.string ⟨#[]⟩, .int .i64 2]) ∧ Nul w w') := hid (fun w => by have := HPut.out w; rw [hg, hc] at this; exact this)
      have Hfin : Hid (recFin s r e2 = (rzero, 6)) := hid (by unfold recFin; rw [if_neg (by simp [he2]), if_neg (fun h => by rw [hg] at h; cases h.1)])
      clear hg hc he2
      go_wp2_with (first
        | (refine wpList_load_blk rfl 28 (.tmp 5) rfl w3.heap.size rfl 28 (recL r) 68 _ H9.out.2.2.2.2 rec_fields rfl size_rec Hrl.out ?_))
      refine (HP2.out _).mono ?_
      rintro e w10 ⟨rfl, hf⟩
      have H10 : Hid (Blk w10 w.heap.size 28 (recL rzero) ∧ Nul w w10 ∧ Blk w10 w3.heap.size 28 (recL r)) := hid ⟨H9.out.2.1.nul hf, H9.out.2.2.1.nul hf, H9.out.2.2.2.2.nul hf⟩
      clear hf
      go_wp2_with (first
        | (refine wpList_built rfl 28 _ rfl _ Hbz.out ?_)
        | (refine wpList_store_blk rfl 28 (.tmp 2) (.tmp 66) rfl w.heap.size (recL rzero) rfl rfl 28 (recL rzero) 68 H10.out.1 size_rec rfl rfl (recL_one _) ?_; intro w11 hB hO))
      exact bodyPost_ret (ret_rec2 rfl rfl hB rec_fields rfl size_rec rfl) rfl ⟨by rw [Hfin.out]; rfl, H10.out.2.1.one hO (.inl (Nat.le_refl _))⟩
  · have g1 : (e2 != 0) = true := by simpa using he2
    have Hfin : Hid (recFin s r e2 = (rzero, e2)) := hid (by unfold recFin; rw [if_pos he2])
    clear he2
    go_wp2_with (first
      | (refine wpList_built rfl 28 _ rfl _ Hbz.out ?_)
      | (refine wpList_store_blk rfl 28 (.tmp 2) (.tmp 52) rfl w.heap.size (recL rzero) rfl rfl 28 (recL rzero) 68 H9.out.2.1 size_rec rfl rfl (recL_one _) ?_; intro w11 hB hO))
    exact bodyPost_ret (ret_rec2 rfl rfl hB rec_fields rfl size_rec rfl) rfl ⟨by rw [Hfin.out]; rfl, H9.out.2.2.1.one hO (.inl (Nat.le_refl _))⟩
set_option maxRecDepth 100000 in
set_option maxHeartbeats 1000000 in
theorem rec_Get_2 (s : ByteArray) (w : World) (hs : s.size ≤ 140737488351232) (s0 x1 s1 x2 s2 v : ByteArray) (e0 e1 e2 c : Int) (d : Bool)
    (h0 : numC s 0 1 = (2, s0, e0)) (h1 : takeC s0 e0 32 = (x1, s1, e1)) (h2 : takeC s1 e1 (max (s1.size : Int) 1) = (x2, s2, e2)) (he : entGet x2 = (d, v, c)) :
    Calls Try.prog 12 #[.string s] w fun e w' => e = .returned (.tuple #[.agg (recL (recFin s ⟨2, key32 x1, d, v, zero32, 0⟩ e2).1).toArray, .int .i64 (recFin s ⟨2, key32 x1, d, v, zero32, 0⟩ e2).2]) ∧ Nul w w' := by
  have hz := (zero_of_info zero_rec).1
  have hz0 : s0.size ≤ 140737488351232 := by have := numC_size s 0 1; rw [h0] at this; exact Nat.le_trans this hs
  have hz1 : s1.size ≤ 140737488351232 := by have := (takeC_size s0 e0 32).2; rw [h1] at this; exact Nat.le_trans this hz0
  have hx1 : x1.size ≤ 32 := by have := takeC_le s0 e0; rw [h1] at this; exact this
  have hvz : v.size ≤ 65536 := by have := entGet_size x2; rw [he] at this; exact this
  have hx2 : x2.size ≤ 140737488351232 := by have := (takeC_size s1 e1 (max (s1.size : Int) 1)).1; rw [h2] at this; exact Nat.le_trans this hz1
  have hk := key32_length hx1
  obtain ⟨k, hkk⟩ : ∃ k, key32 x1 = k := ⟨_, rfl⟩
  rw [hkk] at hk ⊢
  obtain ⟨r, hr⟩ : ∃ r : Rcd, r = ⟨2, k, d, v, zero32, 0⟩ := ⟨_, rfl⟩
  rw [← hr]
  have hrk : r.ok := by rw [hr]; exact ⟨hk, rfl⟩
  have HPut := hid (fun w => rec_Put r w hrk (by rw [hr]; show v.size ≤ _; omega))
  have Hk := hid hk
  have HR := hid hr
  have HZ := hid (And.intro hz0 (And.intro hz1 hx2))
  have HH := hid (And.intro h0 (And.intro h1 (And.intro h2 (And.intro he hkk))))
  have HQ := hid hrk
  have HB0 := hid (Blk.new w 28 (recL rzero))
  have Hs := hid hs
  have Hbk := hid (built_kind 2)
  clear hs hz0 hz1 hx1 hvz hx2 hk hkk hr hrk h0 h1 h2 he
  go_enter Try.func12, Try.ntmps12
  go_wp2_with fail
  refine (wide_On2 s _).mono ?_
  rintro e w1 ⟨rfl, hc1, hf1⟩
  have hbs : ((w.alloc (.cells (recL rzero).toArray 28)).heap.size) = w.heap.size + 1 := by simp
  rw [hbs] at hc1
  have H1 : Hid (CutAt w1 (w.heap.size + 1) s 0 ∧ Blk w1 w.heap.size 28 (recL rzero) ∧ Nul w w1) := hid ⟨hc1, HB0.out.nul hf1, ((Frm.refl (fun _ => False) w).alloc _).nul hf1⟩
  have Hlt := hid H1.out.1.lt
  clear hbs hc1 hf1
  have H2 : Hid (CutAt (w1.alloc (.cells #[.pointer (some ⟨w.heap.size + 1, 0, none⟩)] 67)) (w.heap.size + 1) s 0 ∧ Blk (w1.alloc (.cells #[.pointer (some ⟨w.heap.size + 1, 0, none⟩)] 67)) w.heap.size 28 (recL rzero) ∧ Nul w (w1.alloc (.cells #[.pointer (some ⟨w.heap.size + 1, 0, none⟩)] 67)) ∧ Blk (w1.alloc (.cells #[.pointer (some ⟨w.heap.size + 1, 0, none⟩)] 67)) w1.heap.size 67 [.pointer (some ⟨w.heap.size + 1, 0, none⟩)]) := hid ⟨Blk.alloc H1.out.1 _, H1.out.2.1.alloc _, H1.out.2.2.alloc _, Blk.new w1 _ [.pointer (some ⟨w.heap.size + 1, 0, none⟩)]⟩
  go_wp2_with fail
  have HN := hid (cut_Num (w.heap.size + 1) s 0 1 _ H2.out.1 Hs.out)
  rw [HH.out.1] at HN
  refine HN.out.mono ?_
  rintro e w3 ⟨rfl, hc3, hf3⟩
  have H3 : Hid (CutAt w3 (w.heap.size + 1) s0 e0 ∧ Blk w3 w.heap.size 28 (recL rzero) ∧ Nul w w3 ∧ Blk w3 w1.heap.size 67 [.pointer (some ⟨w.heap.size + 1, 0, none⟩)]) := hid ⟨hc3, H2.out.2.1.one hf3 (by omega), H2.out.2.2.1.one hf3 (.inl (by omega)), H2.out.2.2.2.one hf3 (by have := Hlt.out; omega)⟩
  have Hlt3 := hid (And.intro H3.out.2.2.2.lt (And.intro H3.out.2.1.lt H3.out.1.lt))
  clear hc3 hf3 HN
  go_wp2_with (first
    | (refine wpList_built rfl 28 _ rfl _ Hbk.out ?_)
    | (refine wpList_store_blk rfl 28 (.tmp 5) (.tmp 15) rfl w3.heap.size (recL ⟨2, zero32, false, ⟨#[]⟩, zero32, 0⟩) rfl rfl 28 (recL rzero) 68 (Blk.new w3 _ _) size_rec rfl rfl (recL_one _) ?_; intro w4 hB hO
       have H4 : Hid (CutAt w4 (w.heap.size + 1) s0 e0 ∧ Blk w4 w.heap.size 28 (recL rzero) ∧ Nul w w4 ∧ Blk w4 w1.heap.size 67 [.pointer (some ⟨w.heap.size + 1, 0, none⟩)] ∧ Blk w4 w3.heap.size 28 (recL ⟨2, zero32, false, ⟨#[]⟩, zero32, 0⟩)) := hid ⟨Blk.one (Blk.alloc H3.out.1 _) hO (by have := Hlt3.out; omega), (H3.out.2.1.alloc _).one hO (by have := Hlt3.out; omega), (H3.out.2.2.1.alloc _).one hO (.inl (by have := Hlt3.out; omega)), (H3.out.2.2.2.alloc _).one hO (by have := Hlt3.out; omega), hB⟩
       have c0 : w4.cell? ⟨w3.heap.size, 0, none⟩ = some (.int .i64 2) := H4.out.2.2.2.2.cell 0
       clear hB hO))
  have HG := hid (rec_Get1 w1.heap.size (w.heap.size + 1) s0 e0 w4 H4.out.2.2.2.1 H4.out.1 HZ.out.1)
  rw [HH.out.2.1] at HG
  refine HG.out.mono ?_
  rintro e w5 ⟨rfl, hc5, hf5⟩
  have H5 : Hid (CutAt w5 (w.heap.size + 1) s1 e1 ∧ Blk w5 w.heap.size 28 (recL rzero) ∧ Nul w w5 ∧ Blk w5 w1.heap.size 67 [.pointer (some ⟨w.heap.size + 1, 0, none⟩)] ∧ Blk w5 w3.heap.size 28 (recL ⟨2, zero32, false, ⟨#[]⟩, zero32, 0⟩)) := hid ⟨hc5, H4.out.2.1.one hf5 (by omega), H4.out.2.2.1.one hf5 (.inl (by omega)), H4.out.2.2.2.1.one hf5 (by have := Hlt.out; omega), H4.out.2.2.2.2.one hf5 (by have := Hlt3.out; omega)⟩
  clear hc5 hf5 HG c0
  rw [HH.out.2.2.2.2]
  have Hkl : Hid ((Try.prog.info? 23).map (·.size) = some (keyL k).length) := hid (by rw [size_key, keyL_length, Hk.out])
  have Hkn : Hid (1 + (keyL k).length ≤ (recL ⟨2, zero32, false, ⟨#[]⟩, zero32, 0⟩).length) := hid (by rw [keyL_length, Hk.out, recL_length ⟨rfl, rfl⟩]; omega)
  go_wp2_with (first
    | (refine wpList_store_part rfl 23 (.tmp 24) (.tmp 23) rfl w3.heap.size 1 (keyL k) rfl rfl 28 _ H5.out.2.2.2.2 Hkl.out Hkn.out (keyL_one _) ?_; intro w6 hB hO
       rw [recL_setKey ⟨rfl, rfl⟩ Hk.out] at hB
       have H6 : Hid (CutAt w6 (w.heap.size + 1) s1 e1 ∧ Blk w6 w.heap.size 28 (recL rzero) ∧ Nul w w6 ∧ Blk w6 w1.heap.size 67 [.pointer (some ⟨w.heap.size + 1, 0, none⟩)] ∧ Blk w6 w3.heap.size 28 (recL ⟨2, k, false, ⟨#[]⟩, zero32, 0⟩)) := hid ⟨Blk.one H5.out.1 hO (by have := Hlt3.out; omega), H5.out.2.1.one hO (by have := Hlt3.out; omega), H5.out.2.2.1.one hO (.inl (by have := Hlt3.out; omega)), H5.out.2.2.2.1.one hO (by have := Hlt3.out; omega), hB⟩
       clear hB hO))
  have HRest := hid (cut_Rest (w.heap.size + 1) s1 e1 w6.drew (show CutAt w6.drew (w.heap.size + 1) s1 e1 from H6.out.1))
  have HTake := hid (cut_Take (w.heap.size + 1) s1 e1 (max (s1.size : Int) 1) w6.drew (show CutAt w6.drew (w.heap.size + 1) s1 e1 from H6.out.1) HZ.out.2.1)
  rw [HH.out.2.2.1, show max (s1.size : Int) 1 = (if (s1.size : Int) < 1 then 1 else (s1.size : Int)) by split <;> omega] at HTake
  obtain ⟨mx, hmx⟩ : ∃ mx : Int, (if (s1.size : Int) < 1 then 1 else (s1.size : Int)) = mx := ⟨_, rfl⟩
  rw [hmx] at HTake
  have HE := hid (fun w => ent_Get x2 w HZ.out.2.2)
  rw [HH.out.2.2.2.1] at HE
  have HC6 : Hid (∀ w', One (w.heap.size + 1) w6.drew w' → w'.cell? ⟨w1.heap.size, 0, none⟩ = some (.pointer (some ⟨w.heap.size + 1, 0, none⟩)) ∧ Blk w' w.heap.size 28 (recL rzero) ∧ Nul w w' ∧ Blk w' w1.heap.size 67 [.pointer (some ⟨w.heap.size + 1, 0, none⟩)] ∧ Blk w' w3.heap.size 28 (recL ⟨2, k, false, ⟨#[]⟩, zero32, 0⟩)) := hid (fun w' hf => ⟨((H6.out.2.2.2.1.drew).one hf (by have := Hlt.out; omega)).cell 0, H6.out.2.1.drew.one hf (by omega), H6.out.2.2.1.drew.one hf (.inl (by omega)), (H6.out.2.2.2.1.drew).one hf (by have := Hlt.out; omega), H6.out.2.2.2.2.drew.one hf (by have := Hlt3.out; omega)⟩)
  go_region_held3 (fun w' => w'.cell? ⟨w1.heap.size, 0, none⟩ = some (.pointer (some ⟨w.heap.size + 1, 0, none⟩))) (first
    | exact (HC6.out _ (Frm.refl _ _)).1
    | exact HX9.out
    | exact H8.out.1
    | exact H7.out.1) (first
    | (go_at_call 43
       with_reducible refine HRest.out.mono ?_
       rintro e w7 ⟨rfl, hw⟩
       subst hw)
    | (go_at_call 41
       with_reducible refine HTake.out.mono ?_
       rintro e w7 ⟨rfl, hc7, hf7⟩
       have H7 := hid (HC6.out _ hf7)
       have H7c : Hid (CutAt w7 (w.heap.size + 1) s2 e2) := hid hc7
       clear hc7 hf7)
    | (go_at_call 42
       with_reducible refine (HE.out _).mono ?_
       rintro e w8 ⟨rfl, hf8⟩
       have H8 : Hid (w8.cell? ⟨w1.heap.size, 0, none⟩ = some (.pointer (some ⟨w.heap.size + 1, 0, none⟩)) ∧ CutAt w8 (w.heap.size + 1) s2 e2 ∧ Blk w8 w.heap.size 28 (recL rzero) ∧ Nul w w8 ∧ Blk w8 w1.heap.size 67 [.pointer (some ⟨w.heap.size + 1, 0, none⟩)] ∧ Blk w8 w3.heap.size 28 (recL ⟨2, k, false, ⟨#[]⟩, zero32, 0⟩)) := hid ⟨(H7.out.2.2.2.1.nul hf8).cell 0, Blk.nul H7c.out hf8, H7.out.2.1.nul hf8, H7.out.2.2.1.nul hf8, H7.out.2.2.2.1.nul hf8, H7.out.2.2.2.2.nul hf8⟩
       have c33 : w8.cell? ⟨w3.heap.size, 33, none⟩ = some (.bool false) := by rw [H8.out.2.2.2.2.2.cell, recL_dead ⟨Hk.out, rfl⟩]
       have c34 : w8.cell? ⟨w3.heap.size, 34, none⟩ = some (.string ⟨#[]⟩) := by rw [H8.out.2.2.2.2.2.cell, recL_val ⟨Hk.out, rfl⟩]
       have z33 := H8.out.2.2.2.2.2.frozen 33
       have z34 := H8.out.2.2.2.2.2.frozen 34
       have HX9 : Hid (((w8.setCell ⟨w3.heap.size, 33, none⟩ (.bool d)).setCell ⟨w3.heap.size, 34, none⟩ (.string v)).cell? ⟨w1.heap.size, 0, none⟩ = some (.pointer (some ⟨w.heap.size + 1, 0, none⟩))) := hid (((H8.out.2.2.2.2.1.far (by have := Hlt3.out; show w1.heap.size ≠ w3.heap.size; omega) _).far (by have := Hlt3.out; show w1.heap.size ≠ w3.heap.size; omega) _).cell 0)
       clear hf8))
  have H9 : Hid (CutAt ((w8.setCell ⟨w3.heap.size, 33, none⟩ (.bool d)).setCell ⟨w3.heap.size, 34, none⟩ (.string v)) (w.heap.size + 1) s2 e2 ∧ Blk ((w8.setCell ⟨w3.heap.size, 33, none⟩ (.bool d)).setCell ⟨w3.heap.size, 34, none⟩ (.string v)) w.heap.size 28 (recL rzero) ∧ Nul w ((w8.setCell ⟨w3.heap.size, 33, none⟩ (.bool d)).setCell ⟨w3.heap.size, 34, none⟩ (.string v)) ∧ ((w8.setCell ⟨w3.heap.size, 33, none⟩ (.bool d)).setCell ⟨w3.heap.size, 34, none⟩ (.string v)).cell? ⟨w1.heap.size, 0, none⟩ = some (.pointer (some ⟨w.heap.size + 1, 0, none⟩)) ∧ Blk ((w8.setCell ⟨w3.heap.size, 33, none⟩ (.bool d)).setCell ⟨w3.heap.size, 34, none⟩ (.string v)) w3.heap.size 28 (recL r)) := hid (by
    have hl3 := Hlt3.out
    refine ⟨(Blk.far H8.out.2.1 (by show w.heap.size + 1 ≠ w3.heap.size; omega) _).far (by show w.heap.size + 1 ≠ w3.heap.size; omega) _, (H8.out.2.2.1.far (by show w.heap.size ≠ w3.heap.size; omega) _).far (by show w.heap.size ≠ w3.heap.size; omega) _, (H8.out.2.2.2.1.setCell (.inl (by show w.heap.size ≤ w3.heap.size; omega)) _).setCell (.inl (by show w.heap.size ≤ w3.heap.size; omega)) _, HX9.out, ?_⟩
    have h := (H8.out.2.2.2.2.2.put 33 (.bool d)).put 34 (.string v)
    rw [recL_setDV ⟨Hk.out, rfl⟩] at h
    rw [HR.out]
    exact h)
  have hlt3 := Hlt3
  generalize ((w8.setCell ⟨w3.heap.size, 33, none⟩ (.bool d)).setCell ⟨w3.heap.size, 34, none⟩ (.string v)) = w9 at H9 ⊢
  have c4 := H9.out.2.2.2.1
  have HErr := hid (cut_Err (w.heap.size + 1) s2 e2 w9 H9.out.1)
  clear c33 c34 z33 z34 hmx
  go_wp2_with fail
  refine HErr.out.mono ?_
  rintro e w10 ⟨rfl, hw⟩
  subst hw
  have Hbz := hid built_zero
  have Hrl := hid (recL_length HQ.out)
  by_cases he2 : e2 = 0
  · have g1 : (e2 != 0) = false := by rw [he2]; rfl
    rcases recChk_cases r with ⟨hg, hc⟩ | ⟨hg, hc⟩
    · have HP2 : Hid (∀ w, Calls Try.prog 9 #[.agg (recL r).toArray] w fun e w' => e = .returned (.tuple #[.string (recS r), .int .i64 0]) ∧ Nul w w') := hid (fun w => by have := HPut.out w; rw [hg, hc] at this; exact this)
      by_cases hq : recS r = s
      · have Hfin : Hid (recFin s r e2 = (r, 0)) := hid (by unfold recFin; rw [if_neg (by simp [he2]), if_pos ⟨hg, hq⟩])
        have hb : ((recS r).toList == s.toList) = true := by rw [hq]; exact beq_self_eq_true _
        generalize recS r = z at HP2 hb
        clear hg hc hq he2
        go_wp2_with (first
          | (refine wpList_load_blk rfl 28 (.tmp 5) rfl w3.heap.size rfl 28 (recL r) 68 _ H9.out.2.2.2.2 rec_fields rfl size_rec Hrl.out ?_))
        refine (HP2.out _).mono ?_
        rintro e w10 ⟨rfl, hf⟩
        have H10 : Hid (Blk w10 w.heap.size 28 (recL rzero) ∧ Nul w w10 ∧ Blk w10 w3.heap.size 28 (recL r)) := hid ⟨H9.out.2.1.nul hf, H9.out.2.2.1.nul hf, H9.out.2.2.2.2.nul hf⟩
        clear hf
        go_wp2_with (first
          | (refine wpList_load_blk rfl 28 (.tmp 5) rfl w3.heap.size rfl 28 (recL r) 68 _ H10.out.2.2 rec_fields rfl size_rec Hrl.out ?_)
          | (refine wpList_store_blk rfl 28 (.tmp 2) (.tmp 67) rfl w.heap.size (recL r) rfl rfl 28 (recL rzero) 68 H10.out.1 size_rec Hrl.out rfl (recL_one _) ?_; intro w11 hB hO))
        exact bodyPost_ret (ret_rec2 rfl rfl hB rec_fields rfl size_rec Hrl.out) rfl ⟨by rw [Hfin.out]; rfl, H10.out.2.1.one hO (.inl (Nat.le_refl _))⟩
      · have Hfin : Hid (recFin s r e2 = (rzero, 6)) := hid (by unfold recFin; rw [if_neg (by simp [he2]), if_neg (fun h => hq h.2)])
        have hb : ((recS r).toList == s.toList) = false := toList_ne hq
        generalize recS r = z at HP2 hb
        clear hg hc hq he2
        go_wp2_with (first
          | (refine wpList_load_blk rfl 28 (.tmp 5) rfl w3.heap.size rfl 28 (recL r) 68 _ H9.out.2.2.2.2 rec_fields rfl size_rec Hrl.out ?_))
        refine (HP2.out _).mono ?_
        rintro e w10 ⟨rfl, hf⟩
        have H10 : Hid (Blk w10 w.heap.size 28 (recL rzero) ∧ Nul w w10 ∧ Blk w10 w3.heap.size 28 (recL r)) := hid ⟨H9.out.2.1.nul hf, H9.out.2.2.1.nul hf, H9.out.2.2.2.2.nul hf⟩
        clear hf
        go_wp2_with (first
          | (refine wpList_built rfl 28 _ rfl _ Hbz.out ?_)
          | (refine wpList_store_blk rfl 28 (.tmp 2) (.tmp 66) rfl w.heap.size (recL rzero) rfl rfl 28 (recL rzero) 68 H10.out.1 size_rec rfl rfl (recL_one _) ?_; intro w11 hB hO))
        exact bodyPost_ret (ret_rec2 rfl rfl hB rec_fields rfl size_rec rfl) rfl ⟨by rw [Hfin.out]; rfl, H10.out.2.1.one hO (.inl (Nat.le_refl _))⟩
    · have HP2 : Hid (∀ w, Calls Try.prog 9 #[.agg (recL r).toArray] w fun e w' => e = .returned (.tuple #[.string ⟨#[]⟩, .int .i64 2]) ∧ Nul w w') := hid (fun w => by have := HPut.out w; rw [hg, hc] at this; exact this)
      have Hfin : Hid (recFin s r e2 = (rzero, 6)) := hid (by unfold recFin; rw [if_neg (by simp [he2]), if_neg (fun h => by rw [hg] at h; cases h.1)])
      clear hg hc he2
      go_wp2_with (first
        | (refine wpList_load_blk rfl 28 (.tmp 5) rfl w3.heap.size rfl 28 (recL r) 68 _ H9.out.2.2.2.2 rec_fields rfl size_rec Hrl.out ?_))
      refine (HP2.out _).mono ?_
      rintro e w10 ⟨rfl, hf⟩
      have H10 : Hid (Blk w10 w.heap.size 28 (recL rzero) ∧ Nul w w10 ∧ Blk w10 w3.heap.size 28 (recL r)) := hid ⟨H9.out.2.1.nul hf, H9.out.2.2.1.nul hf, H9.out.2.2.2.2.nul hf⟩
      clear hf
      go_wp2_with (first
        | (refine wpList_built rfl 28 _ rfl _ Hbz.out ?_)
        | (refine wpList_store_blk rfl 28 (.tmp 2) (.tmp 66) rfl w.heap.size (recL rzero) rfl rfl 28 (recL rzero) 68 H10.out.1 size_rec rfl rfl (recL_one _) ?_; intro w11 hB hO))
      exact bodyPost_ret (ret_rec2 rfl rfl hB rec_fields rfl size_rec rfl) rfl ⟨by rw [Hfin.out]; rfl, H10.out.2.1.one hO (.inl (Nat.le_refl _))⟩
  · have g1 : (e2 != 0) = true := by simpa using he2
    have Hfin : Hid (recFin s r e2 = (rzero, e2)) := hid (by unfold recFin; rw [if_pos he2])
    clear he2
    go_wp2_with (first
      | (refine wpList_built rfl 28 _ rfl _ Hbz.out ?_)
      | (refine wpList_store_blk rfl 28 (.tmp 2) (.tmp 52) rfl w.heap.size (recL rzero) rfl rfl 28 (recL rzero) 68 H9.out.2.1 size_rec rfl rfl (recL_one _) ?_; intro w11 hB hO))
    exact bodyPost_ret (ret_rec2 rfl rfl hB rec_fields rfl size_rec rfl) rfl ⟨by rw [Hfin.out]; rfl, H9.out.2.2.1.one hO (.inl (Nat.le_refl _))⟩
end Go.Proofs.Ythocjhiapngacaa
