/-
  Walks: records of parts.
-/
import Derived.Test.YthocjhiapngacaaRecE
import Derived.Deep.WholeRow
set_option linter.all false
namespace Go.Proofs.Ythocjhiapngacaa
open Go.RowKit

theorem Blk.setRow {w : World} {g : Nat} {t : TypeId} {old cs : List Value} (h : Blk w g t old) : Blk (w.setRow g cs.toArray) g t cs := setRow_heap w g old.toArray cs.toArray t _ h
theorem Blk.rowFar {w : World} {g b : Nat} {t : TypeId} {cs : List Value} (h : Blk w g t cs) (hb : g ≠ b) (c : Array Value) : Blk (w.setRow b c) g t cs := by
  rw [Blk] at h ⊢
  rw [← h]
  simp only [World.setRow, Array.getElem?_modify]
  rw [if_neg (fun e => hb (Eq.symm e))]
theorem Frm.setRow {S : Nat → Prop} {a w : World} (h : Frm S a w) {b : Nat} (hb : a.heap.size ≤ b ∨ S b) (c : Array Value) : Frm S a (w.setRow b c) :=
  ⟨h.os, h.tape, h.output, by simpa using h.size, fun k hk hn => by
    have hne : k ≠ b := by
      rintro rfl
      rcases hb with hb | hb
      · omega
      · exact hn hb
    rw [← h.at_ k hk hn]
    simp only [World.setRow, Array.getElem?_modify]
    rw [if_neg (fun e => hne (Eq.symm e))]⟩

def rzero : Rcd := ⟨0, zero32, false, ⟨#[]⟩, zero32, 0⟩
theorem zero_rec : (Try.prog.info? 28).map (fun i => (i.zero, i.size)) = some (some (.agg (recL rzero).toArray), 68) := by kernel_rfl
theorem zero_key : (Try.prog.info? 23).map (fun i => (i.zero, i.size)) = some (some (.agg (keyL zero32).toArray), 32) := by kernel_rfl
theorem sizeA {t : TypeId} {n : Nat} {cs : List Value} (h : (Try.prog.info? t).map (·.size) = some n) (hc : cs.length = n) : (Try.prog.info? t).map (·.size) = some cs.toArray.size := by rw [h, List.size_toArray, hc]

theorem wpList_built {P : Program} {ops : Array Oper} {rest : List Oper} {o : Oper} {a : Act} {w : World} {Q : Exit → Act → World → Prop} (hg : o.guard = none) (t : TypeId) (parts : Array (Nat × Operand)) (ho : o.op = .build t parts) (cs : Array Value)
    (hb : P.built t (parts.toList.map fun p => (p.1, a.eval p.2)) = some cs) (h : wpList P ops Q rest (a.put o.dst (.agg cs)) w) : wpList P ops Q (o :: rest) a w := by
  have hb' : P.built t (parts.map fun (i, x) => (i, a.eval x)).toList = some cs := by
    rw [Array.toList_map]
    exact hb
  exact wpList_build hg t parts ho (by rw [hb']; rfl) (by rw [hb']; exact h)
theorem wpList_load_blk {P : Program} {ops : Array Oper} {rest : List Oper} {o : Oper} {a : Act} {w : World} {Q : Exit → Act → World → Prop} (hgd : o.guard = none) (ty : TypeId) (x : Operand) (ho : o.op = .load ty x)
    (g : Nat) (hx : a.eval x = .pointer (some ⟨g, 0, none⟩)) (t : TypeId) (cs : List Value) (n : Nat) (d : TypeDesc) (hb : Blk w g t cs)
    (hu : P.underlying ty = some d) (hd : d.isRow = true) (hi : (P.info? ty).map (·.size) = some n) (hn : cs.length = n)
    (h : wpList P ops Q rest (a.put o.dst (.agg cs.toArray)) w) : wpList P ops Q (o :: rest) a w :=
  wpList_load_row hgd ty x ho g hx t cs.toArray (0, 0) d hb hu (by cases d <;> first | rfl | cases hd) (by rw [hi, List.size_toArray, hn]) h
theorem wpList_store_blk {P : Program} {ops : Array Oper} {rest : List Oper} {o : Oper} {a : Act} {w : World} {Q : Exit → Act → World → Prop} (hgd : o.guard = none) (ty : TypeId) (x y : Operand) (ho : o.op = .store ty x y)
    (g : Nat) (cs : List Value) (hx : a.eval x = .pointer (some ⟨g, 0, none⟩)) (hy : a.eval y = .agg cs.toArray) (t : TypeId) (old : List Value) (n : Nat) (hb : Blk w g t old) (hi : (P.info? ty).map (·.size) = some n) (hn : cs.length = n) (ho' : old.length = n)
    (h1 : ∀ v ∈ cs, v.oneCell' = true)
    (h : ∀ w', Blk w' g t cs → One g w w' → wpList P ops Q rest (a.put o.dst undef) w') : wpList P ops Q (o :: rest) a w :=
  wpList_store_row hgd ty x y ho g cs.toArray hx hy t old.toArray hb (by rw [hi, List.size_toArray, hn]) (by rw [List.size_toArray, List.size_toArray, hn, ho']) (all_oneCell_toArray h1) (h _ hb.setRow ((One.refl g w).setRow (.inr rfl) _))
theorem ret_rec {P : Program} {fn : Func} {p : Tmp} {ty : TypeId} (hr : fn.results = #[.cell p ty]) {tmps : Array Value} {w : World} {g : Nat} {t : TypeId} {cs : List Value} {n : Nat} {d : TypeDesc}
    (hp : tmps.getD p undef = .pointer (some ⟨g, 0, none⟩)) (hb : Blk w g t cs) (hu : P.underlying ty = some d) (hd : d.isRow = true) (hi : (P.info? ty).map (·.size) = some n) (hn : cs.length = n) : (results fn tmps).run P w = .ok (.agg cs.toArray) w :=
  results_cell_row hr tmps w g t cs.toArray (0, 0) d hp hb hu (by cases d <;> first | rfl | cases hd) (by rw [hi, List.size_toArray, hn])

set_option maxRecDepth 100000 in
set_option maxHeartbeats 1000000 in
theorem rec_Set (k : List UInt8) (d : Bool) (v : ByteArray) (w : World) (hk : k.length = 32) :
    Calls Try.prog 15 #[.agg (keyL k).toArray, .agg #[.bool d, .string v]] w fun e w' => e = .returned (.agg (recL ⟨1, k, d, v, zero32, 0⟩).toArray) ∧ Nul w w' := by
  have hz := (zero_of_info zero_rec).1
  have hkl := hid (show (keyL k).length = 32 by rw [keyL_length, hk])
  have hok : (⟨1, k, d, v, zero32, 0⟩ : Rcd).ok := ⟨hk, rfl⟩
  have hbl := hid (built_key 1 k d v hk)
  have HK : Hid (∀ o1 o2, Blk (((w.alloc (.cells (keyL k).toArray 23)).alloc o1).alloc o2) w.heap.size 23 (keyL k)) := hid (fun o1 o2 => ((Blk.new w 23 (keyL k)).alloc o1).alloc o2)
  have HR : Hid (∀ o1 o2, Blk (((w.alloc o1).alloc o2).alloc (.cells (recL rzero).toArray 28)) (w.heap.size + 1 + 1) 28 (recL rzero)) := hid (fun o1 o2 => Blk.new_at ((w.alloc o1).alloc o2) 28 (recL rzero) (by simp))
  have HW : Hid (∀ o1 o2 o3, Nul w (((w.alloc o1).alloc o2).alloc o3)) := hid (fun o1 o2 o3 => (((Frm.refl _ w).alloc o1).alloc o2).alloc o3)
  go_enter Try.func15, Try.ntmps15
  go_wp2_with (first
    | (with_reducible refine wpList_load_blk rfl 23 (.tmp 2) rfl w.heap.size rfl 23 (keyL k) 32 _ (HK.out _ _) key_array rfl size_key hkl.out ?_)
    | (refine wpList_built rfl 28 _ rfl _ hbl.out ?_)
    | (refine wpList_store_blk rfl 28 (.tmp 4) (.tmp 7) rfl (w.heap.size + 1 + 1) (recL ⟨1, k, d, v, zero32, 0⟩) rfl rfl 28 (recL rzero) 68 (HR.out _ _) size_rec (recL_length hok) (recL_length ⟨rfl, rfl⟩) (recL_one _) ?_; intro w' hB hO))
  refine bodyPost_ret (ret_rec rfl rfl hB rec_fields rfl size_rec (recL_length hok)) rfl ⟨rfl, (HW.out _ _ _).one hO (.inl (by omega))⟩
set_option maxRecDepth 100000 in
set_option maxHeartbeats 1000000 in
theorem rec_Prev (k : List UInt8) (d : Bool) (v : ByteArray) (w : World) (hk : k.length = 32) :
    Calls Try.prog 16 #[.agg (keyL k).toArray, .agg #[.bool d, .string v]] w fun e w' => e = .returned (.agg (recL ⟨2, k, d, v, zero32, 0⟩).toArray) ∧ Nul w w' := by
  have hz := (zero_of_info zero_rec).1
  have hkl := hid (show (keyL k).length = 32 by rw [keyL_length, hk])
  have hok : (⟨2, k, d, v, zero32, 0⟩ : Rcd).ok := ⟨hk, rfl⟩
  have hbl := hid (built_key 2 k d v hk)
  have HK : Hid (∀ o1 o2, Blk (((w.alloc (.cells (keyL k).toArray 23)).alloc o1).alloc o2) w.heap.size 23 (keyL k)) := hid (fun o1 o2 => ((Blk.new w 23 (keyL k)).alloc o1).alloc o2)
  have HR : Hid (∀ o1 o2, Blk (((w.alloc o1).alloc o2).alloc (.cells (recL rzero).toArray 28)) (w.heap.size + 1 + 1) 28 (recL rzero)) := hid (fun o1 o2 => Blk.new_at ((w.alloc o1).alloc o2) 28 (recL rzero) (by simp))
  have HW : Hid (∀ o1 o2 o3, Nul w (((w.alloc o1).alloc o2).alloc o3)) := hid (fun o1 o2 o3 => (((Frm.refl _ w).alloc o1).alloc o2).alloc o3)
  go_enter Try.func16, Try.ntmps16
  go_wp2_with (first
    | (with_reducible refine wpList_load_blk rfl 23 (.tmp 2) rfl w.heap.size rfl 23 (keyL k) 32 _ (HK.out _ _) key_array rfl size_key hkl.out ?_)
    | (refine wpList_built rfl 28 _ rfl _ hbl.out ?_)
    | (refine wpList_store_blk rfl 28 (.tmp 4) (.tmp 7) rfl (w.heap.size + 1 + 1) (recL ⟨2, k, d, v, zero32, 0⟩) rfl rfl 28 (recL rzero) 68 (HR.out _ _) size_rec (recL_length hok) (recL_length ⟨rfl, rfl⟩) (recL_one _) ?_; intro w' hB hO))
  refine bodyPost_ret (ret_rec rfl rfl hB rec_fields rfl size_rec (recL_length hok)) rfl ⟨rfl, (HW.out _ _ _).one hO (.inl (by omega))⟩
set_option maxRecDepth 100000 in
set_option maxHeartbeats 1000000 in
theorem rec_Roll (k : List UInt8) (w : World) (hk : k.length = 32) :
    Calls Try.prog 17 #[.agg (keyL k).toArray] w fun e w' => e = .returned (.agg (recL ⟨3, zero32, false, ⟨#[]⟩, k, 0⟩).toArray) ∧ Nul w w' := by
  have hz := (zero_of_info zero_rec).1
  have hkl := hid (show (keyL k).length = 32 by rw [keyL_length, hk])
  have hok : (⟨3, zero32, false, ⟨#[]⟩, k, 0⟩ : Rcd).ok := ⟨rfl, hk⟩
  have hbl := hid (built_sum 3 k hk)
  have HK : Hid (∀ o1, Blk ((w.alloc (.cells (keyL k).toArray 26)).alloc o1) w.heap.size 26 (keyL k)) := hid (fun o1 => (Blk.new w 26 (keyL k)).alloc o1)
  have HR : Hid (∀ o1, Blk ((w.alloc o1).alloc (.cells (recL rzero).toArray 28)) (w.heap.size + 1) 28 (recL rzero)) := hid (fun o1 => Blk.new_at (w.alloc o1) 28 (recL rzero) (by simp))
  have HW : Hid (∀ o1 o2, Nul w ((w.alloc o1).alloc o2)) := hid (fun o1 o2 => ((Frm.refl _ w).alloc o1).alloc o2)
  go_enter Try.func17, Try.ntmps17
  go_wp2_with (first
    | (with_reducible refine wpList_load_blk rfl 26 (.tmp 1) rfl w.heap.size rfl 26 (keyL k) 32 _ (HK.out _) sum_array rfl size_sum hkl.out ?_)
    | (refine wpList_built rfl 28 _ rfl _ hbl.out ?_)
    | (refine wpList_store_blk rfl 28 (.tmp 2) (.tmp 4) rfl (w.heap.size + 1) (recL ⟨3, zero32, false, ⟨#[]⟩, k, 0⟩) rfl rfl 28 (recL rzero) 68 (HR.out _) size_rec (recL_length hok) (recL_length ⟨rfl, rfl⟩) (recL_one _) ?_; intro w' hB hO))
  refine bodyPost_ret (ret_rec rfl rfl hB rec_fields rfl size_rec (recL_length hok)) rfl ⟨rfl, (HW.out _ _).one hO (.inl (by omega))⟩
set_option maxRecDepth 100000 in
set_option maxHeartbeats 1000000 in
theorem rec_Frozen (k : List UInt8) (w : World) (hk : k.length = 32) :
    Calls Try.prog 18 #[.agg (keyL k).toArray] w fun e w' => e = .returned (.agg (recL ⟨4, zero32, false, ⟨#[]⟩, k, 0⟩).toArray) ∧ Nul w w' := by
  have hz := (zero_of_info zero_rec).1
  have hkl := hid (show (keyL k).length = 32 by rw [keyL_length, hk])
  have hok : (⟨4, zero32, false, ⟨#[]⟩, k, 0⟩ : Rcd).ok := ⟨rfl, hk⟩
  have hbl := hid (built_sum 4 k hk)
  have HK : Hid (∀ o1, Blk ((w.alloc (.cells (keyL k).toArray 26)).alloc o1) w.heap.size 26 (keyL k)) := hid (fun o1 => (Blk.new w 26 (keyL k)).alloc o1)
  have HR : Hid (∀ o1, Blk ((w.alloc o1).alloc (.cells (recL rzero).toArray 28)) (w.heap.size + 1) 28 (recL rzero)) := hid (fun o1 => Blk.new_at (w.alloc o1) 28 (recL rzero) (by simp))
  have HW : Hid (∀ o1 o2, Nul w ((w.alloc o1).alloc o2)) := hid (fun o1 o2 => ((Frm.refl _ w).alloc o1).alloc o2)
  go_enter Try.func18, Try.ntmps18
  go_wp2_with (first
    | (with_reducible refine wpList_load_blk rfl 26 (.tmp 1) rfl w.heap.size rfl 26 (keyL k) 32 _ (HK.out _) sum_array rfl size_sum hkl.out ?_)
    | (refine wpList_built rfl 28 _ rfl _ hbl.out ?_)
    | (refine wpList_store_blk rfl 28 (.tmp 2) (.tmp 4) rfl (w.heap.size + 1) (recL ⟨4, zero32, false, ⟨#[]⟩, k, 0⟩) rfl rfl 28 (recL rzero) 68 (HR.out _) size_rec (recL_length hok) (recL_length ⟨rfl, rfl⟩) (recL_one _) ?_; intro w' hB hO))
  refine bodyPost_ret (ret_rec rfl rfl hB rec_fields rfl size_rec (recL_length hok)) rfl ⟨rfl, (HW.out _ _).one hO (.inl (by omega))⟩
set_option maxRecDepth 100000 in
set_option maxHeartbeats 1000000 in
theorem rec_Epoch (n : Int) (w : World) :
    Calls Try.prog 19 #[.int .i64 n] w fun e w' => e = .returned (.agg (recL ⟨5, zero32, false, ⟨#[]⟩, zero32, n⟩).toArray) ∧ Nul w w' := by
  have hz := (zero_of_info zero_rec).1
  have hok : (⟨5, zero32, false, ⟨#[]⟩, zero32, n⟩ : Rcd).ok := ⟨rfl, rfl⟩
  have hbl := hid (built_n 5 n)
  have HR : Hid (Blk (w.alloc (.cells (recL rzero).toArray 28)) w.heap.size 28 (recL rzero)) := hid (Blk.new w 28 (recL rzero))
  have HW : Hid (∀ o1, Nul w (w.alloc o1)) := hid (fun o1 => (Frm.refl _ w).alloc o1)
  go_enter Try.func19, Try.ntmps19
  go_wp2_with (first
    | (refine wpList_built rfl 28 _ rfl _ hbl.out ?_)
    | (refine wpList_store_blk rfl 28 (.tmp 2) (.tmp 4) rfl w.heap.size (recL ⟨5, zero32, false, ⟨#[]⟩, zero32, n⟩) rfl rfl 28 (recL rzero) 68 HR.out size_rec (recL_length hok) (recL_length ⟨rfl, rfl⟩) (recL_one _) ?_; intro w' hB hO))
  refine bodyPost_ret (ret_rec rfl rfl hB rec_fields rfl size_rec (recL_length hok)) rfl ⟨rfl, (HW.out _).one hO (.inl (by omega))⟩
end Go.Proofs.Ythocjhiapngacaa
