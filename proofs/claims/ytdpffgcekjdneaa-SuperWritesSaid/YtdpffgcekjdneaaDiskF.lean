/-
  Walks: a disk's write, whole; a nil disk.
-/
import Derived.Test.YtdpffgcekjdneaaDiskE
set_option linter.all false
namespace Go.Proofs.Ytdpffgcekjdneaa
open Go.RowKit

theorem DiskAt.widen {w : World} {F G : Nat → Prop} {b : Nat} {d : Dk} (h : DiskAt w F G b d) : DiskAt w (ext F w w) G b d := by
  obtain ⟨bm, vw, A, c, h1, h2, h3, h4, h5, h6, h7, h8, h9⟩ := h
  refine ⟨bm, vw, A, c, .inl h1, .inl h2, h3, h4, h5, fun k hk => .inl (h6 k hk), h7, fun k hk => ?_, fun k hk => ?_⟩
  · rcases hk with hk | hk
    · exact h8 k hk
    · exact hk.2
  · rcases hk with hk | hk
    · exact h9 k hk
    · omega

set_option maxRecDepth 100000 in
set_option maxHeartbeats 1000000 in
theorem disk_Write (F G : Nat → Prop) (b : Nat) (d : Dk) (s : Int) (x : ByteArray) (w : World) (h : DiskAt w F G b d) (hok : d.ok) (hG : ∀ k, G k → k < w.heap.size) :
    Calls Try.prog 17 #[.pointer (some ⟨b, 0, none⟩), .int .i64 s, .string x] w fun e w' => e = .returned (.int .i64 (d.write s x).1) ∧ DiskAt w' (ext F w w') G b (d.write s x).2 ∧ Frm F w w' := by
  cases hd : d.down with
  | true =>
    have hup := disk_up F G b d w h
    rw [hd] at hup
    have H := hid h
    have HD := hid (show d.write s x = (12, d) by unfold Dk.write; rw [hd]; rfl)
    clear h hd hok hG
    go_enter Try.func17, Try.ntmps17
    go_wp2_with fail
    refine hup.mono ?_
    rintro e w1 ⟨rfl, rfl⟩
    go_wp2_with fail
    go_ret
    rw [HD.out]
    exact ⟨rfl, H.out.widen, Frm.refl _ _⟩
  | false =>
    by_cases hs0 : s < 0
    · have hup := disk_up F G b d w h
      rw [hd] at hup
      have H := hid h
      have HD := hid (show d.write s x = (3, d) by unfold Dk.write; rw [hd, if_neg (by decide), if_pos (.inl hs0)])
      clear h hd hok hG
      go_enter Try.func17, Try.ntmps17
      go_wp2_with fail
      refine hup.mono ?_
      rintro e w1 ⟨rfl, rfl⟩
      go_wp2_with fail
      go_ret
      rw [HD.out]
      exact ⟨rfl, H.out.widen, Frm.refl _ _⟩
    · by_cases hsn : (d.n : Int) ≤ s
      · have hup := disk_up F G b d w h
        rw [hd] at hup
        have H := hid h
        have HD := hid (show d.write s x = (3, d) by unfold Dk.write; rw [hd, if_neg (by decide), if_pos (.inr hsn)])
        have c0 : w.cell? ⟨b, 0, none⟩ = some (.int .i64 d.n) := by
          obtain ⟨bm, vw, A, c, hV⟩ := h
          exact hV.2.2.1.cell 0
        clear h hd hok hG
        go_enter Try.func17, Try.ntmps17
        go_wp2_with fail
        refine hup.mono ?_
        rintro e w1 ⟨rfl, rfl⟩
        go_wp2_with fail
        go_ret
        rw [HD.out]
        exact ⟨rfl, H.out.widen, Frm.refl _ _⟩
      · by_cases hx : 128 < x.size
        · have hup := disk_up F G b d w h
          rw [hd] at hup
          have H := hid h
          have HD := hid (show d.write s x = (4, d) by unfold Dk.write; rw [hd, if_neg (by decide), if_neg (by omega), if_pos hx])
          have c0 : w.cell? ⟨b, 0, none⟩ = some (.int .i64 d.n) := by
            obtain ⟨bm, vw, A, c, hV⟩ := h
            exact hV.2.2.1.cell 0
          clear h hd hok hG
          go_enter Try.func17, Try.ntmps17
          go_wp2_with fail
          refine hup.mono ?_
          rintro e w1 ⟨rfl, rfl⟩
          go_wp2_with fail
          go_ret
          rw [HD.out]
          exact ⟨rfl, H.out.widen, Frm.refl _ _⟩
        · obtain ⟨k, rfl⟩ : ∃ k : Nat, s = (k : Int) := ⟨s.toNat, by omega⟩
          have HD : d.write k x = ((if ({ d with wait := d.wait ++ [((k : Int), fullS x)] } : Dk).crash.1 then 12 else 0), ({ d with wait := d.wait ++ [((k : Int), fullS x)] } : Dk).crash.2) := by
            unfold Dk.write; rw [hd, if_neg (by decide), if_neg (by omega), if_neg hx]
          rw [HD]
          exact disk_Write_go F G b d k x w h hok hG hd (by omega) (by omega) _ rfl

set_option maxHeartbeats 400000 in
theorem disk_Read_nil (s : Int) (w : World) :
    Calls Try.prog 19 #[.pointer none, .int .i64 s] w fun e w' => e = .returned (.tuple #[.string ⟨#[]⟩, .int .i64 1]) ∧ w = w' := by
  go_enter Try.func19, Try.ntmps19
  go_wp2_with fail
  refine (disk_up_nil _).mono ?_
  rintro e w1 ⟨rfl, rfl⟩
  go_wp2_with fail
  go_ret2
  exact ⟨rfl, rfl⟩
set_option maxHeartbeats 400000 in
theorem disk_Write_nil (s : Int) (x : ByteArray) (w : World) :
    Calls Try.prog 17 #[.pointer none, .int .i64 s, .string x] w fun e w' => e = .returned (.int .i64 1) ∧ w = w' := by
  go_enter Try.func17, Try.ntmps17
  go_wp2_with fail
  refine (disk_up_nil _).mono ?_
  rintro e w1 ⟨rfl, rfl⟩
  go_wp2_with fail
  go_ret
  exact ⟨rfl, rfl⟩
set_option maxHeartbeats 400000 in
theorem disk_Flush_nil (w : World) :
    Calls Try.prog 16 #[.pointer none] w fun e w' => e = .returned (.int .i64 1) ∧ w = w' := by
  go_enter Try.func16, Try.ntmps16
  go_wp2_with fail
  refine (disk_up_nil _).mono ?_
  rintro e w1 ⟨rfl, rfl⟩
  go_wp2_with fail
  go_ret
  exact ⟨rfl, rfl⟩
set_option maxHeartbeats 400000 in
theorem disk_Power_nil (w : World) :
    Calls Try.prog 18 #[.pointer none] w fun e w' => e = .returned (.tuple #[]) ∧ w = w' := by
  go_enter Try.func18, Try.ntmps18
  go_wp2
  go_end0
  exact ⟨rfl, rfl⟩
end Go.Proofs.Ytdpffgcekjdneaa
