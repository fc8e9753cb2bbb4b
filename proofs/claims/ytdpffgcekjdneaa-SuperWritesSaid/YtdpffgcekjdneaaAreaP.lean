/-
  Plain: bytes of an area on a disk. No program in sight.
-/
import Derived.Test.YtdpffgcekjdneaaAreaA
import Derived.Test.YtdpffgcekjdneaaBoth
set_option linter.all false
namespace Go.Proofs.Ytdpffgcekjdneaa

/-- In how many sectors the first bytes lie. -/
def sN (len : Nat) : Nat := (len + 127) / 128
theorem secs_0 (len : Nat) : secs 0 len = sN len := by
  unfold secs sN
  split <;> omega

/-- What sectors read, one behind the other. -/
def rdCat (d : Dk) (f : Int) : Nat → List UInt8
  | 0 => []
  | k + 1 => rdCat d f k ++ (d.read (f + k)).1.data.toList
/-- The first bytes from a sector on. -/
def Dk.head (d : Dk) (f : Int) (len : Nat) : ByteArray := ⟨((rdCat d f (sN len)).take len).toArray⟩
/-- What reading bytes of an area answers. -/
def Dk.aread (d : Dk) (a len : Int) : ByteArray × Int := if d.chk a len = 0 then (d.head (d.first a) len.toNat, 0) else (ByteArray.empty, d.chk a len)

theorem lastW_size (s : Int) : ∀ (l : List (Int × ByteArray)) (x : ByteArray), x.size = 128 → (∀ p ∈ l, p.2.size = 128) → (lastW s l x).size = 128
  | [], x, hx, _ => hx
  | p :: l, x, hx, h => by
    show (lastW s l (if p.1 = s then p.2 else x)).size = 128
    refine lastW_size s l _ ?_ (fun q hq => h q (List.mem_cons_of_mem _ hq))
    split
    · exact h p (List.mem_cons_self ..)
    · exact hx

theorem read_ok {d : Dk} (hd : d.down = false) {s : Int} (h0 : 0 ≤ s) (h1 : s < d.n) : d.read s = (lastW s d.wait (fullS (d.th s)), 0) := by
  unfold Dk.read
  rw [hd, if_neg (by decide), if_neg (by omega)]
theorem read_size {d : Dk} {N : Nat} (hok : d.okn N) (hf : d.full) (hd : d.down = false) {s : Int} (h0 : 0 ≤ s) (h1 : s < d.n) : (d.read s).1.size = 128 := by
  rw [read_ok hd h0 h1]
  exact lastW_size s d.wait _ (fullS_size _ (hok.2.2.2.2.1 s)) (fun p hp => (hf p hp).1)

theorem rdCat_length {d : Dk} {N : Nat} (hok : d.okn N) (hf : d.full) (hd : d.down = false) {f : Int} (h0 : 0 ≤ f) : ∀ k : Nat, f + k ≤ d.n → (rdCat d f k).length = 128 * k
  | 0, _ => rfl
  | k + 1, h => by
    have hs := read_size hok hf hd (s := f + k) (by omega) (by omega)
    have ih := rdCat_length hok hf hd h0 k (by omega)
    show ((rdCat d f k) ++ (d.read (f + k)).1.data.toList).length = _
    rw [List.length_append, ih]
    have : (d.read (f + k)).1.data.toList.length = (d.read (f + k)).1.size := rfl
    omega

/-- What is right about bytes of an area. -/
theorem chk_ok {d : Dk} {a len : Int} (h : d.chk a len = 0) : d.down = false ∧ (a = 0 ∨ a = 1) ∧ 0 < d.cnt ∧ d.first a = 2 + a * d.cnt ∧ 0 ≤ len ∧ len ≤ ((128 * d.cnt : Nat) : Int) := by
  unfold Dk.chk at h
  split at h
  · omega
  · rename_i hd
    split at h
    · omega
    · rename_i h1
      have hf : ¬ d.first a < 0 := fun e => h1 (.inl e)
      have he : ¬ (a < 0 ∨ 1 < a ∨ d.cnt = 0) := fun e => hf (by unfold Dk.first; rw [if_pos e]; omega)
      refine ⟨by simpa using hd, by omega, by omega, ?_, by omega, by omega⟩
      unfold Dk.first
      rw [if_neg he]
theorem cnt_n (d : Dk) : 2 * d.cnt + 2 ≤ d.n ∨ d.cnt = 0 := by unfold Dk.cnt; omega
theorem first_in {d : Dk} {a : Int} (ha : a = 0 ∨ a = 1) (hc : 0 < d.cnt) (hf : d.first a = 2 + a * d.cnt) : 2 ≤ d.first a ∧ d.first a + d.cnt ≤ d.n := by
  have := cnt_n d
  rw [hf]
  rcases ha with rfl | rfl <;> omega
theorem sN_le {len c : Nat} (h : len ≤ 128 * c) : sN len ≤ c := by unfold sN; omega
theorem sN_ge (len : Nat) : len ≤ 128 * sN len := by unfold sN; omega

theorem head_size {d : Dk} {N : Nat} (hok : d.okn N) (hf : d.full) {a : Int} {len : Nat} (h : d.chk a len = 0) : (d.head (d.first a) len).size = len := by
  obtain ⟨hd, ha, hc, hfi, hl0, hl⟩ := chk_ok h
  have hin := first_in ha hc hfi
  have hs := sN_le (len := len) (c := d.cnt) (by omega)
  have hL := rdCat_length hok hf hd (f := d.first a) (by omega) (sN len) (by omega)
  have hg := sN_ge len
  show ((rdCat d (d.first a) (sN len)).take len).toArray.size = len
  simp [hL]
  omega

/-- Writes one behind the other, till one is not OK. -/
def Dk.writes (d : Dk) : List (Int × ByteArray) → Int × Dk
  | [] => (0, d)
  | p :: l => if (d.write p.1 p.2).1 = 0 then Dk.writes (d.write p.1 p.2).2 l else d.write p.1 p.2
/-- The part of a sector. -/
def partS (all : ByteArray) (i : Nat) : ByteArray := all.extract (i * 128) (min ((i + 1) * 128) all.size)
/-- Writes of so many sectors' parts. -/
def parts (f : Int) (from_ : Nat) (all : ByteArray) (k : Nat) : List (Int × ByteArray) := (List.range k).map fun (i : Nat) => (f + from_ + i, partS all (from_ + i))
/-- What an append answers, and the disk behind it. -/
def Dk.append (d : Dk) (a len : Int) (s : ByteArray) : Int × Dk :=
  if d.chk a len = 0 then
    if ((128 * d.cnt : Nat) : Int) - len < s.size then (13, d)
    else d.writes (parts (d.first a) (len.toNat / 128) (d.head (d.first a) len.toNat ++ s) (secs len s.size).toNat)
  else (d.chk a len, d)

theorem write_n (d : Dk) (s : Int) (x : ByteArray) : (d.write s x).2.n = d.n := by
  unfold Dk.write
  split
  · rfl
  · split
    · rfl
    · split
      · rfl
      · exact crash_n _
theorem parts_length (f : Int) (g : Nat) (all : ByteArray) (k : Nat) : (parts f g all k).length = k := by simp [parts]
theorem parts_get (f : Int) (g : Nat) (all : ByteArray) (k i : Nat) (h : i < k) : (parts f g all k)[i]? = some (f + g + i, partS all (g + i)) := by simp [parts, h]
theorem parts_drop (f : Int) (g : Nat) (all : ByteArray) (k i : Nat) (h : i < k) : (parts f g all k).drop i = (f + g + i, partS all (g + i)) :: (parts f g all k).drop (i + 1) := by
  have hl : i < (parts f g all k).length := by rw [parts_length]; exact h
  rw [List.drop_eq_getElem_cons hl]
  congr 1
  have := parts_get f g all k i h
  rw [List.getElem?_eq_getElem hl] at this
  injection this
end Go.Proofs.Ytdpffgcekjdneaa
