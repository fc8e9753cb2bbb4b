/-
  Plain: a disk as a value: sectors, writes that wait, crashes. No program in sight.
-/
import Derived.Test.YtdpffgcekjdneaaMem
set_option linter.all false
namespace Go.Proofs.Ytdpffgcekjdneaa

/-- So many zero bytes. -/
def zeroS (n : Nat) : ByteArray := ⟨(List.replicate n (0 : UInt8)).toArray⟩
/-- A sector's bytes. -/
def fullS (s : ByteArray) : ByteArray := s ++ zeroS (128 - s.size)

theorem zeroS_size (n : Nat) : (zeroS n).size = n := by simp [zeroS, ByteArray.size]
theorem fullS_size (s : ByteArray) (h : s.size ≤ 128) : (fullS s).size = 128 := by
  simp only [fullS, ByteArray.size_append, zeroS_size]; omega
theorem fullS_full (s : ByteArray) (h : s.size = 128) : fullS s = s := by
  have e : zeroS (128 - s.size) = ByteArray.empty := by rw [h]; rfl
  rw [fullS, e]; simp

/-- A disk. -/
structure Dk where
  n : Nat
  th : Int → ByteArray
  wait : List (Int × ByteArray)
  cr : List (Int × List UInt8)
  ops : Nat
  down : Bool

/-- Is a place's bit 1? -/
def mbit (m : List UInt8) (i : Nat) : Bool := decide (m ≠ []) && decide ((m.getD (i / 8 % m.length) 0).toNat / 2 ^ (i % 8) % 2 = 1)

/-- One sector more. -/
def updTh (th : Int → ByteArray) (s : Int) (x : ByteArray) : Int → ByteArray := fun k => if k = s then x else th k

/-- Writes stand, of which something is so. -/
def standL (so : Nat → Bool) : Nat → List (Int × ByteArray) → (Int → ByteArray) → (Int → ByteArray)
  | _, [], th => th
  | i, p :: l, th => standL so (i + 1) l (if so i = true then updTh th p.1 p.2 else th)

/-- What the last write to a sector was to write. -/
def lastW (s : Int) (l : List (Int × ByteArray)) (x : ByteArray) : ByteArray := l.foldl (fun acc p => if p.1 = s then p.2 else acc) x

/-- A disk behind the beginning of an operation: did it crash? -/
def Dk.crash (d : Dk) : Bool × Dk :=
  match d.cr.find? (fun c => decide (c.1 = (d.ops : Int))) with
  | none => (false, { d with ops := d.ops + 1 })
  | some c => (true, { d with ops := d.ops + 1, th := standL (mbit c.2) 0 d.wait d.th, wait := [], down := true })

/-- What a read answers. -/
def Dk.read (d : Dk) (s : Int) : ByteArray × Int :=
  if d.down then (ByteArray.empty, 12) else if s < 0 ∨ (d.n : Int) ≤ s then (ByteArray.empty, 3)
  else (lastW s d.wait (fullS (d.th s)), 0)

/-- What a write answers, and the disk behind it. -/
def Dk.write (d : Dk) (s : Int) (x : ByteArray) : Int × Dk :=
  if d.down then (12, d) else if s < 0 ∨ (d.n : Int) ≤ s then (3, d) else if 128 < x.size then (4, d)
  else
    let r := { d with wait := d.wait ++ [(s, fullS x)] }.crash
    (if r.1 then 12 else 0, r.2)

/-- What a flush answers, and the disk behind it. -/
def Dk.flush (d : Dk) : Int × Dk :=
  if d.down then (12, d)
  else
    let r := d.crash
    if r.1 then (12, r.2) else (0, { r.2 with th := standL (fun _ => true) 0 r.2.wait r.2.th, wait := [] })

/-- Behind k of the writes. -/
theorem standL_snoc (so : Nat → Bool) (l : List (Int × ByteArray)) (p : Int × ByteArray) (i : Nat) (th : Int → ByteArray) :
    standL so i (l ++ [p]) th = if so (i + l.length) = true then updTh (standL so i l th) p.1 p.2 else standL so i l th := by
  induction l generalizing i th with
  | nil => simp [standL]
  | cons q l ih =>
    simp only [List.cons_append, standL, ih, List.length_cons]
    rw [show i + 1 + l.length = i + (l.length + 1) from by omega]

theorem standL_take (so : Nat → Bool) (l : List (Int × ByteArray)) (k : Nat) (h : k < l.length) (th : Int → ByteArray) :
    standL so 0 (l.take (k + 1)) th = if so k = true then updTh (standL so 0 (l.take k) th) (l[k]).1 (l[k]).2 else standL so 0 (l.take k) th := by
  rw [List.take_succ_eq_append_getElem h, standL_snoc, Nat.zero_add, List.length_take, Nat.min_eq_left (by omega)]

theorem lastW_take (s : Int) (l : List (Int × ByteArray)) (k : Nat) (h : k < l.length) (x : ByteArray) :
    lastW s (l.take (k + 1)) x = if (l[k]).1 = s then (l[k]).2 else lastW s (l.take k) x := by
  rw [List.take_succ_eq_append_getElem h]
  simp only [lastW, List.foldl_append, List.foldl_cons, List.foldl_nil]

theorem crash_n (d : Dk) : d.crash.2.n = d.n := by unfold Dk.crash; split <;> rfl
theorem crash_cr (d : Dk) : d.crash.2.cr = d.cr := by unfold Dk.crash; split <;> rfl
theorem crash_ops (d : Dk) : d.crash.2.ops = d.ops + 1 := by unfold Dk.crash; split <;> rfl
end Go.Proofs.Ytdpffgcekjdneaa
