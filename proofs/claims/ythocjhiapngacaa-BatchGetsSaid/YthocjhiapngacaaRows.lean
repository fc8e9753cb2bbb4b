/-
  No cell of these rows narrows 'for every input' (looked for: loops, veiled, ifaces, maps, wideKeys, modest, calm, conditions, laid).
  DERIVED. THE GIVEN ROWS OF THIS SEAT. 5 by the template 'for every input the law returns true; each argument reads behind the call as it read before'; 0 by the template 'total and deterministic' (their statements: YthocjhiapngacaaTotals.lean).
  GIVEN WITH THE SEED: the statements are not yours to turn. If you find one false, say at which input.
  Laid BY PROGRAM, IN A SANDBOX (cutbox-rows.mjs): the forced cells as the released guide's own fill.sh prints them over the translation 1b54613f0459bf56… (all of the seat's roots in one cut). By AI agents, Wed Nov 11 2026. No macro, syntax, notation, axiom, sorry.
-/
import Derived.Test.YthocjhiapngacaaChecked
import GoSem.Claim
import GoSem.ClaimJoined
import GoSem.ClaimMapViews
import Derived.JoinedTies
import Derived.KernelRfl
namespace Go.Proofs.Ythocjhiapngacaa
/- THE CELL 'sum', in the pinned program and in every row, IS THE sha256 OF THE DUMP (.gsa) THAT YthocjhiapngacaaProg.lean LOADS. Nothing in Lean hashes anything: it is a label: what it is worth is what the hold of that sum in a sandbox is worth. -/
noncomputable def Try.pinned : Pinned := { name := "ythocjhiapngacaa", sum := "1b54613f0459bf563ecd6a543f763daa089ec4c46bbfc23fef70c11501535b55", checked := Try.checked }
namespace Rows
def none {H : Type} : Left H := { results := [], args := [] }

/-- 'dormouselaw24.RecordPuts': WHATEVER THE INPUT: true; the input reads as it did. -/
def recordPutsSpec : ChangeSpec := { name := "recordPuts", fn := fun _ => fun
  | [d] => { results := [.lit (.bool true)], args := [d] }
  | _ => none }
def recordPutsRow : OpenClaim := { program := "ythocjhiapngacaa", sum := "1b54613f0459bf563ecd6a543f763daa089ec4c46bbfc23fef70c11501535b55", func := "dormouse/dormouselaw24.RecordPuts", spec := "recordPuts", unfollowed := true, recurses := true, apart := false }
def RecordPutsSaid : Prop := recordPutsRow.holds Try.pinned (OpenSpec.ofChange recordPutsSpec)

/-- ITS FALSE NEIGHBOUR: 'it returns false'. Refute it at one input. -/
def recordPutsWrong : ChangeSpec := { name := "recordPuts", fn := fun _ => fun
  | [d] => { results := [.lit (.bool false)], args := [d] }
  | _ => none }
def RecordPutsWrongFalsely : Prop := recordPutsRow.holds Try.pinned (OpenSpec.ofChange recordPutsWrong)

/-- 'dormouselaw24.RecordGets': WHATEVER THE INPUT: true; the input reads as it did. -/
def recordGetsSpec : ChangeSpec := { name := "recordGets", fn := fun _ => fun
  | [d] => { results := [.lit (.bool true)], args := [d] }
  | _ => none }
def recordGetsRow : OpenClaim := { program := "ythocjhiapngacaa", sum := "1b54613f0459bf563ecd6a543f763daa089ec4c46bbfc23fef70c11501535b55", func := "dormouse/dormouselaw24.RecordGets", spec := "recordGets", unfollowed := true, recurses := true, apart := false }
def RecordGetsSaid : Prop := recordGetsRow.holds Try.pinned (OpenSpec.ofChange recordGetsSpec)

/-- ITS FALSE NEIGHBOUR: 'it returns false'. Refute it at one input. -/
def recordGetsWrong : ChangeSpec := { name := "recordGets", fn := fun _ => fun
  | [d] => { results := [.lit (.bool false)], args := [d] }
  | _ => none }
def RecordGetsWrongFalsely : Prop := recordGetsRow.holds Try.pinned (OpenSpec.ofChange recordGetsWrong)

/-- 'dormouselaw24.RecordMakes': WHATEVER THE INPUT: true; the input reads as it did. -/
def recordMakesSpec : ChangeSpec := { name := "recordMakes", fn := fun _ => fun
  | [d] => { results := [.lit (.bool true)], args := [d] }
  | _ => none }
def recordMakesRow : OpenClaim := { program := "ythocjhiapngacaa", sum := "1b54613f0459bf563ecd6a543f763daa089ec4c46bbfc23fef70c11501535b55", func := "dormouse/dormouselaw24.RecordMakes", spec := "recordMakes", unfollowed := true, recurses := true, apart := false }
def RecordMakesSaid : Prop := recordMakesRow.holds Try.pinned (OpenSpec.ofChange recordMakesSpec)

/-- ITS FALSE NEIGHBOUR: 'it returns false'. Refute it at one input. -/
def recordMakesWrong : ChangeSpec := { name := "recordMakes", fn := fun _ => fun
  | [d] => { results := [.lit (.bool false)], args := [d] }
  | _ => none }
def RecordMakesWrongFalsely : Prop := recordMakesRow.holds Try.pinned (OpenSpec.ofChange recordMakesWrong)

/-- 'dormouselaw25.BatchPuts': WHATEVER THE INPUT: true; the input reads as it did. -/
def batchPutsSpec : ChangeSpec := { name := "batchPuts", fn := fun _ => fun
  | [d1, d2] => { results := [.lit (.bool true)], args := [d1, d2] }
  | _ => none }
def batchPutsRow : OpenClaim := { program := "ythocjhiapngacaa", sum := "1b54613f0459bf563ecd6a543f763daa089ec4c46bbfc23fef70c11501535b55", func := "dormouse/dormouselaw25.BatchPuts", spec := "batchPuts", unfollowed := true, recurses := true, apart := false }
def BatchPutsSaid : Prop := batchPutsRow.holds Try.pinned (OpenSpec.ofChange batchPutsSpec)

/-- ITS FALSE NEIGHBOUR: 'it returns false'. Refute it at one input. -/
def batchPutsWrong : ChangeSpec := { name := "batchPuts", fn := fun _ => fun
  | [d1, d2] => { results := [.lit (.bool false)], args := [d1, d2] }
  | _ => none }
def BatchPutsWrongFalsely : Prop := batchPutsRow.holds Try.pinned (OpenSpec.ofChange batchPutsWrong)

/-- 'dormouselaw25.BatchGets': WHATEVER THE INPUT: true; the input reads as it did. -/
def batchGetsSpec : ChangeSpec := { name := "batchGets", fn := fun _ => fun
  | [d1, d2] => { results := [.lit (.bool true)], args := [d1, d2] }
  | _ => none }
def batchGetsRow : OpenClaim := { program := "ythocjhiapngacaa", sum := "1b54613f0459bf563ecd6a543f763daa089ec4c46bbfc23fef70c11501535b55", func := "dormouse/dormouselaw25.BatchGets", spec := "batchGets", unfollowed := true, recurses := true, apart := false }
def BatchGetsSaid : Prop := batchGetsRow.holds Try.pinned (OpenSpec.ofChange batchGetsSpec)

/-- ITS FALSE NEIGHBOUR: 'it returns false'. Refute it at one input. -/
def batchGetsWrong : ChangeSpec := { name := "batchGets", fn := fun _ => fun
  | [d1, d2] => { results := [.lit (.bool false)], args := [d1, d2] }
  | _ => none }
def BatchGetsWrongFalsely : Prop := batchGetsRow.holds Try.pinned (OpenSpec.ofChange batchGetsWrong)

/- THE SECOND FORM. 'bulk': how many values and letters a reading holds, each counted each time it is reached (what is shared counts as often as it is met; a slice's spare places count too). A statement '..UptoSaid' is the law's where the arguments, and the package variables that the reading takes, are together of bulk at most 1048576: NARROWER than '..Said'. Prove '..Said' where nothing that the law and all that it calls make is longer than what came in: it says more and counts as full. Else prove '..UptoSaid'. A law counts once. -/
mutual
def uptoBulk {H : Type} : DataW H → Nat
  | .lit (.string bytes) => bytes.length + 1
  | .lit _ => 1
  | .nil => 1
  | .ptr d => uptoBulk d + 1
  | .slice elems spare => uptoBulkAll elems + uptoBulkAll spare + 1
  | .agg parts => uptoBulkAll parts + 1
  | .iface _ d => uptoBulk d + 1
  | .map entries => uptoBulkEntries entries + 1
  | .held _ => 1
def uptoBulkAll {H : Type} : List (DataW H) → Nat
  | [] => 0
  | d :: r => uptoBulk d + uptoBulkAll r
def uptoBulkEntries {H : Type} : List (Lit × DataW H) → Nat
  | [] => 0
  | x :: r => uptoBulkEntry x + uptoBulkEntries r
def uptoBulkEntry {H : Type} : Lit × DataW H → Nat
  | (.string bytes, d) => bytes.length + uptoBulk d + 1
  | (_, d) => uptoBulk d + 1
 end
def uptoSmall : (H : Type) → List (DataW H) → Bool := fun _ ds => decide (uptoBulkAll ds ≤ 1048576)
def OpenSpec.upto (s : _root_.Go.ChangeSpec) : _root_.Go.OpenSpec := { _root_.Go.OpenSpec.ofChange s with cond := some uptoSmall }

/-- 'dormouselaw24.RecordPuts', WHERE WHAT IT READS IS OF BULK AT MOST 1048576: true; the input reads as it did. -/
def recordPutsUptoRow : OpenClaim := { program := "ythocjhiapngacaa", sum := "1b54613f0459bf563ecd6a543f763daa089ec4c46bbfc23fef70c11501535b55", func := "dormouse/dormouselaw24.RecordPuts", spec := "recordPuts", unfollowed := true, recurses := true, apart := false, narrowed := true }
def RecordPutsUptoSaid : Prop := recordPutsUptoRow.holds Try.pinned (OpenSpec.upto recordPutsSpec)

/-- 'dormouselaw24.RecordGets', WHERE WHAT IT READS IS OF BULK AT MOST 1048576: true; the input reads as it did. -/
def recordGetsUptoRow : OpenClaim := { program := "ythocjhiapngacaa", sum := "1b54613f0459bf563ecd6a543f763daa089ec4c46bbfc23fef70c11501535b55", func := "dormouse/dormouselaw24.RecordGets", spec := "recordGets", unfollowed := true, recurses := true, apart := false, narrowed := true }
def RecordGetsUptoSaid : Prop := recordGetsUptoRow.holds Try.pinned (OpenSpec.upto recordGetsSpec)

/-- 'dormouselaw24.RecordMakes', WHERE WHAT IT READS IS OF BULK AT MOST 1048576: true; the input reads as it did. -/
def recordMakesUptoRow : OpenClaim := { program := "ythocjhiapngacaa", sum := "1b54613f0459bf563ecd6a543f763daa089ec4c46bbfc23fef70c11501535b55", func := "dormouse/dormouselaw24.RecordMakes", spec := "recordMakes", unfollowed := true, recurses := true, apart := false, narrowed := true }
def RecordMakesUptoSaid : Prop := recordMakesUptoRow.holds Try.pinned (OpenSpec.upto recordMakesSpec)

/-- 'dormouselaw25.BatchPuts', WHERE WHAT IT READS IS OF BULK AT MOST 1048576: true; the input reads as it did. -/
def batchPutsUptoRow : OpenClaim := { program := "ythocjhiapngacaa", sum := "1b54613f0459bf563ecd6a543f763daa089ec4c46bbfc23fef70c11501535b55", func := "dormouse/dormouselaw25.BatchPuts", spec := "batchPuts", unfollowed := true, recurses := true, apart := false, narrowed := true }
def BatchPutsUptoSaid : Prop := batchPutsUptoRow.holds Try.pinned (OpenSpec.upto batchPutsSpec)

/-- 'dormouselaw25.BatchGets', WHERE WHAT IT READS IS OF BULK AT MOST 1048576: true; the input reads as it did. -/
def batchGetsUptoRow : OpenClaim := { program := "ythocjhiapngacaa", sum := "1b54613f0459bf563ecd6a543f763daa089ec4c46bbfc23fef70c11501535b55", func := "dormouse/dormouselaw25.BatchGets", spec := "batchGets", unfollowed := true, recurses := true, apart := false, narrowed := true }
def BatchGetsUptoSaid : Prop := batchGetsUptoRow.holds Try.pinned (OpenSpec.upto batchGetsSpec)

end Rows
end Go.Proofs.Ythocjhiapngacaa
