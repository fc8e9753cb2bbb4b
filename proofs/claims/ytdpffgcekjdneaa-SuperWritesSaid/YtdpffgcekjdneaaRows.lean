/-
  No cell of these rows narrows 'for every input' (looked for: loops, veiled, ifaces, maps, wideKeys, modest, calm, conditions, laid).
  DERIVED. THE GIVEN ROWS OF THIS SEAT. 9 by the template 'for every input the law returns true; each argument reads behind the call as it read before'; 0 by the template 'total and deterministic' (their statements: YtdpffgcekjdneaaTotals.lean).
  GIVEN WITH THE SEED: the statements are not yours to turn. If you find one false, say at which input.
  Laid BY PROGRAM, IN A SANDBOX (cutbox-rows.mjs): the forced cells as the released guide's own fill.sh prints them over the translation 64de87622b72ea9f… (all of the seat's roots in one cut). By AI agents, Wed Nov 11 2026. No macro, syntax, notation, axiom, sorry.
-/
import Derived.Test.YtdpffgcekjdneaaChecked
import GoSem.Claim
import GoSem.ClaimJoined
import GoSem.ClaimMapViews
import Derived.JoinedTies
import Derived.KernelRfl
namespace Go.Proofs.Ytdpffgcekjdneaa
/- THE CELL 'sum', in the pinned program and in every row, IS THE sha256 OF THE DUMP (.gsa) THAT YtdpffgcekjdneaaProg.lean LOADS. Nothing in Lean hashes anything: it is a label: what it is worth is what the hold of that sum in a sandbox is worth. -/
noncomputable def Try.pinned : Pinned := { name := "ytdpffgcekjdneaa", sum := "64de87622b72ea9f99833d2ed4d5b068a3ad7e48034b5563f5abe446121084d0", checked := Try.checked }
namespace Rows
def none {H : Type} : Left H := { results := [], args := [] }

/-- 'dormouselaw21.DiskSurvives': WHATEVER THE INPUT: true; the input reads as it did. -/
def diskSurvivesSpec : ChangeSpec := { name := "diskSurvives", fn := fun _ => fun
  | [d1, d2] => { results := [.lit (.bool true)], args := [d1, d2] }
  | _ => none }
def diskSurvivesRow : OpenClaim := { program := "ytdpffgcekjdneaa", sum := "64de87622b72ea9f99833d2ed4d5b068a3ad7e48034b5563f5abe446121084d0", func := "dormouse/dormouselaw21.DiskSurvives", spec := "diskSurvives", unfollowed := true, recurses := true, apart := false }
def DiskSurvivesSaid : Prop := diskSurvivesRow.holds Try.pinned (OpenSpec.ofChange diskSurvivesSpec)

/-- ITS FALSE NEIGHBOUR: 'it returns false'. Refute it at one input. -/
def diskSurvivesWrong : ChangeSpec := { name := "diskSurvives", fn := fun _ => fun
  | [d1, d2] => { results := [.lit (.bool false)], args := [d1, d2] }
  | _ => none }
def DiskSurvivesWrongFalsely : Prop := diskSurvivesRow.holds Try.pinned (OpenSpec.ofChange diskSurvivesWrong)

/-- 'dormouselaw21.DiskDoes': WHATEVER THE INPUT: true; the input reads as it did. -/
def diskDoesSpec : ChangeSpec := { name := "diskDoes", fn := fun _ => fun
  | [d1, d2, d3] => { results := [.lit (.bool true)], args := [d1, d2, d3] }
  | _ => none }
def diskDoesRow : OpenClaim := { program := "ytdpffgcekjdneaa", sum := "64de87622b72ea9f99833d2ed4d5b068a3ad7e48034b5563f5abe446121084d0", func := "dormouse/dormouselaw21.DiskDoes", spec := "diskDoes", unfollowed := true, recurses := true, apart := false }
def DiskDoesSaid : Prop := diskDoesRow.holds Try.pinned (OpenSpec.ofChange diskDoesSpec)

/-- ITS FALSE NEIGHBOUR: 'it returns false'. Refute it at one input. -/
def diskDoesWrong : ChangeSpec := { name := "diskDoes", fn := fun _ => fun
  | [d1, d2, d3] => { results := [.lit (.bool false)], args := [d1, d2, d3] }
  | _ => none }
def DiskDoesWrongFalsely : Prop := diskDoesRow.holds Try.pinned (OpenSpec.ofChange diskDoesWrong)

/-- 'dormouselaw21.DiskNone': WHATEVER THE INPUT: true; the input reads as it did. -/
def diskNoneSpec : ChangeSpec := { name := "diskNone", fn := fun _ => fun
  | [d1, d2] => { results := [.lit (.bool true)], args := [d1, d2] }
  | _ => none }
def diskNoneRow : OpenClaim := { program := "ytdpffgcekjdneaa", sum := "64de87622b72ea9f99833d2ed4d5b068a3ad7e48034b5563f5abe446121084d0", func := "dormouse/dormouselaw21.DiskNone", spec := "diskNone", unfollowed := true, recurses := true, apart := false }
def DiskNoneSaid : Prop := diskNoneRow.holds Try.pinned (OpenSpec.ofChange diskNoneSpec)

/-- ITS FALSE NEIGHBOUR: 'it returns false'. Refute it at one input. -/
def diskNoneWrong : ChangeSpec := { name := "diskNone", fn := fun _ => fun
  | [d1, d2] => { results := [.lit (.bool false)], args := [d1, d2] }
  | _ => none }
def DiskNoneWrongFalsely : Prop := diskNoneRow.holds Try.pinned (OpenSpec.ofChange diskNoneWrong)

/-- 'dormouselaw22.SuperPuts': WHATEVER THE INPUT: true; the input reads as it did. -/
def superPutsSpec : ChangeSpec := { name := "superPuts", fn := fun _ => fun
  | [d1, d2] => { results := [.lit (.bool true)], args := [d1, d2] }
  | _ => none }
def superPutsRow : OpenClaim := { program := "ytdpffgcekjdneaa", sum := "64de87622b72ea9f99833d2ed4d5b068a3ad7e48034b5563f5abe446121084d0", func := "dormouse/dormouselaw22.SuperPuts", spec := "superPuts", unfollowed := true, recurses := true, apart := false }
def SuperPutsSaid : Prop := superPutsRow.holds Try.pinned (OpenSpec.ofChange superPutsSpec)

/-- ITS FALSE NEIGHBOUR: 'it returns false'. Refute it at one input. -/
def superPutsWrong : ChangeSpec := { name := "superPuts", fn := fun _ => fun
  | [d1, d2] => { results := [.lit (.bool false)], args := [d1, d2] }
  | _ => none }
def SuperPutsWrongFalsely : Prop := superPutsRow.holds Try.pinned (OpenSpec.ofChange superPutsWrong)

/-- 'dormouselaw22.SuperOne': WHATEVER THE INPUT: true; the input reads as it did. -/
def superOneSpec : ChangeSpec := { name := "superOne", fn := fun _ => fun
  | [d1, d2] => { results := [.lit (.bool true)], args := [d1, d2] }
  | _ => none }
def superOneRow : OpenClaim := { program := "ytdpffgcekjdneaa", sum := "64de87622b72ea9f99833d2ed4d5b068a3ad7e48034b5563f5abe446121084d0", func := "dormouse/dormouselaw22.SuperOne", spec := "superOne", unfollowed := true, recurses := true, apart := false }
def SuperOneSaid : Prop := superOneRow.holds Try.pinned (OpenSpec.ofChange superOneSpec)

/-- ITS FALSE NEIGHBOUR: 'it returns false'. Refute it at one input. -/
def superOneWrong : ChangeSpec := { name := "superOne", fn := fun _ => fun
  | [d1, d2] => { results := [.lit (.bool false)], args := [d1, d2] }
  | _ => none }
def SuperOneWrongFalsely : Prop := superOneRow.holds Try.pinned (OpenSpec.ofChange superOneWrong)

/-- 'dormouselaw22.SuperWrites': WHATEVER THE INPUT: true; the input reads as it did. -/
def superWritesSpec : ChangeSpec := { name := "superWrites", fn := fun _ => fun
  | [d1, d2, d3] => { results := [.lit (.bool true)], args := [d1, d2, d3] }
  | _ => none }
def superWritesRow : OpenClaim := { program := "ytdpffgcekjdneaa", sum := "64de87622b72ea9f99833d2ed4d5b068a3ad7e48034b5563f5abe446121084d0", func := "dormouse/dormouselaw22.SuperWrites", spec := "superWrites", unfollowed := true, recurses := true, apart := false }
def SuperWritesSaid : Prop := superWritesRow.holds Try.pinned (OpenSpec.ofChange superWritesSpec)

/-- ITS FALSE NEIGHBOUR: 'it returns false'. Refute it at one input. -/
def superWritesWrong : ChangeSpec := { name := "superWrites", fn := fun _ => fun
  | [d1, d2, d3] => { results := [.lit (.bool false)], args := [d1, d2, d3] }
  | _ => none }
def SuperWritesWrongFalsely : Prop := superWritesRow.holds Try.pinned (OpenSpec.ofChange superWritesWrong)

/-- 'dormouselaw23.AreaCounts': WHATEVER THE INPUT: true; the input reads as it did. -/
def areaCountsSpec : ChangeSpec := { name := "areaCounts", fn := fun _ => fun
  | [d1, d2] => { results := [.lit (.bool true)], args := [d1, d2] }
  | _ => none }
def areaCountsRow : OpenClaim := { program := "ytdpffgcekjdneaa", sum := "64de87622b72ea9f99833d2ed4d5b068a3ad7e48034b5563f5abe446121084d0", func := "dormouse/dormouselaw23.AreaCounts", spec := "areaCounts", unfollowed := true, recurses := true, apart := false }
def AreaCountsSaid : Prop := areaCountsRow.holds Try.pinned (OpenSpec.ofChange areaCountsSpec)

/-- ITS FALSE NEIGHBOUR: 'it returns false'. Refute it at one input. -/
def areaCountsWrong : ChangeSpec := { name := "areaCounts", fn := fun _ => fun
  | [d1, d2] => { results := [.lit (.bool false)], args := [d1, d2] }
  | _ => none }
def AreaCountsWrongFalsely : Prop := areaCountsRow.holds Try.pinned (OpenSpec.ofChange areaCountsWrong)

/-- 'dormouselaw23.AreaStays': WHATEVER THE INPUT: true; the input reads as it did. -/
def areaStaysSpec : ChangeSpec := { name := "areaStays", fn := fun _ => fun
  | [d1, d2, d3] => { results := [.lit (.bool true)], args := [d1, d2, d3] }
  | _ => none }
def areaStaysRow : OpenClaim := { program := "ytdpffgcekjdneaa", sum := "64de87622b72ea9f99833d2ed4d5b068a3ad7e48034b5563f5abe446121084d0", func := "dormouse/dormouselaw23.AreaStays", spec := "areaStays", unfollowed := true, recurses := true, apart := false }
def AreaStaysSaid : Prop := areaStaysRow.holds Try.pinned (OpenSpec.ofChange areaStaysSpec)

/-- ITS FALSE NEIGHBOUR: 'it returns false'. Refute it at one input. -/
def areaStaysWrong : ChangeSpec := { name := "areaStays", fn := fun _ => fun
  | [d1, d2, d3] => { results := [.lit (.bool false)], args := [d1, d2, d3] }
  | _ => none }
def AreaStaysWrongFalsely : Prop := areaStaysRow.holds Try.pinned (OpenSpec.ofChange areaStaysWrong)

/-- 'dormouselaw23.AreaDoes': WHATEVER THE INPUT: true; the input reads as it did. -/
def areaDoesSpec : ChangeSpec := { name := "areaDoes", fn := fun _ => fun
  | [d1, d2, d3] => { results := [.lit (.bool true)], args := [d1, d2, d3] }
  | _ => none }
def areaDoesRow : OpenClaim := { program := "ytdpffgcekjdneaa", sum := "64de87622b72ea9f99833d2ed4d5b068a3ad7e48034b5563f5abe446121084d0", func := "dormouse/dormouselaw23.AreaDoes", spec := "areaDoes", unfollowed := true, recurses := true, apart := false }
def AreaDoesSaid : Prop := areaDoesRow.holds Try.pinned (OpenSpec.ofChange areaDoesSpec)

/-- ITS FALSE NEIGHBOUR: 'it returns false'. Refute it at one input. -/
def areaDoesWrong : ChangeSpec := { name := "areaDoes", fn := fun _ => fun
  | [d1, d2, d3] => { results := [.lit (.bool false)], args := [d1, d2, d3] }
  | _ => none }
def AreaDoesWrongFalsely : Prop := areaDoesRow.holds Try.pinned (OpenSpec.ofChange areaDoesWrong)

/- THE SECOND FORM. 'bulk': how many values and letters a reading holds, each counted each time it is reached (what is shared counts as often as it is met; a slice's spare places count too). A statement '..UptoSaid' is the law's where the arguments, and the package variables that the reading takes, are together of bulk at most 1048576: NARROWER than '..Said'. Prove '..Said' where nothing that the law and all that it calls make is longer than what came in: it says more and counts as full. Else prove '..UptoSaid'. A law counts once. -/
mutual
def uptoBulk {H : Type} : DataW H → Nat
  | .lit (.string bytes) => bytes.length + 1
  | .lit _ => 1
  | .nil => 1
  | .ptr d => uptoBulk d + 1
  | .slice elems spare => uptoBulkAll elems + uptoBulkAll spare + 1
  | .agg parts => uptoBulkAll parts + 1
  | .iface _ d => uptoBulk d + 1
  | .map entries => uptoBulkEntries entries + 1
  | .held _ => 1
def uptoBulkAll {H : Type} : List (DataW H) → Nat
  | [] => 0
  | d :: r => uptoBulk d + uptoBulkAll r
def uptoBulkEntries {H : Type} : List (Lit × DataW H) → Nat
  | [] => 0
  | x :: r => uptoBulkEntry x + uptoBulkEntries r
def uptoBulkEntry {H : Type} : Lit × DataW H → Nat
  | (.string bytes, d) => bytes.length + uptoBulk d + 1
  | (_, d) => uptoBulk d + 1
 end
def uptoSmall : (H : Type) → List (DataW H) → Bool := fun _ ds => decide (uptoBulkAll ds ≤ 1048576)
def OpenSpec.upto (s : _root_.Go.ChangeSpec) : _root_.Go.OpenSpec := { _root_.Go.OpenSpec.ofChange s with cond := some uptoSmall }

/-- 'dormouselaw21.DiskSurvives', WHERE WHAT IT READS IS OF BULK AT MOST 1048576: true; the input reads as it did. -/
def diskSurvivesUptoRow : OpenClaim := { program := "ytdpffgcekjdneaa", sum := "64de87622b72ea9f99833d2ed4d5b068a3ad7e48034b5563f5abe446121084d0", func := "dormouse/dormouselaw21.DiskSurvives", spec := "diskSurvives", unfollowed := true, recurses := true, apart := false, narrowed := true }
def DiskSurvivesUptoSaid : Prop := diskSurvivesUptoRow.holds Try.pinned (OpenSpec.upto diskSurvivesSpec)

/-- 'dormouselaw21.DiskDoes', WHERE WHAT IT READS IS OF BULK AT MOST 1048576: true; the input reads as it did. -/
def diskDoesUptoRow : OpenClaim := { program := "ytdpffgcekjdneaa", sum := "64de87622b72ea9f99833d2ed4d5b068a3ad7e48034b5563f5abe446121084d0", func := "dormouse/dormouselaw21.DiskDoes", spec := "diskDoes", unfollowed := true, recurses := true, apart := false, narrowed := true }
def DiskDoesUptoSaid : Prop := diskDoesUptoRow.holds Try.pinned (OpenSpec.upto diskDoesSpec)

/-- 'dormouselaw21.DiskNone', WHERE WHAT IT READS IS OF BULK AT MOST 1048576: true; the input reads as it did. -/
def diskNoneUptoRow : OpenClaim := { program := "ytdpffgcekjdneaa", sum := "64de87622b72ea9f99833d2ed4d5b068a3ad7e48034b5563f5abe446121084d0", func := "dormouse/dormouselaw21.DiskNone", spec := "diskNone", unfollowed := true, recurses := true, apart := false, narrowed := true }
def DiskNoneUptoSaid : Prop := diskNoneUptoRow.holds Try.pinned (OpenSpec.upto diskNoneSpec)

/-- 'dormouselaw22.SuperPuts', WHERE WHAT IT READS IS OF BULK AT MOST 1048576: true; the input reads as it did. -/
def superPutsUptoRow : OpenClaim := { program := "ytdpffgcekjdneaa", sum := "64de87622b72ea9f99833d2ed4d5b068a3ad7e48034b5563f5abe446121084d0", func := "dormouse/dormouselaw22.SuperPuts", spec := "superPuts", unfollowed := true, recurses := true, apart := false, narrowed := true }
def SuperPutsUptoSaid : Prop := superPutsUptoRow.holds Try.pinned (OpenSpec.upto superPutsSpec)

/-- 'dormouselaw22.SuperOne', WHERE WHAT IT READS IS OF BULK AT MOST 1048576: true; the input reads as it did. -/
def superOneUptoRow : OpenClaim := { program := "ytdpffgcekjdneaa", sum := "64de87622b72ea9f99833d2ed4d5b068a3ad7e48034b5563f5abe446121084d0", func := "dormouse/dormouselaw22.SuperOne", spec := "superOne", unfollowed := true, recurses := true, apart := false, narrowed := true }
def SuperOneUptoSaid : Prop := superOneUptoRow.holds Try.pinned (OpenSpec.upto superOneSpec)

/-- 'dormouselaw22.SuperWrites', WHERE WHAT IT READS IS OF BULK AT MOST 1048576: true; the input reads as it did. -/
def superWritesUptoRow : OpenClaim := { program := "ytdpffgcekjdneaa", sum := "64de87622b72ea9f99833d2ed4d5b068a3ad7e48034b5563f5abe446121084d0", func := "dormouse/dormouselaw22.SuperWrites", spec := "superWrites", unfollowed := true, recurses := true, apart := false, narrowed := true }
def SuperWritesUptoSaid : Prop := superWritesUptoRow.holds Try.pinned (OpenSpec.upto superWritesSpec)

/-- 'dormouselaw23.AreaCounts', WHERE WHAT IT READS IS OF BULK AT MOST 1048576: true; the input reads as it did. -/
def areaCountsUptoRow : OpenClaim := { program := "ytdpffgcekjdneaa", sum := "64de87622b72ea9f99833d2ed4d5b068a3ad7e48034b5563f5abe446121084d0", func := "dormouse/dormouselaw23.AreaCounts", spec := "areaCounts", unfollowed := true, recurses := true, apart := false, narrowed := true }
def AreaCountsUptoSaid : Prop := areaCountsUptoRow.holds Try.pinned (OpenSpec.upto areaCountsSpec)

/-- 'dormouselaw23.AreaStays', WHERE WHAT IT READS IS OF BULK AT MOST 1048576: true; the input reads as it did. -/
def areaStaysUptoRow : OpenClaim := { program := "ytdpffgcekjdneaa", sum := "64de87622b72ea9f99833d2ed4d5b068a3ad7e48034b5563f5abe446121084d0", func := "dormouse/dormouselaw23.AreaStays", spec := "areaStays", unfollowed := true, recurses := true, apart := false, narrowed := true }
def AreaStaysUptoSaid : Prop := areaStaysUptoRow.holds Try.pinned (OpenSpec.upto areaStaysSpec)

/-- 'dormouselaw23.AreaDoes', WHERE WHAT IT READS IS OF BULK AT MOST 1048576: true; the input reads as it did. -/
def areaDoesUptoRow : OpenClaim := { program := "ytdpffgcekjdneaa", sum := "64de87622b72ea9f99833d2ed4d5b068a3ad7e48034b5563f5abe446121084d0", func := "dormouse/dormouselaw23.AreaDoes", spec := "areaDoes", unfollowed := true, recurses := true, apart := false, narrowed := true }
def AreaDoesUptoSaid : Prop := areaDoesUptoRow.holds Try.pinned (OpenSpec.upto areaDoesSpec)

end Rows
end Go.Proofs.Ytdpffgcekjdneaa
