/-
  No cell of these rows narrows 'for every input' (looked for: loops, veiled, ifaces, maps, wideKeys, modest, calm, conditions, laid).
  DERIVED. THE GIVEN ROWS OF THIS SEAT. 6 by the template 'for every input the law returns true; each argument reads behind the call as it read before'; 0 by the template 'total and deterministic' (their statements: YtokebghephfjhaaTotals.lean).
  GIVEN WITH THE SEED: the statements are not yours to turn. If you find one false, say at which input.
  Laid BY PROGRAM, IN A SANDBOX (cutbox-rows.mjs): the forced cells as the released guide's own fill.sh prints them over the translation 885bb6849e4c5504… (all of the seat's roots in one cut). By AI agents, Wed Nov 11 2026. No macro, syntax, notation, axiom, sorry.
-/
import Derived.Test.YtokebghephfjhaaChecked
import GoSem.Claim
import GoSem.ClaimJoined
import GoSem.ClaimMapViews
import Derived.JoinedTies
import Derived.KernelRfl
namespace Go.Proofs.Ytokebghephfjhaa
/- THE CELL 'sum', in the pinned program and in every row, IS THE sha256 OF THE DUMP (.gsa) THAT YtokebghephfjhaaProg.lean LOADS. Nothing in Lean hashes anything: it is a label: what it is worth is what the hold of that sum in a sandbox is worth. -/
noncomputable def Try.pinned : Pinned := { name := "ytokebghephfjhaa", sum := "885bb6849e4c5504d37bbecc740a29013a15c60e768c28e0a43a0e5f846e05b7", checked := Try.checked }
namespace Rows
def none {H : Type} : Left H := { results := [], args := [] }

/-- 'dormouselaw01.WideLays': WHATEVER THE INPUT: true; the input reads as it did. -/
def wideLaysSpec : ChangeSpec := { name := "wideLays", fn := fun _ => fun
  | [d1, d2, d3] => { results := [.lit (.bool true)], args := [d1, d2, d3] }
  | _ => none }
def wideLaysRow : OpenClaim := { program := "ytokebghephfjhaa", sum := "885bb6849e4c5504d37bbecc740a29013a15c60e768c28e0a43a0e5f846e05b7", func := "dormouse/dormouselaw01.WideLays", spec := "wideLays", unfollowed := true, recurses := true, apart := false }
def WideLaysSaid : Prop := wideLaysRow.holds Try.pinned (OpenSpec.ofChange wideLaysSpec)

/-- ITS FALSE NEIGHBOUR: 'it returns false'. Refute it at one input. -/
def wideLaysWrong : ChangeSpec := { name := "wideLays", fn := fun _ => fun
  | [d1, d2, d3] => { results := [.lit (.bool false)], args := [d1, d2, d3] }
  | _ => none }
def WideLaysWrongFalsely : Prop := wideLaysRow.holds Try.pinned (OpenSpec.ofChange wideLaysWrong)

/-- 'dormouselaw01.WideCuts': WHATEVER THE INPUT: true; the input reads as it did. -/
def wideCutsSpec : ChangeSpec := { name := "wideCuts", fn := fun _ => fun
  | [d1, d2] => { results := [.lit (.bool true)], args := [d1, d2] }
  | _ => none }
def wideCutsRow : OpenClaim := { program := "ytokebghephfjhaa", sum := "885bb6849e4c5504d37bbecc740a29013a15c60e768c28e0a43a0e5f846e05b7", func := "dormouse/dormouselaw01.WideCuts", spec := "wideCuts", unfollowed := true, recurses := true, apart := false }
def WideCutsSaid : Prop := wideCutsRow.holds Try.pinned (OpenSpec.ofChange wideCutsSpec)

/-- ITS FALSE NEIGHBOUR: 'it returns false'. Refute it at one input. -/
def wideCutsWrong : ChangeSpec := { name := "wideCuts", fn := fun _ => fun
  | [d1, d2] => { results := [.lit (.bool false)], args := [d1, d2] }
  | _ => none }
def WideCutsWrongFalsely : Prop := wideCutsRow.holds Try.pinned (OpenSpec.ofChange wideCutsWrong)

/-- 'dormouselaw01.WideValues': WHATEVER THE INPUT: true; the input reads as it did. -/
def wideValuesSpec : ChangeSpec := { name := "wideValues", fn := fun _ => fun
  | [d1, d2] => { results := [.lit (.bool true)], args := [d1, d2] }
  | _ => none }
def wideValuesRow : OpenClaim := { program := "ytokebghephfjhaa", sum := "885bb6849e4c5504d37bbecc740a29013a15c60e768c28e0a43a0e5f846e05b7", func := "dormouse/dormouselaw01.WideValues", spec := "wideValues", unfollowed := true, recurses := true, apart := false }
def WideValuesSaid : Prop := wideValuesRow.holds Try.pinned (OpenSpec.ofChange wideValuesSpec)

/-- ITS FALSE NEIGHBOUR: 'it returns false'. Refute it at one input. -/
def wideValuesWrong : ChangeSpec := { name := "wideValues", fn := fun _ => fun
  | [d1, d2] => { results := [.lit (.bool false)], args := [d1, d2] }
  | _ => none }
def WideValuesWrongFalsely : Prop := wideValuesRow.holds Try.pinned (OpenSpec.ofChange wideValuesWrong)

/-- 'dormouselaw45.GateAll': WHATEVER THE INPUT: true; the input reads as it did. -/
def gateAllSpec : ChangeSpec := { name := "gateAll", fn := fun _ => fun
  | [d1, d2] => { results := [.lit (.bool true)], args := [d1, d2] }
  | _ => none }
def gateAllRow : OpenClaim := { program := "ytokebghephfjhaa", sum := "885bb6849e4c5504d37bbecc740a29013a15c60e768c28e0a43a0e5f846e05b7", func := "dormouse/dormouselaw45.GateAll", spec := "gateAll", unfollowed := true, recurses := true, apart := false }
def GateAllSaid : Prop := gateAllRow.holds Try.pinned (OpenSpec.ofChange gateAllSpec)

/-- ITS FALSE NEIGHBOUR: 'it returns false'. Refute it at one input. -/
def gateAllWrong : ChangeSpec := { name := "gateAll", fn := fun _ => fun
  | [d1, d2] => { results := [.lit (.bool false)], args := [d1, d2] }
  | _ => none }
def GateAllWrongFalsely : Prop := gateAllRow.holds Try.pinned (OpenSpec.ofChange gateAllWrong)

/-- 'dormouselaw45.GateCodes': WHATEVER THE INPUT: true; the input reads as it did. -/
def gateCodesSpec : ChangeSpec := { name := "gateCodes", fn := fun _ => fun
  | [d1, d2] => { results := [.lit (.bool true)], args := [d1, d2] }
  | _ => none }
def gateCodesRow : OpenClaim := { program := "ytokebghephfjhaa", sum := "885bb6849e4c5504d37bbecc740a29013a15c60e768c28e0a43a0e5f846e05b7", func := "dormouse/dormouselaw45.GateCodes", spec := "gateCodes", unfollowed := true, recurses := true, apart := false }
def GateCodesSaid : Prop := gateCodesRow.holds Try.pinned (OpenSpec.ofChange gateCodesSpec)

/-- ITS FALSE NEIGHBOUR: 'it returns false'. Refute it at one input. -/
def gateCodesWrong : ChangeSpec := { name := "gateCodes", fn := fun _ => fun
  | [d1, d2] => { results := [.lit (.bool false)], args := [d1, d2] }
  | _ => none }
def GateCodesWrongFalsely : Prop := gateCodesRow.holds Try.pinned (OpenSpec.ofChange gateCodesWrong)

/-- 'dormouselaw45.GateCareful': WHATEVER THE INPUT: true; the input reads as it did. -/
def gateCarefulSpec : ChangeSpec := { name := "gateCareful", fn := fun _ => fun
  | [d1, d2, d3] => { results := [.lit (.bool true)], args := [d1, d2, d3] }
  | _ => none }
def gateCarefulRow : OpenClaim := { program := "ytokebghephfjhaa", sum := "885bb6849e4c5504d37bbecc740a29013a15c60e768c28e0a43a0e5f846e05b7", func := "dormouse/dormouselaw45.GateCareful", spec := "gateCareful", unfollowed := true, recurses := true, apart := false }
def GateCarefulSaid : Prop := gateCarefulRow.holds Try.pinned (OpenSpec.ofChange gateCarefulSpec)

/-- ITS FALSE NEIGHBOUR: 'it returns false'. Refute it at one input. -/
def gateCarefulWrong : ChangeSpec := { name := "gateCareful", fn := fun _ => fun
  | [d1, d2, d3] => { results := [.lit (.bool false)], args := [d1, d2, d3] }
  | _ => none }
def GateCarefulWrongFalsely : Prop := gateCarefulRow.holds Try.pinned (OpenSpec.ofChange gateCarefulWrong)

/- THE SECOND FORM. 'bulk': how many values and letters a reading holds, each counted each time it is reached (what is shared counts as often as it is met; a slice's spare places count too). A statement '..UptoSaid' is the law's where the arguments, and the package variables that the reading takes, are together of bulk at most 1048576: NARROWER than '..Said'. Prove '..Said' where nothing that the law and all that it calls make is longer than what came in: it says more and counts as full. Else prove '..UptoSaid'. A law counts once. -/
mutual
def uptoBulk {H : Type} : DataW H → Nat
  | .lit (.string bytes) => bytes.length + 1
  | .lit _ => 1
  | .nil => 1
  | .ptr d => uptoBulk d + 1
  | .slice elems spare => uptoBulkAll elems + uptoBulkAll spare + 1
  | .agg parts => uptoBulkAll parts + 1
  | .iface _ d => uptoBulk d + 1
  | .map entries => uptoBulkEntries entries + 1
  | .held _ => 1
def uptoBulkAll {H : Type} : List (DataW H) → Nat
  | [] => 0
  | d :: r => uptoBulk d + uptoBulkAll r
def uptoBulkEntries {H : Type} : List (Lit × DataW H) → Nat
  | [] => 0
  | x :: r => uptoBulkEntry x + uptoBulkEntries r
def uptoBulkEntry {H : Type} : Lit × DataW H → Nat
  | (.string bytes, d) => bytes.length + uptoBulk d + 1
  | (_, d) => uptoBulk d + 1
 end
def uptoSmall : (H : Type) → List (DataW H) → Bool := fun _ ds => decide (uptoBulkAll ds ≤ 1048576)
def OpenSpec.upto (s : _root_.Go.ChangeSpec) : _root_.Go.OpenSpec := { _root_.Go.OpenSpec.ofChange s with cond := some uptoSmall }

/-- 'dormouselaw01.WideLays', WHERE WHAT IT READS IS OF BULK AT MOST 1048576: true; the input reads as it did. -/
def wideLaysUptoRow : OpenClaim := { program := "ytokebghephfjhaa", sum := "885bb6849e4c5504d37bbecc740a29013a15c60e768c28e0a43a0e5f846e05b7", func := "dormouse/dormouselaw01.WideLays", spec := "wideLays", unfollowed := true, recurses := true, apart := false, narrowed := true }
def WideLaysUptoSaid : Prop := wideLaysUptoRow.holds Try.pinned (OpenSpec.upto wideLaysSpec)

/-- 'dormouselaw01.WideCuts', WHERE WHAT IT READS IS OF BULK AT MOST 1048576: true; the input reads as it did. -/
def wideCutsUptoRow : OpenClaim := { program := "ytokebghephfjhaa", sum := "885bb6849e4c5504d37bbecc740a29013a15c60e768c28e0a43a0e5f846e05b7", func := "dormouse/dormouselaw01.WideCuts", spec := "wideCuts", unfollowed := true, recurses := true, apart := false, narrowed := true }
def WideCutsUptoSaid : Prop := wideCutsUptoRow.holds Try.pinned (OpenSpec.upto wideCutsSpec)

/-- 'dormouselaw01.WideValues', WHERE WHAT IT READS IS OF BULK AT MOST 1048576: true; the input reads as it did. -/
def wideValuesUptoRow : OpenClaim := { program := "ytokebghephfjhaa", sum := "885bb6849e4c5504d37bbecc740a29013a15c60e768c28e0a43a0e5f846e05b7", func := "dormouse/dormouselaw01.WideValues", spec := "wideValues", unfollowed := true, recurses := true, apart := false, narrowed := true }
def WideValuesUptoSaid : Prop := wideValuesUptoRow.holds Try.pinned (OpenSpec.upto wideValuesSpec)

/-- 'dormouselaw45.GateAll', WHERE WHAT IT READS IS OF BULK AT MOST 1048576: true; the input reads as it did. -/
def gateAllUptoRow : OpenClaim := { program := "ytokebghephfjhaa", sum := "885bb6849e4c5504d37bbecc740a29013a15c60e768c28e0a43a0e5f846e05b7", func := "dormouse/dormouselaw45.GateAll", spec := "gateAll", unfollowed := true, recurses := true, apart := false, narrowed := true }
def GateAllUptoSaid : Prop := gateAllUptoRow.holds Try.pinned (OpenSpec.upto gateAllSpec)

/-- 'dormouselaw45.GateCodes', WHERE WHAT IT READS IS OF BULK AT MOST 1048576: true; the input reads as it did. -/
def gateCodesUptoRow : OpenClaim := { program := "ytokebghephfjhaa", sum := "885bb6849e4c5504d37bbecc740a29013a15c60e768c28e0a43a0e5f846e05b7", func := "dormouse/dormouselaw45.GateCodes", spec := "gateCodes", unfollowed := true, recurses := true, apart := false, narrowed := true }
def GateCodesUptoSaid : Prop := gateCodesUptoRow.holds Try.pinned (OpenSpec.upto gateCodesSpec)

/-- 'dormouselaw45.GateCareful', WHERE WHAT IT READS IS OF BULK AT MOST 1048576: true; the input reads as it did. -/
def gateCarefulUptoRow : OpenClaim := { program := "ytokebghephfjhaa", sum := "885bb6849e4c5504d37bbecc740a29013a15c60e768c28e0a43a0e5f846e05b7", func := "dormouse/dormouselaw45.GateCareful", spec := "gateCareful", unfollowed := true, recurses := true, apart := false, narrowed := true }
def GateCarefulUptoSaid : Prop := gateCarefulUptoRow.holds Try.pinned (OpenSpec.upto gateCarefulSpec)

end Rows
end Go.Proofs.Ytokebghephfjhaa
