/-
  No cell of these rows narrows 'for every input' (looked for: loops, veiled, ifaces, maps, wideKeys, modest, calm, conditions, laid).
  DERIVED. THE GIVEN ROWS OF THIS SEAT. 4 by the template 'for every input the law returns true; each argument reads behind the call as it read before'; 0 by the template 'total and deterministic' (their statements: YtnjbpkopekgihaaTotals.lean).
  GIVEN WITH THE SEED: the statements are not yours to turn. If you find one false, say at which input.
  Laid BY PROGRAM, IN A SANDBOX (cutbox-rows.mjs): the forced cells as the released guide's own fill.sh prints them over the translation b28b93e1e8f7b2ed… (all of the seat's roots in one cut). By AI agents, Wed Nov 11 2026. No macro, syntax, notation, axiom, sorry.
-/
import Derived.Test.YtnjbpkopekgihaaChecked
import GoSem.Claim
import GoSem.ClaimJoined
import GoSem.ClaimMapViews
import Derived.JoinedTies
import Derived.KernelRfl
namespace Go.Proofs.Ytnjbpkopekgihaa
/- THE CELL 'sum', in the pinned program and in every row, IS THE sha256 OF THE DUMP (.gsa) THAT YtnjbpkopekgihaaProg.lean LOADS. Nothing in Lean hashes anything: it is a label: what it is worth is what the hold of that sum in a sandbox is worth. -/
noncomputable def Try.pinned : Pinned := { name := "ytnjbpkopekgihaa", sum := "b28b93e1e8f7b2edd889c6acdf69755fdefdc76afa1ae7e3113c60ee860865b3", checked := Try.checked }
namespace Rows
def none {H : Type} : Left H := { results := [], args := [] }

/-- 'fulcrumlaw01.NatOwn': WHATEVER THE INPUT: true; the input reads as it did. -/
def natOwnSpec : ChangeSpec := { name := "natOwn", fn := fun _ => fun
  | [d1, d2, d3] => { results := [.lit (.bool true)], args := [d1, d2, d3] }
  | _ => none }
def natOwnRow : OpenClaim := { program := "ytnjbpkopekgihaa", sum := "b28b93e1e8f7b2edd889c6acdf69755fdefdc76afa1ae7e3113c60ee860865b3", func := "fulcrum/fulcrumlaw01.NatOwn", spec := "natOwn", named := ["math/bits.overflowError"], apart := false }
def NatOwnSaid : Prop := natOwnRow.holds Try.pinned (OpenSpec.ofChange natOwnSpec)

/-- ITS FALSE NEIGHBOUR: 'it returns false'. Refute it at one input. -/
def natOwnWrong : ChangeSpec := { name := "natOwn", fn := fun _ => fun
  | [d1, d2, d3] => { results := [.lit (.bool false)], args := [d1, d2, d3] }
  | _ => none }
def NatOwnWrongFalsely : Prop := natOwnRow.holds Try.pinned (OpenSpec.ofChange natOwnWrong)

/-- 'fulcrumlaw02.WholePowers': WHATEVER THE INPUT: true; the input reads as it did. -/
def wholePowersSpec : ChangeSpec := { name := "wholePowers", fn := fun _ => fun
  | [d1, d2] => { results := [.lit (.bool true)], args := [d1, d2] }
  | _ => none }
def wholePowersRow : OpenClaim := { program := "ytnjbpkopekgihaa", sum := "b28b93e1e8f7b2edd889c6acdf69755fdefdc76afa1ae7e3113c60ee860865b3", func := "fulcrum/fulcrumlaw02.WholePowers", spec := "wholePowers", recurses := true, named := ["math/bits.overflowError"], apart := false }
def WholePowersSaid : Prop := wholePowersRow.holds Try.pinned (OpenSpec.ofChange wholePowersSpec)

/-- ITS FALSE NEIGHBOUR: 'it returns false'. Refute it at one input. -/
def wholePowersWrong : ChangeSpec := { name := "wholePowers", fn := fun _ => fun
  | [d1, d2] => { results := [.lit (.bool false)], args := [d1, d2] }
  | _ => none }
def WholePowersWrongFalsely : Prop := wholePowersRow.holds Try.pinned (OpenSpec.ofChange wholePowersWrong)

/-- 'fulcrumlaw02.WholeRoots': WHATEVER THE INPUT: true; the input reads as it did. -/
def wholeRootsSpec : ChangeSpec := { name := "wholeRoots", fn := fun _ => fun
  | [d] => { results := [.lit (.bool true)], args := [d] }
  | _ => none }
def wholeRootsRow : OpenClaim := { program := "ytnjbpkopekgihaa", sum := "b28b93e1e8f7b2edd889c6acdf69755fdefdc76afa1ae7e3113c60ee860865b3", func := "fulcrum/fulcrumlaw02.WholeRoots", spec := "wholeRoots", named := ["math/bits.overflowError"], apart := false }
def WholeRootsSaid : Prop := wholeRootsRow.holds Try.pinned (OpenSpec.ofChange wholeRootsSpec)

/-- ITS FALSE NEIGHBOUR: 'it returns false'. Refute it at one input. -/
def wholeRootsWrong : ChangeSpec := { name := "wholeRoots", fn := fun _ => fun
  | [d] => { results := [.lit (.bool false)], args := [d] }
  | _ => none }
def WholeRootsWrongFalsely : Prop := wholeRootsRow.holds Try.pinned (OpenSpec.ofChange wholeRootsWrong)

/-- 'fulcrumlaw21.AnalyseReplays': WHATEVER THE INPUT: true; the input reads as it did. -/
def analyseReplaysSpec : ChangeSpec := { name := "analyseReplays", fn := fun _ => fun
  | [d1, d2] => { results := [.lit (.bool true)], args := [d1, d2] }
  | _ => none }
def analyseReplaysRow : OpenClaim := { program := "ytnjbpkopekgihaa", sum := "b28b93e1e8f7b2edd889c6acdf69755fdefdc76afa1ae7e3113c60ee860865b3", func := "fulcrum/fulcrumlaw21.AnalyseReplays", spec := "analyseReplays", unfollowed := true, recurses := true, apart := false }
def AnalyseReplaysSaid : Prop := analyseReplaysRow.holds Try.pinned (OpenSpec.ofChange analyseReplaysSpec)

/-- ITS FALSE NEIGHBOUR: 'it returns false'. Refute it at one input. -/
def analyseReplaysWrong : ChangeSpec := { name := "analyseReplays", fn := fun _ => fun
  | [d1, d2] => { results := [.lit (.bool false)], args := [d1, d2] }
  | _ => none }
def AnalyseReplaysWrongFalsely : Prop := analyseReplaysRow.holds Try.pinned (OpenSpec.ofChange analyseReplaysWrong)

/- THE SECOND FORM. 'bulk': how many values and letters a reading holds, each counted each time it is reached (what is shared counts as often as it is met; a slice's spare places count too). A statement '..UptoSaid' is the law's where the arguments, and the package variables that the reading takes, are together of bulk at most 1048576: NARROWER than '..Said'. Prove '..Said' where nothing that the law and all that it calls make is longer than what came in: it says more and counts as full. Else prove '..UptoSaid'. A law counts once. -/
mutual
def uptoBulk {H : Type} : DataW H → Nat
  | .lit (.string bytes) => bytes.length + 1
  | .lit _ => 1
  | .nil => 1
  | .ptr d => uptoBulk d + 1
  | .slice elems spare => uptoBulkAll elems + uptoBulkAll spare + 1
  | .agg parts => uptoBulkAll parts + 1
  | .iface _ d => uptoBulk d + 1
  | .map entries => uptoBulkEntries entries + 1
  | .held _ => 1
def uptoBulkAll {H : Type} : List (DataW H) → Nat
  | [] => 0
  | d :: r => uptoBulk d + uptoBulkAll r
def uptoBulkEntries {H : Type} : List (Lit × DataW H) → Nat
  | [] => 0
  | x :: r => uptoBulkEntry x + uptoBulkEntries r
def uptoBulkEntry {H : Type} : Lit × DataW H → Nat
  | (.string bytes, d) => bytes.length + uptoBulk d + 1
  | (_, d) => uptoBulk d + 1
 end
def uptoSmall : (H : Type) → List (DataW H) → Bool := fun _ ds => decide (uptoBulkAll ds ≤ 1048576)
def OpenSpec.upto (s : _root_.Go.ChangeSpec) : _root_.Go.OpenSpec := { _root_.Go.OpenSpec.ofChange s with cond := some uptoSmall }

/-- 'fulcrumlaw01.NatOwn', WHERE WHAT IT READS IS OF BULK AT MOST 1048576: true; the input reads as it did. -/
def natOwnUptoRow : OpenClaim := { program := "ytnjbpkopekgihaa", sum := "b28b93e1e8f7b2edd889c6acdf69755fdefdc76afa1ae7e3113c60ee860865b3", func := "fulcrum/fulcrumlaw01.NatOwn", spec := "natOwn", named := ["math/bits.overflowError"], apart := false, narrowed := true }
def NatOwnUptoSaid : Prop := natOwnUptoRow.holds Try.pinned (OpenSpec.upto natOwnSpec)

/-- 'fulcrumlaw02.WholePowers', WHERE WHAT IT READS IS OF BULK AT MOST 1048576: true; the input reads as it did. -/
def wholePowersUptoRow : OpenClaim := { program := "ytnjbpkopekgihaa", sum := "b28b93e1e8f7b2edd889c6acdf69755fdefdc76afa1ae7e3113c60ee860865b3", func := "fulcrum/fulcrumlaw02.WholePowers", spec := "wholePowers", recurses := true, named := ["math/bits.overflowError"], apart := false, narrowed := true }
def WholePowersUptoSaid : Prop := wholePowersUptoRow.holds Try.pinned (OpenSpec.upto wholePowersSpec)

/-- 'fulcrumlaw02.WholeRoots', WHERE WHAT IT READS IS OF BULK AT MOST 1048576: true; the input reads as it did. -/
def wholeRootsUptoRow : OpenClaim := { program := "ytnjbpkopekgihaa", sum := "b28b93e1e8f7b2edd889c6acdf69755fdefdc76afa1ae7e3113c60ee860865b3", func := "fulcrum/fulcrumlaw02.WholeRoots", spec := "wholeRoots", named := ["math/bits.overflowError"], apart := false, narrowed := true }
def WholeRootsUptoSaid : Prop := wholeRootsUptoRow.holds Try.pinned (OpenSpec.upto wholeRootsSpec)

/-- 'fulcrumlaw21.AnalyseReplays', WHERE WHAT IT READS IS OF BULK AT MOST 1048576: true; the input reads as it did. -/
def analyseReplaysUptoRow : OpenClaim := { program := "ytnjbpkopekgihaa", sum := "b28b93e1e8f7b2edd889c6acdf69755fdefdc76afa1ae7e3113c60ee860865b3", func := "fulcrum/fulcrumlaw21.AnalyseReplays", spec := "analyseReplays", unfollowed := true, recurses := true, apart := false, narrowed := true }
def AnalyseReplaysUptoSaid : Prop := analyseReplaysUptoRow.holds Try.pinned (OpenSpec.upto analyseReplaysSpec)

end Rows
end Go.Proofs.Ytnjbpkopekgihaa
