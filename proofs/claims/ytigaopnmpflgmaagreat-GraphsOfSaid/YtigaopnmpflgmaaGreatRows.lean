/-
  No cell of these rows narrows 'for every input' (looked for: loops, veiled, ifaces, maps, wideKeys, modest, calm, conditions, laid).
  DERIVED. THE GIVEN ROWS OF THIS SEAT. 3 by the template 'for every input the law returns true; each argument reads behind the call as it read before'; 0 by the template 'total and deterministic' (their statements: YtigaopnmpflgmaaGreatTotals.lean).
  GIVEN WITH THE SEED: the statements are not yours to turn. If you find one false, say at which input.
  Laid BY PROGRAM, IN A SANDBOX (cutbox-rows.mjs): the forced cells as the released guide's own fill.sh prints them over the translation cdce3d59f06b337d… (all of the seat's roots in one cut). By AI agents, Wed Nov 11 2026. No macro, syntax, notation, axiom, sorry.
-/
import Derived.Test.YtigaopnmpflgmaaGreatChecked
import GoSem.Claim
import GoSem.ClaimJoined
import GoSem.ClaimMapViews
import Derived.JoinedTies
import Derived.KernelRfl
namespace Go.Proofs.YtigaopnmpflgmaaGreat
/- THE CELL 'sum', in the pinned program and in every row, IS THE sha256 OF THE DUMP (.gsa) THAT YtigaopnmpflgmaaGreatProg.lean LOADS. Nothing in Lean hashes anything: it is a label: what it is worth is what the hold of that sum in a sandbox is worth. -/
noncomputable def Tryz.pinned : Pinned := { name := "ytigaopnmpflgmaagreat", sum := "cdce3d59f06b337dacfb75b2800ebd48dc22404587cb077419f6b85af0adbf55", checked := Tryz.checked }
namespace Rows
def none {H : Type} : Left H := { results := [], args := [] }

/-- 'countersignlaw16.GraphsOf': WHATEVER THE INPUT: true; the input reads as it did. -/
def graphsOfSpec : ChangeSpec := { name := "graphsOf", fn := fun _ => fun
  | [d] => { results := [.lit (.bool true)], args := [d] }
  | _ => none }
def graphsOfRow : OpenClaim := { program := "ytigaopnmpflgmaagreat", sum := "cdce3d59f06b337dacfb75b2800ebd48dc22404587cb077419f6b85af0adbf55", func := "countersign/countersignlaw16.GraphsOf", spec := "graphsOf", unfollowed := true, recurses := true, plainKeys := false, apart := false }
def GraphsOfSaid : Prop := graphsOfRow.holds Tryz.pinned (OpenSpec.ofChange graphsOfSpec)

/-- ITS FALSE NEIGHBOUR: 'it returns false'. Refute it at one input. -/
def graphsOfWrong : ChangeSpec := { name := "graphsOf", fn := fun _ => fun
  | [d] => { results := [.lit (.bool false)], args := [d] }
  | _ => none }
def GraphsOfWrongFalsely : Prop := graphsOfRow.holds Tryz.pinned (OpenSpec.ofChange graphsOfWrong)

/-- 'countersignlaw16.GraphsPaths': WHATEVER THE INPUT: true; the input reads as it did. -/
def graphsPathsSpec : ChangeSpec := { name := "graphsPaths", fn := fun _ => fun
  | [d1, d2, d3] => { results := [.lit (.bool true)], args := [d1, d2, d3] }
  | _ => none }
def graphsPathsRow : OpenClaim := { program := "ytigaopnmpflgmaagreat", sum := "cdce3d59f06b337dacfb75b2800ebd48dc22404587cb077419f6b85af0adbf55", func := "countersign/countersignlaw16.GraphsPaths", spec := "graphsPaths", unfollowed := true, recurses := true, plainKeys := false, apart := false }
def GraphsPathsSaid : Prop := graphsPathsRow.holds Tryz.pinned (OpenSpec.ofChange graphsPathsSpec)

/-- ITS FALSE NEIGHBOUR: 'it returns false'. Refute it at one input. -/
def graphsPathsWrong : ChangeSpec := { name := "graphsPaths", fn := fun _ => fun
  | [d1, d2, d3] => { results := [.lit (.bool false)], args := [d1, d2, d3] }
  | _ => none }
def GraphsPathsWrongFalsely : Prop := graphsPathsRow.holds Tryz.pinned (OpenSpec.ofChange graphsPathsWrong)

/-- 'countersignlaw16.GraphsTurned': WHATEVER THE INPUT: true; the input reads as it did. -/
def graphsTurnedSpec : ChangeSpec := { name := "graphsTurned", fn := fun _ => fun
  | [d1, d2] => { results := [.lit (.bool true)], args := [d1, d2] }
  | _ => none }
def graphsTurnedRow : OpenClaim := { program := "ytigaopnmpflgmaagreat", sum := "cdce3d59f06b337dacfb75b2800ebd48dc22404587cb077419f6b85af0adbf55", func := "countersign/countersignlaw16.GraphsTurned", spec := "graphsTurned", unfollowed := true, recurses := true, plainKeys := false, apart := false }
def GraphsTurnedSaid : Prop := graphsTurnedRow.holds Tryz.pinned (OpenSpec.ofChange graphsTurnedSpec)

/-- ITS FALSE NEIGHBOUR: 'it returns false'. Refute it at one input. -/
def graphsTurnedWrong : ChangeSpec := { name := "graphsTurned", fn := fun _ => fun
  | [d1, d2] => { results := [.lit (.bool false)], args := [d1, d2] }
  | _ => none }
def GraphsTurnedWrongFalsely : Prop := graphsTurnedRow.holds Tryz.pinned (OpenSpec.ofChange graphsTurnedWrong)

/- THE SECOND FORM. 'bulk': how many values and letters a reading holds, each counted each time it is reached (what is shared counts as often as it is met; a slice's spare places count too). A statement '..UptoSaid' is the law's where the arguments, and the package variables that the reading takes, are together of bulk at most 1048576: NARROWER than '..Said'. Prove '..Said' where nothing that the law and all that it calls make is longer than what came in: it says more and counts as full. Else prove '..UptoSaid'. A law counts once. -/
mutual
def uptoBulk {H : Type} : DataW H → Nat
  | .lit (.string bytes) => bytes.length + 1
  | .lit _ => 1
  | .nil => 1
  | .ptr d => uptoBulk d + 1
  | .slice elems spare => uptoBulkAll elems + uptoBulkAll spare + 1
  | .agg parts => uptoBulkAll parts + 1
  | .iface _ d => uptoBulk d + 1
  | .map entries => uptoBulkEntries entries + 1
  | .held _ => 1
def uptoBulkAll {H : Type} : List (DataW H) → Nat
  | [] => 0
  | d :: r => uptoBulk d + uptoBulkAll r
def uptoBulkEntries {H : Type} : List (Lit × DataW H) → Nat
  | [] => 0
  | x :: r => uptoBulkEntry x + uptoBulkEntries r
def uptoBulkEntry {H : Type} : Lit × DataW H → Nat
  | (.string bytes, d) => bytes.length + uptoBulk d + 1
  | (_, d) => uptoBulk d + 1
 end
def uptoSmall : (H : Type) → List (DataW H) → Bool := fun _ ds => decide (uptoBulkAll ds ≤ 1048576)
def OpenSpec.upto (s : _root_.Go.ChangeSpec) : _root_.Go.OpenSpec := { _root_.Go.OpenSpec.ofChange s with cond := some uptoSmall }

/-- 'countersignlaw16.GraphsOf', WHERE WHAT IT READS IS OF BULK AT MOST 1048576: true; the input reads as it did. -/
def graphsOfUptoRow : OpenClaim := { program := "ytigaopnmpflgmaagreat", sum := "cdce3d59f06b337dacfb75b2800ebd48dc22404587cb077419f6b85af0adbf55", func := "countersign/countersignlaw16.GraphsOf", spec := "graphsOf", unfollowed := true, recurses := true, plainKeys := false, apart := false, narrowed := true }
def GraphsOfUptoSaid : Prop := graphsOfUptoRow.holds Tryz.pinned (OpenSpec.upto graphsOfSpec)

/-- 'countersignlaw16.GraphsPaths', WHERE WHAT IT READS IS OF BULK AT MOST 1048576: true; the input reads as it did. -/
def graphsPathsUptoRow : OpenClaim := { program := "ytigaopnmpflgmaagreat", sum := "cdce3d59f06b337dacfb75b2800ebd48dc22404587cb077419f6b85af0adbf55", func := "countersign/countersignlaw16.GraphsPaths", spec := "graphsPaths", unfollowed := true, recurses := true, plainKeys := false, apart := false, narrowed := true }
def GraphsPathsUptoSaid : Prop := graphsPathsUptoRow.holds Tryz.pinned (OpenSpec.upto graphsPathsSpec)

/-- 'countersignlaw16.GraphsTurned', WHERE WHAT IT READS IS OF BULK AT MOST 1048576: true; the input reads as it did. -/
def graphsTurnedUptoRow : OpenClaim := { program := "ytigaopnmpflgmaagreat", sum := "cdce3d59f06b337dacfb75b2800ebd48dc22404587cb077419f6b85af0adbf55", func := "countersign/countersignlaw16.GraphsTurned", spec := "graphsTurned", unfollowed := true, recurses := true, plainKeys := false, apart := false, narrowed := true }
def GraphsTurnedUptoSaid : Prop := graphsTurnedUptoRow.holds Tryz.pinned (OpenSpec.upto graphsTurnedSpec)

end Rows
end Go.Proofs.YtigaopnmpflgmaaGreat
