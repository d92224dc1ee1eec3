/-
  No cell of these rows narrows 'for every input' (looked for: loops, veiled, ifaces, maps, wideKeys, modest, calm, conditions, laid).
  DERIVED. THE GIVEN ROWS OF THIS SEAT. 3 by the template 'for every input the law returns true; each argument reads behind the call as it read before'; 0 by the template 'total and deterministic' (their statements: YtbfjjkjiokfdgaaGreatTotals.lean).
  GIVEN WITH THE SEED: the statements are not yours to turn. If you find one false, say at which input.
  Laid BY PROGRAM, IN A SANDBOX (cutbox-rows.mjs): the forced cells as the released guide's own fill.sh prints them over the translation 8e8b338718ea024e… (all of the seat's roots in one cut). By AI agents, Wed Nov 11 2026. No macro, syntax, notation, axiom, sorry.
-/
import Derived.Test.YtbfjjkjiokfdgaaGreatChecked
import GoSem.Claim
import GoSem.ClaimJoined
import GoSem.ClaimMapViews
import Derived.JoinedTies
import Derived.KernelRfl
namespace Go.Proofs.YtbfjjkjiokfdgaaGreat
/- THE CELL 'sum', in the pinned program and in every row, IS THE sha256 OF THE DUMP (.gsa) THAT YtbfjjkjiokfdgaaGreatProg.lean LOADS. Nothing in Lean hashes anything: it is a label: what it is worth is what the hold of that sum in a sandbox is worth. -/
noncomputable def Tryz.pinned : Pinned := { name := "ytbfjjkjiokfdgaagreat", sum := "8e8b338718ea024e3eea95e13e50dc68f00f7f2c7def3f115c227a7877527f75", checked := Tryz.checked }
namespace Rows
def none {H : Type} : Left H := { results := [], args := [] }

/-- 'countersignlaw20.FitsObjects': WHATEVER THE INPUT: true; the input reads as it did. -/
def fitsObjectsSpec : ChangeSpec := { name := "fitsObjects", fn := fun _ => fun
  | [d1, d2] => { results := [.lit (.bool true)], args := [d1, d2] }
  | _ => none }
def fitsObjectsRow : OpenClaim := { program := "ytbfjjkjiokfdgaagreat", sum := "8e8b338718ea024e3eea95e13e50dc68f00f7f2c7def3f115c227a7877527f75", func := "countersign/countersignlaw20.FitsObjects", spec := "fitsObjects", inPlace := ["internal/bytealg.abigen_runtime_cmpstring"], unfollowed := true, recurses := true, plainKeys := false, apart := false }
def FitsObjectsSaid : Prop := fitsObjectsRow.holds Tryz.pinned (OpenSpec.ofChange fitsObjectsSpec)

/-- ITS FALSE NEIGHBOUR: 'it returns false'. Refute it at one input. -/
def fitsObjectsWrong : ChangeSpec := { name := "fitsObjects", fn := fun _ => fun
  | [d1, d2] => { results := [.lit (.bool false)], args := [d1, d2] }
  | _ => none }
def FitsObjectsWrongFalsely : Prop := fitsObjectsRow.holds Tryz.pinned (OpenSpec.ofChange fitsObjectsWrong)

/-- 'countersignlaw20.FitsAll': WHATEVER THE INPUT: true; the input reads as it did. -/
def fitsAllSpec : ChangeSpec := { name := "fitsAll", fn := fun _ => fun
  | [d1, d2] => { results := [.lit (.bool true)], args := [d1, d2] }
  | _ => none }
def fitsAllRow : OpenClaim := { program := "ytbfjjkjiokfdgaagreat", sum := "8e8b338718ea024e3eea95e13e50dc68f00f7f2c7def3f115c227a7877527f75", func := "countersign/countersignlaw20.FitsAll", spec := "fitsAll", inPlace := ["internal/bytealg.abigen_runtime_cmpstring"], unfollowed := true, recurses := true, plainKeys := false, apart := false }
def FitsAllSaid : Prop := fitsAllRow.holds Tryz.pinned (OpenSpec.ofChange fitsAllSpec)

/-- ITS FALSE NEIGHBOUR: 'it returns false'. Refute it at one input. -/
def fitsAllWrong : ChangeSpec := { name := "fitsAll", fn := fun _ => fun
  | [d1, d2] => { results := [.lit (.bool false)], args := [d1, d2] }
  | _ => none }
def FitsAllWrongFalsely : Prop := fitsAllRow.holds Tryz.pinned (OpenSpec.ofChange fitsAllWrong)

/-- 'countersignlaw20.FitsCheck': WHATEVER THE INPUT: true; the input reads as it did. -/
def fitsCheckSpec : ChangeSpec := { name := "fitsCheck", fn := fun _ => fun
  | [d1, d2] => { results := [.lit (.bool true)], args := [d1, d2] }
  | _ => none }
def fitsCheckRow : OpenClaim := { program := "ytbfjjkjiokfdgaagreat", sum := "8e8b338718ea024e3eea95e13e50dc68f00f7f2c7def3f115c227a7877527f75", func := "countersign/countersignlaw20.FitsCheck", spec := "fitsCheck", inPlace := ["internal/bytealg.abigen_runtime_cmpstring"], unfollowed := true, recurses := true, plainKeys := false, apart := false }
def FitsCheckSaid : Prop := fitsCheckRow.holds Tryz.pinned (OpenSpec.ofChange fitsCheckSpec)

/-- ITS FALSE NEIGHBOUR: 'it returns false'. Refute it at one input. -/
def fitsCheckWrong : ChangeSpec := { name := "fitsCheck", fn := fun _ => fun
  | [d1, d2] => { results := [.lit (.bool false)], args := [d1, d2] }
  | _ => none }
def FitsCheckWrongFalsely : Prop := fitsCheckRow.holds Tryz.pinned (OpenSpec.ofChange fitsCheckWrong)

/- THE SECOND FORM. 'bulk': how many values and letters a reading holds, each counted each time it is reached (what is shared counts as often as it is met; a slice's spare places count too). A statement '..UptoSaid' is the law's where the arguments, and the package variables that the reading takes, are together of bulk at most 1048576: NARROWER than '..Said'. Prove '..Said' where nothing that the law and all that it calls make is longer than what came in: it says more and counts as full. Else prove '..UptoSaid'. A law counts once. -/
mutual
def uptoBulk {H : Type} : DataW H → Nat
  | .lit (.string bytes) => bytes.length + 1
  | .lit _ => 1
  | .nil => 1
  | .ptr d => uptoBulk d + 1
  | .slice elems spare => uptoBulkAll elems + uptoBulkAll spare + 1
  | .agg parts => uptoBulkAll parts + 1
  | .iface _ d => uptoBulk d + 1
  | .map entries => uptoBulkEntries entries + 1
  | .held _ => 1
def uptoBulkAll {H : Type} : List (DataW H) → Nat
  | [] => 0
  | d :: r => uptoBulk d + uptoBulkAll r
def uptoBulkEntries {H : Type} : List (Lit × DataW H) → Nat
  | [] => 0
  | x :: r => uptoBulkEntry x + uptoBulkEntries r
def uptoBulkEntry {H : Type} : Lit × DataW H → Nat
  | (.string bytes, d) => bytes.length + uptoBulk d + 1
  | (_, d) => uptoBulk d + 1
 end
def uptoSmall : (H : Type) → List (DataW H) → Bool := fun _ ds => decide (uptoBulkAll ds ≤ 1048576)
def OpenSpec.upto (s : _root_.Go.ChangeSpec) : _root_.Go.OpenSpec := { _root_.Go.OpenSpec.ofChange s with cond := some uptoSmall }

/-- 'countersignlaw20.FitsObjects', WHERE WHAT IT READS IS OF BULK AT MOST 1048576: true; the input reads as it did. -/
def fitsObjectsUptoRow : OpenClaim := { program := "ytbfjjkjiokfdgaagreat", sum := "8e8b338718ea024e3eea95e13e50dc68f00f7f2c7def3f115c227a7877527f75", func := "countersign/countersignlaw20.FitsObjects", spec := "fitsObjects", inPlace := ["internal/bytealg.abigen_runtime_cmpstring"], unfollowed := true, recurses := true, plainKeys := false, apart := false, narrowed := true }
def FitsObjectsUptoSaid : Prop := fitsObjectsUptoRow.holds Tryz.pinned (OpenSpec.upto fitsObjectsSpec)

/-- 'countersignlaw20.FitsAll', WHERE WHAT IT READS IS OF BULK AT MOST 1048576: true; the input reads as it did. -/
def fitsAllUptoRow : OpenClaim := { program := "ytbfjjkjiokfdgaagreat", sum := "8e8b338718ea024e3eea95e13e50dc68f00f7f2c7def3f115c227a7877527f75", func := "countersign/countersignlaw20.FitsAll", spec := "fitsAll", inPlace := ["internal/bytealg.abigen_runtime_cmpstring"], unfollowed := true, recurses := true, plainKeys := false, apart := false, narrowed := true }
def FitsAllUptoSaid : Prop := fitsAllUptoRow.holds Tryz.pinned (OpenSpec.upto fitsAllSpec)

/-- 'countersignlaw20.FitsCheck', WHERE WHAT IT READS IS OF BULK AT MOST 1048576: true; the input reads as it did. -/
def fitsCheckUptoRow : OpenClaim := { program := "ytbfjjkjiokfdgaagreat", sum := "8e8b338718ea024e3eea95e13e50dc68f00f7f2c7def3f115c227a7877527f75", func := "countersign/countersignlaw20.FitsCheck", spec := "fitsCheck", inPlace := ["internal/bytealg.abigen_runtime_cmpstring"], unfollowed := true, recurses := true, plainKeys := false, apart := false, narrowed := true }
def FitsCheckUptoSaid : Prop := fitsCheckUptoRow.holds Tryz.pinned (OpenSpec.upto fitsCheckSpec)

end Rows
end Go.Proofs.YtbfjjkjiokfdgaaGreat
