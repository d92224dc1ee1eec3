/-
  No cell of these rows narrows 'for every input' (looked for: loops, veiled, ifaces, maps, wideKeys, modest, calm, conditions, laid).
  DERIVED. THE GIVEN ROWS OF THIS SEAT. 6 by the template 'for every input the law returns true; each argument reads behind the call as it read before'; 0 by the template 'total and deterministic' (their statements: YtfkgaaibbfcaoaaGreatTotals.lean).
  GIVEN WITH THE SEED: the statements are not yours to turn. If you find one false, say at which input.
  Laid BY PROGRAM, IN A SANDBOX (cutbox-rows.mjs): the forced cells as the released guide's own fill.sh prints them over the translation 189bee545cc34c0a… (all of the seat's roots in one cut). By AI agents, Wed Nov 11 2026. No macro, syntax, notation, axiom, sorry.
-/
import Derived.Test.YtfkgaaibbfcaoaaGreatChecked
import GoSem.Claim
import GoSem.ClaimJoined
import GoSem.ClaimMapViews
import Derived.JoinedTies
import Derived.KernelRfl
namespace Go.Proofs.YtfkgaaibbfcaoaaGreat
/- THE CELL 'sum', in the pinned program and in every row, IS THE sha256 OF THE DUMP (.gsa) THAT YtfkgaaibbfcaoaaGreatProg.lean LOADS. Nothing in Lean hashes anything: it is a label: what it is worth is what the hold of that sum in a sandbox is worth. -/
noncomputable def Tryz.pinned : Pinned := { name := "ytfkgaaibbfcaoaagreat", sum := "189bee545cc34c0ac7881c6d17549539718daf23394f58d6a3f23c176420f389", checked := Tryz.checked }
namespace Rows
def none {H : Type} : Left H := { results := [], args := [] }

/-- 'countersignlaw21.ModelsAsk': WHATEVER THE INPUT: true; the input reads as it did. -/
def modelsAskSpec : ChangeSpec := { name := "modelsAsk", fn := fun _ => fun
  | [d1, d2, d3] => { results := [.lit (.bool true)], args := [d1, d2, d3] }
  | _ => none }
def modelsAskRow : OpenClaim := { program := "ytfkgaaibbfcaoaagreat", sum := "189bee545cc34c0ac7881c6d17549539718daf23394f58d6a3f23c176420f389", func := "countersign/countersignlaw21.ModelsAsk", spec := "modelsAsk", inPlace := ["internal/bytealg.abigen_runtime_cmpstring"], unfollowed := true, recurses := true, plainKeys := false, apart := false }
def ModelsAskSaid : Prop := modelsAskRow.holds Tryz.pinned (OpenSpec.ofChange modelsAskSpec)

/-- ITS FALSE NEIGHBOUR: 'it returns false'. Refute it at one input. -/
def modelsAskWrong : ChangeSpec := { name := "modelsAsk", fn := fun _ => fun
  | [d1, d2, d3] => { results := [.lit (.bool false)], args := [d1, d2, d3] }
  | _ => none }
def ModelsAskWrongFalsely : Prop := modelsAskRow.holds Tryz.pinned (OpenSpec.ofChange modelsAskWrong)

/-- 'countersignlaw21.ModelsOf': WHATEVER THE INPUT: true; the input reads as it did. -/
def modelsOfSpec : ChangeSpec := { name := "modelsOf", fn := fun _ => fun
  | [d] => { results := [.lit (.bool true)], args := [d] }
  | _ => none }
def modelsOfRow : OpenClaim := { program := "ytfkgaaibbfcaoaagreat", sum := "189bee545cc34c0ac7881c6d17549539718daf23394f58d6a3f23c176420f389", func := "countersign/countersignlaw21.ModelsOf", spec := "modelsOf", inPlace := ["internal/bytealg.abigen_runtime_cmpstring"], unfollowed := true, recurses := true, plainKeys := false, apart := false }
def ModelsOfSaid : Prop := modelsOfRow.holds Tryz.pinned (OpenSpec.ofChange modelsOfSpec)

/-- ITS FALSE NEIGHBOUR: 'it returns false'. Refute it at one input. -/
def modelsOfWrong : ChangeSpec := { name := "modelsOf", fn := fun _ => fun
  | [d] => { results := [.lit (.bool false)], args := [d] }
  | _ => none }
def ModelsOfWrongFalsely : Prop := modelsOfRow.holds Tryz.pinned (OpenSpec.ofChange modelsOfWrong)

/-- 'countersignlaw21.ModelsGrow': WHATEVER THE INPUT: true; the input reads as it did. -/
def modelsGrowSpec : ChangeSpec := { name := "modelsGrow", fn := fun _ => fun
  | [d1, d2] => { results := [.lit (.bool true)], args := [d1, d2] }
  | _ => none }
def modelsGrowRow : OpenClaim := { program := "ytfkgaaibbfcaoaagreat", sum := "189bee545cc34c0ac7881c6d17549539718daf23394f58d6a3f23c176420f389", func := "countersign/countersignlaw21.ModelsGrow", spec := "modelsGrow", inPlace := ["internal/bytealg.abigen_runtime_cmpstring"], unfollowed := true, recurses := true, plainKeys := false, apart := false }
def ModelsGrowSaid : Prop := modelsGrowRow.holds Tryz.pinned (OpenSpec.ofChange modelsGrowSpec)

/-- ITS FALSE NEIGHBOUR: 'it returns false'. Refute it at one input. -/
def modelsGrowWrong : ChangeSpec := { name := "modelsGrow", fn := fun _ => fun
  | [d1, d2] => { results := [.lit (.bool false)], args := [d1, d2] }
  | _ => none }
def ModelsGrowWrongFalsely : Prop := modelsGrowRow.holds Tryz.pinned (OpenSpec.ofChange modelsGrowWrong)

/-- 'countersignlaw21.ModelsMade': WHATEVER THE INPUT: true; the input reads as it did. -/
def modelsMadeSpec : ChangeSpec := { name := "modelsMade", fn := fun _ => fun
  | [d1, d2, d3] => { results := [.lit (.bool true)], args := [d1, d2, d3] }
  | _ => none }
def modelsMadeRow : OpenClaim := { program := "ytfkgaaibbfcaoaagreat", sum := "189bee545cc34c0ac7881c6d17549539718daf23394f58d6a3f23c176420f389", func := "countersign/countersignlaw21.ModelsMade", spec := "modelsMade", inPlace := ["internal/bytealg.abigen_runtime_cmpstring"], unfollowed := true, recurses := true, plainKeys := false, apart := false }
def ModelsMadeSaid : Prop := modelsMadeRow.holds Tryz.pinned (OpenSpec.ofChange modelsMadeSpec)

/-- ITS FALSE NEIGHBOUR: 'it returns false'. Refute it at one input. -/
def modelsMadeWrong : ChangeSpec := { name := "modelsMade", fn := fun _ => fun
  | [d1, d2, d3] => { results := [.lit (.bool false)], args := [d1, d2, d3] }
  | _ => none }
def ModelsMadeWrongFalsely : Prop := modelsMadeRow.holds Tryz.pinned (OpenSpec.ofChange modelsMadeWrong)

/-- 'countersignlaw22.ReachesElse': WHATEVER THE INPUT: true; the input reads as it did. -/
def reachesElseSpec : ChangeSpec := { name := "reachesElse", fn := fun _ => fun
  | [d1, d2, d3] => { results := [.lit (.bool true)], args := [d1, d2, d3] }
  | _ => none }
def reachesElseRow : OpenClaim := { program := "ytfkgaaibbfcaoaagreat", sum := "189bee545cc34c0ac7881c6d17549539718daf23394f58d6a3f23c176420f389", func := "countersign/countersignlaw22.ReachesElse", spec := "reachesElse", inPlace := ["internal/bytealg.abigen_runtime_cmpstring"], unfollowed := true, recurses := true, plainKeys := false, apart := false }
def ReachesElseSaid : Prop := reachesElseRow.holds Tryz.pinned (OpenSpec.ofChange reachesElseSpec)

/-- ITS FALSE NEIGHBOUR: 'it returns false'. Refute it at one input. -/
def reachesElseWrong : ChangeSpec := { name := "reachesElse", fn := fun _ => fun
  | [d1, d2, d3] => { results := [.lit (.bool false)], args := [d1, d2, d3] }
  | _ => none }
def ReachesElseWrongFalsely : Prop := reachesElseRow.holds Tryz.pinned (OpenSpec.ofChange reachesElseWrong)

/-- 'countersignlaw22.ReachesOf': WHATEVER THE INPUT: true; the input reads as it did. -/
def reachesOfSpec : ChangeSpec := { name := "reachesOf", fn := fun _ => fun
  | [d1, d2] => { results := [.lit (.bool true)], args := [d1, d2] }
  | _ => none }
def reachesOfRow : OpenClaim := { program := "ytfkgaaibbfcaoaagreat", sum := "189bee545cc34c0ac7881c6d17549539718daf23394f58d6a3f23c176420f389", func := "countersign/countersignlaw22.ReachesOf", spec := "reachesOf", inPlace := ["internal/bytealg.abigen_runtime_cmpstring"], unfollowed := true, recurses := true, plainKeys := false, apart := false }
def ReachesOfSaid : Prop := reachesOfRow.holds Tryz.pinned (OpenSpec.ofChange reachesOfSpec)

/-- ITS FALSE NEIGHBOUR: 'it returns false'. Refute it at one input. -/
def reachesOfWrong : ChangeSpec := { name := "reachesOf", fn := fun _ => fun
  | [d1, d2] => { results := [.lit (.bool false)], args := [d1, d2] }
  | _ => none }
def ReachesOfWrongFalsely : Prop := reachesOfRow.holds Tryz.pinned (OpenSpec.ofChange reachesOfWrong)

/- THE SECOND FORM. 'bulk': how many values and letters a reading holds, each counted each time it is reached (what is shared counts as often as it is met; a slice's spare places count too). A statement '..UptoSaid' is the law's where the arguments, and the package variables that the reading takes, are together of bulk at most 1048576: NARROWER than '..Said'. Prove '..Said' where nothing that the law and all that it calls make is longer than what came in: it says more and counts as full. Else prove '..UptoSaid'. A law counts once. -/
mutual
def uptoBulk {H : Type} : DataW H → Nat
  | .lit (.string bytes) => bytes.length + 1
  | .lit _ => 1
  | .nil => 1
  | .ptr d => uptoBulk d + 1
  | .slice elems spare => uptoBulkAll elems + uptoBulkAll spare + 1
  | .agg parts => uptoBulkAll parts + 1
  | .iface _ d => uptoBulk d + 1
  | .map entries => uptoBulkEntries entries + 1
  | .held _ => 1
def uptoBulkAll {H : Type} : List (DataW H) → Nat
  | [] => 0
  | d :: r => uptoBulk d + uptoBulkAll r
def uptoBulkEntries {H : Type} : List (Lit × DataW H) → Nat
  | [] => 0
  | x :: r => uptoBulkEntry x + uptoBulkEntries r
def uptoBulkEntry {H : Type} : Lit × DataW H → Nat
  | (.string bytes, d) => bytes.length + uptoBulk d + 1
  | (_, d) => uptoBulk d + 1
 end
def uptoSmall : (H : Type) → List (DataW H) → Bool := fun _ ds => decide (uptoBulkAll ds ≤ 1048576)
def OpenSpec.upto (s : _root_.Go.ChangeSpec) : _root_.Go.OpenSpec := { _root_.Go.OpenSpec.ofChange s with cond := some uptoSmall }

/-- 'countersignlaw21.ModelsAsk', WHERE WHAT IT READS IS OF BULK AT MOST 1048576: true; the input reads as it did. -/
def modelsAskUptoRow : OpenClaim := { program := "ytfkgaaibbfcaoaagreat", sum := "189bee545cc34c0ac7881c6d17549539718daf23394f58d6a3f23c176420f389", func := "countersign/countersignlaw21.ModelsAsk", spec := "modelsAsk", inPlace := ["internal/bytealg.abigen_runtime_cmpstring"], unfollowed := true, recurses := true, plainKeys := false, apart := false, narrowed := true }
def ModelsAskUptoSaid : Prop := modelsAskUptoRow.holds Tryz.pinned (OpenSpec.upto modelsAskSpec)

/-- 'countersignlaw21.ModelsOf', WHERE WHAT IT READS IS OF BULK AT MOST 1048576: true; the input reads as it did. -/
def modelsOfUptoRow : OpenClaim := { program := "ytfkgaaibbfcaoaagreat", sum := "189bee545cc34c0ac7881c6d17549539718daf23394f58d6a3f23c176420f389", func := "countersign/countersignlaw21.ModelsOf", spec := "modelsOf", inPlace := ["internal/bytealg.abigen_runtime_cmpstring"], unfollowed := true, recurses := true, plainKeys := false, apart := false, narrowed := true }
def ModelsOfUptoSaid : Prop := modelsOfUptoRow.holds Tryz.pinned (OpenSpec.upto modelsOfSpec)

/-- 'countersignlaw21.ModelsGrow', WHERE WHAT IT READS IS OF BULK AT MOST 1048576: true; the input reads as it did. -/
def modelsGrowUptoRow : OpenClaim := { program := "ytfkgaaibbfcaoaagreat", sum := "189bee545cc34c0ac7881c6d17549539718daf23394f58d6a3f23c176420f389", func := "countersign/countersignlaw21.ModelsGrow", spec := "modelsGrow", inPlace := ["internal/bytealg.abigen_runtime_cmpstring"], unfollowed := true, recurses := true, plainKeys := false, apart := false, narrowed := true }
def ModelsGrowUptoSaid : Prop := modelsGrowUptoRow.holds Tryz.pinned (OpenSpec.upto modelsGrowSpec)

/-- 'countersignlaw21.ModelsMade', WHERE WHAT IT READS IS OF BULK AT MOST 1048576: true; the input reads as it did. -/
def modelsMadeUptoRow : OpenClaim := { program := "ytfkgaaibbfcaoaagreat", sum := "189bee545cc34c0ac7881c6d17549539718daf23394f58d6a3f23c176420f389", func := "countersign/countersignlaw21.ModelsMade", spec := "modelsMade", inPlace := ["internal/bytealg.abigen_runtime_cmpstring"], unfollowed := true, recurses := true, plainKeys := false, apart := false, narrowed := true }
def ModelsMadeUptoSaid : Prop := modelsMadeUptoRow.holds Tryz.pinned (OpenSpec.upto modelsMadeSpec)

/-- 'countersignlaw22.ReachesElse', WHERE WHAT IT READS IS OF BULK AT MOST 1048576: true; the input reads as it did. -/
def reachesElseUptoRow : OpenClaim := { program := "ytfkgaaibbfcaoaagreat", sum := "189bee545cc34c0ac7881c6d17549539718daf23394f58d6a3f23c176420f389", func := "countersign/countersignlaw22.ReachesElse", spec := "reachesElse", inPlace := ["internal/bytealg.abigen_runtime_cmpstring"], unfollowed := true, recurses := true, plainKeys := false, apart := false, narrowed := true }
def ReachesElseUptoSaid : Prop := reachesElseUptoRow.holds Tryz.pinned (OpenSpec.upto reachesElseSpec)

/-- 'countersignlaw22.ReachesOf', WHERE WHAT IT READS IS OF BULK AT MOST 1048576: true; the input reads as it did. -/
def reachesOfUptoRow : OpenClaim := { program := "ytfkgaaibbfcaoaagreat", sum := "189bee545cc34c0ac7881c6d17549539718daf23394f58d6a3f23c176420f389", func := "countersign/countersignlaw22.ReachesOf", spec := "reachesOf", inPlace := ["internal/bytealg.abigen_runtime_cmpstring"], unfollowed := true, recurses := true, plainKeys := false, apart := false, narrowed := true }
def ReachesOfUptoSaid : Prop := reachesOfUptoRow.holds Tryz.pinned (OpenSpec.upto reachesOfSpec)

end Rows
end Go.Proofs.YtfkgaaibbfcaoaaGreat
