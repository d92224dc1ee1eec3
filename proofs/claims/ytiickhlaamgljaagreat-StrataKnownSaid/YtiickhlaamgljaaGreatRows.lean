/-
  No cell of these rows narrows 'for every input' (looked for: loops, veiled, ifaces, maps, wideKeys, modest, calm, conditions, laid).
  DERIVED. THE GIVEN ROWS OF THIS SEAT. 5 by the template 'for every input the law returns true; each argument reads behind the call as it read before'; 0 by the template 'total and deterministic' (their statements: YtiickhlaamgljaaGreatTotals.lean).
  GIVEN WITH THE SEED: the statements are not yours to turn. If you find one false, say at which input.
  Laid BY PROGRAM, IN A SANDBOX (cutbox-rows.mjs): the forced cells as the released guide's own fill.sh prints them over the translation 00e7229303fc3d0f… (all of the seat's roots in one cut). By AI agents, Wed Nov 11 2026. No macro, syntax, notation, axiom, sorry.
-/
import Derived.Test.YtiickhlaamgljaaGreatChecked
import GoSem.Claim
import GoSem.ClaimJoined
import GoSem.ClaimMapViews
import Derived.JoinedTies
import Derived.KernelRfl
namespace Go.Proofs.YtiickhlaamgljaaGreat
/- THE CELL 'sum', in the pinned program and in every row, IS THE sha256 OF THE DUMP (.gsa) THAT YtiickhlaamgljaaGreatProg.lean LOADS. Nothing in Lean hashes anything: it is a label: what it is worth is what the hold of that sum in a sandbox is worth. -/
noncomputable def Tryz.pinned : Pinned := { name := "ytiickhlaamgljaagreat", sum := "00e7229303fc3d0fe6c151faffdf4038460bc4170262a0a5e82ba3c90d1333ef", checked := Tryz.checked }
namespace Rows
def none {H : Type} : Left H := { results := [], args := [] }

/-- 'countersignlaw18.StrataNumbers': WHATEVER THE INPUT: true; the input reads as it did. -/
def strataNumbersSpec : ChangeSpec := { name := "strataNumbers", fn := fun _ => fun
  | [d] => { results := [.lit (.bool true)], args := [d] }
  | _ => none }
def strataNumbersRow : OpenClaim := { program := "ytiickhlaamgljaagreat", sum := "00e7229303fc3d0fe6c151faffdf4038460bc4170262a0a5e82ba3c90d1333ef", func := "countersign/countersignlaw18.StrataNumbers", spec := "strataNumbers", unfollowed := true, recurses := true, plainKeys := false, apart := false }
def StrataNumbersSaid : Prop := strataNumbersRow.holds Tryz.pinned (OpenSpec.ofChange strataNumbersSpec)

/-- ITS FALSE NEIGHBOUR: 'it returns false'. Refute it at one input. -/
def strataNumbersWrong : ChangeSpec := { name := "strataNumbers", fn := fun _ => fun
  | [d] => { results := [.lit (.bool false)], args := [d] }
  | _ => none }
def StrataNumbersWrongFalsely : Prop := strataNumbersRow.holds Tryz.pinned (OpenSpec.ofChange strataNumbersWrong)

/-- 'countersignlaw18.StrataOf': WHATEVER THE INPUT: true; the input reads as it did. -/
def strataOfSpec : ChangeSpec := { name := "strataOf", fn := fun _ => fun
  | [d1, d2, d3] => { results := [.lit (.bool true)], args := [d1, d2, d3] }
  | _ => none }
def strataOfRow : OpenClaim := { program := "ytiickhlaamgljaagreat", sum := "00e7229303fc3d0fe6c151faffdf4038460bc4170262a0a5e82ba3c90d1333ef", func := "countersign/countersignlaw18.StrataOf", spec := "strataOf", unfollowed := true, recurses := true, plainKeys := false, apart := false }
def StrataOfSaid : Prop := strataOfRow.holds Tryz.pinned (OpenSpec.ofChange strataOfSpec)

/-- ITS FALSE NEIGHBOUR: 'it returns false'. Refute it at one input. -/
def strataOfWrong : ChangeSpec := { name := "strataOf", fn := fun _ => fun
  | [d1, d2, d3] => { results := [.lit (.bool false)], args := [d1, d2, d3] }
  | _ => none }
def StrataOfWrongFalsely : Prop := strataOfRow.holds Tryz.pinned (OpenSpec.ofChange strataOfWrong)

/-- 'countersignlaw18.StrataTurns': WHATEVER THE INPUT: true; the input reads as it did. -/
def strataTurnsSpec : ChangeSpec := { name := "strataTurns", fn := fun _ => fun
  | [d1, d2] => { results := [.lit (.bool true)], args := [d1, d2] }
  | _ => none }
def strataTurnsRow : OpenClaim := { program := "ytiickhlaamgljaagreat", sum := "00e7229303fc3d0fe6c151faffdf4038460bc4170262a0a5e82ba3c90d1333ef", func := "countersign/countersignlaw18.StrataTurns", spec := "strataTurns", unfollowed := true, recurses := true, plainKeys := false, apart := false }
def StrataTurnsSaid : Prop := strataTurnsRow.holds Tryz.pinned (OpenSpec.ofChange strataTurnsSpec)

/-- ITS FALSE NEIGHBOUR: 'it returns false'. Refute it at one input. -/
def strataTurnsWrong : ChangeSpec := { name := "strataTurns", fn := fun _ => fun
  | [d1, d2] => { results := [.lit (.bool false)], args := [d1, d2] }
  | _ => none }
def StrataTurnsWrongFalsely : Prop := strataTurnsRow.holds Tryz.pinned (OpenSpec.ofChange strataTurnsWrong)

/-- 'countersignlaw18.StrataErrors': WHATEVER THE INPUT: true; the input reads as it did. -/
def strataErrorsSpec : ChangeSpec := { name := "strataErrors", fn := fun _ => fun
  | [d] => { results := [.lit (.bool true)], args := [d] }
  | _ => none }
def strataErrorsRow : OpenClaim := { program := "ytiickhlaamgljaagreat", sum := "00e7229303fc3d0fe6c151faffdf4038460bc4170262a0a5e82ba3c90d1333ef", func := "countersign/countersignlaw18.StrataErrors", spec := "strataErrors", unfollowed := true, recurses := true, plainKeys := false, apart := false }
def StrataErrorsSaid : Prop := strataErrorsRow.holds Tryz.pinned (OpenSpec.ofChange strataErrorsSpec)

/-- ITS FALSE NEIGHBOUR: 'it returns false'. Refute it at one input. -/
def strataErrorsWrong : ChangeSpec := { name := "strataErrors", fn := fun _ => fun
  | [d] => { results := [.lit (.bool false)], args := [d] }
  | _ => none }
def StrataErrorsWrongFalsely : Prop := strataErrorsRow.holds Tryz.pinned (OpenSpec.ofChange strataErrorsWrong)

/-- 'countersignlaw18.StrataKnown': WHATEVER THE INPUT: true; the input reads as it did. -/
def strataKnownSpec : ChangeSpec := { name := "strataKnown", fn := fun _ => fun
  | [] => { results := [.lit (.bool true)], args := [] }
  | _ => none }
def strataKnownRow : OpenClaim := { program := "ytiickhlaamgljaagreat", sum := "00e7229303fc3d0fe6c151faffdf4038460bc4170262a0a5e82ba3c90d1333ef", func := "countersign/countersignlaw18.StrataKnown", spec := "strataKnown", unfollowed := true, recurses := true, plainKeys := false, apart := false }
def StrataKnownSaid : Prop := strataKnownRow.holds Tryz.pinned (OpenSpec.ofChange strataKnownSpec)

/-- ITS FALSE NEIGHBOUR: 'it returns false'. Refute it at one input. -/
def strataKnownWrong : ChangeSpec := { name := "strataKnown", fn := fun _ => fun
  | [] => { results := [.lit (.bool false)], args := [] }
  | _ => none }
def StrataKnownWrongFalsely : Prop := strataKnownRow.holds Tryz.pinned (OpenSpec.ofChange strataKnownWrong)

/- THE SECOND FORM. 'bulk': how many values and letters a reading holds, each counted each time it is reached (what is shared counts as often as it is met; a slice's spare places count too). A statement '..UptoSaid' is the law's where the arguments, and the package variables that the reading takes, are together of bulk at most 1048576: NARROWER than '..Said'. Prove '..Said' where nothing that the law and all that it calls make is longer than what came in: it says more and counts as full. Else prove '..UptoSaid'. A law counts once. -/
mutual
def uptoBulk {H : Type} : DataW H → Nat
  | .lit (.string bytes) => bytes.length + 1
  | .lit _ => 1
  | .nil => 1
  | .ptr d => uptoBulk d + 1
  | .slice elems spare => uptoBulkAll elems + uptoBulkAll spare + 1
  | .agg parts => uptoBulkAll parts + 1
  | .iface _ d => uptoBulk d + 1
  | .map entries => uptoBulkEntries entries + 1
  | .held _ => 1
def uptoBulkAll {H : Type} : List (DataW H) → Nat
  | [] => 0
  | d :: r => uptoBulk d + uptoBulkAll r
def uptoBulkEntries {H : Type} : List (Lit × DataW H) → Nat
  | [] => 0
  | x :: r => uptoBulkEntry x + uptoBulkEntries r
def uptoBulkEntry {H : Type} : Lit × DataW H → Nat
  | (.string bytes, d) => bytes.length + uptoBulk d + 1
  | (_, d) => uptoBulk d + 1
 end
def uptoSmall : (H : Type) → List (DataW H) → Bool := fun _ ds => decide (uptoBulkAll ds ≤ 1048576)
def OpenSpec.upto (s : _root_.Go.ChangeSpec) : _root_.Go.OpenSpec := { _root_.Go.OpenSpec.ofChange s with cond := some uptoSmall }

/-- 'countersignlaw18.StrataNumbers', WHERE WHAT IT READS IS OF BULK AT MOST 1048576: true; the input reads as it did. -/
def strataNumbersUptoRow : OpenClaim := { program := "ytiickhlaamgljaagreat", sum := "00e7229303fc3d0fe6c151faffdf4038460bc4170262a0a5e82ba3c90d1333ef", func := "countersign/countersignlaw18.StrataNumbers", spec := "strataNumbers", unfollowed := true, recurses := true, plainKeys := false, apart := false, narrowed := true }
def StrataNumbersUptoSaid : Prop := strataNumbersUptoRow.holds Tryz.pinned (OpenSpec.upto strataNumbersSpec)

/-- 'countersignlaw18.StrataOf', WHERE WHAT IT READS IS OF BULK AT MOST 1048576: true; the input reads as it did. -/
def strataOfUptoRow : OpenClaim := { program := "ytiickhlaamgljaagreat", sum := "00e7229303fc3d0fe6c151faffdf4038460bc4170262a0a5e82ba3c90d1333ef", func := "countersign/countersignlaw18.StrataOf", spec := "strataOf", unfollowed := true, recurses := true, plainKeys := false, apart := false, narrowed := true }
def StrataOfUptoSaid : Prop := strataOfUptoRow.holds Tryz.pinned (OpenSpec.upto strataOfSpec)

/-- 'countersignlaw18.StrataTurns', WHERE WHAT IT READS IS OF BULK AT MOST 1048576: true; the input reads as it did. -/
def strataTurnsUptoRow : OpenClaim := { program := "ytiickhlaamgljaagreat", sum := "00e7229303fc3d0fe6c151faffdf4038460bc4170262a0a5e82ba3c90d1333ef", func := "countersign/countersignlaw18.StrataTurns", spec := "strataTurns", unfollowed := true, recurses := true, plainKeys := false, apart := false, narrowed := true }
def StrataTurnsUptoSaid : Prop := strataTurnsUptoRow.holds Tryz.pinned (OpenSpec.upto strataTurnsSpec)

/-- 'countersignlaw18.StrataErrors', WHERE WHAT IT READS IS OF BULK AT MOST 1048576: true; the input reads as it did. -/
def strataErrorsUptoRow : OpenClaim := { program := "ytiickhlaamgljaagreat", sum := "00e7229303fc3d0fe6c151faffdf4038460bc4170262a0a5e82ba3c90d1333ef", func := "countersign/countersignlaw18.StrataErrors", spec := "strataErrors", unfollowed := true, recurses := true, plainKeys := false, apart := false, narrowed := true }
def StrataErrorsUptoSaid : Prop := strataErrorsUptoRow.holds Tryz.pinned (OpenSpec.upto strataErrorsSpec)

/-- 'countersignlaw18.StrataKnown', WHERE WHAT IT READS IS OF BULK AT MOST 1048576: true; the input reads as it did. -/
def strataKnownUptoRow : OpenClaim := { program := "ytiickhlaamgljaagreat", sum := "00e7229303fc3d0fe6c151faffdf4038460bc4170262a0a5e82ba3c90d1333ef", func := "countersign/countersignlaw18.StrataKnown", spec := "strataKnown", unfollowed := true, recurses := true, plainKeys := false, apart := false, narrowed := true }
def StrataKnownUptoSaid : Prop := strataKnownUptoRow.holds Tryz.pinned (OpenSpec.upto strataKnownSpec)

end Rows
end Go.Proofs.YtiickhlaamgljaaGreat
