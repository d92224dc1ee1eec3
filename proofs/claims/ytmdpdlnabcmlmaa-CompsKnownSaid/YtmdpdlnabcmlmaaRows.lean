/-
  No cell of these rows narrows 'for every input' (looked for: loops, veiled, ifaces, maps, wideKeys, modest, calm, conditions, laid).
  DERIVED. THE GIVEN ROWS OF THIS SEAT. 5 by the template 'for every input the law returns true; each argument reads behind the call as it read before'; 0 by the template 'total and deterministic' (their statements: YtmdpdlnabcmlmaaTotals.lean).
  GIVEN WITH THE SEED: the statements are not yours to turn. If you find one false, say at which input.
  Laid BY PROGRAM, IN A SANDBOX (cutbox-rows.mjs): the forced cells as the released guide's own fill.sh prints them over the translation 44f827f6ae5f0a36… (all of the seat's roots in one cut). By AI agents, Wed Nov 11 2026. No macro, syntax, notation, axiom, sorry.
-/
import Derived.Test.YtmdpdlnabcmlmaaChecked
import GoSem.Claim
import GoSem.ClaimJoined
import GoSem.ClaimMapViews
import Derived.JoinedTies
import Derived.KernelRfl
namespace Go.Proofs.Ytmdpdlnabcmlmaa
/- THE CELL 'sum', in the pinned program and in every row, IS THE sha256 OF THE DUMP (.gsa) THAT YtmdpdlnabcmlmaaProg.lean LOADS. Nothing in Lean hashes anything: it is a label: what it is worth is what the hold of that sum in a sandbox is worth. -/
noncomputable def Try.pinned : Pinned := { name := "ytmdpdlnabcmlmaa", sum := "44f827f6ae5f0a36553d2c2563d8fe30c09bd2f316bfc51fdaba13eee55606d2", checked := Try.checked }
namespace Rows
def none {H : Type} : Left H := { results := [], args := [] }

/-- 'countersignlaw17.CompsOf': WHATEVER THE INPUT: true; the input reads as it did. -/
def compsOfSpec : ChangeSpec := { name := "compsOf", fn := fun _ => fun
  | [d] => { results := [.lit (.bool true)], args := [d] }
  | _ => none }
def compsOfRow : OpenClaim := { program := "ytmdpdlnabcmlmaa", sum := "44f827f6ae5f0a36553d2c2563d8fe30c09bd2f316bfc51fdaba13eee55606d2", func := "countersign/countersignlaw17.CompsOf", spec := "compsOf", unfollowed := true, recurses := true, apart := false }
def CompsOfSaid : Prop := compsOfRow.holds Try.pinned (OpenSpec.ofChange compsOfSpec)

/-- ITS FALSE NEIGHBOUR: 'it returns false'. Refute it at one input. -/
def compsOfWrong : ChangeSpec := { name := "compsOf", fn := fun _ => fun
  | [d] => { results := [.lit (.bool false)], args := [d] }
  | _ => none }
def CompsOfWrongFalsely : Prop := compsOfRow.holds Try.pinned (OpenSpec.ofChange compsOfWrong)

/-- 'countersignlaw17.CompsCondense': WHATEVER THE INPUT: true; the input reads as it did. -/
def compsCondenseSpec : ChangeSpec := { name := "compsCondense", fn := fun _ => fun
  | [d1, d2] => { results := [.lit (.bool true)], args := [d1, d2] }
  | _ => none }
def compsCondenseRow : OpenClaim := { program := "ytmdpdlnabcmlmaa", sum := "44f827f6ae5f0a36553d2c2563d8fe30c09bd2f316bfc51fdaba13eee55606d2", func := "countersign/countersignlaw17.CompsCondense", spec := "compsCondense", unfollowed := true, recurses := true, apart := false }
def CompsCondenseSaid : Prop := compsCondenseRow.holds Try.pinned (OpenSpec.ofChange compsCondenseSpec)

/-- ITS FALSE NEIGHBOUR: 'it returns false'. Refute it at one input. -/
def compsCondenseWrong : ChangeSpec := { name := "compsCondense", fn := fun _ => fun
  | [d1, d2] => { results := [.lit (.bool false)], args := [d1, d2] }
  | _ => none }
def CompsCondenseWrongFalsely : Prop := compsCondenseRow.holds Try.pinned (OpenSpec.ofChange compsCondenseWrong)

/-- 'countersignlaw17.CompsMixed': WHATEVER THE INPUT: true; the input reads as it did. -/
def compsMixedSpec : ChangeSpec := { name := "compsMixed", fn := fun _ => fun
  | [d] => { results := [.lit (.bool true)], args := [d] }
  | _ => none }
def compsMixedRow : OpenClaim := { program := "ytmdpdlnabcmlmaa", sum := "44f827f6ae5f0a36553d2c2563d8fe30c09bd2f316bfc51fdaba13eee55606d2", func := "countersign/countersignlaw17.CompsMixed", spec := "compsMixed", unfollowed := true, recurses := true, apart := false }
def CompsMixedSaid : Prop := compsMixedRow.holds Try.pinned (OpenSpec.ofChange compsMixedSpec)

/-- ITS FALSE NEIGHBOUR: 'it returns false'. Refute it at one input. -/
def compsMixedWrong : ChangeSpec := { name := "compsMixed", fn := fun _ => fun
  | [d] => { results := [.lit (.bool false)], args := [d] }
  | _ => none }
def CompsMixedWrongFalsely : Prop := compsMixedRow.holds Try.pinned (OpenSpec.ofChange compsMixedWrong)

/-- 'countersignlaw17.CompsErrors': WHATEVER THE INPUT: true; the input reads as it did. -/
def compsErrorsSpec : ChangeSpec := { name := "compsErrors", fn := fun _ => fun
  | [d1, d2] => { results := [.lit (.bool true)], args := [d1, d2] }
  | _ => none }
def compsErrorsRow : OpenClaim := { program := "ytmdpdlnabcmlmaa", sum := "44f827f6ae5f0a36553d2c2563d8fe30c09bd2f316bfc51fdaba13eee55606d2", func := "countersign/countersignlaw17.CompsErrors", spec := "compsErrors", unfollowed := true, recurses := true, apart := false }
def CompsErrorsSaid : Prop := compsErrorsRow.holds Try.pinned (OpenSpec.ofChange compsErrorsSpec)

/-- ITS FALSE NEIGHBOUR: 'it returns false'. Refute it at one input. -/
def compsErrorsWrong : ChangeSpec := { name := "compsErrors", fn := fun _ => fun
  | [d1, d2] => { results := [.lit (.bool false)], args := [d1, d2] }
  | _ => none }
def CompsErrorsWrongFalsely : Prop := compsErrorsRow.holds Try.pinned (OpenSpec.ofChange compsErrorsWrong)

/-- 'countersignlaw17.CompsKnown': WHATEVER THE INPUT: true; the input reads as it did. -/
def compsKnownSpec : ChangeSpec := { name := "compsKnown", fn := fun _ => fun
  | [] => { results := [.lit (.bool true)], args := [] }
  | _ => none }
def compsKnownRow : OpenClaim := { program := "ytmdpdlnabcmlmaa", sum := "44f827f6ae5f0a36553d2c2563d8fe30c09bd2f316bfc51fdaba13eee55606d2", func := "countersign/countersignlaw17.CompsKnown", spec := "compsKnown", unfollowed := true, recurses := true, apart := false }
def CompsKnownSaid : Prop := compsKnownRow.holds Try.pinned (OpenSpec.ofChange compsKnownSpec)

/-- ITS FALSE NEIGHBOUR: 'it returns false'. Refute it at one input. -/
def compsKnownWrong : ChangeSpec := { name := "compsKnown", fn := fun _ => fun
  | [] => { results := [.lit (.bool false)], args := [] }
  | _ => none }
def CompsKnownWrongFalsely : Prop := compsKnownRow.holds Try.pinned (OpenSpec.ofChange compsKnownWrong)

/- THE SECOND FORM. 'bulk': how many values and letters a reading holds, each counted each time it is reached (what is shared counts as often as it is met; a slice's spare places count too). A statement '..UptoSaid' is the law's where the arguments, and the package variables that the reading takes, are together of bulk at most 1048576: NARROWER than '..Said'. Prove '..Said' where nothing that the law and all that it calls make is longer than what came in: it says more and counts as full. Else prove '..UptoSaid'. A law counts once. -/
mutual
def uptoBulk {H : Type} : DataW H → Nat
  | .lit (.string bytes) => bytes.length + 1
  | .lit _ => 1
  | .nil => 1
  | .ptr d => uptoBulk d + 1
  | .slice elems spare => uptoBulkAll elems + uptoBulkAll spare + 1
  | .agg parts => uptoBulkAll parts + 1
  | .iface _ d => uptoBulk d + 1
  | .map entries => uptoBulkEntries entries + 1
  | .held _ => 1
def uptoBulkAll {H : Type} : List (DataW H) → Nat
  | [] => 0
  | d :: r => uptoBulk d + uptoBulkAll r
def uptoBulkEntries {H : Type} : List (Lit × DataW H) → Nat
  | [] => 0
  | x :: r => uptoBulkEntry x + uptoBulkEntries r
def uptoBulkEntry {H : Type} : Lit × DataW H → Nat
  | (.string bytes, d) => bytes.length + uptoBulk d + 1
  | (_, d) => uptoBulk d + 1
 end
def uptoSmall : (H : Type) → List (DataW H) → Bool := fun _ ds => decide (uptoBulkAll ds ≤ 1048576)
def OpenSpec.upto (s : _root_.Go.ChangeSpec) : _root_.Go.OpenSpec := { _root_.Go.OpenSpec.ofChange s with cond := some uptoSmall }

/-- 'countersignlaw17.CompsOf', WHERE WHAT IT READS IS OF BULK AT MOST 1048576: true; the input reads as it did. -/
def compsOfUptoRow : OpenClaim := { program := "ytmdpdlnabcmlmaa", sum := "44f827f6ae5f0a36553d2c2563d8fe30c09bd2f316bfc51fdaba13eee55606d2", func := "countersign/countersignlaw17.CompsOf", spec := "compsOf", unfollowed := true, recurses := true, apart := false, narrowed := true }
def CompsOfUptoSaid : Prop := compsOfUptoRow.holds Try.pinned (OpenSpec.upto compsOfSpec)

/-- 'countersignlaw17.CompsCondense', WHERE WHAT IT READS IS OF BULK AT MOST 1048576: true; the input reads as it did. -/
def compsCondenseUptoRow : OpenClaim := { program := "ytmdpdlnabcmlmaa", sum := "44f827f6ae5f0a36553d2c2563d8fe30c09bd2f316bfc51fdaba13eee55606d2", func := "countersign/countersignlaw17.CompsCondense", spec := "compsCondense", unfollowed := true, recurses := true, apart := false, narrowed := true }
def CompsCondenseUptoSaid : Prop := compsCondenseUptoRow.holds Try.pinned (OpenSpec.upto compsCondenseSpec)

/-- 'countersignlaw17.CompsMixed', WHERE WHAT IT READS IS OF BULK AT MOST 1048576: true; the input reads as it did. -/
def compsMixedUptoRow : OpenClaim := { program := "ytmdpdlnabcmlmaa", sum := "44f827f6ae5f0a36553d2c2563d8fe30c09bd2f316bfc51fdaba13eee55606d2", func := "countersign/countersignlaw17.CompsMixed", spec := "compsMixed", unfollowed := true, recurses := true, apart := false, narrowed := true }
def CompsMixedUptoSaid : Prop := compsMixedUptoRow.holds Try.pinned (OpenSpec.upto compsMixedSpec)

/-- 'countersignlaw17.CompsErrors', WHERE WHAT IT READS IS OF BULK AT MOST 1048576: true; the input reads as it did. -/
def compsErrorsUptoRow : OpenClaim := { program := "ytmdpdlnabcmlmaa", sum := "44f827f6ae5f0a36553d2c2563d8fe30c09bd2f316bfc51fdaba13eee55606d2", func := "countersign/countersignlaw17.CompsErrors", spec := "compsErrors", unfollowed := true, recurses := true, apart := false, narrowed := true }
def CompsErrorsUptoSaid : Prop := compsErrorsUptoRow.holds Try.pinned (OpenSpec.upto compsErrorsSpec)

/-- 'countersignlaw17.CompsKnown', WHERE WHAT IT READS IS OF BULK AT MOST 1048576: true; the input reads as it did. -/
def compsKnownUptoRow : OpenClaim := { program := "ytmdpdlnabcmlmaa", sum := "44f827f6ae5f0a36553d2c2563d8fe30c09bd2f316bfc51fdaba13eee55606d2", func := "countersign/countersignlaw17.CompsKnown", spec := "compsKnown", unfollowed := true, recurses := true, apart := false, narrowed := true }
def CompsKnownUptoSaid : Prop := compsKnownUptoRow.holds Try.pinned (OpenSpec.upto compsKnownSpec)

end Rows
end Go.Proofs.Ytmdpdlnabcmlmaa
