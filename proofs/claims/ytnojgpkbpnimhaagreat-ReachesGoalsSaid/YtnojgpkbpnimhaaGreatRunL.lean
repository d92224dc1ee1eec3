/-
 For ReachesGoals: facts of the program that the statement names. No conditions beyond those that each theorem states.
-/
import Derived.Test.YtnojgpkbpnimhaaGreatRows
import Derived.WalkKit
import Derived.ProofKit
import Derived.OpenShut
set_option linter.unusedSimpArgs false
set_option linter.unusedVariables false
section
namespace Go.Proofs.YtnojgpkbpnimhaaGreat
open Go.ChangeShapes Go.WideShapes Go.ChangeAt Go.RowKit
theorem j1:Tryz.pinned.checked.prog.inPlace 3=Rows.reachesGoalsRow.inPlace:=by kernel_rfl
theorem j2:Tryz.pinned.checked.prog.unfollowed 3=true:=by kernel_rfl
theorem j3:Tryz.pinned.checked.prog.recurses 3=true:=by kernel_rfl
theorem j4:Tryz.pinned.checked.prog.varsNamed 3=Rows.reachesGoalsRow.named:=by kernel_rfl
theorem jf:joinedFacts Tryz.pinned.checked.prog 3 Tryz.f3 Rows.reachesGoalsSpec Rows.reachesGoalsRow=true:=by
 unfold joinedFacts
 rw[j1,j2,j3,j4]
 kernel_rfl
end Go.Proofs.YtnojgpkbpnimhaaGreat
end
