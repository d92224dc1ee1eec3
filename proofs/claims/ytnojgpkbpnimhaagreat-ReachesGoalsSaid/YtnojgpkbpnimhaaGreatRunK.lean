/-
 For ReachesGoals: closed runs of the evaluator. No conditions beyond those that each theorem states.
-/
import Derived.Test.YtnojgpkbpnimhaaGreatRunD
import Derived.Test.YtnojgpkbpnimhaaGreatRunE
import Derived.Test.YtnojgpkbpnimhaaGreatRunF
import Derived.Test.YtnojgpkbpnimhaaGreatRunG
import Derived.Test.YtnojgpkbpnimhaaGreatRunH
import Derived.Test.YtnojgpkbpnimhaaGreatRunI
import Derived.Test.YtnojgpkbpnimhaaGreatRunJ
import Derived.Test.YtnojgpkbpnimhaaGreatEv3
import Derived.Test.YtnojgpkbpnimhaaGreatConE
import Derived.KernelRfl
set_option linter.unusedSimpArgs false
set_option linter.unusedVariables false
section
namespace Go.Di
open Go.Ev Go.Proofs
theorem aMU:lv0.all (runK Tryz.prog yJ 100000)=true:=by
 unfold lv0
 simp only[lA6,List.all_nil,lr0,lr1,lr2,lr3,lr4,lr5,lr6,lr7,lr8,lr9,bEe,aXT,aXb,aZV,Bool.and_self]
theorem aPa:lvL.all (runK Tryz.prog (qq0 lv0) 100000)=true:=by
 unfold lvL
 simp only[lA6,List.all_nil,bDr,aXX,bBd,aZb,aVg,Bool.and_self]
set_option maxRecDepth 1000000 in
theorem bBt:(lv0.all Kn.wf&&lvL.all Kn.wf)=true:=by decide +kernel
set_option maxRecDepth 1000000 in
theorem zs9:qsj (gT Tryz.prog (qq0 lvL) 100000 (.f 4) [] Hp.empty)=true:=by decide +kernel
set_option maxRecDepth 1000000 in
theorem zs4:([252,231].all fun f=>nmL.all fun s=>qsj (gT Tryz.prog yJ 100000 (.f f) [.str s.n s.a] Hp.empty))=true:=by decide +kernel
set_option maxRecDepth 1000000 in
theorem z2f:zk5 (gT Tryz.prog yJ 1000 (.f 225) [.aA] Hp.empty)=true:=by decide +kernel
end Go.Di
end
