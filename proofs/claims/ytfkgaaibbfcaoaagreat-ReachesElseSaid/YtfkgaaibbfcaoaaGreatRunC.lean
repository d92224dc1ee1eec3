/-
 For ReachesElse: closed runs of the evaluator. No conditions beyond those that each theorem states.
-/
import Derived.Test.YtfkgaaibbfcaoaaGreatRunB
import Derived.Test.YtfkgaaibbfcaoaaGreatProg
import Derived.Test.YtfkgaaibbfcaoaaGreatEv2
import Derived.Test.YtfkgaaibbfcaoaaGreatConD
import Derived.KernelRfl
set_option linter.all false
section
namespace Go.Di
open Go.Ev Go.Proofs
set_option maxRecDepth 1000000 in
theorem lr7:bv Tryz.prog zD 100000 (qF 27178)=true:=by decide +kernel
set_option maxRecDepth 1000000 in
theorem lr8:bv Tryz.prog zD 100000 (qF 40926)=true:=by decide +kernel
set_option maxRecDepth 1000000 in
theorem lr9:bv Tryz.prog zD 100000 (qF 54333)=true:=by decide +kernel
set_option maxRecDepth 1000000 in
theorem bEr:bv Tryz.prog zD 100000 (qF 72898)=true:=by decide +kernel
set_option maxRecDepth 1000000 in
theorem aYN:bv Tryz.prog zD 100000 (qF 86305)=true:=by decide +kernel
set_option maxRecDepth 1000000 in
theorem aYl:bv Tryz.prog zD 100000 (qC 0)=true:=by decide +kernel
set_option maxRecDepth 1000000 in
theorem bAM:bv Tryz.prog zD 100000 (qC 31972)=true:=by decide +kernel
set_option maxRecDepth 1000000 in
theorem bDK:bv Tryz.prog (jr lv0) 100000 q1=true:=by decide +kernel
set_option maxRecDepth 1000000 in
theorem aYP:bv Tryz.prog (jr lv0) 100000 q2=true:=by decide +kernel
set_option maxRecDepth 1000000 in
theorem bBU:bv Tryz.prog (jr lv0) 100000 q3=true:=by decide +kernel
set_option maxRecDepth 1000000 in
theorem aZY:bv Tryz.prog (jr lv0) 100000 q6=true:=by decide +kernel
set_option maxRecDepth 1000000 in
theorem aWH:bv Tryz.prog (jr lv0) 100000 q8=true:=by decide +kernel
theorem aNP:lv0.all (bv Tryz.prog zD 100000)=true:=by
 unfold lv0
 simp only[lq,List.all_nil,lr0,lr1,lr2,lr3,lr4,lr5,lr6,lr7,lr8,lr9,bEr,aYN,aYl,bAM,Bool.and_self]
theorem aQi:lvL.all (bv Tryz.prog (jr lv0) 100000)=true:=by
 unfold lvL
 simp only[lq,List.all_nil,bDK,aYP,bBU,aZY,aWH,Bool.and_self]
set_option maxRecDepth 1000000 in
theorem bB6:(lv0.all Kn.wf&&lvL.all Kn.wf)=true:=by decide +kernel
set_option maxRecDepth 1000000 in
theorem zu3:z6 (gZ Tryz.prog (jr lvL) 100000 (.f 35) [] Hp.empty)=true:=by decide +kernel
set_option maxRecDepth 1000000 in
theorem zux:([309,288].all λf=>nmL.all λs=>z6 (gZ Tryz.prog zD 100000 (.f f) [.str s.n s.a] Hp.empty))=true:=by decide +kernel
set_option maxRecDepth 1000000 in
theorem z0e:Pf (gZ Tryz.prog zD 1000 (.f 281) [.aA] Hp.empty)=true:=by decide +kernel
end Go.Di
end
