/-
 For ReachesElse: closed runs of the evaluator. No conditions beyond those that each theorem states.
-/
import Derived.Test.YtfkgaaibbfcaoaaGreatEv2
import Derived.Test.YtfkgaaibbfcaoaaGreatConA
import Derived.Test.YtfkgaaibbfcaoaaGreatProg
set_option linter.all false
noncomputable section
namespace Go.Di
open Go.Ev
def eS:List Pb:=[⟨195,aB 2 [.str 4 1919251317,zS,.str 5 483006575207,.str 1 109]⟩,⟨197,aB 6 [.str 1 109,.sl 195 0 2 2 false,uN 1,zS,zS,.aA]⟩,⟨206,aB 2 [.str 3 6516580,zS]⟩,⟨214,aB 2 [.str 5 483006575207,.str 1 109]⟩,⟨225,aB 2 [.str 4 1919251317,zS,.str 5 483006575207,.str 1 109]⟩,⟨242,aB 4 [uN 1,zS,zS,.aA,uN 3,.str 1 112,.str 1 118,.aA]⟩,⟨248,aB 4 [uN 4,zS,zS,.sl 242 0 2 2 false,uN 2,.str 1 98,zS,.aA]⟩,⟨256,aB 6 [.str 1 112,.sl 206 0 1 1 false,uN 1,zS,zS,.aA,.str 1 98,.sl 214 0 1 1 false,uN 1,zS,zS,.aA,.str 1 118,.sl 225 0 2 2 false,uN 6,zS,zS,.sl 248 0 2 2 false]⟩,⟨258,aB 2 [.str 4 1919251317,.aA,.str 5 483006575207,.sl 197 0 1 1 false,.str 3 6516580,.sl 256 0 3 3 false]⟩]
def eL:List Pb:=eS++[⟨516,aB 6 [.str 3 6516580,.str 1 97,.str 1 112,.str 3 6516580,.str 1 99,zS,.str 3 6516580,.str 1 99,.str 1 118,.str 5 483006575207,.str 1 103,.str 1 109,.str 5 483006575207,.str 1 103,.str 1 109,.str 4 1919251317,.str 1 120,zS,.str 5 483006575207,.str 1 103,.str 1 109,.str 5 483006575207,.str 1 104,.str 1 109,.str 5 483006575207,.str 1 104,.str 1 109,.str 4 1919251317,.str 1 121,zS,.str 5 483006575207,.str 1 104,.str 1 109,.str 5 483006575207,.str 1 103,.str 1 109,.str 3 6516580,.str 1 97,.str 1 98,.str 5 483006575207,.str 1 104,.str 1 109,.str 3 6516580,.str 1 99,.str 1 118,.str 4 1919251317,.str 1 122,zS]⟩]
def qA(d:Nat):Kn:=⟨122,[.agg [.sl 258 0 3 3 false],.sl 516 0 8 8 false],(523+d),eL,.aX [iN 8,iN 0],(3749+d),eL⟩
def qF(d:Nat):Kn:=⟨176,[.agg [.sl 258 0 3 3 false]],(3750+d),eS,.aX [.agg [.sl (6839+d) 0 4 4 true],iN 0],(10833+d),eS++[⟨(6839+d),aB 0 [.str 5 483006575207,.str 1 109,iN 0,.str 3 6516580,.str 1 112,iN 0,.str 3 6516580,.str 1 98,iN 0,.str 3 6516580,.str 1 118,iN 1]⟩]⟩
def qC(d:Nat):Kn:=⟨125,[.agg [.sl 258 0 3 3 false]],(54994+d),eS,iN 0,(58082+d),eS⟩
def q1:Kn:=⟨84,[.agg [.sl 258 0 3 3 false],.sl 516 0 8 8 false,.agg [.str 3 6516580,.str 1 97,.str 1 118]],519,eL,.aX [.sl 14118 0 2 2 true,iN 0],14119,eL++[⟨14118,aB 3 [.str 3 6516580,.str 1 99,.str 1 118,.str 3 6516580,.str 1 97,.str 1 98]⟩]⟩
def q2:Kn:=⟨84,[.agg [.sl 258 0 3 3 false],.sl 516 0 8 8 false,.agg [.str 3 6516580,.str 1 97,.str 1 98]],14120,eL,.aX [.sl 27695 0 1 1 true,iN 0],27696,eL++[⟨27695,aB 3 [.str 5 483006575207,.str 1 104,.str 1 109]⟩]⟩
def q3:Kn:=⟨38,[.agg [.sl 258 0 3 3 false],.sl 516 0 8 8 false,.agg [.str 3 6516580,.str 1 97,.str 1 118]],27697,eL,.aX [.sl 41372 0 6 6 true,iN 0],41431,eL++[⟨41372,aB 3 [.str 3 6516580,.str 1 97,.str 1 118,.str 3 6516580,.str 1 99,.str 1 118,.str 3 6516580,.str 1 97,.str 1 98,.str 5 483006575207,.str 1 103,.str 1 109,.str 3 6516580,.str 1 99,.str 1 98,.str 5 483006575207,.str 1 104,.str 1 109]⟩]⟩
def q6:Kn:=⟨37,[.agg [.sl 258 0 3 3 false],.sl 516 0 8 8 false,.agg [uN 1,.str 3 6516580,.str 1 97,.str 1 118,.str 4 1919251317,.str 1 120]],41444,eL,.aX [.agg [iN 6,iN 7,iN 2,iN 5,iN 16,iN 29],iN 0],73403,eL⟩
def q8:Kn:=⟨37,[.agg [.sl 258 0 3 3 false],.sl 516 0 8 8 false,.agg [uN 1,.str 3 6516580,.str 1 113,.str 1 98,.str 4 1919251317,.str 1 120]],73416,eL,.aX [.agg [iN 1,iN 0,iN 1,iN 1,iN 1,iN 2],iN 0],99201,eL⟩
def lv0:List Kn:=[qA 0,qA 13601,qA 27178,qA 40926,qA 72898,qF 0,qF 13601,qF 27178,qF 40926,qF 54333,qF 72898,qF 86305,qC 0,qC 31972]
def lvL:List Kn:=[q1,q2,q3,q6,q8]
open Go.Proofs
set_option maxRecDepth 1000000 in
theorem lr0:bv Tryz.prog zD 100000 (qA 0)=true:=by decide +kernel
set_option maxRecDepth 1000000 in
theorem lr1:bv Tryz.prog zD 100000 (qA 13601)=true:=by decide +kernel
set_option maxRecDepth 1000000 in
theorem lr2:bv Tryz.prog zD 100000 (qA 27178)=true:=by decide +kernel
set_option maxRecDepth 1000000 in
theorem lr3:bv Tryz.prog zD 100000 (qA 40926)=true:=by decide +kernel
set_option maxRecDepth 1000000 in
theorem lr4:bv Tryz.prog zD 100000 (qA 72898)=true:=by decide +kernel
set_option maxRecDepth 1000000 in
theorem lr5:bv Tryz.prog zD 100000 (qF 0)=true:=by decide +kernel
set_option maxRecDepth 1000000 in
theorem lr6:bv Tryz.prog zD 100000 (qF 13601)=true:=by decide +kernel
end Go.Di
end
