/-
 For ReachesGoals: the direct functions are what the evaluator computes, part 1. No conditions beyond those that each theorem states.
-/
import Derived.Test.YtnojgpkbpnimhaaGreatConC
import Derived.Test.YtnojgpkbpnimhaaGreatProg
import Derived.KernelRfl
import Derived.Test.YtnojgpkbpnimhaaGreatConB
set_option linter.unusedSimpArgs false
set_option linter.unusedVariables false
noncomputable section
namespace Go.Di
open Go.Ev Go.Proofs
set_option maxRecDepth 100000
theorem q7{P:Program}{d n:Nat}{O:Ev.Call}{K:Kt d}{f:Operand}{ps:Array Tmp}{a b:Code}(c:(lI a&&lI b)=true):Lk P d n O (.rangeFunc f ps a b) K (fun L H=>fin (endLoop H.nx (qj3 O ((aM d n f).f L) [.yield H.nx] (aI H (.loop true none d n L ps.toList a b))) L) K):=fun L H=>by
 have e:den P d n (.rangeFunc f ps a b)=⟨fun O L H=>endLoop H.nx (qj3 O ((aM d n f).f L) [.yield H.nx] (aI H (.loop true none d n L ps.toList a b))) L⟩:=by simp only[den,c]
 rw[e]
def qo5(n:Nat):Code->LP
 | .seq a b=>match qo5 n a with
  |⟨0,_,_,_⟩=>qo5 n b
  |p=>p
 | .block _ b=>qo5 n b
 | .rangeFunc _ ps sa bd=>⟨n,ps.toList,sa,bd⟩
 |_=>⟨0,[],.skip,.skip⟩
def LAc:LP:=qo5 13 (codeOf Tryz.f313)
def LOc:LP:=qo5 53 (codeOf Tryz.f191)
theorem qq6(O:Ev.Call)(x0 x1:AV)(H:Hp):(aK Tryz.prog 313).f O [x0,x1] H=kF LAc O x0 x1 H:=
 r7 Tryz.func313 (D:=fun L H=>qiw LAc O L (G L 0) (G L 1) H)
 (qS (mB (mB (qS (E:=fun L H=>qg4 O (G L 2) H) mA) (mB (r8 (qS (E:=fun L H=>qiv LAc O L (G L 6) H) (q7 (by kernel_rfl)))) mA)) mA))
theorem zql(O:Ev.Call)(x0:AV)(H:Hp):(aK Tryz.prog 191).f O [x0] H=zBo LOc O x0 H:=
 r7 Tryz.func191 (D:=fun L H=>z04 LOc O L (G L 0) H)
 (qS (mB (mB (qS (E:=fun L H=>q1q LOc O L (G L 1) (G L 2) H) (mB (mB (qS (E:=fun L H=>qn9 LOc O L (G L 1) H) (mB (qS (E:=fun L H=>q1v O (G L 2) (G L 5) H) mA) (mB (r8 (qS (E:=fun L H=>zqk LOc O L (G L 25) H) (q7 (by kernel_rfl)))) mA))) mA) mA)) mA) mA))
theorem qw6{P:Program}{O:Ev.Call}{l:Nat}{v:AV}{H:Hp}{L L1:TT AV 2}(p:LP)(h:H.get l=p.blk true L)(a:(Nat.beq p.ps.length 1&&p.ps.all fun q=>Nat.blt q p.n)=true)(b:(den P 2 p.n p.aC).f O (qgk ((setter 2 p.n).f L .undef) p.ps [v]) H=.ok .normal L1 H):qh1 P O l [v] H=endRound l ((den P 2 p.n p.bd).f O L1 (H.put l (p.blk false L))):=by unfold qh1;have c:([v]:List AV).length=1:=rfl;simp only[h,LP.blk,c,a,uB,b]
theorem qlx(l:Nat)(r:Rc 2):endRound l r=fin r (fun e L H=>endRound l (.ok e L H)):=by cases r<;>rfl
theorem qqr(O:Ev.Call)(L:TT AV 2)(l:Nat)(v:AV)(H:Hp)(h:H.get l=LAc.blk true L):qh1 Tryz.prog O l [v] H=fI O l L (G L 2) v (H.put l (LAc.blk false L)):=by rw[qw6 LAc h (by kernel_rfl) (L1:=(setter 2 5).f (qgk ((setter 2 13).f L .undef) [7] [v]) v) (by kernel_rfl),qlx];exact(qS (c:=LAc.bd) (P:=Tryz.prog) (n:=13) (E:=fun M H=>fI O l L (G M 2) (G M 5) H) mA (fun M H=>by kernel_rfl) _ _).trans (by kernel_rfl)
theorem zfr(O:Ev.Call)(L:TT AV 2)(l:Nat)(v:AV)(H:Hp)(h:H.get l=LOc.blk true L):qh1 Tryz.prog O l [v] H=wS O l L (G L 5) v (H.put l (LOc.blk false L)):=by
 rw[qw6 LOc h (by kernel_rfl) (L1:=(setter 2 6).f (qgk ((setter 2 53).f L .undef) [26] [v]) v) (by kernel_rfl),qlx];have d:Lk Tryz.prog 2 53 O LOc.bd (fun e L H=>endRound l (.ok e L H)) (fun M H=>wS O l L (G M 5) (G M 6) H):=
  qS (c:=LOc.bd) (r8 (mB (qS (E:=fun M H=>qia O l L (G M 5) (G M 6) H) mA) (mB (r8 (qS (E:=fun M H=>q1x O (fun H=>qia O l L (G M 5) (G M 6) H) (G M 5) (G M 27) (G M 28) (G M 29) H) (pT (D:=fun a M H=>qkf O (fun H=>qia O l L (G M 5) (G M 6) H) (G M 5) (G M 27) (G M 28) a (G M 29) H) (fun a=>qS (mB (mB (qS (E:=fun M H=>q1s O (fun b H=>qkf O (fun H=>qia O l L (G M 5) (G M 6) H) (G M 5) (G M 27) (G M 28) a b H) (G M 5) (G M 27) (G M 29) H) (mB (qS (E:=fun M H=>q1u O (fun b H=>qkf O (fun H=>qia O l L (G M 5) (G M 6) H) (G M 5) (G M 27) (G M 28) a b H) (G M 29) H) mA) mA)) mA) mA))) (fun _ _=>by kernel_rfl))) mA))) (fun M H=>by kernel_rfl)
 exact(d _ _).trans (by kernel_rfl)
end Go.Di
end
noncomputable section
namespace Go.Di
open Go.Ev Go.Proofs
set_option maxRecDepth 100000
variable (O:Ev.Call) (x0 x1 x2 x3 x4 x5 x6 x7:AV) (H:Hp)
theorem znu:(aK Tryz.prog 11).f O [x0,x1] H=zIi O x0 x1 H:=
 r7 Tryz.func11 (D:=fun L H=>zyr O (L 0) (L 1) H)
 (qS (mB (mB (mB (mB (mB (qS (E:=fun L H=>gM O (L 5) H) mA) (mB (r8 (qS (E:=fun L H=>q0l O (fun x5 H=>gM O x5 H) (L 2) (L 3) (L 8) (L 5) (L 9) H) (pT (D:=fun a L H=>uO O (fun x5 H=>gM O x5 H) (L 2) (L 3) (L 8) a (L 5) (L 9) H) (fun a=>qS (mB (qS (E:=fun L H=>kA qez O (fun x5 b H=>uO O (fun x5 H=>gM O x5 H) (L 2) (L 3) (L 8) a x5 b H) (L 2) (L 3) (L 5) (L 8) (L 9) H) (qS (E:=fun L H=>qez O (fun x5 b H=>uO O (fun x5 H=>gM O x5 H) (L 2) (L 3) (L 8) a x5 b H) (L 2) (L 3) (L 5) (L 8) (L 9) H) (mB (qS (E:=fun L H=>vN O (fun x5 b H=>uO O (fun x5 H=>gM O x5 H) (L 2) (L 3) (L 8) a x5 b H) (L 5) (L 9) H) mA) (r8 (mB (qS (E:=fun L H=>kA qdm O (fun x5 b H=>uO O (fun x5 H=>gM O x5 H) (L 2) (L 3) (L 8) a x5 b H) (L 2) (L 3) (L 5) (L 8) (L 9) H) (qS (E:=fun L H=>qdm O (fun x5 b H=>uO O (fun x5 H=>gM O x5 H) (L 2) (L 3) (L 8) a x5 b H) (L 2) (L 3) (L 5) (L 8) (L 9) H) (mB (mB (r8 (qS (E:=fun L H=>q0k O (fun x5 H=>vN O (fun x5 b H=>uO O (fun x5 H=>gM O x5 H) (L 2) (L 3) (L 8) a x5 b H) x5 (L 9) H) (L 2) (L 3) (L 8) (L 9) (L 10) (L 5) (L 11) H) (pT (D:=fun c L H=>qcn O (fun x5 H=>vN O (fun x5 b H=>uO O (fun x5 H=>gM O x5 H) (L 2) (L 3) (L 8) a x5 b H) x5 (L 9) H) (L 2) (L 3) (L 8) (L 9) (L 10) c (L 5) (L 11) H) (fun c=>qS (mB (qS (E:=fun L H=>kA qe0 O (fun x5 d H=>qcn O (fun x5 H=>vN O (fun x5 b H=>uO O (fun x5 H=>gM O x5 H) (L 2) (L 3) (L 8) a x5 b H) x5 (L 9) H) (L 2) (L 3) (L 8) (L 9) (L 10) c x5 d H) (L 2) (L 3) (L 5) (L 8) (L 9) (L 10) (L 11) H) (qS (E:=fun L H=>qe0 O (fun x5 d H=>qcn O (fun x5 H=>vN O (fun x5 b H=>uO O (fun x5 H=>gM O x5 H) (L 2) (L 3) (L 8) a x5 b H) x5 (L 9) H) (L 2) (L 3) (L 8) (L 9) (L 10) c x5 d H) (L 2) (L 3) (L 5) (L 8) (L 9) (L 10) (L 11) H) (mB (qS (E:=fun L H=>qgd O (fun x5 d H=>qcn O (fun x5 H=>vN O (fun x5 b H=>uO O (fun x5 H=>gM O x5 H) (L 2) (L 3) (L 8) a x5 b H) x5 (L 9) H) (L 2) (L 3) (L 8) (L 9) (L 10) c x5 d H) (L 5) (L 11) H) mA) (r8 (mB (mB (qS (E:=fun L H=>kA qdu O (fun x5 d H=>qcn O (fun x5 H=>vN O (fun x5 b H=>uO O (fun x5 H=>gM O x5 H) (L 2) (L 3) (L 8) a x5 b H) x5 (L 9) H) (L 2) (L 3) (L 8) (L 9) (L 10) c x5 d H) (L 3) (L 5) (L 8) (L 9) (L 10) (L 11) (L 12) H) (qS (E:=fun L H=>qdu O (fun x5 d H=>qcn O (fun x5 H=>vN O (fun x5 b H=>uO O (fun x5 H=>gM O x5 H) (L 2) (L 3) (L 8) a x5 b H) x5 (L 9) H) (L 2) (L 3) (L 8) (L 9) (L 10) c x5 d H) (L 3) (L 5) (L 8) (L 9) (L 10) (L 11) (L 12) H) (mB (r8 (qS (E:=fun L H=>q0j O (fun x5 H=>qgd O (fun x5 d H=>qcn O (fun x5 H=>vN O (fun x5 b H=>uO O (fun x5 H=>gM O x5 H) (L 2) (L 3) (L 8) a x5 b H) x5 (L 9) H) (L 2) (L 3) (L 8) (L 9) (L 10) c x5 d H) x5 (L 11) H) (L 3) (L 8) (L 9) (L 10) (L 12) (L 5) (L 13) H) (pT (D:=fun e L H=>qff O (fun x5 H=>qgd O (fun x5 d H=>qcn O (fun x5 H=>vN O (fun x5 b H=>uO O (fun x5 H=>gM O x5 H) (L 2) (L 3) (L 8) a x5 b H) x5 (L 9) H) (L 2) (L 3) (L 8) (L 9) (L 10) c x5 d H) x5 (L 11) H) (L 3) (L 8) (L 9) (L 10) (L 12) e (L 5) (L 13) H) (fun e=>qS (mB (qS (E:=fun L H=>kA qg6 O (fun x5 f H=>qff O (fun x5 H=>qgd O (fun x5 d H=>qcn O (fun x5 H=>vN O (fun x5 b H=>uO O (fun x5 H=>gM O x5 H) (L 2) (L 3) (L 8) a x5 b H) x5 (L 9) H) (L 2) (L 3) (L 8) (L 9) (L 10) c x5 d H) x5 (L 11) H) (L 3) (L 8) (L 9) (L 10) (L 12) e x5 f H) (L 3) (L 5) (L 8) (L 9) (L 10) (L 12) (L 13) H) (qS (E:=fun L H=>qg6 O (fun x5 f H=>qff O (fun x5 H=>qgd O (fun x5 d H=>qcn O (fun x5 H=>vN O (fun x5 b H=>uO O (fun x5 H=>gM O x5 H) (L 2) (L 3) (L 8) a x5 b H) x5 (L 9) H) (L 2) (L 3) (L 8) (L 9) (L 10) c x5 d H) x5 (L 11) H) (L 3) (L 8) (L 9) (L 10) (L 12) e x5 f H) (L 3) (L 5) (L 8) (L 9) (L 10) (L 12) (L 13) H) (mB (qS (E:=fun L H=>qka O (fun x5 f H=>qff O (fun x5 H=>qgd O (fun x5 d H=>qcn O (fun x5 H=>vN O (fun x5 b H=>uO O (fun x5 H=>gM O x5 H) (L 2) (L 3) (L 8) a x5 b H) x5 (L 9) H) (L 2) (L 3) (L 8) (L 9) (L 10) c x5 d H) x5 (L 11) H) (L 3) (L 8) (L 9) (L 10) (L 12) e x5 f H) (L 5) (L 13) H) mA) mA)) (fun L H=>by rw[kE qg6])) mA))) (fun _ _=>by kernel_rfl))) mA)) (fun L H=>by rw[kE qdu])) mA) mA)))) (fun L H=>by rw[kE qe0])) mA))) (fun _ _=>by kernel_rfl))) mA) mA)) (fun L H=>by rw[kE qdm])) mA)))) (fun L H=>by rw[kE qez])) mA))) (fun _ _=>by kernel_rfl))) mA)) mA) mA) mA) mA))
def zw9(O:Ev.Call)(k11:Nat)(L:TT AV (iF (Tryz.f20.ntmps+1))):=fun H=>qko O (fun x5 H=>qom O (fun H=>que O (L 2) (L 4) H) (L 1) (L 3) (L 4) k11 x5 H) (L 5) H
def zw8(O:Ev.Call)(k11:Nat)(k36:Nat)(L:TT AV (iF (Tryz.f20.ntmps+1))):=fun H=>qie O (fun x9 H=>qkn O (zw9 O k11 L) (L 1) (L 3) (L 4) (L 5) (L 6) (L 8) k36 x9 H) (L 9) H
theorem zrh:(aK Tryz.prog 20).f O [x0] H=zAf O x0 H:=
 r7 Tryz.func20 (D:=fun L H=>z1y O (L 0) H)
 (qS (mB (mB (mB (mB mA (mB (r8 (pT (D:=fun a L H=>qom O (fun H=>que O (L 2) (L 4) H) (L 1) (L 3) (L 4) a (L 5) H) (fun a=>qS (mB (mB mA (r8 (mB (mB (mB (r8 (pT (D:=fun b L H=>qkn O (zw9 O a L) (L 1) (L 3) (L 4) (L 5) (L 6) (L 8) b (L 9) H) (fun b=>qS (mB (mB mA (r8 (mB (r8 (mB (pB (mB (r8 (pT (D:=fun c L H=>quc O (zw8 O a b L) (L 1) (L 4) (L 5) (L 6) (L 8) (L 9) c (L 10) H) (fun c=>qS mA))) mA) (mB (pB mA (mB (pB (mB (mB (r8 (pT (D:=fun d L H=>qmz O (zw8 O a b L) (L 1) (L 4) (L 5) (L 8) (L 9) (L 11) d (L 12) H) (fun d=>qS mA))) mA) mA) mA) mA)) mA)) mA)) mA))) mA)))) mA) mA) mA))) mA)))) mA)) mA) mA) mA))
def zcp(O:Ev.Call):=fun H=>qT O H
def zu8(O:Ev.Call)(k2:Nat)(L:TT AV (iF (Tryz.f187.ntmps+1))):=fun x8 H=>qnv O (fun x4 H=>.ok x4 H) (zcp O) (L 0) (L 1) (L 7) k2 x8 H
theorem q41:(aK Tryz.prog 187).f O [x0,x1] H=zIb O x0 x1 H:=
 r7 Tryz.func187 (D:=fun L H=>zn0 O (L 0) (L 1) H)
 (qS (mB (mB (qS (E:=fun L H=>qT O H) mA) (mB (r8 (qS (E:=fun L H=>q42 O (fun x4 H=>.ok x4 H) (zcp O) (L 0) (L 1) (L 7) (L 8) H) (pT (D:=fun k2 L H=>qnv O (fun x4 H=>.ok x4 H) (zcp O) (L 0) (L 1) (L 7) k2 (L 8) H) (fun k2=>qS (mB (mB (qS (E:=fun L H=>qwd O (fun x4 H=>.ok x4 H) (zu8 O k2 L) (L 0) (L 1) (L 8) H) (mB (qS (E:=fun L H=>kQ O (zu8 O k2 L) (L 8) H) mA) mA)) mA) mA))) (fun _ _=>by kernel_rfl))) mA)) mA))
theorem zqq:(aK Tryz.prog 172).f O [x0] H=zBj O x0 H:=
 r7 Tryz.func172 (D:=fun L H=>z07 O (L 0) H)
 (qS (mB (mB (mB (mB (mB (mB mA (mB (r8 (pT (D:=fun b L H=>qwv O (fun x2 H=>.ok x2 H) (fun H=>jW O H) (L 4) (L 26) (L 27) b (L 5) (L 28) H) (fun b=>qS (mB (mB (mB mA (r8 (mB (mB (r8 (pT (D:=fun a L H=>qtr O (fun x2 H=>.ok x2 H) (fun x5 H=>q1y O (fun x5 c H=>qwv O (fun x2 H=>.ok x2 H) (fun H=>jW O H) (L 4) (L 26) (L 27) b x5 c H) x5 (L 28) H) (L 4) (L 7) (L 34) a (L 5) (L 35) H) (fun a=>qS mA))) mA) mA))) mA) mA)))) mA)) mA) mA) mA) mA) mA))
theorem zqe:(aK Tryz.prog 207).f O [x0] H=zBu O x0 H:=
 r7 Tryz.func207 (D:=fun L H=>z0z O (L 0) H)
 (qS (mB (mB (mB mA (mB (r8 (pT (D:=fun b L H=>qwu O (fun x2 H=>.ok x2 H) (fun H=>jW O H) (L 13) (L 14) b (L 15) H) (fun b=>qS (mB (mB (mB mA (r8 (mB (mB (mB (r8 (pT (D:=fun a L H=>qto O (fun x2 H=>.ok x2 H) (fun H=>wE O (fun c H=>qwu O (fun x2 H=>.ok x2 H) (fun H=>jW O H) (L 13) (L 14) b c H) (L 15) H) (L 30) (L 31) a (L 32) H) (fun a=>qS mA))) mA) mA) mA))) mA) mA)))) mA)) mA) mA))
theorem znx:(aK Tryz.prog 7).f O [x0,x1] H=zIf O x0 x1 H:=
 r7 Tryz.func7 (D:=fun L H=>zyu O (L 0) (L 1) H)
 (qS (mB (mB (mB (mB mA (mB (r8 (pT (D:=fun b L H=>qwc O (fun x6 x7 H=>qix O x6 x7 H) (L 2) b (L 6) (L 7) (L 8) H) (fun b=>qS (mB (mB mA (r8 (mB (mB (mB (r8 (pT (D:=fun a L H=>qnu O (fun x6 H=>zci O (fun x6 x7 x8 H=>qwc O (fun x6 x7 H=>qix O x6 x7 H) (L 2) b x6 x7 x8 H) x6 (L 7) (L 8) H) (L 9) a (L 6) (L 10) H) (fun a=>qS mA))) mA) mA) mA))) mA)))) mA)) mA) mA) mA))
theorem zq7:(aK Tryz.prog 57).f O [x0,x1] H=zAr O x0 x1 H:=
 r7 Tryz.func57 (D:=fun L H=>z1p O (L 0) (L 1) H)
 (qS (mB (mB (mB (mB mA (mB (pB (mB (mB mA (mB (r8 (pT (D:=fun a L H=>qt9 O (fun x7 H=>q2j O (L 1) (L 2) (L 5) x7 H) (L 1) (L 2) a (L 7) (L 8) H) (fun a=>qS mA))) mA)) mA) mA) mA)) (mB (r8 (pT (D:=fun b L H=>qt8 O (fun x5 H=>qub O (L 1) (L 2) x5 H) (L 1) (L 2) b (L 5) (L 6) H) (fun b=>qS mA))) mA)) mA) mA))
theorem qti:(aK Tryz.prog 227).f O [x0,x1,x2,x3,x4,x5,x6] H=zCo O x0 x1 x2 x3 x4 x5 x6 H:=
 r7 Tryz.func227 (D:=fun L H=>q9s O (L 0) (L 1) (L 2) (L 3) (L 4) (L 5) (L 6) H)
 (qS (mB (mB (mB (mB (mB (mB (mB (mB mA (mB (r8 (pT (D:=fun a L H=>qgf O (fun b H=>.ok b H) (fun c H=>qgg O (L 3) (L 11) c H) (L 0) (L 1) (L 2) (L 3) (L 6) (L 51) a (L 12) (L 52) H) (fun a=>qS mA))) mA)) mA) mA) mA) mA) mA) mA) mA))
theorem zqa:(aK Tryz.prog 175).f O [x0,x1,x2,x3] H=zBy O x0 x1 x2 x3 H:=
 r7 Tryz.func175 (D:=fun L H=>z0x O (L 0) (L 1) (L 2) (L 3) H)
 (qS (mB (mB (mB mA (mB (mB (pB (mB (r8 (pT (D:=fun a L H=>qwt O (fun b H=>q50 O b H) (L 0) (L 3) (L 22) (L 23) a (L 9) (L 24) H) (fun a=>qS mA))) mA) mA) mA) mA)) mA) mA))
theorem zq0:(aK Tryz.prog 28).f O [x0,x1,x2] H=zAy O x0 x1 x2 H:=
 r7 Tryz.func28 (D:=fun L H=>z1h O (L 0) (L 1) (L 2) H)
 (qS (mB (mB (mB mA (mB (r8 (pT (D:=fun a L H=>qww O (fun x7 H=>dM (gH (fQ (rV (cO 6 H (L 6))) (fQ (some x7) (some [])))) H) (fun H=>q58 O (L 6) H) (L 2) (L 3) (L 6) (L 8) a (L 9) H) (fun a=>qS mA))) mA)) mA) mA))
theorem zre:(aK Tryz.prog 122).f O [x0,x1,x2] H=zAi O x0 x1 x2 H:=
 r7 Tryz.func122 (D:=fun L H=>z1v O (L 0) (L 1) (L 2) H)
 (qS (mB (mB mA (mB (r8 (pT (D:=fun a L H=>qw0 O (fun x6 x7 H=>.ok (.bA [x6,x7]) H) (fun H=>zg2 O H) (L 1) (L 2) (L 11) (L 12) a (L 13) H) (fun a=>qS mA))) mA)) mA))
theorem zoe:(aK Tryz.prog 71).f O [x0,x1,x2] H=zGz O x0 x1 x2 H:=
 r7 Tryz.func71 (D:=fun L H=>zy6 O (L 0) (L 1) (L 2) H)
 (qS (mB (mB (qS (E:=fun L H=>q0u O (L 0) (L 1) (L 2) (L 6) H) (mB (mB (qS (E:=fun L H=>q0v O (L 0) (L 6) (L 8) H) mA) mA) mA)) mA) mA))
theorem zoi:(aK Tryz.prog 116).f O [x0,x1] H=zFn O x0 x1 H:=
 r7 Tryz.func116 (D:=fun L H=>zza O (L 0) (L 1) H)
 (qS (mB (mB (mB (mB (mB mA (mB (r8 (pT (D:=fun a L H=>qwi O (fun x5 x6 H=>zc0 O (L 3) x5 x6 H) (L 0) (L 3) a (L 5) (L 6) (L 7) H) (fun a=>qS mA))) mA)) mA) mA) mA) mA))
theorem zq6:(aK Tryz.prog 58).f O [x0,x1,x2] H=zAs O x0 x1 x2 H:=
 r7 Tryz.func58 (D:=fun L H=>z1n O (L 0) (L 1) (L 2) H)
 (qS (mB (mB (mB mA (mB (r8 (pT (D:=fun a L H=>q6k O (fun x6 H=>.ok x6 H) (fun H=>qwy O H) (L 1) (L 2) (L 7) a (L 8) H) (fun a=>qS mA))) mA)) mA) mA))
theorem zp8:(aK Tryz.prog 221).f O [x0] H=zCd O x0 H:=
 r7 Tryz.func221 (D:=fun L H=>z0v O (L 0) H)
 (qS (mB (mB (mB mA (mB (r8 (pT (D:=fun a L H=>q5x O (fun x2 H=>.ok x2 H) (fun H=>jW O H) (L 1) (L 14) (L 15) a (L 16) H) (fun a=>qS mA))) mA)) mA) mA))
theorem zpv:(aK Tryz.prog 99).f O [x0] H=zCt O x0 H:=
 r7 Tryz.func99 (D:=fun L H=>z0j O (L 0) H)
 (qS (mB (mB (mB mA (mB (r8 (pT (D:=fun k2 L H=>q5q O (fun x2 H=>.ok x2 H) (fun H=>gM O (L 3) H) (L 3) (L 6) (L 7) k2 (L 8) H) (fun k2=>qS mA))) mA)) mA) mA))
theorem zot:(aK Tryz.prog 76).f O [x0] H=zEr O x0 H:=
 r7 Tryz.func76 (D:=fun L H=>zzn O (L 0) H)
 (qS (mB (mB (mB mA (mB (r8 (pT (D:=fun a L H=>qra O (fun x3 H=>qwl O x3 H) (L 0) a (L 3) (L 4) H) (fun a=>qS mA))) mA)) mA) mA))
theorem znr:(aK Tryz.prog 23).f O [x0,x1] H=zIl O x0 x1 H:=
 r7 Tryz.func23 (D:=fun L H=>zyo O (L 0) (L 1) H)
 (qS (mB (mB mA (mB (r8 (pT (D:=fun k2 L H=>q4y O (fun x4 H=>.ok x4 H) (fun H=>qT O H) (L 0) (L 3) k2 (L 5) H) (fun k2=>qS mA))) mA)) mA))
theorem zpi:(aK Tryz.prog 254).f O [x0,x1] H=zDh O x0 x1 H:=
 r7 Tryz.func254 (D:=fun L H=>z0a O (L 0) (L 1) H)
 (qS mA)
theorem zqo:(aK Tryz.prog 189).f O [x0,x1,x2,x3,x4,x5,x6] H=zBl O x0 x1 x2 x3 x4 x5 x6 H:=
 r7 Tryz.func189 (D:=fun L H=>z06 O (L 0) (L 1) (L 2) (L 3) (L 4) (L 5) (L 6) H)
 (qS mA)
theorem zpk:(aK Tryz.prog 166).f O [x0,x1] H=zDf O x0 x1 H:=
 r7 Tryz.func166 (D:=fun L H=>z0c O (L 0) (L 1) H)
 (qS mA)
theorem zpy:(aK Tryz.prog 229).f O [x0] H=zCp O x0 H:=
 r7 Tryz.func229 (D:=fun L H=>z0m O (L 0) H)
 (qS mA)
theorem zn6:(aK Tryz.prog 180).f O [x0] H=zHs O x0 H:=
 r7 Tryz.func180 (D:=fun L H=>zy0 O (L 0) H)
 (qS mA)
theorem zod:(aK Tryz.prog 70).f O [x0,x1,x2] H=zHb O x0 x1 x2 H:=
 r7 Tryz.func70 (D:=fun L H=>z5k O (L 0) (L 1) (L 2) H)
 (qS mA)
theorem zov:(aK Tryz.prog 115).f O [x0,x1] H=zEp O x0 x1 H:=
 r7 Tryz.func115 (D:=fun L H=>zzp O (L 0) (L 1) H)
 (qS mA)
theorem zqy:(aK Tryz.prog 63).f O [x0,x1,x2,x3] H=zBa O x0 x1 x2 x3 H:=
 r7 Tryz.func63 (D:=fun L H=>z1g O (L 0) (L 1) (L 2) (L 3) H)
 (qS mA)
theorem zpd:(aK Tryz.prog 257).f O [x0,x1] H=zDn O x0 x1 H:=
 r7 Tryz.func257 (D:=fun L H=>zz6 O (L 0) (L 1) H)
 (qS mA)
theorem zp5:(aK Tryz.prog 224).f O [x0] H=zCg O x0 H:=
 r7 Tryz.func224 (D:=fun L H=>qn4 O (L 0) H)
 (qS mA)
theorem zqf:(aK Tryz.prog 160).f O [x0,x1,x2] H=zBt O x0 x1 x2 H:=
 r7 Tryz.func160 (D:=fun L H=>z5r O (L 0) (L 1) (L 2) H)
 (qS mA)
theorem zo9:(aK Tryz.prog 308).f O [x0] H=zDr O x0 H:=
 r7 Tryz.func308 (D:=fun L H=>z5n O (L 0) H)
 (qS mA)
theorem zog:(aK Tryz.prog 164).f O [x0,x1] H=zFu O x0 x1 H:=
 r7 Tryz.func164 (D:=fun L H=>zy8 O (L 0) (L 1) H)
 (qS mA)
theorem zqm:(aK Tryz.prog 190).f O [x0] H=zBn O x0 H:=
 r7 Tryz.func190 (D:=fun L H=>z5s O (L 0) H)
 (qS mA)
theorem znm:(aK Tryz.prog 68).f O [x0] H=zIq O x0 H:=
 r7 Tryz.func68 (D:=fun L H=>z5g O (L 0) H)
 (qS mA)
theorem zou:(aK Tryz.prog 75).f O [x0] H=zEq O x0 H:=
 r7 Tryz.func75 (D:=fun L H=>zzo O (L 0) H)
 (qS mA)
theorem q54:(aK Tryz.prog 171).f O [x0] H=zBk O x0 H:=
 r7 Tryz.func171 (D:=fun L H=>zqp O (L 0) H)
 (qS mA)
theorem zqv:(aK Tryz.prog 109).f O [x0] H=zBe O x0 H:=
 r7 Tryz.func109 (D:=fun L H=>z1d O (L 0) H)
 (qS mA)
theorem zoy:(aK Tryz.prog 31).f O [x0] H=zEl O x0 H:=
 r7 Tryz.func31 (D:=fun L H=>zzs O (L 0) H)
 (qS mA)
def qrt(O:Ev.Call)(k5:Nat)(k8:Nat)(L:TT AV (iF (Tryz.f16.ntmps+1))):=fun x10 H=>qoq O (fun H=>kA wE O (fun x8 H=>qkq O (fun H=>kA qgh O (L 2) (L 3) H) (L 3) k5 x8 H) (L 8) H) (L 9) k8 x10 H
def qrs(O:Ev.Call)(k61:Nat)(L:TT AV (iF (Tryz.f16.ntmps+1))):=fun x4 H=>qkp O (fun H=>kA qfk O (L 2) (L 3) H) (L 1) (L 3) k61 x4 H
def qrr(O:Ev.Call)(k5:Nat)(L:TT AV (iF (Tryz.f16.ntmps+1))):=fun x8 H=>qkq O (fun H=>kA qgh O (L 2) (L 3) H) (L 3) k5 x8 H
def zhv(O:Ev.Call)(k5:Nat)(k8:Nat)(L:TT AV (iF (Tryz.f16.ntmps+1))):=fun bG H=>kA qjb O (qrt O k5 k8 L) (L 9) (L 10) bG H
def zhu(O:Ev.Call)(k5:Nat)(k8:Nat)(k16:Nat)(L:TT AV (iF (Tryz.f16.ntmps+1))):=fun bG bI H=>qop O (zhv O k5 k8 L) (L 9) (L 10) k16 bG bI H
theorem zrk:(aK Tryz.prog 16).f O [x0] H=zAc O x0 H:=
 r7 Tryz.func16 (D:=fun L H=>z11 O (L 0) H)
 (qS (mB (mB (pS qon (fun x L H=>x O (L 1) (L 2) (L 3) H) (qS (mB (pS (kE qfk) (fun x L H=>x O (L 2) (L 3) H) (qS (mB (pS (kE qgh) (fun x L H=>x O (L 2) (L 3) H) (qS mA)) (mB (r8 (pT (D:=fun a L H=>qkq O (fun H=>kA qgh O (L 2) (L 3) H) (L 3) a (L 8) H) (fun a=>qS (mB (pS (kE qm8) (fun x L H=>x O (qrr O a L) (L 3) (L 8) H) (qS (mB (pS (kE wE) (fun x L H=>x O (qrr O a L) (L 8) H) (qS mA)) (r8 (mB (pS qrn (fun x L H=>x O (qrr O a L) (L 8) (L 9) H) (qS (mB (r8 (pT (D:=fun c L H=>qoq O (fun H=>kA wE O (qrr O a L) (L 8) H) (L 9) c (L 10) H) (fun c=>qS (mB (pS (kE qm9) (fun x L H=>x O (qrt O a c L) (L 9) (L 10) H) (qS (mB (pS (kE qdh) (fun x L H=>x O (qrt O a c L) (L 10) H) (qS mA)) (r8 (mB (pS qrp (fun x L H=>x O (qrt O a c L) (L 9) (L 10) (L 11) H) (qS (mB (pS (kE qjb) (fun x L H=>x O (qrt O a c L) (L 9) (L 10) (L 11) H) (qS mA)) (mB (r8 (pT (D:=fun d L H=>qop O (zhv O a c L) (L 9) (L 10) d (L 11) (L 12) H) (fun d=>qS (mB (pS (kE qna) (fun x L H=>x O (zhu O a c d L) (L 9) (L 10) (L 11) (L 12) H) (qS (mB (pS (kE qdv) (fun x L H=>x O (zhu O a c d L) (L 11) (L 12) H) (qS mA)) mA))) (mB (pS qrq (fun x L H=>x O (zhu O a c d L) (zhv O a c L) (L 9) (L 10) (L 11) (L 12) (L 90) H) (qS mA)) mA))))) mA)))) mA))))) (mB (pS qro (fun x L H=>x O (qrt O a c L) (fun H=>kA wE O (qrr O a L) (L 8) H) (L 9) (L 10) (L 78) H) (qS mA)) mA))))) mA))) mA))))) (mB (pS qrm (fun x L H=>x O (qrr O a L) (fun H=>kA qgh O (L 2) (L 3) H) (L 3) (L 8) (L 66) H) (qS mA)) mA))))) mA)))) (mB (r8 (pT (D:=fun b L H=>qkp O (fun H=>kA qfk O (L 2) (L 3) H) (L 1) (L 3) b (L 4) H) (fun b=>qS (mB (pS (kE qd5) (fun x L H=>x O (qrs O b L) (L 1) (L 3) (L 4) H) (qS (mB (pS (kE qm7) (fun x L H=>x O (qrs O b L) (L 4) H) (qS mA)) (r8 (mB (pS (kE qeh) (fun x L H=>x O (qrs O b L) (L 1) (L 3) (L 4) H) (qS (mB (pS qrk (fun x L H=>x O (qrs O b L) (L 1) (L 3) (L 4) (L 5) H) (qS (mB (pS qrl (fun x L H=>x O (qrs O b L) (L 1) (L 4) (L 5) (L 7) H) (qS mA)) mA))) mA))) mA))))) (mB (pS qoo (fun x L H=>x O (qrs O b L) (fun H=>kA qfk O (L 2) (L 3) H) (L 1) (L 3) (L 4) (L 19) H) (qS mA)) mA))))) mA)))) mA) mA))
def zb2(O:Ev.Call)(k9:Nat)(L:TT AV (iF (Tryz.f27.ntmps+1))):=fun x4 x5 H=>q0a O (fun x4 x5 x7 H=>qq8 O (fun x4 x5 H=>q4x O x4 x5 H) (L 2) (L 6) k9 x4 x5 x7 H) x4 x5 (L 7) H
theorem znn:(aK Tryz.prog 27).f O [x0,x1] H=zIp O x0 x1 H:=
 r7 Tryz.func27 (D:=fun L H=>zyk O (L 0) (L 1) H)
 (qS (mB (kB (mB (mB (mB (mB (pS (kE ql2) (fun x L H=>x O (L 2) (L 4) (L 5) (L 6) (L 7) H) (qS (mB mA (r8 (pT (D:=fun c L H=>qq8 O (fun x4 x5 H=>q4x O x4 x5 H) (L 2) (L 6) c (L 4) (L 5) (L 7) H) (fun c=>qS (r8 (mB (pS (kE ql3) (fun x L H=>x O (fun x4 x5 x7 H=>qq8 O (fun x4 x5 H=>q4x O x4 x5 H) (L 2) (L 6) c x4 x5 x7 H) (L 2) (L 4) (L 5) (L 6) (L 7) H) (qS (mB mA (mB (r8 (pT (D:=fun a L H=>qh8 O (zb2 O c L) (L 6) (L 26) (L 27) a (L 4) (L 5) (L 28) H) (fun a=>qS (mB (mB (pS (kE ql4) (fun x L H=>x O (fun x4 x5 b H=>qh8 O (zb2 O c L) (L 6) (L 26) (L 27) a x4 x5 b H) (L 4) (L 5) (L 6) (L 26) (L 28) H) (qS (mB (pS (kE qg5) (fun x L H=>x O (fun x4 x5 b H=>qh8 O (zb2 O c L) (L 6) (L 26) (L 27) a x4 x5 b H) (L 4) (L 5) (L 28) H) (qS mA)) mA))) mA) mA)))) mA)))) mA)))))))) mA) mA) mA) mA)) mA))
theorem zrg:(aK Tryz.prog 19).f O [x0] H=zAg O x0 H:=
 r7 Tryz.func19 (D:=fun L H=>z1x O (L 0) H)
 (qS (mB (mB (mB (mA) (mB (r8 (pT (D:=fun a L H=>qoi O (fun x2 x3 H=>.ok (.bA [x2,x3]) H) (fun H=>qw3 O (L 4) H) (L 1) (L 4) a (L 5) H) (fun a=>qS (mB (r8 (mB (mB (r8 (pT (D:=fun b L H=>qw2 O (fun x2 x3 H=>.ok (.bA [x2,x3]) H) (fun x5 H=>qoi O (fun x2 x3 H=>.ok (.bA [x2,x3]) H) (fun H=>qw3 O (L 4) H) (L 1) (L 4) a x5 H) (L 1) (L 4) b (L 5) (L 6) H) (fun b=>qS (mB (mB (mA) (r8 (mB (r8 (pT (D:=fun c L H=>qrj O (fun x2 x3 H=>.ok (.bA [x2,x3]) H) (fun x5 H=>zg8 O (fun x5 x6 H=>qw2 O (fun x2 x3 H=>.ok (.bA [x2,x3]) H) (fun x5 H=>qoi O (fun x2 x3 H=>.ok (.bA [x2,x3]) H) (fun H=>qw3 O (L 4) H) (L 1) (L 4) a x5 H) (L 1) (L 4) b x5 x6 H) x5 (L 6) H) (L 1) (L 4) (L 6) c (L 5) (L 7) H) (fun c=>qS (mB (mB (mA) (r8 (mB (mB (mB (mB (mA) mA) mA) mA) mA))) mA)))) mA))) mA)))) mA) mA)) mA)))) mA)) mA) mA))
def q45(O:Ev.Call)(L:TT AV (iF (Tryz.f170.ntmps+1))):=fun x3 H=>zcq O (L 1) (L 2) x3 H
theorem zn7:(aK Tryz.prog 170).f O [x0] H=zHr O x0 H:=
 r7 Tryz.func170 (D:=fun L H=>zy1 O (L 0) H)
 (qS (mB (mB (mB (qS (E:=fun L H=>zcq O (L 1) (L 2) (L 3) H) mA) (mB (r8 (qS (E:=fun L H=>q0p O (q45 O L) (L 1) (L 7) (L 8) (L 3) (L 9) H) (pT (D:=fun a L H=>qge O (q45 O L) (L 1) (L 7) (L 8) a (L 3) (L 9) H) (fun a=>qS (mB (mB (qS (E:=fun L H=>q0o O (fun x3 b H=>qge O (q45 O L) (L 1) (L 7) (L 8) a x3 b H) (L 1) (L 3) (L 7) (L 9) H) (mB (qS (E:=fun L H=>qnw O (fun x3 b H=>qge O (q45 O L) (L 1) (L 7) (L 8) a x3 b H) (L 3) (L 9) H) mA) mA)) mA) mA))) (fun _ _=>by kernel_rfl))) mA)) mA) mA))
theorem qs2:(aK Tryz.prog 130).f O [x0] H=zIv O x0 H:=
 r7 Tryz.func130 (D:=fun L H=>z5c O (L 0) H)
 (qS (mB (mB (mB mA (mB (r8 (pT (D:=fun b L H=>zuy O (fun x2 H=>.ok x2 H) (fun H=>gM O (L 0) H) (L 0) b (L 3) H) (fun b=>qS (mB (mB mA (r8 (mB (pB (mB (mB mA (mB (r8 (pT (D:=fun a L H=>zbw O (fun x3 H=>zbx O (fun x2 H=>.ok x2 H) (L 0) x3 H) (L 0) (L 4) a (L 3) (L 5) H) (fun a=>qS mA))) mA)) mA) mA) mA))) mA)))) mA)) mA) mA))
theorem qtn:(aK Tryz.prog 220).f O [x0] H=zCb O x0 H:=
 r7 Tryz.func220 (D:=fun L H=>zmf O 3 aBz aA9 (L 0) H)
 (qS (mB (mB (mB mA (mB (r8 (pT (D:=fun b L H=>q9c O 3 aBz aA9 (fun x2 H=>.ok x2 H) (fun H=>zx6 O 3 aBz aA9 (L 0) H) (L 0) b (L 3) H) (fun b=>qS (mB (mB mA (r8 (mB (pB (mB (mB mA (mB (r8 (pT (D:=fun a L H=>qqa O 3 aBz aA9 (fun x3 H=>qv5 O 3 aBz aA9 (fun x2 H=>.ok x2 H) (L 0) x3 H) (L 0) (L 4) a (L 3) (L 5) H) (fun a=>qS mA))) mA)) mA) mA) mA))) mA)))) mA)) mA) mA))
theorem zqh:(aK Tryz.prog 173).f O [x0] H=zBr O x0 H:=
 r7 Tryz.func173 (D:=fun L H=>z01 O (L 0) H)
 (qS (mB (mB (mB mA (mB (r8 (pT (D:=fun a L H=>qn8 O (fun H=>gM O (L 3) H) (L 3) (L 16) (L 17) a (L 18) H) (fun a=>qS (mB (mB (mB mA (r8 (mB (mB (mB (r8 (pT (D:=fun b L H=>qtp O (fun H=>q1m O (fun c H=>qn8 O (fun H=>gM O (L 3) H) (L 3) (L 16) (L 17) a c H) (L 18) H) (L 3) (L 5) (L 32) b (L 33) H) (fun b=>qS mA))) mA) mA) mA))) mA) mA)))) mA)) mA) mA))
theorem qqy:(aK Tryz.prog 226).f O [x0] H=kJ O x0 H:=
 r7 Tryz.func226 (D:=fun L H=>qip O (L 0) H)
 (qS (mB (mB (mB mA (mB (r8 (pT (D:=fun b L H=>qek O (fun x2 H=>.ok x2 H) (fun H=>gM O (L 0) H) (L 0) b (L 3) H) (fun b=>qS (mB (mB mA (r8 (mB (pB (mB (mB mA (mB (r8 (pT (D:=fun a L H=>qdw O (fun x3 H=>qfr O (fun x2 H=>.ok x2 H) (L 0) x3 H) (L 0) (L 4) a (L 3) (L 5) H) (fun a=>qS mA))) mA)) mA) mA) mA))) mA)))) mA)) mA) mA))
theorem zrf:(aK Tryz.prog 21).f O [x0] H=zAh O x0 H:=
 r7 Tryz.func21 (D:=fun L H=>z1w O (L 0) H)
 (qS (mB (mB (mB mA (mB (r8 (pT (D:=fun k2 L H=>qw1 O (fun x3 H=>gM O x3 H) (L 1) k2 (L 3) (L 4) H) (fun k2=>qS (mB (mB mA (r8 (mB (r8 (pT (D:=fun a L H=>q6n O (fun x3 H=>qln O (fun x3 x4 H=>qw1 O (fun x3 H=>gM O x3 H) (L 1) k2 x3 x4 H) x3 (L 4) H) (L 1) (L 4) a (L 3) (L 5) H) (fun a=>qS mA))) mA))) mA)))) mA)) mA) mA))
theorem zqj:(aK Tryz.prog 192).f O [x0] H=zBp O x0 H:=
 r7 Tryz.func192 (D:=fun L H=>z03 O (L 0) H)
 (qS (mB (mB (mB (pS (kE qms) (fun x L H=>x O (L 1) (L 4) H) (qS (mB (mB mA (mB (r8 (pT (D:=fun a L H=>qtq O (fun x6 H=>zfp O x6 H) (L 4) (L 18) (L 19) a (L 6) (L 20) H) (fun a=>qS mA))) mA)) mA))) mA) mA) mA))
theorem zqu:(aK Tryz.prog 110).f O [x0,x1,x2,x3] H=zBf O x0 x1 x2 x3 H:=
 r7 Tryz.func110 (D:=fun L H=>z1c O (L 0) (L 1) (L 2) (L 3) H)
 (qS (mB (mB (mB mA (mB (r8 (pT (D:=fun a L H=>qtu O (fun b H=>zf6 O (L 2) (L 8) b H) (L 1) (L 3) (L 4) a (L 9) (L 10) H) (fun a=>qS mA))) mA)) mA) mA))
theorem q57:(aK Tryz.prog 29).f O [x0,x1,x2] H=zAz O x0 x1 x2 H:=
 r7 Tryz.func29 (D:=fun L H=>zqz O (L 0) (L 1) (L 2) H)
 (qS (mB (mB (mB (mB (mB mA (mB (r8 (pT (D:=fun a L H=>qtx O (fun x0 x8 H=>qtz O x0 (L 7) x8 H) (L 2) (L 4) a (L 0) (L 8) (L 9) H) (fun a=>qS mA))) mA)) mA) mA) mA) mA))
theorem znq:(aK Tryz.prog 24).f O [x0,x1] H=zIm O x0 x1 H:=
 r7 Tryz.func24 (D:=fun L H=>zyn O (L 0) (L 1) H)
 (qS (mB (mB (mB (mB (mB mA (mB (r8 (pT (D:=fun a L H=>qs6 O (fun H=>q0e O (L 4) (L 9) (L 10) H) (L 10) (L 32) (L 33) a (L 34) H) (fun a=>qS mA))) mA)) mA) mA) mA) mA))
theorem zo6:(aK Tryz.prog 66).f O [x0,x1] H=zDz O x0 x1 H:=
 r7 Tryz.func66 (D:=fun L H=>zz0 O (L 0) (L 1) H)
 (qS (mB (mB (mB (mB mA (mB (r8 (pT (D:=fun a L H=>q5f O (fun x4 x5 H=>.ok (.bA [x4,x5]) H) (fun H=>zdu O (L 1) H) (L 7) (L 18) (L 19) a (L 20) H) (fun a=>qS mA))) mA)) mA) mA) mA))
theorem zrd:(aK Tryz.prog 120).f O [x0] H=zAj O x0 H:=
 r7 Tryz.func120 (D:=fun L H=>z1u O (L 0) H)
 (qS (mB (mB (mB mA (mB (r8 (pT (D:=fun a L H=>q6m O (fun x3 H=>gM O x3 H) (L 7) (L 8) a (L 3) (L 9) H) (fun a=>qS mA))) mA)) mA) mA))
theorem zop:(aK Tryz.prog 162).f O [x0,x1] H=zEv O x0 x1 H:=
 r7 Tryz.func162 (D:=fun L H=>zzj O (L 0) (L 1) H)
 (qS (mB (mB mA (mB (r8 (pT (D:=fun a L H=>zdf O (fun x4 H=>.ok x4 H) (fun H=>zvm O (L 0) (L 1) H) (L 0) (L 1) a (L 5) H) (fun a=>qS mA))) mA)) mA))
theorem zom:(aK Tryz.prog 179).f O [x0] H=zEy O x0 H:=
 r7 Tryz.func179 (D:=fun L H=>zzd O (L 0) H)
 (qS (mB (mB (mB mA (mB (r8 (pT (D:=fun k2 L H=>qwk O (fun x2 H=>.ok x2 H) (fun H=>jW O H) (L 0) (L 13) k2 (L 14) H) (fun k2=>qS mA))) mA)) mA) mA))
theorem zol:(aK Tryz.prog 65).f O [x0] H=zFc O x0 H:=
 r7 Tryz.func65 (D:=fun L H=>zzc O (L 0) H)
 (qS (mB (mB (mB mA (mB (r8 (pT (D:=fun a L H=>q49 O (fun x3 H=>gM O x3 H) (L 0) a (L 3) (L 4) H) (fun a=>qS mA))) mA)) mA) mA))
theorem zn5:(aK Tryz.prog 182).f O [x0] H=zHt O x0 H:=
 r7 Tryz.func182 (D:=fun L H=>z5i O (L 0) H)
 (qS (mB (mB (qS (E:=fun L H=>zvb O (L 0) H) mA) mA) mA))
theorem q44:(aK Tryz.prog 184).f O [x0] H=zHv O x0 H:=
 r7 Tryz.func184 (D:=fun L H=>zyy O (L 0) H)
 (qS (mB (mB (qS (E:=fun L H=>zva O (L 0) H) mA) mA) mA))
theorem zp3:(aK Tryz.prog 234).f O [x0,x1,x2,x3] H=zCj O x0 x1 x2 x3 H:=
 r7 Tryz.func234 (D:=fun L H=>z0r O (L 0) (L 1) (L 2) (L 3) H)
 (qS mA)
theorem zn4:(aK Tryz.prog 181).f O [x0] H=zHu O x0 H:=
 r7 Tryz.func181 (D:=fun L H=>zyz O (L 0) H)
 (qS mA)
theorem znk:(aK Tryz.prog 127).f O [x0] H=zIs O x0 H:=
 r7 Tryz.func127 (D:=fun L H=>z5f O (L 0) H)
 (qS mA)
theorem zoj:(aK Tryz.prog 73).f O [x0] H=zFk O x0 H:=
 r7 Tryz.func73 (D:=fun L H=>q9q O (L 0) H)
 (qS mA)
theorem zp2:(aK Tryz.prog 235).f O [x0,x1] H=zCk O x0 x1 H:=
 r7 Tryz.func235 (D:=fun L H=>z0q O (L 0) (L 1) H)
 (qS mA)
theorem zoa:(aK Tryz.prog 125).f O [x0,x1,x2,x3] H=zHi O x0 x1 x2 x3 H:=
 r7 Tryz.func125 (D:=fun L H=>zy4 O (L 0) (L 1) (L 2) (L 3) H)
 (qS mA)
theorem znv:(aK Tryz.prog 9).f O [x0,x1,x2] H=zIh O x0 x1 x2 H:=
 r7 Tryz.func9 (D:=fun L H=>zys O (L 0) (L 1) (L 2) H)
 (qS mA)
theorem zpg:(aK Tryz.prog 296).f O [x0] H=zDk O x0 H:=
 r7 Tryz.func296 (D:=fun L H=>zz8 O (L 0) H)
 (qS mA)
theorem zpx:(aK Tryz.prog 244).f O [x0,x1] H=zCr O x0 x1 H:=
 r7 Tryz.func244 (D:=fun L H=>z0l O (L 0) (L 1) H)
 (qS mA)
theorem zp9:(aK Tryz.prog 217).f O [x0,x1] H=zBz O x0 x1 H:=
 r7 Tryz.func217 (D:=fun L H=>z0w O (L 0) (L 1) H)
 (qS mA)
theorem zoq:(aK Tryz.prog 161).f O [x0,x1] H=zEu O x0 x1 H:=
 r7 Tryz.func161 (D:=fun L H=>zzk O (L 0) (L 1) H)
 (qS mA)
theorem zpf:(aK Tryz.prog 295).f O [x0] H=zDl O x0 H:=
 r7 Tryz.func295 (D:=fun L H=>z5o O (L 0) H)
 (qS mA)
theorem zpn:(aK Tryz.prog 259).f O [x0] H=zDc O x0 H:=
 r7 Tryz.func259 (D:=fun L H=>z0e O (L 0) H)
 (qS mA)
theorem zox:(aK Tryz.prog 165).f O [x0] H=zEn O x0 H:=
 r7 Tryz.func165 (D:=fun L H=>zzr O (L 0) H)
 (qS mA)
theorem zpw:(aK Tryz.prog 245).f O [x0] H=zCs O x0 H:=
 r7 Tryz.func245 (D:=fun L H=>z0k O (L 0) H)
 (qS mA)
theorem q5m:(aK Tryz.prog 144).f O [x0] H=zCx O x0 H:=
 r7 Tryz.func144 (D:=fun L H=>zps O (L 0) H)
 (qS mA)
theorem zra:(aK Tryz.prog 54).f O [x0] H=zAo O x0 H:=
 r7 Tryz.func54 (D:=fun L H=>z1r O (L 0) H)
 (qS mA)
theorem zq1:(aK Tryz.prog 62).f O [x0] H=zAx O x0 H:=
 r7 Tryz.func62 (D:=fun L H=>z1i O (L 0) H)
 (qS mA)
def zcn(O:Ev.Call)(L:TT AV (iF (Tryz.f3.ntmps+1))):=fun x10 H=>kA qg7 O (L 1) (L 5) (L 7) (L 8) (L 9) x10 H
theorem znz:(aK Tryz.prog 3).f O [x0,x1,x2] H=zIc O x0 x1 x2 H:=
 r7 Tryz.func3 (D:=fun L H=>zyw O (L 0) (L 1) (L 2) H)
 (qS (mB (mB (pS (kE qiz) (fun x L H=>x O (L 1) (L 3) (L 5) H) (qS (mB (pS (kE qi0) (fun x L H=>x O (L 1) (L 5) (L 7) (L 8) H) (qS (mB (pS (kE qi1) (fun x L H=>x O (L 1) (L 5) (L 7) (L 8) (L 9) H) (qS (mB (mB (pS (kE qg7) (fun x L H=>x O (L 1) (L 5) (L 7) (L 8) (L 9) (L 10) H) (qS (mB (pS (kE qg9) (fun x L H=>x O (L 5) (L 7) (L 8) (L 9) H) (qS (mB (pS (kE qma) (fun x L H=>x O (L 5) (L 7) (L 8) (L 9) (L 19) (L 20) H) (qS (mB (pS (kE qmb) (fun x L H=>x O (L 5) (L 7) (L 9) (L 19) (L 20) (L 21) (L 22) H) (qS (mB (pS (kE qmd) (fun x L H=>x O (L 5) (L 9) (L 19) (L 20) (L 21) (L 22) H) (qS (mB (pS (kE qme) (fun x L H=>x O (L 5) (L 9) (L 19) (L 20) (L 21) (L 22) (L 23) H) (qS mA)) mA))) (mB (pS (kE qmc) (fun x L H=>x O (L 5) (L 9) (L 19) (L 20) (L 21) (L 22) (L 135) H) (qS mA)) mA)))) mA))) mA))) (mB (pS (kE qg8) (fun x L H=>x O (L 1) (L 5) (L 7) (L 8) (L 9) (L 10) (L 73) H) (qS (pB (mB (pS (kE qiy) (fun x L H=>x O (L 5) (L 7) (L 8) (L 9) (L 10) (L 12) H) (qS (mB (pS (kE ql6) (fun x L H=>x O (L 5) (L 7) (L 8) (L 9) (L 10) (L 12) (L 13) H) (qS (mB (pS (kE ql7) (fun x L H=>x O (L 5) (L 7) (L 8) (L 9) (L 10) (L 12) (L 13) (L 15) (L 16) H) (qS (mB (pS (kE ql8) (fun x L H=>x O (L 5) (L 7) (L 8) (L 9) (L 12) (L 13) (L 15) (L 16) (L 17) (L 18) H) (qS (mB (pS (kE ql9) (fun x L H=>x O (L 5) (L 7) (L 8) (L 9) (L 117) H) (qS mA)) mA))) mA))) mA))) mA))) mA) mA))) mA)))) (mB (pS (kE qi2) (fun x L H=>x O (L 1) (L 5) (L 7) (L 8) (L 9) (L 10) (L 11) H) (qS (r8 (pT (D:=fun a L H=>qkb O (zcn O L) (L 8) a (L 10) (L 11) H) (fun a=>qS (mB (pS (kE qi3) (fun x L H=>x O (fun b c H=>qkb O (zcn O L) (L 8) a b c H) (L 8) (L 10) (L 11) H) (qS (mB (pS (kE ql5) (fun x L H=>x O (fun b c H=>qkb O (zcn O L) (L 8) a b c H) (L 10) (L 11) H) (qS mA)) mA))) mA)))))) mA)) mA))) mA))) mA))) (mB (pS (kE qdn) (fun x L H=>x O (L 1) (L 3) (L 5) (L 42) H) (qS mA)) mA)) mA))
def zgh(O:Ev.Call)(k11:Nat)(L:TT AV (iF (Tryz.f142.ntmps+1))):=fun yT H=>qkj O (fun H=>qct O (L 8) H) (L 1) (L 4) (L 8) (L 39) (L 40) k11 yT H
theorem zq4:(aK Tryz.prog 142).f O [x0] H=zAu O x0 H:=
 r7 Tryz.func142 (D:=fun L H=>z1l O (L 0) H)
 (qS (mB (mB (mB (pS (kE qmu) (fun x L H=>x O (L 1) (L 4) H) (qS (mB (pS (kE qmv) (fun x L H=>x O (L 1) (L 4) H) (qS (mB (mB (pS (kE qfi) (fun x L H=>x O (L 1) (L 4) (L 8) H) (qS (mB mA (mB (r8 (pT (D:=fun a L H=>qkj O (fun H=>qct O (L 8) H) (L 1) (L 4) (L 8) (L 39) (L 40) a (L 41) H) (fun a=>qS (mB (mB (mB mA (r8 (mB (mB (mB (mB (r8 (pT (D:=fun c L H=>qt0 O (fun H=>qko O (zgh O a L) (L 41) H) (L 8) (L 11) (L 83) (L 84) c (L 85) H) (fun c=>qS mA))) mA) (mB (r8 (pT (D:=fun b L H=>qki O (fun d H=>qt1 O (zgh O a L) (L 8) (L 10) d (L 41) H) (L 4) (L 8) (L 9) (L 47) (L 48) b (L 11) (L 49) H) (fun b=>qS (mB (mB (pS (kE qmw) (fun x L H=>x O (fun d e H=>qki O (fun d H=>qt1 O (zgh O a L) (L 8) (L 10) d (L 41) H) (L 4) (L 8) (L 9) (L 47) (L 48) b d e H) (L 4) (L 8) (L 9) (L 11) (L 47) (L 49) H) (qS mA)) mA) mA)))) mA)) mA) mA))) mA) mA)))) mA)))) mA) mA))) mA))) mA) mA) mA))
def qws(O:Ev.Call)(k1:Nat)(L:TT AV (iF (Tryz.f236.ntmps+1))):=fun bI H=>qre O (fun x4 H=>.ok x4 H) (fun H=>kA jW O H) (L 0) (L 1) (L 10) (L 11) k1 bI H
theorem zpr:(aK Tryz.prog 236).f O [x0,x1] H=zCy O x0 x1 H:=
 r7 Tryz.func236 (D:=fun L H=>z0h O (L 0) (L 1) H)
 (qS (mB (mB (pS (kE jW) (fun x L H=>x O H) (qS mA)) (mB (pS qrb (fun x L H=>x O (L 0) (L 1) (L 10) (L 11) (L 12) H) (qS (r8 (pT (D:=fun a L H=>qre O (fun x4 H=>.ok x4 H) (fun H=>kA jW O H) (L 0) (L 1) (L 10) (L 11) a (L 12) H) (fun a=>qS (mB (mB (pS (kE qmr) (fun x L H=>x O (fun x4 H=>.ok x4 H) (qws O a L) (L 0) (L 1) (L 10) (L 12) H) (qS (mB (pS (kE qh0) (fun x L H=>x O (qws O a L) (L 12) H) (qS mA)) (r8 (mB (pS qrc (fun x L H=>x O (fun x4 H=>.ok x4 H) (qws O a L) (L 0) (L 1) (L 5) (L 6) (L 12) H) (qS (r8 (mB (pS qrd (fun x L H=>x O (fun x4 H=>.ok x4 H) (qws O a L) (L 1) (L 5) (L 6) (L 12) (L 17) H) (qS (pB mA (mB (pS qwr (fun x L H=>x O (fun x4 H=>.ok x4 H) (qws O a L) (L 12) (L 40) H) (qS mA)) mA)))) mA)))) mA))))) mA) mA)))))) mA)) mA))
def zws(O:Ev.Call)(k16:Nat)(L:TT AV (iF (Tryz.f111.ntmps+1))):=fun x9 H=>qdv O (fun x9 x10 H=>qob O (fun x9 H=>qtt O (L 2) (L 3) (L 8) x9 H) (L 1) (L 3) (L 4) k16 x9 x10 H) x9 (L 10) H
theorem zqt:(aK Tryz.prog 111).f O [x0,x1,x2,x3] H=zBg O x0 x1 x2 x3 H:=
 r7 Tryz.func111 (D:=fun L H=>z1a O (L 0) (L 1) (L 2) (L 3) H)
 (qS (mB (mB (mB mA (mB (r8 (pT (D:=fun a L H=>qob O (fun c H=>qtt O (L 2) (L 3) (L 8) c H) (L 1) (L 3) (L 4) a (L 9) (L 10) H) (fun a=>qS (mB (mB mA (r8 (mB (mB (r8 (pT (D:=fun b L H=>qoa O (zws O a L) (L 1) (L 3) (L 4) (L 10) (L 11) b (L 9) (L 12) H) (fun b=>qS (mB (mB mA (r8 (mB (r8 (pT (D:=fun d L H=>qts O (fun c H=>q11 O (fun c e H=>qoa O (zws O a L) (L 1) (L 3) (L 4) (L 10) (L 11) b c e H) c (L 12) H) (L 1) (L 3) (L 4) (L 10) (L 11) (L 12) d (L 9) (L 13) H) (fun d=>qS mA))) mA))) mA)))) mA) mA))) mA)))) mA)) mA) mA))
def q46(O:Ev.Call)(L:TT AV (iF (Tryz.f132.ntmps+1))):=fun H=>qs7 O (L 1) (L 2) H
theorem zn8:(aK Tryz.prog 132).f O [x0] H=zHk O x0 H:=
 r7 Tryz.func132 (D:=fun L H=>zy2 O (L 0) H)
 (qS (mB (mB (mB (mB (qS (E:=fun L H=>qs7 O (L 1) (L 2) H) mA) (mB (r8 (qS (E:=fun L H=>q0t O (q46 O L) (L 1) (L 17) (L 18) H) (pT (D:=fun a L H=>qkc O (q46 O L) (L 1) (L 17) a (L 18) H) (fun a=>qS (mB (mB (qS (E:=fun L H=>q0q O (fun b H=>qkc O (q46 O L) (L 1) (L 17) a b H) (L 1) (L 18) H) (mB (qS (E:=fun L H=>q0r O (fun b H=>qkc O (q46 O L) (L 1) (L 17) a b H) (L 18) H) mA) mA)) mA) mA))) (fun _ _=>by kernel_rfl))) mA)) mA) mA) mA))
theorem zp6:(aK Tryz.prog 222).f O [x0,x1] H=zCf O x0 x1 H:=
 r7 Tryz.func222 (D:=fun L H=>z0t O (L 0) (L 1) H)
 (qS (mB (mB (mB (mB mA (mB (r8 (pT (D:=fun a L H=>qn7 O (fun H=>q5v O (L 2) (L 3) (L 5) H) (L 5) (L 15) (L 16) a (L 17) H) (fun a=>qS (mB (mB (mB mA (r8 (mB (mB (r8 (pT (D:=fun b L H=>qtl O (fun H=>q1c O (fun c H=>qn7 O (fun H=>q5v O (L 2) (L 3) (L 5) H) (L 5) (L 15) (L 16) a c H) (L 17) H) (L 5) (L 6) (L 22) (L 23) b (L 24) H) (fun b=>qS mA))) mA) mA))) mA) mA)))) mA)) mA) mA) mA))
theorem znl:(aK Tryz.prog 72).f O [x0,x1,x2] H=zIr O x0 x1 x2 H:=
 r7 Tryz.func72 (D:=fun L H=>zyj O (L 0) (L 1) (L 2) H)
 (qS (mB (mB mA (mB (r8 (mB (pB (mB (r8 (pT (D:=fun a L H=>qns O (fun x6 x7 H=>qix O x6 x7 H) (L 19) (L 20) a (L 6) (L 7) (L 21) H) (fun a=>qS mA))) mA) (mB (pB mA (mB (pB (mB (r8 (pT (D:=fun b L H=>qnr O (fun x7 H=>qix O (L 6) x7 H) (L 4) (L 58) (L 59) b (L 7) (L 60) H) (fun b=>qS mA))) mA) mA) mA)) mA)) mA)) mA)) mA))
theorem zo3:(aK Tryz.prog 117).f O [x0] H=zEf O x0 H:=
 r7 Tryz.func117 (D:=fun L H=>zzx O (L 0) H)
 (qS (mB (mB (mB mA (mB (r8 (pT (D:=fun b L H=>qwn O (fun H=>gM O (L 3) H) (L 3) (L 10) (L 11) b (L 12) H) (fun b=>qS (mB (mB (mB mA (r8 (mB (mB (r8 (pT (D:=fun a L H=>qta O (fun H=>qi7 O (fun c H=>qwn O (fun H=>gM O (L 3) H) (L 3) (L 10) (L 11) b c H) (L 12) H) (L 3) (L 5) (L 17) (L 18) a (L 19) H) (fun a=>qS mA))) mA) mA))) mA) mA)))) mA)) mA) mA))
theorem zo5:(aK Tryz.prog 17).f O [x0,x1] H=zEc O x0 x1 H:=
 r7 Tryz.func17 (D:=fun L H=>zzz O (L 0) (L 1) H)
 (qS (mB (mB (mB (qS (E:=fun L H=>kA qha O (L 2) (L 3) (L 4) (L 6) H) (qS (E:=fun L H=>qha O (L 2) (L 3) (L 4) (L 6) H) (mB (mB (mB (qS (E:=fun L H=>kA qfg O (L 3) (L 4) (L 7) (L 8) H) (qS (E:=fun L H=>qfg O (L 3) (L 4) (L 7) (L 8) H) mA) (fun L H=>by rw[kE qfg])) mA) mA) mA)) (fun L H=>by rw[kE qha])) mA) mA) mA))
theorem zpb:(aK Tryz.prog 281).f O [x0,x1] H=zDp O x0 x1 H:=
 r7 Tryz.func281 (D:=fun L H=>zz4 O (L 0) (L 1) H)
 (qS (mB (mB mA (mB (r8 (pT (D:=fun k2 L H=>q5h O (fun x4 H=>.ok x4 H) (fun H=>qT O H) (L 0) (L 1) (L 7) k2 (L 8) H) (fun k2=>qS mA))) mA)) mA))
theorem zpe:(aK Tryz.prog 206).f O [x0,x1] H=zDm O x0 x1 H:=
 r7 Tryz.func206 (D:=fun L H=>zz7 O (L 0) (L 1) H)
 (qS (mB (mB mA (mB (r8 (pT (D:=fun k3 L H=>q5i O (fun x4 H=>.ok x4 H) (fun H=>qT O H) (L 0) (L 3) (L 7) k3 (L 8) H) (fun k3=>qS mA))) mA)) mA))
theorem q5k:(aK Tryz.prog 270).f O [x0,x1] H=zDe O x0 x1 H:=
 r7 Tryz.func270 (D:=fun L H=>zpl O (L 0) (L 1) H)
 (qS (mB (mB (mB (mB mA (mB (r8 (pT (D:=fun a L H=>qtd O (fun H=>q03 O (L 0) (L 4) (L 5) H) (L 0) (L 35) (L 36) a (L 37) H) (fun a=>qS mA))) mA)) mA) mA) mA))
theorem zrj:(aK Tryz.prog 119).f O [x0] H=zAd O x0 H:=
 r7 Tryz.func119 (D:=fun L H=>z10 O (L 0) H)
 (qS (mB (mB (mB (mB (mB (mB (mB mA (mB (r8 (pT (D:=fun a L H=>qug O (fun H=>q2p O (L 2) (L 7) H) (L 1) (L 6) (L 7) (L 33) a (L 34) H) (fun a=>qS mA))) mA)) mA) mA) mA) mA) mA) mA))
theorem znt:(aK Tryz.prog 10).f O [x0,x1,x2,x3] H=zIj O x0 x1 x2 x3 H:=
 r7 Tryz.func10 (D:=fun L H=>zyq O (L 0) (L 1) (L 2) (L 3) H)
 (qS (mB (mB (mB mA (mB (r8 (pT (D:=fun a L H=>q40 O (fun x8 H=>.ok x8 H) (fun H=>zu5 O H) (L 0) (L 2) a (L 9) H) (fun a=>qS mA))) mA)) mA) mA))
theorem zp4:(aK Tryz.prog 232).f O [x0] H=zCi O x0 H:=
 r7 Tryz.func232 (D:=fun L H=>z0s O (L 0) H)
 (qS (mB (mB (mB mA (mB (r8 (pT (D:=fun a L H=>q5u O (fun x2 H=>.ok x2 H) (fun H=>zer O (L 1) H) (L 16) (L 17) a (L 18) H) (fun a=>qS mA))) mA)) mA) mA))
theorem q6l:(aK Tryz.prog 55).f O [x0,x1,x2,x3,x4] H=zAp O x0 x1 x2 x3 x4 H:=
 r7 Tryz.func55 (D:=fun L H=>zq9 O (L 0) (L 1) (L 2) (L 3) (L 4) H)
 (qS (mB (mB (mB (mB (mB (mB (qS (E:=fun L H=>qic O (L 1) (L 2) (L 3) (L 4) (L 5) (L 10) (L 13) H) mA) mA) mA) mA) mA) mA) mA))
theorem zqw:(aK Tryz.prog 169).f O [x0] H=zBc O x0 H:=
 r7 Tryz.func169 (D:=fun L H=>z1e O (L 0) H)
 (qS (mB (mB (mB mA (mB (r8 (pT (D:=fun k2 L H=>q56 O (fun x3 H=>gM O x3 H) (L 6) (L 7) k2 (L 3) (L 8) H) (fun k2=>qS mA))) mA)) mA) mA))
theorem zpz:(aK Tryz.prog 233).f O [x0] H=zCn O x0 H:=
 r7 Tryz.func233 (D:=fun L H=>z0n O (L 0) H)
 (qS (mB (mB mA (mB (r8 (pT (D:=fun k2 L H=>q5t O (fun x2 H=>.ok x2 H) (fun H=>jW O H) (L 6) (L 7) k2 (L 8) H) (fun k2=>qS mA))) mA)) mA))
theorem zo0:(aK Tryz.prog 60).f O [x0,x1] H=zEj O x0 x1 H:=
 r7 Tryz.func60 (D:=fun L H=>zzu O (L 0) (L 1) H)
 (qS (mB (mB mA (mB (r8 (pT (D:=fun k2 L H=>q5c O (fun x4 H=>.ok x4 H) (fun H=>jW O H) (L 0) (L 3) k2 (L 5) H) (fun k2=>qS mA))) mA)) mA))
theorem zob:(aK Tryz.prog 123).f O [x0] H=zHh O x0 H:=
 r7 Tryz.func123 (D:=fun L H=>z5j O (L 0) H)
 (qS (mB (mB (qS (E:=fun L H=>zvc O (L 0) H) mA) mA) mA))
theorem zpc:(aK Tryz.prog 256).f O [x0,x1] H=zDo O x0 x1 H:=
 r7 Tryz.func256 (D:=fun L H=>zz5 O (L 0) (L 1) H)
 (qS mA)
theorem zp1:(aK Tryz.prog 237).f O [x0,x1,x2,x3] H=zCl O x0 x1 x2 x3 H:=
 r7 Tryz.func237 (D:=fun L H=>z0p O (L 0) (L 1) (L 2) (L 3) H)
 (qS mA)
theorem q43:(aK Tryz.prog 133).f O [x0,x1] H=zIa O x0 x1 H:=
 r7 Tryz.func133 (D:=fun L H=>zn1 O (L 0) (L 1) H)
 (qS mA)
theorem zqd:(aK Tryz.prog 208).f O [x0,x1,x2] H=zBv O x0 x1 x2 H:=
 r7 Tryz.func208 (D:=fun L H=>z0y O (L 0) (L 1) (L 2) H)
 (qS mA)
theorem zqn:(aK Tryz.prog 126).f O [x0,x1,x2,x3] H=zBm O x0 x1 x2 x3 H:=
 r7 Tryz.func126 (D:=fun L H=>z05 O (L 0) (L 1) (L 2) (L 3) H)
 (qS mA)
theorem q5s:(aK Tryz.prog 183).f O [x0] H=zCq O x0 H:=
 r7 Tryz.func183 (D:=fun L H=>qn4 O (L 0) H)
 (qS mA)
theorem zpm:(aK Tryz.prog 269).f O [x0,x1] H=zDd O x0 x1 H:=
 r7 Tryz.func269 (D:=fun L H=>z0d O (L 0) (L 1) H)
 (qS mA)
theorem zow:(aK Tryz.prog 114).f O [x0,x1] H=zEo O x0 x1 H:=
 r7 Tryz.func114 (D:=fun L H=>zzq O (L 0) (L 1) H)
 (qS mA)
theorem znw:(aK Tryz.prog 8).f O [x0,x1,x2] H=zIg O x0 x1 x2 H:=
 r7 Tryz.func8 (D:=fun L H=>zyt O (L 0) (L 1) (L 2) H)
 (qS mA)
theorem zpj:(aK Tryz.prog 255).f O [x0,x1] H=zDg O x0 x1 H:=
 r7 Tryz.func255 (D:=fun L H=>z0b O (L 0) (L 1) H)
 (qS mA)
theorem zns:(aK Tryz.prog 12).f O [x0,x1] H=zIk O x0 x1 H:=
 r7 Tryz.func12 (D:=fun L H=>zyp O (L 0) (L 1) H)
 (qS mA)
theorem zpp:(aK Tryz.prog 240).f O [x0,x1] H=zDa O x0 x1 H:=
 r7 Tryz.func240 (D:=fun L H=>z0f O (L 0) (L 1) H)
 (qS mA)
theorem zq3:(aK Tryz.prog 167).f O [x0,x1] H=zAv O x0 x1 H:=
 r7 Tryz.func167 (D:=fun L H=>z1k O (L 0) (L 1) H)
 (qS mA)
theorem zny:(aK Tryz.prog 6).f O [x0,x1] H=zIe O x0 x1 H:=
 r7 Tryz.func6 (D:=fun L H=>zyv O (L 0) (L 1) H)
 (qS mA)
theorem zon:(aK Tryz.prog 84).f O [x0] H=zEx O x0 H:=
 r7 Tryz.func84 (D:=fun L H=>zze O (L 0) H)
 (qS mA)
theorem zqs:(aK Tryz.prog 112).f O [x0] H=zBh O x0 H:=
 r7 Tryz.func112 (D:=fun L H=>z09 O (L 0) H)
 (qS mA)
theorem zqi:(aK Tryz.prog 193).f O [x0] H=zBq O x0 H:=
 r7 Tryz.func193 (D:=fun L H=>z02 O (L 0) H)
 (qS mA)
theorem zos:(aK Tryz.prog 69).f O [x0] H=zEs O x0 H:=
 r7 Tryz.func69 (D:=fun L H=>zzm O (L 0) H)
 (qS mA)
theorem zo1:(aK Tryz.prog 59).f O [x0] H=zEi O x0 H:=
 r7 Tryz.func59 (D:=fun L H=>zzv O (L 0) H)
 (qS mA)
def qny(O:Ev.Call)(k2:Nat)(L:TT AV (iF (Tryz.f67.ntmps+1))):=fun x31 H=>qwh O (fun H=>kA qct O (L 6) H) (L 1) (L 4) (L 6) (L 29) (L 30) k2 x31 H
def qq9(O:Ev.Call)(k2:Nat)(k6:Nat)(L:TT AV (iF (Tryz.f67.ntmps+1))):=fun x38 H=>qwg O (fun H=>kA kQ O (qny O k2 L) (L 31) H) (L 1) (L 4) (L 6) (L 8) (L 36) (L 37) k6 x38 H
theorem zof:(aK Tryz.prog 67).f O [x0] H=zGv O x0 H:=
 r7 Tryz.func67 (D:=fun L H=>zy7 O (L 0) H)
 (qS (mB (mB (pS (kE qi6) (fun x L H=>x O (L 1) (L 4) (L 5) H) (qS (mB (pS (kE qmf) (fun x L H=>x O (L 1) (L 4) H) (qS (mB (pS (kE qmg) (fun x L H=>x O (L 1) (L 4) (L 6) H) (qS (mB (pS (kE qct) (fun x L H=>x O (L 6) H) (qS mA)) (mB (pS (kE qmh) (fun x L H=>x O (L 1) (L 4) (L 6) (L 29) (L 30) (L 31) H) (qS (r8 (qS (E:=fun L H=>zcy O (fun H=>kA qct O (L 6) H) (L 1) (L 4) (L 6) (L 29) (L 30) (L 31) H) (pT (D:=fun k2 L H=>qwh O (fun H=>kA qct O (L 6) H) (L 1) (L 4) (L 6) (L 29) (L 30) k2 (L 31) H) (fun k2=>qS (mB (mB (pS (kE qmi) (fun x L H=>x O (qny O k2 L) (L 1) (L 4) (L 6) (L 29) (L 31) H) (qS (mB (pS (kE kQ) (fun x L H=>x O (qny O k2 L) (L 31) H) (qS mA)) (r8 (mB (pS (kE qmj) (fun x L H=>x O (qny O k2 L) (L 1) (L 4) (L 6) (L 8) (L 31) H) (qS (mB (pS (kE qmk) (fun x L H=>x O (qny O k2 L) (L 1) (L 4) (L 6) (L 8) (L 31) (L 36) (L 37) (L 38) H) (qS (r8 (qS (E:=fun L H=>zcx O (fun H=>kA kQ O (qny O k2 L) (L 31) H) (L 1) (L 4) (L 6) (L 8) (L 36) (L 37) (L 38) H) (pT (D:=fun a L H=>qwg O (fun H=>kA kQ O (qny O k2 L) (L 31) H) (L 1) (L 4) (L 6) (L 8) (L 36) (L 37) a (L 38) H) (fun a=>qS (mB (mB (pS (kE qi4) (fun x L H=>x O (qq9 O k2 a L) (L 1) (L 4) (L 6) (L 8) (L 36) (L 38) H) (qS (mB (pS (kE qi7) (fun x L H=>x O (qq9 O k2 a L) (L 38) H) (qS mA)) (r8 (mB (pS (kE qml) (fun x L H=>x O (qq9 O k2 a L) (L 1) (L 4) (L 6) (L 8) (L 10) (L 38) H) (qS (mB (pS (kE qmm) (fun x L H=>x O (qq9 O k2 a L) (L 1) (L 4) (L 6) (L 8) (L 10) (L 11) (L 38) H) (qS (mB (pS (kE qmn) (fun x L H=>x O (qq9 O k2 a L) (L 1) (L 6) (L 8) (L 10) (L 11) (L 13) (L 38) H) (qS (mB (pS (kE qi5) (fun x L H=>x O (qq9 O k2 a L) (L 1) (L 6) (L 8) (L 10) (L 11) (L 13) (L 38) H) (qS mA)) mA))) mA))) mA))) mA))))) mA) mA))) (fun _ _=>by kernel_rfl))))) mA))) mA))))) mA) mA))) (fun _ _=>by kernel_rfl))))) mA)))) mA))) mA))) mA) mA))
def zwy(O:Ev.Call)(k21:Nat)(k32:Nat)(L:TT AV (iF (Tryz.f141.ntmps+1))):=fun H=>q2c O (fun x70 H=>qof O (fun H=>qkm O (fun x63 H=>qkl O (fun H=>qog O (L 2) (L 10) H) (L 1) (L 5) (L 10) (L 61) (L 62) k21 x63 H) (L 63) H) (L 1) (L 5) (L 10) (L 12) (L 68) (L 69) k32 x70 H) (L 70) H
def zwx(O:Ev.Call)(k21:Nat)(k32:Nat)(k46:Nat)(L:TT AV (iF (Tryz.f141.ntmps+1))):=fun H=>qib O (fun x82 H=>qkk O (zwy O k21 k32 L) (L 1) (L 5) (L 10) (L 12) (L 14) (L 80) (L 81) k46 x82 H) (L 82) H
theorem zq5:(aK Tryz.prog 141).f O [x0] H=zAt O x0 H:=
 r7 Tryz.func141 (D:=fun L H=>z1m O (L 0) H)
 (qS (mB (mB (mB (mB (mB (mB mA (mB (r8 (pT (D:=fun a L H=>qkl O (fun H=>qog O (L 2) (L 10) H) (L 1) (L 5) (L 10) (L 61) (L 62) a (L 63) H) (fun a=>qS (mB (mB (mB mA (r8 (mB (mB (r8 (pT (D:=fun b L H=>qof O (fun H=>qkm O (fun h H=>qkl O (fun H=>qog O (L 2) (L 10) H) (L 1) (L 5) (L 10) (L 61) (L 62) a h H) (L 63) H) (L 1) (L 5) (L 10) (L 12) (L 68) (L 69) b (L 70) H) (fun b=>qS (mB (mB (mB mA (r8 (mB (mB (mB (r8 (pT (D:=fun c L H=>qkk O (zwy O a b L) (L 1) (L 5) (L 10) (L 12) (L 14) (L 80) (L 81) c (L 82) H) (fun c=>qS (mB (mB (mB mA (r8 (mB (mB (mB (r8 (mB (pB (mB (r8 (pT (D:=fun e L H=>qt3 O (zwx O a b c L) (L 19) (L 92) (L 93) e (L 94) H) (fun e=>qS mA))) mA) (mB (pB mA (mB (pB (mB (mB (r8 (pT (D:=fun f L H=>qt2 O (zwx O a b c L) (L 18) (L 19) (L 129) (L 130) f (L 131) H) (fun f=>qS mA))) mA) mA) mA) mA)) mA)) mA)) mA) mA) mA))) mA) mA)))) mA) mA) mA))) mA) mA)))) mA) mA))) mA) mA)))) mA)) mA) (mB (r8 (pT (D:=fun d L H=>qi8 O (fun H=>qmy O (L 1) (L 2) (L 5) H) (L 5) (L 34) (L 35) d (L 36) H) (fun d=>qS (mB (mB (mB mA (r8 (mB (mB (r8 (pT (D:=fun g L H=>qmx O (fun H=>qt5 O (fun i H=>qi8 O (fun H=>qmy O (L 1) (L 2) (L 5) H) (L 5) (L 34) (L 35) d i H) (L 36) H) (L 5) (L 7) (L 41) (L 42) g (L 43) H) (fun g=>qS mA))) mA) mA))) mA) mA)))) mA)) mA) mA) mA))
theorem zpt:(aK Tryz.prog 249).f O [x0,x1,x2,x3] H=zCw O x0 x1 x2 x3 H:=
 r7 Tryz.func249 (D:=fun L H=>z0i O (L 0) (L 1) (L 2) (L 3) H)
 (qS (mB (mB (r8 (pT (D:=fun c L H=>qrf O (fun H=>.ok (.bA []) H) (fun H=>.ok (.bA []) H) (L 0) (L 1) (L 2) (L 3) (L 5) (L 16) c (L 17) H) (fun c=>qS (mB (mB (mB (mA) (r8 (mB (mB (mB (r8 (pT (D:=fun a L H=>qn3 O (fun H=>.ok (.bA []) H) (fun H=>wE O (fun d H=>qrf O (fun H=>.ok (.bA []) H) (fun H=>.ok (.bA []) H) (L 0) (L 1) (L 2) (L 3) (L 5) (L 16) c d H) (L 17) H) (L 0) (L 1) (L 5) (L 6) (L 54) a (L 55) H) (fun a=>qS (mB (mB (mB (mA) (r8 (mB (mB (pB (mB (mB mA mA) mA) mA) mA) mA))) mA) mA)))) mA) (mB (r8 (pT (D:=fun b L H=>qn2 O (fun H=>q06 O (fun H=>.ok (.bA []) H) (fun d H=>qrf O (fun H=>.ok (.bA []) H) (fun H=>.ok (.bA []) H) (L 0) (L 1) (L 2) (L 3) (L 5) (L 16) c d H) (L 0) (L 1) (L 5) (L 6) (L 17) H) (L 3) (L 5) (L 6) (L 23) (L 24) b (L 25) H) (fun b=>qS (mB (mB (mB (mA) mA) mA) mA)))) mA)) mA))) mA) mA)))) mA) mA))
def zcr(O:Ev.Call)(k9:Nat)(L:TT AV (iF (Tryz.f124.ntmps+1))):=fun x8 nO H=>qwf O (fun H=>gM O (L 7) H) (L 1) (L 7) (L 19) (L 20) k9 x8 nO H
theorem zn9:(aK Tryz.prog 124).f O [x0,x1] H=zHj O x0 x1 H:=
 r7 Tryz.func124 (D:=fun L H=>zy3 O (L 0) (L 1) H)
 (qS (mB (mB (mB (mB (mB (qS (E:=fun L H=>gM O (L 7) H) mA) (mB (r8 (qS (E:=fun L H=>zct O (fun H=>gM O (L 7) H) (L 1) (L 7) (L 19) (L 20) (L 8) (L 21) H) (pT (D:=fun a L H=>qwf O (fun H=>gM O (L 7) H) (L 1) (L 7) (L 19) (L 20) a (L 8) (L 21) H) (fun a=>qS (mB (mB (qS (E:=fun L H=>qs8 O (zcr O a L) (L 1) (L 7) (L 8) (L 19) (L 21) H) (mB (qS (E:=fun L H=>qid O (zcr O a L) (L 8) (L 21) H) mA) (r8 (mB (mB (mB (qS (E:=fun L H=>qkd O (zcr O a L) (L 1) (L 7) (L 8) (L 9) (L 10) (L 21) H) mA) mA) mA) mA)))) mA) mA))) (fun _ _=>by kernel_rfl))) mA)) mA) mA) mA) mA))
theorem zpu:(aK Tryz.prog 250).f O [x0,x1] H=zCu O x0 x1 H:=
 r7 Tryz.func250 (D:=fun L H=>z5p O (L 0) (L 1) H)
 (qS (kB (mB (mB (mB (r8 (pT (D:=fun k3 L H=>qrg O (fun H=>.ok (.bA []) H) (L 0) k3 (L 4) H) (fun k3=>qS (mB (r8 (mB (mB mA (r8 (pT (D:=fun a L H=>qtg O (fun x4 H=>qrg O (fun H=>.ok (.bA []) H) (L 0) k3 x4 H) (fun x4 H=>qth O (fun x4 H=>qrg O (fun H=>.ok (.bA []) H) (L 0) k3 x4 H) (L 0) x4 (L 5) H) (L 0) (L 5) a (L 4) H) (fun a=>qS (mB (r8 (mB (mB (mB mA mA) mA) mA)) mA))))) mA)) mA)))) mA) mA) mA)))
theorem zo4:(aK Tryz.prog 18).f O [x0] H=zEd O x0 H:=
 r7 Tryz.func18 (D:=fun L H=>zzy O (L 0) H)
 (qS (mB (mB (mB mA (mB (r8 (pT (D:=fun b L H=>qwo O (fun x3 H=>gM O x3 H) (L 0) b (L 3) (L 4) H) (fun b=>qS (mB (mB mA (r8 (mB (mB (mB (mB mA (mB (r8 (pT (D:=fun a L H=>qnz O (fun x5 x6 H=>q0x O (fun x3 x4 H=>qwo O (fun x3 H=>gM O x3 H) (L 0) b x3 x4 H) (L 0) (L 4) x5 x6 H) (L 0) (L 3) (L 4) a (L 5) (L 6) (L 7) H) (fun a=>qS mA))) mA)) mA) mA) mA))) mA)))) mA)) mA) mA))
theorem zok:(aK Tryz.prog 22).f O [x0,x1] H=zFg O x0 x1 H:=
 r7 Tryz.func22 (D:=fun L H=>zzb O (L 0) (L 1) H)
 (qS (mB (mB (mB (mB (mB mA (mB (r8 (pT (D:=fun a L H=>qwj O (fun x5 H=>gM O x5 H) (L 6) (L 7) a (L 5) (L 8) H) (fun a=>qS (mB (mB mA (r8 (mB (r8 (pT (D:=fun b L H=>q48 O (fun x5 H=>qoh O (fun x5 x8 H=>qwj O (fun x5 H=>gM O x5 H) (L 6) (L 7) a x5 x8 H) x5 (L 8) H) (L 6) (L 7) (L 8) b (L 5) (L 9) H) (fun b=>qS mA))) mA))) mA)))) mA)) mA) mA) mA) mA))
theorem zqx:(aK Tryz.prog 30).f O [x0,x1,x2,x3] H=zBb O x0 x1 x2 x3 H:=
 r7 Tryz.func30 (D:=fun L H=>z1f O (L 0) (L 1) (L 2) (L 3) H)
 (qS (mB (mB (mB (mB mA (mB (r8 (pT (D:=fun b L H=>qoc O (fun a H=>gM O a H) (L 3) (L 4) (L 10) b (L 9) (L 12) H) (fun b=>qS (mB (pS (kE qmt) (fun x L H=>x O (fun a c H=>qoc O (fun a H=>gM O a H) (L 3) (L 4) (L 10) b a c H) (L 3) (L 4) (L 9) (L 10) (L 12) H) (qS mA)) mA)))) mA)) mA) mA) mA))
theorem zp7:(aK Tryz.prog 223).f O [x0] H=zCe O x0 H:=
 r7 Tryz.func223 (D:=fun L H=>z0u O (L 0) H)
 (qS (mB (mB (mB (mB mA (mB (r8 (pT (D:=fun b L H=>q5w O (fun H=>ze1 O (L 3) H) (L 3) (L 29) b (L 30) H) (fun b=>qS mA))) mA)) (mB (r8 (pT (D:=fun a L H=>qtm O (fun H=>q1f O (L 1) (L 3) H) (L 3) (L 8) (L 9) a (L 10) H) (fun a=>qS mA))) mA)) mA) mA))
theorem zo8:(aK Tryz.prog 282).f O [x0,x1] H=zDs O x0 x1 H:=
 r7 Tryz.func282 (D:=fun L H=>zz2 O (L 0) (L 1) H)
 (qS (mB (mB mA (mB (r8 (pT (D:=fun k2 L H=>qwp O (fun x4 H=>.ok x4 H) (fun H=>qT O H) (L 0) (L 1) (L 7) k2 (L 8) H) (fun k2=>qS mA))) mA)) mA))
theorem zpq:(aK Tryz.prog 238).f O [x0,x1,x2] H=zCz O x0 x1 x2 H:=
 r7 Tryz.func238 (D:=fun L H=>z0g O (L 0) (L 1) (L 2) H)
 (qS (mB (mB mA (mB (r8 (pT (D:=fun k2 L H=>qwq O (fun x6 x7 H=>.ok (.bA [x6,x7]) H) (fun x6 H=>qct O x6 H) (L 0) (L 1) (L 11) (L 12) k2 (L 6) (L 13) H) (fun k2=>qS mA))) mA)) mA))
theorem zno:(aK Tryz.prog 26).f O [x0,x1] H=zIo O x0 x1 H:=
 r7 Tryz.func26 (D:=fun L H=>zyl O (L 0) (L 1) H)
 (qS (mB (mB (mB (mB mA (mB (r8 (pT (D:=fun a L H=>qnt O (fun x5 H=>q0c O x5 H) (L 2) (L 3) (L 24) (L 25) a (L 5) (L 26) H) (fun a=>qS mA))) mA)) mA) mA) mA))
theorem zph:(aK Tryz.prog 294).f O [x0,x1] H=zDj O x0 x1 H:=
 r7 Tryz.func294 (D:=fun L H=>zz9 O (L 0) (L 1) H)
 (qS (mB (mB mA (mB (r8 (pT (D:=fun k2 L H=>q5j O (fun x4 H=>.ok x4 H) (fun H=>qT O H) (L 0) (L 1) (L 7) k2 (L 8) H) (fun k2=>qS mA))) mA)) mA))
theorem zrc:(aK Tryz.prog 64).f O [x0,x1,x2] H=zAm O x0 x1 x2 H:=
 r7 Tryz.func64 (D:=fun L H=>z1t O (L 0) (L 1) (L 2) H)
 (qS (mB (mB (mB mA (mB (r8 (pT (D:=fun a L H=>qwz O (fun x6 H=>.ok x6 H) (fun H=>qT O H) (L 1) (L 2) (L 7) a (L 8) H) (fun a=>qS mA))) mA)) mA) mA))
theorem zpa:(aK Tryz.prog 309).f O [x0,x1] H=zDq O x0 x1 H:=
 r7 Tryz.func309 (D:=fun L H=>zz3 O (L 0) (L 1) H)
 (qS (mB (r8 (pT (D:=fun k2 L H=>q5g O (fun H=>.ok (.bA []) H) (fun H=>.ok (.bA []) H) (L 0) (L 5) (L 6) k2 (L 7) H) (fun k2=>qS mA))) mA))
theorem zo7:(aK Tryz.prog 5).f O [x0] H=zDw O x0 H:=
 r7 Tryz.func5 (D:=fun L H=>zz1 O (L 0) H)
 (qS (mB (mB (mB (mB mA (mB (r8 (pT (D:=fun a L H=>qtc O (fun x5 H=>q00 O (L 2) (L 4) x5 H) (L 1) (L 4) a (L 5) (L 6) H) (fun a=>qS mA))) mA)) mA) mA) mA))
theorem zqg:(aK Tryz.prog 74).f O [x0,x1] H=zBs O x0 x1 H:=
 r7 Tryz.func74 (D:=fun L H=>z00 O (L 0) (L 1) H)
 (qS (mB (mB mA (mB (r8 (pT (D:=fun k2 L H=>q53 O (fun x4 H=>.ok x4 H) (fun H=>qT O H) (L 1) (L 2) k2 (L 5) H) (fun k2=>qS mA))) mA)) mA))
theorem zoh:(aK Tryz.prog 163).f O [x0,x1] H=zFt O x0 x1 H:=
 r7 Tryz.func163 (D:=fun L H=>zy9 O (L 0) (L 1) H)
 (qS (mB (mB mA (mB (r8 (pT (D:=fun k2 L H=>q47 O (fun x4 H=>.ok x4 H) (fun H=>qwy O H) (L 0) (L 3) k2 (L 5) H) (fun k2=>qS mA))) mA)) mA))
theorem zoo:(aK Tryz.prog 131).f O [x0] H=zEw O x0 H:=
 r7 Tryz.func131 (D:=fun L H=>zzf O (L 0) H)
 (qS (mB (mB mA (mB (r8 (pT (D:=fun k2 L H=>q5a O (fun x2 H=>.ok x2 H) (fun H=>jW O H) (L 6) (L 7) k2 (L 8) H) (fun k2=>qS mA))) mA)) mA))
theorem zn3:(aK Tryz.prog 186).f O [x0] H=zHw O x0 H:=
 r7 Tryz.func186 (D:=fun L H=>z5h O (L 0) H)
 (qS (mB (mB (qS (E:=fun L H=>zu9 O (L 0) H) mA) mA) mA))
theorem zoc:(aK Tryz.prog 121).f O [x0] H=zHg O x0 H:=
 r7 Tryz.func121 (D:=fun L H=>zy5 O (L 0) H)
 (qS (mB (mB (qS (E:=fun L H=>zcu O (L 1) (L 2) H) mA) mA) mA))
theorem q5y:(aK Tryz.prog 219).f O [x0] H=zCc O x0 H:=
 r7 Tryz.func219 (D:=fun L H=>q9q O (L 0) H)
 (qS mA)
theorem zp0:(aK Tryz.prog 239).f O [x0,x1,x2] H=zCm O x0 x1 x2 H:=
 r7 Tryz.func239 (D:=fun L H=>z0o O (L 0) (L 1) (L 2) H)
 (qS mA)
theorem zn2:(aK Tryz.prog 194).f O [x0] H=zHx O x0 H:=
 r7 Tryz.func194 (D:=fun L H=>zyx O (L 0) H)
 (qS mA)
theorem q51:(aK Tryz.prog 174).f O [x0,x1,x2] H=zBx O x0 x1 x2 H:=
 r7 Tryz.func174 (D:=fun L H=>zqb O (L 0) (L 1) (L 2) H)
 (qS mA)
theorem zq2:(aK Tryz.prog 168).f O [x0,x1] H=zAw O x0 x1 H:=
 r7 Tryz.func168 (D:=fun L H=>z1j O (L 0) (L 1) H)
 (qS mA)
theorem zo2:(aK Tryz.prog 118).f O [x0,x1] H=zEg O x0 x1 H:=
 r7 Tryz.func118 (D:=fun L H=>zzw O (L 0) (L 1) H)
 (qS mA)
theorem zqr:(aK Tryz.prog 113).f O [x0,x1,x2] H=zBi O x0 x1 x2 H:=
 r7 Tryz.func113 (D:=fun L H=>z08 O (L 0) (L 1) (L 2) H)
 (qS mA)
theorem znp:(aK Tryz.prog 25).f O [x0,x1] H=zIn O x0 x1 H:=
 r7 Tryz.func25 (D:=fun L H=>zym O (L 0) (L 1) H)
 (qS mA)
theorem q55:(aK Tryz.prog 185).f O [x0] H=zBd O x0 H:=
 r7 Tryz.func185 (D:=fun L H=>qn4 O (L 0) H)
 (qS mA)
theorem zoz:(aK Tryz.prog 61).f O [x0,x1] H=zEk O x0 x1 H:=
 r7 Tryz.func61 (D:=fun L H=>zzt O (L 0) (L 1) H)
 (qS mA)
theorem zor:(aK Tryz.prog 205).f O [x0] H=zEt O x0 H:=
 r7 Tryz.func205 (D:=fun L H=>zzl O (L 0) H)
 (qS mA)
theorem zrb:(aK Tryz.prog 53).f O [x0] H=zAn O x0 H:=
 r7 Tryz.func53 (D:=fun L H=>z1s O (L 0) H)
 (qS mA)
theorem zri:(aK Tryz.prog 83).f O [x0] H=zAe O x0 H:=
 r7 Tryz.func83 (D:=fun L H=>z1z O (L 0) H)
 (qS mA)
theorem q5l:(aK Tryz.prog 228).f O [x0] H=zDb O x0 H:=
 r7 Tryz.func228 (D:=fun L H=>zpo O (L 0) H)
 (qS mA)
theorem q52:(aK Tryz.prog 195).f O [x0] H=zBw O x0 H:=
 r7 Tryz.func195 (D:=fun L H=>zqc O (L 0) H)
 (qS mA)
theorem zq8:(aK Tryz.prog 56).f O [x0] H=zAq O x0 H:=
 r7 Tryz.func56 (D:=fun L H=>z1q O (L 0) H)
 (qS mA)
end Go.Di
end
