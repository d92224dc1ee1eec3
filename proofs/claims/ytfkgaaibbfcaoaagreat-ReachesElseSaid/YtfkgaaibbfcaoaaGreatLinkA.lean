/-
 For ReachesElse: the direct functions are what the evaluator computes, part 1. No conditions beyond those that each theorem states.
-/
import Derived.Test.YtfkgaaibbfcaoaaGreatConC
import Derived.Test.YtfkgaaibbfcaoaaGreatProg
import Derived.KernelRfl
import Derived.Test.YtfkgaaibbfcaoaaGreatConB
set_option linter.all false
noncomputable section
namespace Go.Di
open Go.Ev Go.Proofs
set_option maxRecDepth 100000
variable{O:Ev.Call}{P:Program}
theorem q7{d n:Nat}{K:Kt d}{f:Operand}{ps:Array Tmp}{a b:Code}(c:(lY a&&lY b)=true):Lk P d n O (.rangeFunc f ps a b) K (λL H=>fin (endLoop H.nx (ma O ((aM d n f).f L) [.yield H.nx] (aH H (.loop true none d n L ps.toList a b))) L) K):=λL H=>by
 have e:bj P d n (.rangeFunc f ps a b)=⟨λO L H=>endLoop H.nx (ma O ((aM d n f).f L) [.yield H.nx] (aH H (.loop true none d n L ps.toList a b))) L⟩:=by simp only[bj,c]
 rw[e]
def Co(n:Nat):Code->LP
 | .seq a b=>match Co n a with
  |⟨0,_,_,_⟩=>Co n b
  |p=>p
 | .block _ b=>Co n b
 | .rangeFunc _ ps sa bd=>⟨n,ps.toList,sa,bd⟩
 |_=>⟨0,[],.skip,.skip⟩
def LAc:LP:=Co 13 (bh Tryz.f370)
def LOc:LP:=Co 53 (bh Tryz.f244)
theorem qro(O:Ev.Call)(x0 x1:AV)(H:Hp):(aI Tryz.prog 370).f O [x0,x1] H=kR LAc O x0 x1 H:=
 r7 Tryz.func370 (D:=λL H=>LF LAc O L (G L 0) (G L 1) H)
 (qS (mB (mB (qS (E:=λL H=>Lz O (G L 2) H) mA) (mB (r8 (qS (E:=λL H=>LD LAc O L (G L 6) H) (q7 (by kernel_rfl)))) mA)) mA))
theorem zsd(O:Ev.Call)(x0:AV)(H:Hp):(aI Tryz.prog 244).f O [x0] H=zBo LOc O x0 H:=
 r7 Tryz.func244 (D:=λL H=>PD LOc O L (G L 0) H)
 (qS (mB (mB (qS (E:=λL H=>Ku LOc O L (G L 1) (G L 2) H) (mB (mB (qS (E:=λL H=>Ce LOc O L (G L 1) H) (mB (qS (E:=λL H=>Kx O (G L 2) (G L 5) H) mA) (mB (r8 (qS (E:=λL H=>IC LOc O L (G L 25) H) (q7 (by kernel_rfl)))) mA))) mA) mA)) mA) mA))
theorem Uj{l:Nat}{v:AV}{H:Hp}{L L1:TT AV 2}(p:LP)(h:H.get l=p.blk true L)(a:(Nat.beq p.ps.length 1&&p.ps.all λq=>Nat.blt q p.n)=true)(b:(bj P 2 p.n p.aC).f O (ie ((ak 2 p.n).f L .undef) p.ps [v]) H=.ok .normal L1 H):jh P O l [v] H=bc l ((bj P 2 p.n p.bd).f O L1 (H.put l (p.blk false L))):=by unfold jh;have c:([v]:List AV).length=1:=rfl;simp only[h,LP.blk,c,a,AN,b]
theorem SN(l:Nat)(r:Rc 2):bc l r=fin r (λe L H=>bc l (.ok e L H)):=by cases r<;>rfl
theorem qra(O:Ev.Call)(L:TT AV 2)(l:Nat)(v:AV)(H:Hp)(h:H.get l=LAc.blk true L):jh Tryz.prog O l [v] H=fO O l L (G L 2) v (H.put l (LAc.blk false L)):=by rw[Uj LAc h (by kernel_rfl) (L1:=(ak 2 5).f (ie ((ak 2 13).f L .undef) [7] [v]) v) (by kernel_rfl),SN];exact(qS (c:=LAc.bd) (P:=Tryz.prog) (n:=13) (E:=λM H=>fO O l L (G M 2) (G M 5) H) mA (λM H=>by kernel_rfl) _ _).trans (by kernel_rfl)
theorem zhg(O:Ev.Call)(L:TT AV 2)(l:Nat)(v:AV)(H:Hp)(h:H.get l=LOc.blk true L):jh Tryz.prog O l [v] H=xC O l L (G L 5) v (H.put l (LOc.blk false L)):=by
 rw[Uj LOc h (by kernel_rfl) (L1:=(ak 2 6).f (ie ((ak 2 53).f L .undef) [26] [v]) v) (by kernel_rfl),SN];have d:Lk Tryz.prog 2 53 O LOc.bd (λe L H=>bc l (.ok e L H)) (λM H=>xC O l L (G M 5) (G M 6) H):=
  qS (c:=LOc.bd) (r8 (mB (qS (E:=λM H=>tV O l L (G M 5) (G M 6) H) mA) (mB (r8 (qS (E:=λM H=>KA O (λH=>tV O l L (G M 5) (G M 6) H) (G M 5) (G M 27) (G M 28) (G M 29) H) (pT (D:=λa M H=>yp O (λH=>tV O l L (G M 5) (G M 6) H) (G M 5) (G M 27) (G M 28) a (G M 29) H) (λa=>qS (mB (mB (qS (E:=λM H=>Kv O (λb H=>yp O (λH=>tV O l L (G M 5) (G M 6) H) (G M 5) (G M 27) (G M 28) a b H) (G M 5) (G M 27) (G M 29) H) (mB (qS (E:=λM H=>Kw O (λb H=>yp O (λH=>tV O l L (G M 5) (G M 6) H) (G M 5) (G M 27) (G M 28) a b H) (G M 29) H) mA) mA)) mA) mA))) (λ_ _=>by kernel_rfl))) mA))) (λM H=>by kernel_rfl)
 exact(d _ _).trans (by kernel_rfl)
end Go.Di
end
noncomputable section
namespace Go.Di
open Go.Ev Go.Proofs
set_option maxRecDepth 100000
variable (O:Ev.Call) (x0 x1 x2 x3 x4 x5 x6 x7:AV) (H:Hp)
theorem zpx:(aI Tryz.prog 86).f O [x0,x1] H=V6 O x0 x1 H:=
 iH Tryz.func86 (qS (mB (mB (mB (mB (mB (qS (E:=λL H=>gV O (L 5) H) mA) (mB (r8 (qS (E:=λL H=>uG O (λx5 H=>gV O x5 H) (L 2) (L 3) (L 8) bZ (L 5) (L 9) H) (pT (D:=λa L H=>uG O (λx5 H=>gV O x5 H) (L 2) (L 3) (L 8) a (L 5) (L 9) H) (λa=>qS (mB (qS (E:=λL H=>kA v7 O (λx5 b H=>uG O (λx5 H=>gV O x5 H) (L 2) (L 3) (L 8) a x5 b H) (L 2) (L 3) (L 5) (L 8) (L 9) H) (qS (E:=λL H=>v7 O (λx5 b H=>uG O (λx5 H=>gV O x5 H) (L 2) (L 3) (L 8) a x5 b H) (L 2) (L 3) (L 5) (L 8) (L 9) H) (mB (qS (E:=λL H=>vM O (λx5 b H=>uG O (λx5 H=>gV O x5 H) (L 2) (L 3) (L 8) a x5 b H) (L 5) (L 9) H) mA) (r8 (mB (qS (E:=λL H=>kA nK O (λx5 b H=>uG O (λx5 H=>gV O x5 H) (L 2) (L 3) (L 8) a x5 b H) (L 2) (L 3) (L 5) (L 8) (L 9) H) (qS (E:=λL H=>nK O (λx5 b H=>uG O (λx5 H=>gV O x5 H) (L 2) (L 3) (L 8) a x5 b H) (L 2) (L 3) (L 5) (L 8) (L 9) H) (mB (mB (r8 (qS (E:=λL H=>cC O (λx5 H=>vM O (λx5 b H=>uG O (λx5 H=>gV O x5 H) (L 2) (L 3) (L 8) a x5 b H) x5 (L 9) H) (L 2) (L 3) (L 8) (L 9) (L 10) bZ (L 5) (L 11) H) (pT (D:=λd L H=>cC O (λx5 H=>vM O (λx5 b H=>uG O (λx5 H=>gV O x5 H) (L 2) (L 3) (L 8) a x5 b H) x5 (L 9) H) (L 2) (L 3) (L 8) (L 9) (L 10) d (L 5) (L 11) H) (λd=>qS (mB (qS (E:=λL H=>kA v8 O (λx5 c H=>cC O (λx5 H=>vM O (λx5 b H=>uG O (λx5 H=>gV O x5 H) (L 2) (L 3) (L 8) a x5 b H) x5 (L 9) H) (L 2) (L 3) (L 8) (L 9) (L 10) d x5 c H) (L 2) (L 3) (L 5) (L 8) (L 9) (L 10) (L 11) H) (qS (E:=λL H=>v8 O (λx5 c H=>cC O (λx5 H=>vM O (λx5 b H=>uG O (λx5 H=>gV O x5 H) (L 2) (L 3) (L 8) a x5 b H) x5 (L 9) H) (L 2) (L 3) (L 8) (L 9) (L 10) d x5 c H) (L 2) (L 3) (L 5) (L 8) (L 9) (L 10) (L 11) H) (mB (qS (E:=λL H=>oK O (λx5 c H=>cC O (λx5 H=>vM O (λx5 b H=>uG O (λx5 H=>gV O x5 H) (L 2) (L 3) (L 8) a x5 b H) x5 (L 9) H) (L 2) (L 3) (L 8) (L 9) (L 10) d x5 c H) (L 5) (L 11) H) mA) (r8 (mB (mB (qS (E:=λL H=>kA lj O (λx5 c H=>cC O (λx5 H=>vM O (λx5 b H=>uG O (λx5 H=>gV O x5 H) (L 2) (L 3) (L 8) a x5 b H) x5 (L 9) H) (L 2) (L 3) (L 8) (L 9) (L 10) d x5 c H) (L 3) (L 5) (L 8) (L 9) (L 10) (L 11) (L 12) H) (qS (E:=λL H=>lj O (λx5 c H=>cC O (λx5 H=>vM O (λx5 b H=>uG O (λx5 H=>gV O x5 H) (L 2) (L 3) (L 8) a x5 b H) x5 (L 9) H) (L 2) (L 3) (L 8) (L 9) (L 10) d x5 c H) (L 3) (L 5) (L 8) (L 9) (L 10) (L 11) (L 12) H) (mB (r8 (qS (E:=λL H=>ja O (λx5 H=>oK O (λx5 c H=>cC O (λx5 H=>vM O (λx5 b H=>uG O (λx5 H=>gV O x5 H) (L 2) (L 3) (L 8) a x5 b H) x5 (L 9) H) (L 2) (L 3) (L 8) (L 9) (L 10) d x5 c H) x5 (L 11) H) (L 3) (L 8) (L 9) (L 10) (L 12) bZ (L 5) (L 13) H) (pT (D:=λe L H=>ja O (λx5 H=>oK O (λx5 c H=>cC O (λx5 H=>vM O (λx5 b H=>uG O (λx5 H=>gV O x5 H) (L 2) (L 3) (L 8) a x5 b H) x5 (L 9) H) (L 2) (L 3) (L 8) (L 9) (L 10) d x5 c H) x5 (L 11) H) (L 3) (L 8) (L 9) (L 10) (L 12) e (L 5) (L 13) H) (λe=>qS (mB (qS (E:=λL H=>kA xp O (λx5 f H=>ja O (λx5 H=>oK O (λx5 c H=>cC O (λx5 H=>vM O (λx5 b H=>uG O (λx5 H=>gV O x5 H) (L 2) (L 3) (L 8) a x5 b H) x5 (L 9) H) (L 2) (L 3) (L 8) (L 9) (L 10) d x5 c H) x5 (L 11) H) (L 3) (L 8) (L 9) (L 10) (L 12) e x5 f H) (L 3) (L 5) (L 8) (L 9) (L 10) (L 12) (L 13) H) (qS (E:=λL H=>xp O (λx5 f H=>ja O (λx5 H=>oK O (λx5 c H=>cC O (λx5 H=>vM O (λx5 b H=>uG O (λx5 H=>gV O x5 H) (L 2) (L 3) (L 8) a x5 b H) x5 (L 9) H) (L 2) (L 3) (L 8) (L 9) (L 10) d x5 c H) x5 (L 11) H) (L 3) (L 8) (L 9) (L 10) (L 12) e x5 f H) (L 3) (L 5) (L 8) (L 9) (L 10) (L 12) (L 13) H) (mB (qS (E:=λL H=>yn O (λx5 f H=>ja O (λx5 H=>oK O (λx5 c H=>cC O (λx5 H=>vM O (λx5 b H=>uG O (λx5 H=>gV O x5 H) (L 2) (L 3) (L 8) a x5 b H) x5 (L 9) H) (L 2) (L 3) (L 8) (L 9) (L 10) d x5 c H) x5 (L 11) H) (L 3) (L 8) (L 9) (L 10) (L 12) e x5 f H) (L 5) (L 13) H) mA) mA)) (λL H=>by rw[kE xp])) mA))) (λ_ _=>by kernel_rfl))) mA)) (λL H=>by rw[kE lj])) mA) mA)))) (λL H=>by rw[kE v8])) mA))) (λ_ _=>by kernel_rfl))) mA) mA)) (λL H=>by rw[kE nK])) mA)))) (λL H=>by rw[kE v7])) mA))) (λ_ _=>by kernel_rfl))) mA)) mA) mA) mA) mA))
def zx6(O:Ev.Call)(a:Nat)(L:TT AV (gY (Tryz.f27.ntmps+1))):=λH=>yM O (λb H=>BS O (λH=>HT O (L 2) (L 4) H) (L 1) (L 3) (L 4) a b H) (L 5) H
def zx5(O:Ev.Call)(a:Nat)(b:Nat)(L:TT AV (gY (Tryz.f27.ntmps+1))):=λH=>t0 O (λc H=>yH O (zx6 O a L) (L 1) (L 3) (L 4) (L 5) (L 6) (L 8) b c H) (L 9) H
theorem zs8:(aI Tryz.prog 27).f O [x0] H=XP O x0 H:=
 fK Tryz.func27 (qS (mB (mB (mB (mB mA (mB (r8 (pT (D:=λa L H=>BS O (λH=>HT O (L 2) (L 4) H) (L 1) (L 3) (L 4) a (L 5) H) (λa=>qS (mB (mB mA (r8 (mB (mB (mB (r8 (pT (D:=λb L H=>yH O (zx6 O a L) (L 1) (L 3) (L 4) (L 5) (L 6) (L 8) b (L 9) H) (λb=>qS (mB (mB mA (r8 (mB (r8 (mB (pB (mB (r8 (pT (D:=λc L H=>HP O (zx5 O a b L) (L 1) (L 4) (L 5) (L 6) (L 8) (L 9) c (L 10) H) (λc=>qS mA))) mA) (mB (pB mA (mB (pB (mB (mB (r8 (pT (D:=λd L H=>Gf O (zx5 O a b L) (L 1) (L 4) (L 5) (L 8) (L 9) (L 11) d (L 12) H) (λd=>qS mA))) mA) mA) mA) mA)) mA)) mA)) mA))) mA)))) mA) mA) mA))) mA)))) mA)) mA) mA) mA))
def N5(O:Ev.Call):=λH=>rF O H
def zxa(O:Ev.Call)(k2:Nat)(L:TT AV (gY (Tryz.f247.ntmps+1))):=λx8 H=>pe O (λa H=>.ok a H) (N5 O) (L 0) (L 1) (L 7) k2 x8 H
theorem Q6:(aI Tryz.prog 247).f O [x0,x1] H=Pw O x0 x1 H:=
 iH Tryz.func247 (qS (mB (mB (qS (E:=λL H=>rF O H) mA) (mB (r8 (qS (E:=λL H=>pe O (λx4 H=>.ok x4 H) (N5 O) (L 0) (L 1) (L 7) bZ (L 8) H) (pT (D:=λk2 L H=>pe O (λx4 H=>.ok x4 H) (N5 O) (L 0) (L 1) (L 7) k2 (L 8) H) (λk2=>qS (mB (mB (qS (E:=λL H=>CE O (λx4 H=>.ok x4 H) (zxa O k2 L) (L 0) (L 1) (L 8) H) (mB (qS (E:=λL H=>lC O (zxa O k2 L) (L 8) H) mA) mA)) mA) mA))) (λ_ _=>by kernel_rfl))) mA)) mA))
theorem zsh:(aI Tryz.prog 235).f O [x0] H=Xq O x0 H:=
 fK Tryz.func235 (qS (mB (mB (mB (mB (mB (mB mA (mB (r8 (pT (D:=λb L H=>CQ O (λx2 H=>.ok x2 H) (λH=>kJ O H) (L 4) (L 26) (L 27) b (L 5) (L 28) H) (λb=>qS (mB (mB (mB mA (r8 (mB (mB (r8 (pT (D:=λa L H=>Hu O (λx2 H=>.ok x2 H) (λx5 H=>KB O (λx5 c H=>CQ O (λx2 H=>.ok x2 H) (λH=>kJ O H) (L 4) (L 26) (L 27) b x5 c H) x5 (L 28) H) (L 4) (L 7) (L 34) a (L 5) (L 35) H) (λa=>qS mA))) mA) mA))) mA) mA)))) mA)) mA) mA) mA) mA) mA))
theorem zr6:(aI Tryz.prog 263).f O [x0] H=Xk O x0 H:=
 fK Tryz.func263 (qS (mB (mB (mB mA (mB (r8 (pT (D:=λb L H=>CP O (λx2 H=>.ok x2 H) (λH=>kJ O H) (L 13) (L 14) b (L 15) H) (λb=>qS (mB (mB (mB mA (r8 (mB (mB (mB (r8 (pT (D:=λa L H=>Hm O (λx2 H=>.ok x2 H) (λH=>w9 O (λc H=>CP O (λx2 H=>.ok x2 H) (λH=>kJ O H) (L 13) (L 14) b c H) (L 15) H) (L 30) (L 31) a (L 32) H) (λa=>qS mA))) mA) mA) mA))) mA) mA)))) mA)) mA) mA))
theorem zpz:(aI Tryz.prog 36).f O [x0,x1] H=V8 O x0 x1 H:=
 iH Tryz.func36 (qS (mB (mB (mB (mB mA (mB (r8 (pT (D:=λb L H=>CD O (λx6 x7 H=>mc O x6 x7 H) (L 2) b (L 6) (L 7) (L 8) H) (λb=>qS (mB (mB mA (r8 (mB (mB (mB (r8 (pT (D:=λa L H=>B0 O (λx6 H=>Zg O (λx6 x7 x8 H=>CD O (λx6 x7 H=>mc O x6 x7 H) (L 2) b x6 x7 x8 H) x6 (L 7) (L 8) H) (L 9) a (L 6) (L 10) H) (λa=>qS mA))) mA) mA) mA))) mA)))) mA)) mA) mA) mA))
theorem zsx:(aI Tryz.prog 116).f O [x0,x1] H=XG O x0 x1 H:=
 iH Tryz.func116 (qS (mB (mB (mB (mB mA (mB (pB (mB (mB mA (mB (r8 (pT (D:=λa L H=>G6 O (λx7 H=>Ki O (L 1) (L 2) (L 5) x7 H) (L 1) (L 2) a (L 7) (L 8) H) (λa=>qS mA))) mA)) mA) mA) mA)) (mB (r8 (pT (D:=λb L H=>G5 O (λx5 H=>G8 O (L 1) (L 2) x5 H) (L 1) (L 2) b (L 5) (L 6) H) (λb=>qS mA))) mA)) mA) mA))
theorem MG:(aI Tryz.prog 283).f O [x0,x1,x2,x3,x4,x5,x6] H=te O x0 x1 x2 x3 x4 x5 x6 H:=
 r7 Tryz.func283 (D:=λL H=>te O (L 0) (L 1) (L 2) (L 3) (L 4) (L 5) (L 6) H)
 (qS (mB (mB (mB (mB (mB (mB (mB (mB mA (mB (r8 (pT (D:=λa L H=>jb O (λb H=>.ok b H) (λc H=>oM O (L 3) (L 11) c H) (L 0) (L 1) (L 2) (L 3) (L 6) (L 51) a (L 12) (L 52) H) (λa=>qS mA))) mA)) mA) mA) mA) mA) mA) mA) mA))
theorem zr4:(aI Tryz.prog 238).f O [x0,x1,x2,x3] H=Xi O x0 x1 x2 x3 H:=
 ei Tryz.func238 (qS (mB (mB (mB mA (mB (mB (pB (mB (r8 (pT (D:=λa L H=>CO O (λb H=>Es O b H) (L 0) (L 3) (L 22) (L 23) a (L 9) (L 24) H) (λa=>qS mA))) mA) mA) mA) mA)) mA) mA))
theorem zsq:(aI Tryz.prog 30).f O [x0,x1,x2] H=Xz O x0 x1 x2 H:=
 xJ Tryz.func30 (qS (mB (mB (mB mA (mB (r8 (pT (D:=λa L H=>CT O (λx7 H=>dJ (dY (dU (rV (bW 6 H (L 6))) (dU (some x7) (some [])))) H) (λH=>Ew O (L 6) H) (L 2) (L 3) (L 6) (L 8) a (L 9) H) (λa=>qS mA))) mA)) mA) mA))
theorem zs5:(aI Tryz.prog 179).f O [x0,x1,x2] H=XM O x0 x1 x2 H:=
 xJ Tryz.func179 (qS (mB (mB mA (mB (r8 (pT (D:=λa L H=>Cx O (λx6 x7 H=>.ok (.aX [x6,x7]) H) (λH=>OT O H) (L 1) (L 2) (L 11) (L 12) a (L 13) H) (λa=>qS mA))) mA)) mA))
theorem zqd:(aI Tryz.prog 62).f O [x0,x1,x2] H=Wk O x0 x1 x2 H:=
 xJ Tryz.func62 (qS (mB (mB (qS (E:=λL H=>JV O (L 0) (L 1) (L 2) (L 6) H) (mB (mB (qS (E:=λL H=>JW O (L 0) (L 6) (L 8) H) mA) mA) mA)) mA) mA))
theorem zqh:(aI Tryz.prog 67).f O [x0,x1] H=Wo O x0 x1 H:=
 iH Tryz.func67 (qS (mB (mB (mB (mB (mB mA (mB (r8 (pT (D:=λa L H=>CG O (λx5 x6 H=>Y1 O (L 3) x5 x6 H) (L 0) (L 3) a (L 5) (L 6) (L 7) H) (λa=>qS mA))) mA)) mA) mA) mA) mA))
theorem zsw:(aI Tryz.prog 117).f O [x0,x1,x2] H=XF O x0 x1 x2 H:=
 xJ Tryz.func117 (qS (mB (mB (mB mA (mB (r8 (pT (D:=λa L H=>Ey O (λx6 H=>.ok x6 H) (λH=>CV O H) (L 1) (L 2) (L 7) a (L 8) H) (λa=>qS mA))) mA)) mA) mA))
theorem zr2:(aI Tryz.prog 277).f O [x0] H=Xg O x0 H:=
 fK Tryz.func277 (qS (mB (mB (mB mA (mB (r8 (pT (D:=λa L H=>Er O (λx2 H=>.ok x2 H) (λH=>kJ O H) (L 1) (L 14) (L 15) a (L 16) H) (λa=>qS mA))) mA)) mA) mA))
theorem zrp:(aI Tryz.prog 151).f O [x0] H=W3 O x0 H:=
 fK Tryz.func151 (qS (mB (mB (mB mA (mB (r8 (pT (D:=λk2 L H=>DW O (λx2 H=>.ok x2 H) (λH=>gV O (L 3) H) (L 3) (L 6) (L 7) k2 (L 8) H) (λk2=>qS mA))) mA)) mA) mA))
theorem zpv:(aI Tryz.prog 87).f O [x0,x1] H=V4 O x0 x1 H:=
 iH Tryz.func87 (qS (mB (mB mA (mB (r8 (pT (D:=λk2 L H=>D4 O (λx4 H=>.ok x4 H) (λH=>rF O H) (L 0) (L 3) k2 (L 5) H) (λk2=>qS mA))) mA)) mA))
theorem zrf:(aI Tryz.prog 311).f O [x0,x1] H=WU O x0 x1 H:=
 iH Tryz.func311 (qS mA)
theorem zsg:(aI Tryz.prog 242).f O [x0,x1,x2,x3,x4,x5,x6] H=PF O x0 x1 x2 x3 x4 x5 x6 H:=
 r7 Tryz.func242 (D:=λL H=>PF O (L 0) (L 1) (L 2) (L 3) (L 4) (L 5) (L 6) H)
 (qS mA)
theorem zrh:(aI Tryz.prog 229).f O [x0,x1] H=WW O x0 x1 H:=
 iH Tryz.func229 (qS mA)
theorem zrs:(aI Tryz.prog 285).f O [x0] H=W6 O x0 H:=
 fK Tryz.func285 (qS mA)
theorem zp5:(aI Tryz.prog 191).f O [x0] H=We O x0 H:=
 fK Tryz.func191 (qS mA)
theorem zqc:(aI Tryz.prog 134).f O [x0,x1,x2] H=aMB O x0 x1 x2 H:=
 xJ Tryz.func134 (qS mA)
theorem zqt:(aI Tryz.prog 173).f O [x0,x1] H=Wz O x0 x1 H:=
 iH Tryz.func173 (qS mA)
theorem zsp:(aI Tryz.prog 77).f O [x0,x1,x2,x3] H=Xy O x0 x1 x2 x3 H:=
 ei Tryz.func77 (qS mA)
theorem zra:(aI Tryz.prog 314).f O [x0,x1] H=WP O x0 x1 H:=
 iH Tryz.func314 (qS mA)
theorem zrz:(aI Tryz.prog 280).f O [x0] H=X8 O x0 H:=
 fK (g:=jm) Tryz.func280 (qS mA)
theorem zr7:(aI Tryz.prog 225).f O [x0,x1,x2] H=aOc O x0 x1 x2 H:=
 xJ Tryz.func225 (qS mA)
theorem zq6:(aI Tryz.prog 365).f O [x0] H=aQU O x0 H:=
 fK Tryz.func365 (qS mA)
theorem zqf:(aI Tryz.prog 132).f O [x0,x1] H=Wm O x0 x1 H:=
 iH Tryz.func132 (qS mA)
theorem zse:(aI Tryz.prog 243).f O [x0] H=aON O x0 H:=
 fK Tryz.func243 (qS mA)
theorem zpq:(aI Tryz.prog 124).f O [x0] H=aPN O x0 H:=
 fK Tryz.func124 (qS mA)
theorem Rk:(aI Tryz.prog 234).f O [x0] H=PG O x0 H:=
 fK Tryz.func234 (qS mA)
theorem zsm:(aI Tryz.prog 167).f O [x0] H=Xv O x0 H:=
 fK Tryz.func167 (qS mA)
def z9(O:Ev.Call)(b:Nat)(c:Nat)(L:TT AV (gY (Tryz.f50.ntmps+1))):=λa H=>Cm O (λH=>kA w9 O (λx8 H=>yW O (λH=>kA oR O (L 2) (L 3) H) (L 3) b x8 H) (L 8) H) (L 9) c a H
def z8(O:Ev.Call)(a:Nat)(L:TT AV (gY (Tryz.f50.ntmps+1))):=λb H=>yO O (λH=>kA tQ O (L 2) (L 3) H) (L 1) (L 3) a b H
def z7(O:Ev.Call)(a:Nat)(L:TT AV (gY (Tryz.f50.ntmps+1))):=λx8 H=>yW O (λH=>kA oR O (L 2) (L 3) H) (L 3) a x8 H
def Dx(O:Ev.Call)(a:Nat)(b:Nat)(L:TT AV (gY (Tryz.f50.ntmps+1))):=λc H=>kA Bx O (z9 O a b L) (L 9) (L 10) c H
def OR(O:Ev.Call)(b:Nat)(c:Nat)(a:Nat)(L:TT AV (gY (Tryz.f50.ntmps+1))):=λd e H=>BT O (Dx O b c L) (L 9) (L 10) a d e H
theorem ztb:(aI Tryz.prog 50).f O [x0] H=XT O x0 H:=
 fK Tryz.func50 (qS (mB (mB (pS SQ (λx L H=>x O (L 1) (L 2) (L 3) H) (qS (mB (pS (kE tQ) (λx L H=>x O (L 2) (L 3) H) (qS (mB (pS (kE oR) (λx L H=>x O (L 2) (L 3) H) (qS mA)) (mB (r8 (pT (D:=λa L H=>yW O (λH=>kA oR O (L 2) (L 3) H) (L 3) a (L 8) H) (λa=>qS (mB (pS (kE Gq) (λx L H=>x O (z7 O a L) (L 3) (L 8) H) (qS (mB (pS (kE w9) (λx L H=>x O (z7 O a L) (L 8) H) (qS mA)) (r8 (mB (pS Tq (λx L H=>x O (z7 O a L) (L 8) (L 9) H) (qS (mB (r8 (pT (D:=λc L H=>Cm O (λH=>kA w9 O (z7 O a L) (L 8) H) (L 9) c (L 10) H) (λc=>qS (mB (pS (kE Gr) (λx L H=>x O (z9 O a c L) (L 9) (L 10) H) (qS (mB (pS (kE iS) (λx L H=>x O (z9 O a c L) (L 10) H) (qS mA)) (r8 (mB (pS TG (λx L H=>x O (z9 O a c L) (L 9) (L 10) (L 11) H) (qS (mB (pS (kE Bx) (λx L H=>x O (z9 O a c L) (L 9) (L 10) (L 11) H) (qS mA)) (mB (r8 (pT (D:=λd L H=>BT O (Dx O a c L) (L 9) (L 10) d (L 11) (L 12) H) (λd=>qS (mB (pS (kE Gt) (λx L H=>x O (OR O a c d L) (L 9) (L 10) (L 11) (L 12) H) (qS (mB (pS (kE lx) (λx L H=>x O (OR O a c d L) (L 11) (L 12) H) (qS mA)) mA))) (mB (pS TH (λx L H=>x O (OR O a c d L) (Dx O a c L) (L 9) (L 10) (L 11) (L 12) (L 90) H) (qS mA)) mA))))) mA)))) mA))))) (mB (pS TF (λx L H=>x O (z9 O a c L) (λH=>kA w9 O (z7 O a L) (L 8) H) (L 9) (L 10) (L 78) H) (qS mA)) mA))))) mA))) mA))))) (mB (pS Tp (λx L H=>x O (z7 O a L) (λH=>kA oR O (L 2) (L 3) H) (L 3) (L 8) (L 66) H) (qS mA)) mA))))) mA)))) (mB (r8 (pT (D:=λb L H=>yO O (λH=>kA tQ O (L 2) (L 3) H) (L 1) (L 3) b (L 4) H) (λb=>qS (mB (pS (kE tA) (λx L H=>x O (z8 O b L) (L 1) (L 3) (L 4) H) (qS (mB (pS (kE Gp) (λx L H=>x O (z8 O b L) (L 4) H) (qS mA)) (r8 (mB (pS (kE oc) (λx L H=>x O (z8 O b L) (L 1) (L 3) (L 4) H) (qS (mB (pS Tn (λx L H=>x O (z8 O b L) (L 1) (L 3) (L 4) (L 5) H) (qS (mB (pS To (λx L H=>x O (z8 O b L) (L 1) (L 4) (L 5) (L 7) H) (qS mA)) mA))) mA))) mA))))) (mB (pS SR (λx L H=>x O (z8 O b L) (λH=>kA tQ O (L 2) (L 3) H) (L 1) (L 3) (L 4) (L 19) H) (qS mA)) mA))))) mA)))) mA) mA))
def NZ(O:Ev.Call)(c:Nat)(L:TT AV (gY (Tryz.f90.ntmps+1))):=λa b H=>JJ O (λa b d H=>zA O (λa b H=>D3 O a b H) (L 2) (L 6) c a b d H) a b (L 7) H
theorem zpr:(aI Tryz.prog 90).f O [x0,x1] H=VY O x0 x1 H:=
 iH Tryz.func90 (qS (mB (kB (mB (mB (mB (mB (pS (kE FZ) (λx L H=>x O (L 2) (L 4) (L 5) (L 6) (L 7) H) (qS (mB mA (r8 (pT (D:=λc L H=>zA O (λx4 x5 H=>D3 O x4 x5 H) (L 2) (L 6) c (L 4) (L 5) (L 7) H) (λc=>qS (r8 (mB (pS (kE F0) (λx L H=>x O (λx4 x5 x7 H=>zA O (λx4 x5 H=>D3 O x4 x5 H) (L 2) (L 6) c x4 x5 x7 H) (L 2) (L 4) (L 5) (L 6) (L 7) H) (qS (mB mA (mB (r8 (pT (D:=λa L H=>tS O (NZ O c L) (L 6) (L 26) (L 27) a (L 4) (L 5) (L 28) H) (λa=>qS (mB (mB (pS (kE F1) (λx L H=>x O (λx4 x5 b H=>tS O (NZ O c L) (L 6) (L 26) (L 27) a x4 x5 b H) (L 4) (L 5) (L 6) (L 26) (L 28) H) (qS (mB (pS (kE xo) (λx L H=>x O (λx4 x5 b H=>tS O (NZ O c L) (L 6) (L 26) (L 27) a x4 x5 b H) (L 4) (L 5) (L 28) H) (qS mA)) mA))) mA) mA)))) mA)))) mA)))))))) mA) mA) mA) mA)) mA))
theorem zs7:(aI Tryz.prog 53).f O [x0] H=XO O x0 H:=
 fK Tryz.func53 (qS (mB (mB (mB (mA) (mB (r8 (pT (D:=λa L H=>ua O (λx2 x3 H=>.ok (.aX [x2,x3]) H) (λH=>CA O (L 4) H) (L 1) (L 4) a (L 5) H) (λa=>qS (mB (r8 (mB (mB (r8 (pT (D:=λb L H=>Cz O (λx2 x3 H=>.ok (.aX [x2,x3]) H) (λx5 H=>ua O (λx2 x3 H=>.ok (.aX [x2,x3]) H) (λH=>CA O (L 4) H) (L 1) (L 4) a x5 H) (L 1) (L 4) b (L 5) (L 6) H) (λb=>qS (mB (mB (mA) (r8 (mB (r8 (pT (D:=λc L H=>zp O (λx2 x3 H=>.ok (.aX [x2,x3]) H) (λx5 H=>DE O (λx5 x6 H=>Cz O (λx2 x3 H=>.ok (.aX [x2,x3]) H) (λx5 H=>ua O (λx2 x3 H=>.ok (.aX [x2,x3]) H) (λH=>CA O (L 4) H) (L 1) (L 4) a x5 H) (L 1) (L 4) b x5 x6 H) x5 (L 6) H) (L 1) (L 4) (L 6) c (L 5) (L 7) H) (λc=>qS (mB (mB (mA) (r8 (mB (mB (mB (mB (mA) mA) mA) mA) mA))) mA)))) mA))) mA)))) mA) mA)) mA)))) mA)) mA) mA))
def D6(O:Ev.Call)(L:TT AV (gY (Tryz.f233.ntmps+1))):=λa H=>N6 O (L 1) (L 2) a H
theorem zp6:(aI Tryz.prog 233).f O [x0] H=Wf O x0 H:=
 fK Tryz.func233 (qS (mB (mB (mB (qS (E:=λL H=>N6 O (L 1) (L 2) (L 3) H) mA) (mB (r8 (qS (E:=λL H=>lA O (D6 O L) (L 1) (L 7) (L 8) bZ (L 3) (L 9) H) (pT (D:=λa L H=>lA O (D6 O L) (L 1) (L 7) (L 8) a (L 3) (L 9) H) (λa=>qS (mB (mB (qS (E:=λL H=>Jt O (λx3 b H=>lA O (D6 O L) (L 1) (L 7) (L 8) a x3 b H) (L 1) (L 3) (L 7) (L 9) H) (mB (qS (E:=λL H=>B4 O (λx3 b H=>lA O (D6 O L) (L 1) (L 7) (L 8) a x3 b H) (L 3) (L 9) H) mA) mA)) mA) mA))) (λ_ _=>by kernel_rfl))) mA)) mA) mA))
theorem MC:(aI Tryz.prog 187).f O [x0] H=VW O x0 H:=
 fK Tryz.func187 (qS (mB (mB (mB mA (mB (r8 (pT (D:=λb L H=>zw5 O (λx2 H=>.ok x2 H) (λH=>gV O (L 0) H) (L 0) b (L 3) H) (λb=>qS (mB (mB mA (r8 (mB (pB (mB (mB mA (mB (r8 (pT (D:=λa L H=>Y6 O (λx3 H=>Y7 O (λx2 H=>.ok x2 H) (L 0) x3 H) (L 0) (L 4) a (L 3) (L 5) H) (λa=>qS mA))) mA)) mA) mA) mA))) mA)))) mA)) mA) mA))
theorem MH:(aI Tryz.prog 276).f O [x0] H=zCb O x0 H:=
 r7 Tryz.func276 (D:=λL H=>Dj O 3 rU rh (L 0) H)
 (qS (mB (mB (mB mA (mB (r8 (pT (D:=λb L H=>Iz O 3 rU rh (λx2 H=>.ok x2 H) (λH=>zy6 O 3 rU rh (L 0) H) (L 0) b (L 3) H) (λb=>qS (mB (mB mA (r8 (mB (pB (mB (mB mA (mB (r8 (pT (D:=λa L H=>Cu O 3 rU rh (λx3 H=>Ig O 3 rU rh (λx2 H=>.ok x2 H) (L 0) x3 H) (L 0) (L 4) a (L 3) (L 5) H) (λa=>qS mA))) mA)) mA) mA) mA))) mA)))) mA)) mA) mA))
theorem zr9:(aI Tryz.prog 236).f O [x0] H=Xm O x0 H:=
 fK Tryz.func236 (qS (mB (mB (mB mA (mB (r8 (pT (D:=λa L H=>Cd O (λH=>gV O (L 3) H) (L 3) (L 16) (L 17) a (L 18) H) (λa=>qS (mB (mB (mB mA (r8 (mB (mB (mB (r8 (pT (D:=λb L H=>Ho O (λH=>JT O (λc H=>Cd O (λH=>gV O (L 3) H) (L 3) (L 16) (L 17) a c H) (L 18) H) (L 3) (L 5) (L 32) b (L 33) H) (λb=>qS mA))) mA) mA) mA))) mA) mA)))) mA)) mA) mA))
theorem qri:(aI Tryz.prog 282).f O [x0] H=kV O x0 H:=
 fK (g:=LK) Tryz.func282 (qS (mB (mB (mB mA (mB (r8 (pT (D:=λb L H=>EW O (λx2 H=>.ok x2 H) (λH=>gV O (L 0) H) (L 0) b (L 3) H) (λb=>qS (mB (mB mA (r8 (mB (pB (mB (mB mA (mB (r8 (pT (D:=λa L H=>EV O (λx3 H=>Lu O (λx2 H=>.ok x2 H) (L 0) x3 H) (L 0) (L 4) a (L 3) (L 5) H) (λa=>qS mA))) mA)) mA) mA) mA))) mA)))) mA)) mA) mA))
theorem zs6:(aI Tryz.prog 28).f O [x0] H=XN O x0 H:=
 fK Tryz.func28 (qS (mB (mB (mB mA (mB (r8 (pT (D:=λk2 L H=>Cy O (λx3 H=>gV O x3 H) (L 1) k2 (L 3) (L 4) H) (λk2=>qS (mB (mB mA (r8 (mB (r8 (pT (D:=λa L H=>Ek O (λx3 H=>pf O (λx3 x4 H=>Cy O (λx3 H=>gV O x3 H) (L 1) k2 x3 x4 H) x3 (L 4) H) (L 1) (L 4) a (L 3) (L 5) H) (λa=>qS mA))) mA))) mA)))) mA)) mA) mA))
theorem zsb:(aI Tryz.prog 245).f O [x0] H=Xo O x0 H:=
 fK Tryz.func245 (qS (mB (mB (mB (pS (kE FE) (λx L H=>x O (L 1) (L 4) H) (qS (mB (mB mA (mB (r8 (pT (D:=λa L H=>Ht O (λx6 H=>zhf O x6 H) (L 4) (L 18) (L 19) a (L 6) (L 20) H) (λa=>qS mA))) mA)) mA))) mA) mA) mA))
theorem zsl:(aI Tryz.prog 168).f O [x0,x1,x2,x3] H=Xu O x0 x1 x2 x3 H:=
 ei Tryz.func168 (qS (mB (mB (mB mA (mB (r8 (pT (D:=λa L H=>HC O (λb H=>ON O (L 2) (L 8) b H) (L 1) (L 3) (L 4) a (L 9) (L 10) H) (λa=>qS mA))) mA)) mA) mA))
theorem Rn:(aI Tryz.prog 76).f O [x0,x1,x2] H=Pp O x0 x1 x2 H:=
 xJ Tryz.func76 (qS (mB (mB (mB (mB (mB mA (mB (r8 (pT (D:=λa L H=>HG O (λx0 x8 H=>HI O x0 (L 7) x8 H) (L 2) (L 4) a (L 0) (L 8) (L 9) H) (λa=>qS mA))) mA)) mA) mA) mA) mA))
theorem zpu:(aI Tryz.prog 88).f O [x0,x1] H=V3 O x0 x1 H:=
 iH Tryz.func88 (qS (mB (mB (mB (mB (mB mA (mB (r8 (pT (D:=λa L H=>GK O (λH=>Jn O (L 4) (L 9) (L 10) H) (L 10) (L 32) (L 33) a (L 34) H) (λa=>qS mA))) mA)) mA) mA) mA) mA))
theorem zq3:(aI Tryz.prog 122).f O [x0,x1] H=WJ O x0 x1 H:=
 iH Tryz.func122 (qS (mB (mB (mB (mB mA (mB (r8 (pT (D:=λa L H=>Ee O (λx4 x5 H=>.ok (.aX [x4,x5]) H) (λH=>ZA O (L 1) H) (L 7) (L 18) (L 19) a (L 20) H) (λa=>qS mA))) mA)) mA) mA) mA))
theorem zs4:(aI Tryz.prog 177).f O [x0] H=XL O x0 H:=
 fK Tryz.func177 (qS (mB (mB (mB mA (mB (r8 (pT (D:=λa L H=>Ej O (λx3 H=>gV O x3 H) (L 7) (L 8) a (L 3) (L 9) H) (λa=>qS mA))) mA)) mA) mA))
theorem zqo:(aI Tryz.prog 227).f O [x0,x1] H=IB O x0 x1 H:=
 iH Tryz.func227 (qS (mB (mB mA (mB (r8 (pT (D:=λa L H=>Oj O (λx4 H=>.ok x4 H) (λH=>zxh O (L 0) (L 1) H) (L 0) (L 1) a (L 5) H) (λa=>qS mA))) mA)) mA))
theorem zql:(aI Tryz.prog 199).f O [x0] H=Ws O x0 H:=
 fK Tryz.func199 (qS (mB (mB (mB mA (mB (r8 (pT (D:=λk2 L H=>CI O (λx2 H=>.ok x2 H) (λH=>kJ O H) (L 0) (L 13) k2 (L 14) H) (λk2=>qS mA))) mA)) mA) mA))
theorem zqk:(aI Tryz.prog 121).f O [x0] H=Wr O x0 H:=
 fK Tryz.func121 (qS (mB (mB (mB mA (mB (r8 (pT (D:=λa L H=>Ea O (λx3 H=>gV O x3 H) (L 0) a (L 3) (L 4) H) (λa=>qS mA))) mA)) mA) mA))
theorem zp4:(aI Tryz.prog 193).f O [x0] H=aNb O x0 H:=
 fK Tryz.func193 (qS (mB (mB (qS (E:=λL H=>zxd O (L 0) H) mA) mA) mA))
theorem Q8:(aI Tryz.prog 195).f O [x0] H=Wb O x0 H:=
 fK Tryz.func195 (qS (mB (mB (qS (E:=λL H=>zxc O (L 0) H) mA) mA) mA))
theorem zrx:(aI Tryz.prog 291).f O [x0,x1,x2,x3] H=Xb O x0 x1 x2 x3 H:=
 ei Tryz.func291 (qS mA)
theorem zp3:(aI Tryz.prog 192).f O [x0] H=Wc O x0 H:=
 fK Tryz.func192 (qS mA)
theorem zpo:(aI Tryz.prog 184).f O [x0] H=aNW O x0 H:=
 fK Tryz.func184 (qS mA)
theorem zqi:(aI Tryz.prog 65).f O [x0] H=Y3 O x0 H:=
 fK Tryz.func65 (qS mA)
theorem zrw:(aI Tryz.prog 292).f O [x0,x1] H=Xa O x0 x1 H:=
 iH Tryz.func292 (qS mA)
theorem zp9:(aI Tryz.prog 182).f O [x0,x1,x2,x3] H=Wi O x0 x1 x2 x3 H:=
 ei Tryz.func182 (qS mA)
theorem zpy:(aI Tryz.prog 38).f O [x0,x1,x2] H=V7 O x0 x1 x2 H:=
 xJ Tryz.func38 (qS mA)
theorem zrd:(aI Tryz.prog 353).f O [x0] H=WR O x0 H:=
 fK Tryz.func353 (qS mA)
theorem zrr:(aI Tryz.prog 301).f O [x0,x1] H=W5 O x0 x1 H:=
 iH Tryz.func301 (qS mA)
theorem zr3:(aI Tryz.prog 273).f O [x0,x1] H=Xh O x0 x1 H:=
 iH Tryz.func273 (qS mA)
theorem zqq:(aI Tryz.prog 226).f O [x0,x1] H=Ww O x0 x1 H:=
 iH Tryz.func226 (qS mA)
theorem zrc:(aI Tryz.prog 352).f O [x0] H=aO4 O x0 H:=
 fK Tryz.func352 (qS mA)
theorem zrj:(aI Tryz.prog 316).f O [x0] H=WY O x0 H:=
 fK Tryz.func316 (qS mA)
theorem zqv:(aI Tryz.prog 228).f O [x0] H=WB O x0 H:=
 fK Tryz.func228 (qS mA)
theorem zrq:(aI Tryz.prog 302).f O [x0] H=W4 O x0 H:=
 fK Tryz.func302 (qS mA)
theorem Q0:(aI Tryz.prog 201).f O [x0] H=PA O x0 H:=
 fK Tryz.func201 (qS mA)
theorem zs1:(aI Tryz.prog 113).f O [x0] H=XI O x0 H:=
 fK Tryz.func113 (qS mA)
theorem zsr:(aI Tryz.prog 75).f O [x0] H=XA O x0 H:=
 fK Tryz.func75 (qS mA)
def Z1(O:Ev.Call)(a:Nat)(L:TT AV (gY (Tryz.f189.ntmps+1))):=λb H=>yv O (λH=>cX O (L 8) H) (L 1) (L 4) (L 8) (L 39) (L 40) a b H
theorem zsu:(aI Tryz.prog 189).f O [x0] H=XD O x0 H:=
 fK Tryz.func189 (qS (mB (mB (mB (pS (kE FG) (λx L H=>x O (L 1) (L 4) H) (qS (mB (pS (kE FH) (λx L H=>x O (L 1) (L 4) H) (qS (mB (mB (pS (kE tP) (λx L H=>x O (L 1) (L 4) (L 8) H) (qS (mB mA (mB (r8 (pT (D:=λa L H=>yv O (λH=>cX O (L 8) H) (L 1) (L 4) (L 8) (L 39) (L 40) a (L 41) H) (λa=>qS (mB (mB (mB mA (r8 (mB (mB (mB (mB (r8 (pT (D:=λc L H=>HJ O (λH=>yM O (Z1 O a L) (L 41) H) (L 8) (L 11) (L 83) (L 84) c (L 85) H) (λc=>qS mA))) mA) (mB (r8 (pT (D:=λb L H=>yt O (λd H=>HK O (Z1 O a L) (L 8) (L 10) d (L 41) H) (L 4) (L 8) (L 9) (L 47) (L 48) b (L 11) (L 49) H) (λb=>qS (mB (mB (pS (kE FI) (λx L H=>x O (λd e H=>yt O (λd H=>HK O (Z1 O a L) (L 8) (L 10) d (L 41) H) (L 4) (L 8) (L 9) (L 47) (L 48) b d e H) (L 4) (L 8) (L 9) (L 11) (L 47) (L 49) H) (qS mA)) mA) mA)))) mA)) mA) mA))) mA) mA)))) mA)))) mA) mA))) mA))) mA) mA) mA))
def CN(O:Ev.Call)(a:Nat)(L:TT AV (gY (Tryz.f293.ntmps+1))):=λb H=>zc O (λc H=>.ok c H) (λH=>kA kJ O H) (L 0) (L 1) (L 10) (L 11) a b H
theorem zrm:(aI Tryz.prog 293).f O [x0,x1] H=W1 O x0 x1 H:=
 iH Tryz.func293 (qS (mB (mB (pS (kE kJ) (λx L H=>x O H) (qS mA)) (mB (pS Tt (λx L H=>x O (L 0) (L 1) (L 10) (L 11) (L 12) H) (qS (r8 (pT (D:=λa L H=>zc O (λx4 H=>.ok x4 H) (λH=>kA kJ O H) (L 0) (L 1) (L 10) (L 11) a (L 12) H) (λa=>qS (mB (mB (pS (kE FD) (λx L H=>x O (λx4 H=>.ok x4 H) (CN O a L) (L 0) (L 1) (L 10) (L 12) H) (qS (mB (pS (kE jg) (λx L H=>x O (CN O a L) (L 12) H) (qS mA)) (r8 (mB (pS Tv (λx L H=>x O (λx4 H=>.ok x4 H) (CN O a L) (L 0) (L 1) (L 5) (L 6) (L 12) H) (qS (r8 (mB (pS Tw (λx L H=>x O (λx4 H=>.ok x4 H) (CN O a L) (L 1) (L 5) (L 6) (L 12) (L 17) H) (qS (pB mA (mB (pS Un (λx L H=>x O (λx4 H=>.ok x4 H) (CN O a L) (L 12) (L 40) H) (qS mA)) mA)))) mA)))) mA))))) mA) mA)))))) mA)) mA))
def zx0(O:Ev.Call)(b:Nat)(L:TT AV (gY (Tryz.f169.ntmps+1))):=λa H=>lx O (λa c H=>Cg O (λa H=>Hy O (L 2) (L 3) (L 8) a H) (L 1) (L 3) (L 4) b a c H) a (L 10) H
theorem zsk:(aI Tryz.prog 169).f O [x0,x1,x2,x3] H=Xt O x0 x1 x2 x3 H:=
 ei Tryz.func169 (qS (mB (mB (mB mA (mB (r8 (pT (D:=λa L H=>Cg O (λc H=>Hy O (L 2) (L 3) (L 8) c H) (L 1) (L 3) (L 4) a (L 9) (L 10) H) (λa=>qS (mB (mB mA (r8 (mB (mB (r8 (pT (D:=λb L H=>Cf O (zx0 O a L) (L 1) (L 3) (L 4) (L 10) (L 11) b (L 9) (L 12) H) (λb=>qS (mB (mB mA (r8 (mB (r8 (pT (D:=λd L H=>Hw O (λc H=>KD O (λc e H=>Cf O (zx0 O a L) (L 1) (L 3) (L 4) (L 10) (L 11) b c e H) c (L 12) H) (L 1) (L 3) (L 4) (L 10) (L 11) (L 12) d (L 9) (L 13) H) (λd=>qS mA))) mA))) mA)))) mA) mA))) mA)))) mA)) mA) mA))
def D7(O:Ev.Call)(L:TT AV (gY (Tryz.f129.ntmps+1))):=λH=>GL O (L 1) (L 2) H
theorem zp7:(aI Tryz.prog 129).f O [x0] H=Wg O x0 H:=
 fK Tryz.func129 (qS (mB (mB (mB (mB (qS (E:=λL H=>GL O (L 1) (L 2) H) mA) (mB (r8 (qS (E:=λL H=>tT O (D7 O L) (L 1) (L 17) bZ (L 18) H) (pT (D:=λa L H=>tT O (D7 O L) (L 1) (L 17) a (L 18) H) (λa=>qS (mB (mB (qS (E:=λL H=>Ju O (λb H=>tT O (D7 O L) (L 1) (L 17) a b H) (L 1) (L 18) H) (mB (qS (E:=λL H=>Jv O (λb H=>tT O (D7 O L) (L 1) (L 17) a b H) (L 18) H) mA) mA)) mA) mA))) (λ_ _=>by kernel_rfl))) mA)) mA) mA) mA))
theorem zr0:(aI Tryz.prog 278).f O [x0,x1] H=Xd O x0 x1 H:=
 iH Tryz.func278 (qS (mB (mB (mB (mB mA (mB (r8 (pT (D:=λa L H=>Cb O (λH=>Eo O (L 2) (L 3) (L 5) H) (L 5) (L 15) (L 16) a (L 17) H) (λa=>qS (mB (mB (mB mA (r8 (mB (mB (r8 (pT (D:=λb L H=>Hk O (λH=>Kb O (λc H=>Cb O (λH=>Eo O (L 2) (L 3) (L 5) H) (L 5) (L 15) (L 16) a c H) (L 17) H) (L 5) (L 6) (L 22) (L 23) b (L 24) H) (λb=>qS mA))) mA) mA))) mA) mA)))) mA)) mA) mA) mA))
theorem zpp:(aI Tryz.prog 139).f O [x0,x1,x2] H=VX O x0 x1 x2 H:=
 xJ Tryz.func139 (qS (mB (mB mA (mB (r8 (mB (pB (mB (r8 (pT (D:=λa L H=>BX O (λx6 x7 H=>mc O x6 x7 H) (L 19) (L 20) a (L 6) (L 7) (L 21) H) (λa=>qS mA))) mA) (mB (pB mA (mB (pB (mB (r8 (pT (D:=λb L H=>BW O (λx7 H=>mc O (L 6) x7 H) (L 4) (L 58) (L 59) b (L 7) (L 60) H) (λb=>qS mA))) mA) mA) mA)) mA)) mA)) mA)) mA))
theorem zq0:(aI Tryz.prog 174).f O [x0] H=WG O x0 H:=
 fK Tryz.func174 (qS (mB (mB (mB mA (mB (r8 (pT (D:=λb L H=>CJ O (λH=>gV O (L 3) H) (L 3) (L 10) (L 11) b (L 12) H) (λb=>qS (mB (mB (mB mA (r8 (mB (mB (r8 (pT (D:=λa L H=>GO O (λH=>md O (λc H=>CJ O (λH=>gV O (L 3) H) (L 3) (L 10) (L 11) b c H) (L 12) H) (L 3) (L 5) (L 17) (L 18) a (L 19) H) (λa=>qS mA))) mA) mA))) mA) mA)))) mA)) mA) mA))
theorem zq2:(aI Tryz.prog 51).f O [x0,x1] H=WI O x0 x1 H:=
 iH Tryz.func51 (qS (mB (mB (mB (qS (E:=λL H=>kA xr O (L 2) (L 3) (L 4) (L 6) H) (qS (E:=λL H=>xr O (L 2) (L 3) (L 4) (L 6) H) (mB (mB (mB (qS (E:=λL H=>kA tN O (L 3) (L 4) (L 7) (L 8) H) (qS (E:=λL H=>tN O (L 3) (L 4) (L 7) (L 8) H) mA) (λL H=>by rw[kE tN])) mA) mA) mA)) (λL H=>by rw[kE xr])) mA) mA) mA))
theorem zq8:(aI Tryz.prog 338).f O [x0,x1] H=WN O x0 x1 H:=
 iH Tryz.func338 (qS (mB (mB mA (mB (r8 (pT (D:=λk2 L H=>Eh O (λx4 H=>.ok x4 H) (λH=>rF O H) (L 0) (L 1) (L 7) k2 (L 8) H) (λk2=>qS mA))) mA)) mA))
theorem zrb:(aI Tryz.prog 262).f O [x0,x1] H=WQ O x0 x1 H:=
 iH Tryz.func262 (qS (mB (mB mA (mB (r8 (pT (D:=λk3 L H=>Ei O (λx4 H=>.ok x4 H) (λH=>rF O H) (L 0) (L 3) (L 7) k3 (L 8) H) (λk3=>qS mA))) mA)) mA))
theorem QY:(aI Tryz.prog 327).f O [x0,x1] H=Py O x0 x1 H:=
 iH Tryz.func327 (qS (mB (mB (mB (mB mA (mB (r8 (pT (D:=λa L H=>G9 O (λH=>J2 O (L 0) (L 4) (L 5) H) (L 0) (L 35) (L 36) a (L 37) H) (λa=>qS mA))) mA)) mA) mA) mA))
theorem zta:(aI Tryz.prog 176).f O [x0] H=XR O x0 H:=
 fK Tryz.func176 (qS (mB (mB (mB (mB (mB (mB (mB mA (mB (r8 (pT (D:=λa L H=>HU O (λH=>Kp O (L 2) (L 7) H) (L 1) (L 6) (L 7) (L 33) a (L 34) H) (λa=>qS mA))) mA)) mA) mA) mA) mA) mA) mA))
theorem zpw:(aI Tryz.prog 39).f O [x0,x1,x2,x3] H=V5 O x0 x1 x2 x3 H:=
 ei Tryz.func39 (qS (mB (mB (mB mA (mB (r8 (pT (D:=λa L H=>D5 O (λx8 H=>.ok x8 H) (λH=>zw9 O H) (L 0) (L 2) a (L 9) H) (λa=>qS mA))) mA)) mA) mA))
theorem zry:(aI Tryz.prog 289).f O [x0] H=Xc O x0 H:=
 fK Tryz.func289 (qS (mB (mB (mB mA (mB (r8 (pT (D:=λa L H=>En O (λx2 H=>.ok x2 H) (λH=>ZS O (L 1) H) (L 16) (L 17) a (L 18) H) (λa=>qS mA))) mA)) mA) mA))
theorem RF:(aI Tryz.prog 114).f O [x0,x1,x2,x3,x4] H=ID O x0 x1 x2 x3 x4 H:=
 r7 Tryz.func114 (D:=λL H=>ID O (L 0) (L 1) (L 2) (L 3) (L 4) H)
 (qS (mB (mB (mB (mB (mB (mB (qS (E:=λL H=>tY O (L 1) (L 2) (L 3) (L 4) (L 5) (L 10) (L 13) H) mA) mA) mA) mA) mA) mA) mA))
theorem zsn:(aI Tryz.prog 232).f O [x0] H=Xw O x0 H:=
 fK Tryz.func232 (qS (mB (mB (mB mA (mB (r8 (pT (D:=λk2 L H=>Eu O (λx3 H=>gV O x3 H) (L 6) (L 7) k2 (L 3) (L 8) H) (λk2=>qS mA))) mA)) mA) mA))
theorem zrt:(aI Tryz.prog 290).f O [x0] H=W7 O x0 H:=
 fK Tryz.func290 (qS (mB (mB mA (mB (r8 (pT (D:=λk2 L H=>DX O (λx2 H=>.ok x2 H) (λH=>kJ O H) (L 6) (L 7) k2 (L 8) H) (λk2=>qS mA))) mA)) mA))
theorem zqx:(aI Tryz.prog 119).f O [x0,x1] H=WD O x0 x1 H:=
 iH Tryz.func119 (qS (mB (mB mA (mB (r8 (pT (D:=λk2 L H=>Ec O (λx4 H=>.ok x4 H) (λH=>kJ O H) (L 0) (L 3) k2 (L 5) H) (λk2=>qS mA))) mA)) mA))
theorem zqa:(aI Tryz.prog 180).f O [x0] H=aMx O x0 H:=
 fK Tryz.func180 (qS (mB (mB (qS (E:=λL H=>zxe O (L 0) H) mA) mA) mA))
theorem zq9:(aI Tryz.prog 313).f O [x0,x1] H=WO O x0 x1 H:=
 iH Tryz.func313 (qS mA)
theorem zrv:(aI Tryz.prog 294).f O [x0,x1,x2,x3] H=W9 O x0 x1 x2 x3 H:=
 ei Tryz.func294 (qS mA)
theorem Q7:(aI Tryz.prog 198).f O [x0,x1] H=Px O x0 x1 H:=
 iH Tryz.func198 (qS mA)
theorem zr5:(aI Tryz.prog 264).f O [x0,x1,x2] H=Xj O x0 x1 x2 H:=
 xJ Tryz.func264 (qS mA)
theorem zsf:(aI Tryz.prog 183).f O [x0,x1,x2,x3] H=Xp O x0 x1 x2 x3 H:=
 ei Tryz.func183 (qS mA)
theorem Q5:(aI Tryz.prog 194).f O [x0] H=jm O x0 H:=
 fK Tryz.func194 (qS mA)
theorem zri:(aI Tryz.prog 326).f O [x0,x1] H=WX O x0 x1 H:=
 iH Tryz.func326 (qS mA)
theorem zqu:(aI Tryz.prog 172).f O [x0,x1] H=WA O x0 x1 H:=
 iH Tryz.func172 (qS mA)
theorem zrg:(aI Tryz.prog 312).f O [x0,x1] H=WV O x0 x1 H:=
 iH Tryz.func312 (qS mA)
theorem zrk:(aI Tryz.prog 297).f O [x0,x1] H=WZ O x0 x1 H:=
 iH Tryz.func297 (qS mA)
theorem zst:(aI Tryz.prog 230).f O [x0,x1] H=XC O x0 x1 H:=
 iH Tryz.func230 (qS mA)
theorem zp0:(aI Tryz.prog 11).f O [x0,x1] H=V9 O x0 x1 H:=
 iH Tryz.func11 (qS mA)
theorem zqm:(aI Tryz.prog 70).f O [x0] H=Wu O x0 H:=
 fK Tryz.func70 (qS mA)
theorem zsj:(aI Tryz.prog 170).f O [x0] H=Xs O x0 H:=
 fK Tryz.func170 (qS mA)
theorem zsa:(aI Tryz.prog 246).f O [x0] H=Xn O x0 H:=
 fK Tryz.func246 (qS mA)
theorem zqs:(aI Tryz.prog 133).f O [x0] H=Wy O x0 H:=
 fK Tryz.func133 (qS mA)
theorem zqy:(aI Tryz.prog 118).f O [x0] H=WE O x0 H:=
 fK Tryz.func118 (qS mA)
def uc(O:Ev.Call)(k2:Nat)(L:TT AV (gY (Tryz.f123.ntmps+1))):=λa H=>zP O (λH=>kA cX O (L 6) H) (L 1) (L 4) (L 6) (L 29) (L 30) k2 a H
def zQ(O:Ev.Call)(k2:Nat)(b:Nat)(L:TT AV (gY (Tryz.f123.ntmps+1))):=λa H=>zF O (λH=>kA lC O (uc O k2 L) (L 31) H) (L 1) (L 4) (L 6) (L 8) (L 36) (L 37) b a H
theorem zqe:(aI Tryz.prog 123).f O [x0] H=Wl O x0 H:=
 fK Tryz.func123 (qS (mB (mB (pS (kE Fu) (λx L H=>x O (L 1) (L 4) (L 5) H) (qS (mB (pS (kE F2) (λx L H=>x O (L 1) (L 4) H) (qS (mB (pS (kE F3) (λx L H=>x O (L 1) (L 4) (L 6) H) (qS (mB (pS (kE cX) (λx L H=>x O (L 6) H) (qS mA)) (mB (pS (kE F4) (λx L H=>x O (L 1) (L 4) (L 6) (L 29) (L 30) (L 31) H) (qS (r8 (qS (E:=λL H=>zP O (λH=>kA cX O (L 6) H) (L 1) (L 4) (L 6) (L 29) (L 30) bZ (L 31) H) (pT (D:=λk2 L H=>zP O (λH=>kA cX O (L 6) H) (L 1) (L 4) (L 6) (L 29) (L 30) k2 (L 31) H) (λk2=>qS (mB (mB (pS (kE F5) (λx L H=>x O (uc O k2 L) (L 1) (L 4) (L 6) (L 29) (L 31) H) (qS (mB (pS (kE lC) (λx L H=>x O (uc O k2 L) (L 31) H) (qS mA)) (r8 (mB (pS (kE F6) (λx L H=>x O (uc O k2 L) (L 1) (L 4) (L 6) (L 8) (L 31) H) (qS (mB (pS (kE F7) (λx L H=>x O (uc O k2 L) (L 1) (L 4) (L 6) (L 8) (L 31) (L 36) (L 37) (L 38) H) (qS (r8 (qS (E:=λL H=>zF O (λH=>kA lC O (uc O k2 L) (L 31) H) (L 1) (L 4) (L 6) (L 8) (L 36) (L 37) bZ (L 38) H) (pT (D:=λa L H=>zF O (λH=>kA lC O (uc O k2 L) (L 31) H) (L 1) (L 4) (L 6) (L 8) (L 36) (L 37) a (L 38) H) (λa=>qS (mB (mB (pS (kE Bu) (λx L H=>x O (zQ O k2 a L) (L 1) (L 4) (L 6) (L 8) (L 36) (L 38) H) (qS (mB (pS (kE md) (λx L H=>x O (zQ O k2 a L) (L 38) H) (qS mA)) (r8 (mB (pS (kE F8) (λx L H=>x O (zQ O k2 a L) (L 1) (L 4) (L 6) (L 8) (L 10) (L 38) H) (qS (mB (pS (kE F9) (λx L H=>x O (zQ O k2 a L) (L 1) (L 4) (L 6) (L 8) (L 10) (L 11) (L 38) H) (qS (mB (pS (kE Ga) (λx L H=>x O (zQ O k2 a L) (L 1) (L 6) (L 8) (L 10) (L 11) (L 13) (L 38) H) (qS (mB (pS (kE Bv) (λx L H=>x O (zQ O k2 a L) (L 1) (L 6) (L 8) (L 10) (L 11) (L 13) (L 38) H) (qS mA)) mA))) mA))) mA))) mA))))) mA) mA))) (λ_ _=>by kernel_rfl))))) mA))) mA))))) mA) mA))) (λ_ _=>by kernel_rfl))))) mA)))) mA))) mA))) mA) mA))
def zx4(O:Ev.Call)(a:Nat)(b:Nat)(L:TT AV (gY (Tryz.f188.ntmps+1))):=λH=>KL O (λc H=>Cj O (λH=>yG O (λd H=>yz O (λH=>BN O (L 2) (L 10) H) (L 1) (L 5) (L 10) (L 61) (L 62) a d H) (L 63) H) (L 1) (L 5) (L 10) (L 12) (L 68) (L 69) b c H) (L 70) H
def zx3(O:Ev.Call)(a:Nat)(b:Nat)(c:Nat)(L:TT AV (gY (Tryz.f188.ntmps+1))):=λH=>tW O (λd H=>yy O (zx4 O a b L) (L 1) (L 5) (L 10) (L 12) (L 14) (L 80) (L 81) c d H) (L 82) H
theorem zsv:(aI Tryz.prog 188).f O [x0] H=XE O x0 H:=
 fK Tryz.func188 (qS (mB (mB (mB (mB (mB (mB mA (mB (r8 (pT (D:=λa L H=>yz O (λH=>BN O (L 2) (L 10) H) (L 1) (L 5) (L 10) (L 61) (L 62) a (L 63) H) (λa=>qS (mB (mB (mB mA (r8 (mB (mB (r8 (pT (D:=λb L H=>Cj O (λH=>yG O (λh H=>yz O (λH=>BN O (L 2) (L 10) H) (L 1) (L 5) (L 10) (L 61) (L 62) a h H) (L 63) H) (L 1) (L 5) (L 10) (L 12) (L 68) (L 69) b (L 70) H) (λb=>qS (mB (mB (mB mA (r8 (mB (mB (mB (r8 (pT (D:=λc L H=>yy O (zx4 O a b L) (L 1) (L 5) (L 10) (L 12) (L 14) (L 80) (L 81) c (L 82) H) (λc=>qS (mB (mB (mB mA (r8 (mB (mB (mB (r8 (mB (pB (mB (r8 (pT (D:=λe L H=>G2 O (zx3 O a b c L) (L 19) (L 92) (L 93) e (L 94) H) (λe=>qS mA))) mA) (mB (pB mA (mB (pB (mB (mB (r8 (pT (D:=λf L H=>G1 O (zx3 O a b c L) (L 18) (L 19) (L 129) (L 130) f (L 131) H) (λf=>qS mA))) mA) mA) mA) mA)) mA)) mA)) mA) mA) mA))) mA) mA)))) mA) mA) mA))) mA) mA)))) mA) mA))) mA) mA)))) mA)) mA) (mB (r8 (pT (D:=λd L H=>Bw O (λH=>FK O (L 1) (L 2) (L 5) H) (L 5) (L 34) (L 35) d (L 36) H) (λd=>qS (mB (mB (mB mA (r8 (mB (mB (r8 (pT (D:=λg L H=>FJ O (λH=>MD O (λi H=>Bw O (λH=>FK O (L 1) (L 2) (L 5) H) (L 5) (L 34) (L 35) d i H) (L 36) H) (L 5) (L 7) (L 41) (L 42) g (L 43) H) (λg=>qS mA))) mA) mA))) mA) mA)))) mA)) mA) mA) mA))
theorem zrn:(aI Tryz.prog 306).f O [x0,x1,x2,x3] H=W2 O x0 x1 x2 x3 H:=
 ei Tryz.func306 (qS (mB (mB (r8 (pT (D:=λb L H=>zd O (λH=>.ok (.aX []) H) (λH=>.ok (.aX []) H) (L 0) (L 1) (L 2) (L 3) (L 5) (L 16) b (L 17) H) (λb=>qS (mB (mB (mB (mA) (r8 (mB (mB (mB (r8 (pT (D:=λa L H=>B9 O (λH=>.ok (.aX []) H) (λH=>w9 O (λc H=>zd O (λH=>.ok (.aX []) H) (λH=>.ok (.aX []) H) (L 0) (L 1) (L 2) (L 3) (L 5) (L 16) b c H) (L 17) H) (L 0) (L 1) (L 5) (L 6) (L 54) a (L 55) H) (λa=>qS (mB (mB (mB (mA) (r8 (mB (mB (pB (mB (mB mA mA) mA) mA) mA) mA))) mA) mA)))) mA) (mB (r8 (pT (D:=λd L H=>B8 O (λH=>J5 O (λH=>.ok (.aX []) H) (λc H=>zd O (λH=>.ok (.aX []) H) (λH=>.ok (.aX []) H) (L 0) (L 1) (L 2) (L 3) (L 5) (L 16) b c H) (L 0) (L 1) (L 5) (L 6) (L 17) H) (L 3) (L 5) (L 6) (L 23) (L 24) d (L 25) H) (λd=>qS (mB (mB (mB (mA) mA) mA) mA)))) mA)) mA))) mA) mA)))) mA) mA))
def N7(O:Ev.Call)(a:Nat)(L:TT AV (gY (Tryz.f181.ntmps+1))):=λx8 b H=>zE O (λH=>gV O (L 7) H) (L 1) (L 7) (L 19) (L 20) a x8 b H
theorem zp8:(aI Tryz.prog 181).f O [x0,x1] H=Wh O x0 x1 H:=
 iH Tryz.func181 (qS (mB (mB (mB (mB (mB (qS (E:=λL H=>gV O (L 7) H) mA) (mB (r8 (qS (E:=λL H=>zE O (λH=>gV O (L 7) H) (L 1) (L 7) (L 19) (L 20) bZ (L 8) (L 21) H) (pT (D:=λa L H=>zE O (λH=>gV O (L 7) H) (L 1) (L 7) (L 19) (L 20) a (L 8) (L 21) H) (λa=>qS (mB (mB (qS (E:=λL H=>GM O (N7 O a L) (L 1) (L 7) (L 8) (L 19) (L 21) H) (mB (qS (E:=λL H=>tZ O (N7 O a L) (L 8) (L 21) H) mA) (r8 (mB (mB (mB (qS (E:=λL H=>yo O (N7 O a L) (L 1) (L 7) (L 8) (L 9) (L 10) (L 21) H) mA) mA) mA) mA)))) mA) mA))) (λ_ _=>by kernel_rfl))) mA)) mA) mA) mA) mA))
theorem zro:(aI Tryz.prog 307).f O [x0,x1] H=aPI O x0 x1 H:=
 iH Tryz.func307 (qS (kB (mB (mB (mB (r8 (pT (D:=λk3 L H=>ze O (λH=>.ok (.aX []) H) (L 0) k3 (L 4) H) (λk3=>qS (mB (r8 (mB (mB mA (r8 (pT (D:=λa L H=>Hf O (λx4 H=>ze O (λH=>.ok (.aX []) H) (L 0) k3 x4 H) (λx4 H=>Hh O (λx4 H=>ze O (λH=>.ok (.aX []) H) (L 0) k3 x4 H) (L 0) x4 (L 5) H) (L 0) (L 5) a (L 4) H) (λa=>qS (mB (r8 (mB (mB (mB mA mA) mA) mA)) mA))))) mA)) mA)))) mA) mA) mA)))
theorem zq1:(aI Tryz.prog 52).f O [x0] H=WH O x0 H:=
 fK Tryz.func52 (qS (mB (mB (mB mA (mB (r8 (pT (D:=λb L H=>CK O (λx3 H=>gV O x3 H) (L 0) b (L 3) (L 4) H) (λb=>qS (mB (mB mA (r8 (mB (mB (mB (mB mA (mB (r8 (pT (D:=λa L H=>B6 O (λx5 x6 H=>JY O (λx3 x4 H=>CK O (λx3 H=>gV O x3 H) (L 0) b x3 x4 H) (L 0) (L 4) x5 x6 H) (L 0) (L 3) (L 4) a (L 5) (L 6) (L 7) H) (λa=>qS mA))) mA)) mA) mA) mA))) mA)))) mA)) mA) mA))
theorem zqj:(aI Tryz.prog 54).f O [x0,x1] H=Wq O x0 x1 H:=
 iH Tryz.func54 (qS (mB (mB (mB (mB (mB mA (mB (r8 (pT (D:=λa L H=>CH O (λx5 H=>gV O x5 H) (L 6) (L 7) a (L 5) (L 8) H) (λa=>qS (mB (mB mA (r8 (mB (r8 (pT (D:=λb L H=>D9 O (λx5 H=>t9 O (λx5 x8 H=>CH O (λx5 H=>gV O x5 H) (L 6) (L 7) a x5 x8 H) x5 (L 8) H) (L 6) (L 7) (L 8) b (L 5) (L 9) H) (λb=>qS mA))) mA))) mA)))) mA)) mA) mA) mA) mA))
theorem zso:(aI Tryz.prog 78).f O [x0,x1,x2,x3] H=Xx O x0 x1 x2 x3 H:=
 ei Tryz.func78 (qS (mB (mB (mB (mB mA (mB (r8 (pT (D:=λb L H=>un O (λa H=>gV O a H) (L 3) (L 4) (L 10) b (L 9) (L 12) H) (λb=>qS (mB (pS (kE FF) (λx L H=>x O (λa c H=>un O (λa H=>gV O a H) (L 3) (L 4) (L 10) b a c H) (L 3) (L 4) (L 9) (L 10) (L 12) H) (qS mA)) mA)))) mA)) mA) mA) mA))
theorem zr1:(aI Tryz.prog 279).f O [x0] H=Xe O x0 H:=
 fK Tryz.func279 (qS (mB (mB (mB (mB mA (mB (r8 (pT (D:=λb L H=>Ep O (λH=>ZY O (L 3) H) (L 3) (L 29) b (L 30) H) (λb=>qS mA))) mA)) (mB (r8 (pT (D:=λa L H=>Hl O (λH=>Kf O (L 1) (L 3) H) (L 3) (L 8) (L 9) a (L 10) H) (λa=>qS mA))) mA)) mA) mA))
theorem zq5:(aI Tryz.prog 339).f O [x0,x1] H=WL O x0 x1 H:=
 iH Tryz.func339 (qS (mB (mB mA (mB (r8 (pT (D:=λk2 L H=>CL O (λx4 H=>.ok x4 H) (λH=>rF O H) (L 0) (L 1) (L 7) k2 (L 8) H) (λk2=>qS mA))) mA)) mA))
theorem zrl:(aI Tryz.prog 295).f O [x0,x1,x2] H=W0 O x0 x1 x2 H:=
 xJ Tryz.func295 (qS (mB (mB mA (mB (r8 (pT (D:=λk2 L H=>CM O (λx6 x7 H=>.ok (.aX [x6,x7]) H) (λx6 H=>cX O x6 H) (L 0) (L 1) (L 11) (L 12) k2 (L 6) (L 13) H) (λk2=>qS mA))) mA)) mA))
theorem zps:(aI Tryz.prog 137).f O [x0,x1] H=VZ O x0 x1 H:=
 iH Tryz.func137 (qS (mB (mB (mB (mB mA (mB (r8 (pT (D:=λa L H=>BZ O (λx5 H=>JL O x5 H) (L 2) (L 3) (L 24) (L 25) a (L 5) (L 26) H) (λa=>qS mA))) mA)) mA) mA) mA))
theorem zre:(aI Tryz.prog 351).f O [x0,x1] H=WT O x0 x1 H:=
 iH Tryz.func351 (qS (mB (mB mA (mB (r8 (pT (D:=λk2 L H=>DV O (λx4 H=>.ok x4 H) (λH=>rF O H) (L 0) (L 1) (L 7) k2 (L 8) H) (λk2=>qS mA))) mA)) mA))
theorem zs3:(aI Tryz.prog 29).f O [x0,x1,x2] H=XK O x0 x1 x2 H:=
 xJ Tryz.func29 (qS (mB (mB (mB mA (mB (r8 (pT (D:=λa L H=>CW O (λx6 H=>.ok x6 H) (λH=>rF O H) (L 1) (L 2) (L 7) a (L 8) H) (λa=>qS mA))) mA)) mA) mA))
theorem zq7:(aI Tryz.prog 366).f O [x0,x1] H=WM O x0 x1 H:=
 iH Tryz.func366 (qS (mB (r8 (pT (D:=λk2 L H=>Ef O (λH=>.ok (.aX []) H) (λH=>.ok (.aX []) H) (L 0) (L 5) (L 6) k2 (L 7) H) (λk2=>qS mA))) mA))
theorem zq4:(aI Tryz.prog 10).f O [x0] H=WK O x0 H:=
 fK Tryz.func10 (qS (mB (mB (mB (mB mA (mB (r8 (pT (D:=λa L H=>GQ O (λx5 H=>J0 O (L 2) (L 4) x5 H) (L 1) (L 4) a (L 5) (L 6) H) (λa=>qS mA))) mA)) mA) mA) mA))
theorem zr8:(aI Tryz.prog 79).f O [x0,x1] H=Xl O x0 x1 H:=
 iH Tryz.func79 (qS (mB (mB mA (mB (r8 (pT (D:=λk2 L H=>Et O (λx4 H=>.ok x4 H) (λH=>rF O H) (L 1) (L 2) k2 (L 5) H) (λk2=>qS mA))) mA)) mA))
theorem zqg:(aI Tryz.prog 131).f O [x0,x1] H=Wn O x0 x1 H:=
 iH Tryz.func131 (qS (mB (mB mA (mB (r8 (pT (D:=λk2 L H=>D8 O (λx4 H=>.ok x4 H) (λH=>CV O H) (L 0) (L 3) k2 (L 5) H) (λk2=>qS mA))) mA)) mA))
theorem zqn:(aI Tryz.prog 135).f O [x0] H=Wv O x0 H:=
 fK Tryz.func135 (qS (mB (mB mA (mB (r8 (pT (D:=λk2 L H=>Eb O (λx2 H=>.ok x2 H) (λH=>kJ O H) (L 6) (L 7) k2 (L 8) H) (λk2=>qS mA))) mA)) mA))
theorem zp2:(aI Tryz.prog 197).f O [x0] H=aNe O x0 H:=
 fK Tryz.func197 (qS (mB (mB (qS (E:=λL H=>zxb O (L 0) H) mA) mA) mA))
theorem zqb:(aI Tryz.prog 178).f O [x0] H=Wj O x0 H:=
 fK Tryz.func178 (qS (mB (mB (qS (E:=λL H=>N9 O (L 1) (L 2) H) mA) mA) mA))
theorem Rh:(aI Tryz.prog 275).f O [x0] H=X7 O x0 H:=
 fK (g:=Y3) Tryz.func275 (qS mA)
theorem zru:(aI Tryz.prog 296).f O [x0,x1,x2] H=W8 O x0 x1 x2 H:=
 xJ Tryz.func296 (qS mA)
theorem zp1:(aI Tryz.prog 248).f O [x0] H=Wa O x0 H:=
 fK Tryz.func248 (qS mA)
theorem Ri:(aI Tryz.prog 237).f O [x0,x1,x2] H=PB O x0 x1 x2 H:=
 xJ Tryz.func237 (qS mA)
theorem zss:(aI Tryz.prog 231).f O [x0,x1] H=XB O x0 x1 H:=
 iH Tryz.func231 (qS mA)
theorem zqz:(aI Tryz.prog 175).f O [x0,x1] H=WF O x0 x1 H:=
 iH Tryz.func175 (qS mA)
theorem zsi:(aI Tryz.prog 171).f O [x0,x1,x2] H=Xr O x0 x1 x2 H:=
 xJ Tryz.func171 (qS mA)
theorem zpt:(aI Tryz.prog 107).f O [x0,x1] H=V0 O x0 x1 H:=
 iH Tryz.func107 (qS mA)
theorem Rm:(aI Tryz.prog 196).f O [x0] H=NB O x0 H:=
 fK (g:=jm) Tryz.func196 (qS mA)
theorem zqw:(aI Tryz.prog 120).f O [x0,x1] H=WC O x0 x1 H:=
 iH Tryz.func120 (qS mA)
theorem zqr:(aI Tryz.prog 261).f O [x0] H=Wx O x0 H:=
 fK Tryz.func261 (qS mA)
theorem zs2:(aI Tryz.prog 112).f O [x0] H=XJ O x0 H:=
 fK Tryz.func112 (qS mA)
theorem zs9:(aI Tryz.prog 125).f O [x0] H=XQ O x0 H:=
 fK Tryz.func125 (qS mA)
theorem QZ:(aI Tryz.prog 284).f O [x0] H=Pz O x0 H:=
 fK Tryz.func284 (qS mA)
theorem Rj:(aI Tryz.prog 249).f O [x0] H=PC O x0 H:=
 fK Tryz.func249 (qS mA)
theorem zsy:(aI Tryz.prog 115).f O [x0] H=XH O x0 H:=
 fK Tryz.func115 (qS mA)
theorem zoy:(aI Tryz.prog 34).f O [x0,x1] H=Vx O x0 x1 H:=
 iH Tryz.func34 (qS mA)
def YJ(O:Ev.Call)(L:TT AV (gY (Tryz.f7.ntmps+1))):=λa H=>(kA xn) O (L 7) (L 8) (L 10) (L 12) a H
def t7(O:Ev.Call)(a:Nat)(L:TT AV (gY (Tryz.f7.ntmps+1))):=λb c d H=>ya O (YJ O L) (L 8) (L 12) a b c d H
def NJ(O:Ev.Call)(a:Nat)(L:TT AV (gY (Tryz.f7.ntmps+1))):=λb H=>(kA Bp) O (t7 O a L) (L 8) (L 14) (L 15) (L 16) b H
def ND(O:Ev.Call)(c:Nat)(a:Nat)(L:TT AV (gY (Tryz.f7.ntmps+1))):=λd b H=>BI O (NJ O c L) (L 8) (L 12) (L 16) a d b H
theorem zox:(aI Tryz.prog 7).f O [x0,x1,x2] H=Pu O x0 x1 x2 H:=
 xJ Tryz.func7 (qS (mB (mB (pS (kE Fj) (λx L H=>x O (L 2) (L 4) (L 7) (L 8) H) (qS (mB (pS (kE Fk) (λx L H=>x O (L 2) (L 4) (L 7) (L 8) (L 9) H) (qS (mB (pS (kE nO) (λx L H=>x O (L 2) (L 7) (L 8) (L 9) (L 10) (L 11) H) (qS (mB (pS (kE FL) (λx L H=>x O (L 2) (L 7) (L 8) (L 9) (L 10) H) (qS (mB (pS (kE FM) (λx L H=>x O (L 2) (L 7) (L 8) (L 10) (L 12) H) (qS (mB (mB (pS (kE FN) (λx L H=>x O (L 7) (L 8) (L 10) (L 12) (L 14) (L 15) H) (qS (mB (pS (kE xn) (λx L H=>x O (L 7) (L 8) (L 10) (L 12) (L 14) H) (qS (mB (pS (kE FQ) (λx L H=>x O (L 7) (L 10) (L 12) (L 14) (L 19) (L 20) H) (qS (mB (pS (kE FR) (λx L H=>x O (L 7) (L 10) (L 12) (L 14) (L 19) (L 20) (L 21) (L 22) H) (qS (mB (pS (kE FS) (λx L H=>x O (L 12) (L 19) (L 20) (L 21) (L 22) (L 23) (L 24) H) (qS mA)) mA))) mA))) mA))) (mB (r8 (pT (D:=λa L H=>ya O (YJ O L) (L 8) (L 12) a (L 14) (L 15) (L 16) H) (λa=>qS (mB (pS (kE FO) (λx L H=>x O (t7 O a L) (L 8) (L 12) (L 14) (L 15) (L 16) H) (qS (mB (pS (kE tI) (λx L H=>x O (t7 O a L) (L 14) (L 15) (L 16) H) (qS mA)) (r8 (mB (mB (pS (kE Bp) (λx L H=>x O (t7 O a L) (L 8) (L 14) (L 15) (L 16) (L 17) H) (qS (mB (pS (kE Bq) (λx L H=>x O (t7 O a L) (L 8) (L 14) (L 15) (L 16) H) (qS mA)) (mB (pS (kE nY) (λx L H=>x O (t7 O a L) (L 8) (L 14) (L 15) (L 16) (L 89) H) (qS mA)) mA)))) (mB (r8 (pT (D:=λb L H=>BI O (NJ O a L) (L 8) (L 12) (L 16) b (L 17) (L 18) H) (λb=>qS (mB (pS (kE FP) (λx L H=>x O (ND O a b L) (L 8) (L 12) (L 16) (L 17) (L 18) H) (qS (mB (pS (kE xk) (λx L H=>x O (ND O a b L) (L 17) (L 18) H) (qS mA)) mA))) (mB (pS (kE xj) (λx L H=>x O (ND O a b L) (NJ O a L) (L 8) (L 12) (L 16) (L 17) (L 18) (L 66) H) (qS mA)) mA))))) mA)) mA))))) (mB (pS (kE xd) (λx L H=>x O (t7 O a L) (YJ O L) (L 8) (L 12) (L 14) (L 15) (L 16) (L 60) H) (qS mA)) mA))))) mA)))) mA) mA))) mA))) (mB (pS (kE nX) (λx L H=>x O (L 2) (L 7) (L 8) (L 9) (L 10) (L 45) H) (qS mA)) mA)))) mA))) mA))) mA) mA))
theorem zoz:(aI Tryz.prog 37).f O [x0,x1,x2] H=Vy O x0 x1 x2 H:=
 xJ Tryz.func37 (qS (mB (mB (mB (pS (kE FU) (λx L H=>x O (L 3) (L 5) (L 6) (L 8) H) (qS (mB (pS (kE FV) (λx L H=>x O (L 5) (L 6) (L 8) H) (qS (mB (mB (mB (pS (kE Br) (λx L H=>x O (L 6) (L 13) H) (qS mA)) mA) mA) mA))) mA))) mA) mA) mA))
theorem zo6:(aI Tryz.prog 93).f O [x0,x1,x2] H=VE O x0 x1 x2 H:=
 xJ Tryz.func93 (qS mA)
theorem zo5:(aI Tryz.prog 95).f O [x0,x1] H=VD O x0 x1 H:=
 iH Tryz.func95 (qS mA)
theorem zo4:(aI Tryz.prog 97).f O [x0,x1] H=VC O x0 x1 H:=
 iH Tryz.func97 (qS mA)
theorem zo0:(aI Tryz.prog 89).f O [x0,x1] H=Vz O x0 x1 H:=
 iH Tryz.func89 (qS mA)
theorem zo3:(aI Tryz.prog 92).f O [x0,x1,x2,x3] H=VB O x0 x1 x2 x3 H:=
 ei Tryz.func92 (qS mA)
theorem zo2:(aI Tryz.prog 138).f O [x0,x1,x2,x3,x4,x5] H=Pv O x0 x1 x2 x3 x4 x5 H:=
 r7 Tryz.func138 (D:=λL H=>Pv O (L 0) (L 1) (L 2) (L 3) (L 4) (L 5) H)
 (qS (mB (mB (mB (mB mA (mB (r8 (pT (D:=λb L H=>yi O (λa H=>GY O (L 2) (L 4) (L 5) (L 6) (L 8) a H) (L 1) (L 2) (L 3) (L 6) (L 31) (L 32) b (L 10) (L 33) H) (λb=>qS (mB (mB (mB mA (r8 (mB (mB (mB (mB (mB mA (mB (r8 (pT (D:=λc L H=>GV O (λd H=>JB O (λa e H=>yi O (λa H=>GY O (L 2) (L 4) (L 5) (L 6) (L 8) a H) (L 1) (L 2) (L 3) (L 6) (L 31) (L 32) b a e H) (L 3) (L 10) (L 13) d (L 33) H) (L 2) (L 47) (L 48) c (L 15) (L 49) H) (λc=>qS mA))) mA)) mA) mA) mA) mA))) mA) mA)))) mA)) mA) mA) mA))
theorem zo1:(aI Tryz.prog 91).f O [x0,x1,x2,x3] H=VA O x0 x1 x2 x3 H:=
 ei Tryz.func91 (qS (mB (mB (r8 (pT (D:=λc L H=>t8 O (λH=>.ok (.aX []) H) (L 1) (L 2) (L 3) (L 4) (L 19) c (L 20) H) (λc=>qS (mB (mB (mB mA (r8 (mB (mB (mB (mB (mB (mB (r8 (pT (D:=λb L H=>ye O (λH=>zr O (λa H=>t8 O (λH=>.ok (.aX []) H) (L 1) (L 2) (L 3) (L 4) (L 19) c a H) (L 20) H) (L 2) (L 3) (L 9) b (L 14) H) (λb=>qS (mB (r8 (mB (mB (mB (r8 (pT (D:=λd L H=>BK O (λf H=>ye O (λH=>zr O (λa H=>t8 O (λH=>.ok (.aX []) H) (L 1) (L 2) (L 3) (L 4) (L 19) c a H) (L 20) H) (L 2) (L 3) (L 9) b f H) (L 2) (L 3) (L 67) (L 68) d (L 14) (L 69) H) (λd=>qS mA))) mA) mA) mA)) mA)))) mA) mA) mA) (mB (r8 (pT (D:=λe L H=>BJ O (λg H=>Jy O (λa H=>t8 O (λH=>.ok (.aX []) H) (L 1) (L 2) (L 3) (L 4) (L 19) c a H) (L 2) (L 3) g (L 20) H) (L 4) (L 8) (L 23) (L 24) e (L 9) (L 25) H) (λe=>qS mA))) mA)) mA) mA))) mA) mA)))) mA) mA))
theorem zpf:(aI Tryz.prog 202).f O [x0,x1] H=VN O x0 x1 H:=
 iH Tryz.func202 (qS mA)
theorem zph:(aI Tryz.prog 251).f O [x0,x1] H=VP O x0 x1 H:=
 iH Tryz.func251 (qS mA)
theorem zpl:(aI Tryz.prog 71).f O [x0,x1] H=VT O x0 x1 H:=
 iH Tryz.func71 (qS mA)
theorem zpj:(aI Tryz.prog 94).f O [x0,x1] H=VR O x0 x1 H:=
 iH Tryz.func94 (qS mA)
theorem zpg:(aI Tryz.prog 250).f O [x0,x1,x2] H=VO O x0 x1 x2 H:=
 xJ Tryz.func250 (qS (mB (mB (mB mA (mB (r8 (pT (D:=λk2 L H=>D0 O (λx6 H=>.ok x6 H) (λH=>NF O H) (L 1) (L 2) (L 15) (L 16) k2 (L 17) H) (λk2=>qS mA))) mA)) mA) mA))
theorem zpm:(aI Tryz.prog 136).f O [x0,x1] H=VU O x0 x1 H:=
 iH Tryz.func136 (qS (mB (mB mA (mB (r8 (pT (D:=λk3 L H=>D2 O (λx4 H=>.ok x4 H) (λH=>NX O H) (L 0) (L 3) (L 7) k3 (L 8) H) (λk3=>qS mA))) mA)) mA))
theorem zpk:(aI Tryz.prog 140).f O [x0,x1] H=VS O x0 x1 H:=
 iH Tryz.func140 (qS (mB (mB mA (mB (r8 (pT (D:=λk2 L H=>D1 O (λx4 H=>.ok x4 H) (λH=>NH O H) (L 0) (L 1) (L 7) k2 (L 8) H) (λk2=>qS mA))) mA)) mA))
theorem zpd:(aI Tryz.prog 141).f O [x0] H=VL O x0 H:=
 fK Tryz.func141 (qS (mB (mB (mB (pS (kE FW) (λx L H=>x O (L 0) (L 3) H) (qS (mB (pS (kE FX) (λx L H=>x O (L 0) H) (qS (mB (mB mA (mB (r8 (pT (D:=λa L H=>zw O (λx2 H=>.ok x2 H) (λH=>CC O H) (L 40) (L 41) a (L 8) (L 42) H) (λa=>qS (mB (mB (pS (kE FY) (λx L H=>x O (λx2 H=>.ok x2 H) (λx8 b H=>zw O (λx2 H=>.ok x2 H) (λH=>CC O H) (L 40) (L 41) a x8 b H) (L 8) (L 40) (L 42) H) (qS (mB mA (r8 (mB (mB (mB (pS (kE tM) (λx L H=>x O (λx2 H=>.ok x2 H) (λx8 b H=>zw O (λx2 H=>.ok x2 H) (λH=>CC O H) (L 40) (L 41) a x8 b H) (L 8) (L 10) (L 11) (L 42) H) (qS mA)) mA) mA) mA))))) mA) mA)))) mA)) mA))) mA))) mA) mA) mA))
theorem zo7:(aI Tryz.prog 96).f O [x0,x1] H=VF O x0 x1 H:=
 iH Tryz.func96 (qS mA)
theorem zpb:(aI Tryz.prog 144).f O [x0,x1] H=VJ O x0 x1 H:=
 iH Tryz.func144 (qS mA)
theorem zpa:(aI Tryz.prog 145).f O [x0,x1] H=VI O x0 x1 H:=
 iH Tryz.func145 (qS mA)
theorem zo9:(aI Tryz.prog 146).f O [x0,x1] H=VH O x0 x1 H:=
 iH Tryz.func146 (qS mA)
theorem zpn:(aI Tryz.prog 60).f O [x0] H=VV O x0 H:=
 fK Tryz.func60 (qS mA)
theorem zpi:(aI Tryz.prog 200).f O [x0,x1] H=VQ O x0 x1 H:=
 iH Tryz.func200 (qS (mB (mB (mB (mB (mB (mB mA (mB (r8 (pT (D:=λa L H=>BU O (λx5 x6 H=>dJ (dY (dU (rV (bW 4 H (L 4))) (dU (some x5) (dU (some x6) (some []))))) H) (λx5 H=>JG O (L 4) x5 H) (L 0) (L 4) (L 36) (L 37) a (L 5) (L 38) H) (λa=>qS mA))) mA)) mA) mA) mA) mA) mA))
theorem zo8:(aI Tryz.prog 143).f O [x0,x1,x2,x3] H=VG O x0 x1 x2 x3 H:=
 ei Tryz.func143 (qS (mB (mB (mB (mB (mB mA (mB (r8 (pT (D:=λa L H=>yk O (λb H=>JF O b H) (L 0) (L 2) (L 7) (L 9) (L 35) (L 36) a (L 10) (L 37) H) (λa=>qS mA))) mA)) mA) mA) mA) mA))
theorem zpc:(aI Tryz.prog 142).f O [x0] H=VK O x0 H:=
 fK Tryz.func142 (qS (mB (mB (mB mA (mB (r8 (pT (D:=λk2 L H=>DY O (λx3 H=>NN O x3 H) (L 6) (L 7) k2 (L 3) (L 8) H) (λk2=>qS mA))) mA)) mA) mA))
theorem zpe:(aI Tryz.prog 203).f O [x0] H=VM O x0 H:=
 fK Tryz.func203 (qS (mB (mB mA (mB (r8 (pT (D:=λa L H=>DZ O (λx2 H=>.ok x2 H) (λH=>YY O (L 0) H) (L 0) (L 5) (L 6) a (L 7) H) (λa=>qS mA))) mA)) mA))
end Go.Di
end
