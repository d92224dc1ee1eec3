/-
 For FitsObjects: the evaluator and its soundness, part 4 of 4: what a run of the abstract evaluator answers, the model's run answers, in every world and on every schedule. No conditions beyond those that each theorem states.
-/
import Derived.Test.YtbfjjkjiokfdgaaGreatEv3
import Derived.Sort.Grow
import Derived.Sort.EveryDepth
import Derived.Sort.Defs
import Derived.Shelf.GgSortFunc.InsertionK
import Derived.Lib.BitFns
import Derived.WideKeyArgs
import Derived.Carry
import Derived.OpenShut
import Derived.ProofKit
import Derived.WalkKit
noncomputable section
namespace Go.Di
open Go.Ev
variable {d:Nat}
def G(L:TT AV d)(i:Nat):AV:=(dG d i).f L
abbrev Kt(d:Nat):=Ex->TT AV d->Hp->R1
def fin(r:Rc d)(K:Kt d):R1:=match r with| .bad=>.bad| .ok e L H=>K e L H
def oC(r:Rs d)(k:TT AV d->Hp->R1):R1:=match r with| .bad=>.bad| .ok L H=>k L H
def aFY(r:Rx d)(k:TT AV d->Hp->List Pd->List Wt->R1):R1:=match r with| .bad=>.bad| .ok L H p w=>k L H p w
def nrm(r:R0)(H:Hp):Option (AV×Hp):=match r with| .bad=>none| .val v=>some (v,H)| .new v b=>some (v,aS H b)
def vq(r:R0)(H:Hp)(k:AV->Hp->R1):R1:=match nrm r H with|none=>.bad|some p=>k p.1 p.2
def ve(r:R1)(k:AV->Hp->R1):R1:=match r with| .bad=>.bad| .ok v H=>k v H
def vg0(w:Option Bool)(r:R0)(H:Hp)(k:AV->Hp->R1):R1:=match w with|some true=>vq r H k|some false=>k .undef H|none=>.bad
def aBN(w:Option Bool)(r:R1)(H:Hp)(k:AV->Hp->R1):R1:=match w with|some true=>ve r k|some false=>k .undef H|none=>.bad
def aM(want:Bool)(v:AV):Option Bool:=match v with| .bool b=>some (b==want)| .undef=>some false|_=>none
def cd(x:AV)(a b:R1):R1:=match x with| .bool true=>a| .bool false=>b|_=>.bad
/- steps of a region that draws its order -/
def dq0(lk al:Bool)(i A nm:Nat)(H:Hp)(p:List Pd)(w:List Wt)(f:Hp->R0)(g:Option Bool)(k:AV->Hp->List Pd->List Wt->R1):R1:=
 match g with
 |none=>.bad
 |some false=>k .undef H p w
 |some true=>match f (bQ A p H)with
  | .bad=>.bad
  | .val v=>k v H p (bif lk then⟨i,A,f,v⟩::w else w)
  | .new v b=>bif al&&b.wr then k v H (⟨i,nm,b⟩::p) w else .bad
def de0(A:Nat)(H:Hp)(p:List Pd)(w:List Wt)(r:R1)(g:Option Bool)(k:AV->Hp->List Pd->List Wt->R1):R1:=
 match g with
 |none=>.bad
 |some false=>k .undef H p w
 |some true=>match r with
  | .bad=>.bad
  | .ok v H'=>bif yO (pM A p) H' (pK A w)then k v H' (pM A p) (pK A w)else .bad
def vl(r:R0)(k:AV->R1):R1:=match r with| .bad=>.bad| .val v=>k v| .new _ _=>.bad
def zQ(w:Option Bool)(r:R0)(k:AV->R1):R1:=match w with|some true=>vl r k|some false=>k .undef|none=>.bad
/- constants that cannot be taken apart: so two sides are compared argument by argument -/
def vg:Option Bool->R0->Hp->(AV->Hp->R1)->R1:=Classical.choose (⟨vg0,rfl⟩:∃ f,f=vg0)
theorem zvl:vg=vg0:=Classical.choose_spec (⟨vg0,rfl⟩:∃ f,f=vg0)
def qG:Option Bool->R1->Hp->(AV->Hp->R1)->R1:=Classical.choose (⟨aBN,rfl⟩:∃ f,f=aBN)
theorem zeb:qG=aBN:=Classical.choose_spec (⟨aBN,rfl⟩:∃ f,f=aBN)
def rQ:Option Bool->R0->(AV->R1)->R1:=Classical.choose (⟨zQ,rfl⟩:∃ f,f=zQ)
theorem q3k:rQ=zQ:=Classical.choose_spec (⟨zQ,rfl⟩:∃ f,f=zQ)
def dq:Bool->Bool->Nat->Nat->Nat->Hp->List Pd->List Wt->(Hp->R0)->Option Bool->(AV->Hp->List Pd->List Wt->R1)->R1:=Classical.choose (⟨dq0,rfl⟩:∃ f,f=dq0)
theorem zo4:dq=dq0:=Classical.choose_spec (⟨dq0,rfl⟩:∃ f,f=dq0)
def de:Nat->Hp->List Pd->List Wt->R1->Option Bool->(AV->Hp->List Pd->List Wt->R1)->R1:=Classical.choose (⟨de0,rfl⟩:∃ f,f=de0)
theorem zo5:de=de0:=Classical.choose_spec (⟨de0,rfl⟩:∃ f,f=de0)
theorem q5k(put:TT AV d->AV->TT AV d)(L:TT AV d)(H:Hp)(r:R0)(k:TT AV d->Hp->R1):oC (doQ put L H r) k=vq r H fun v H=>k (put L v) H:=by cases r<;>rfl
theorem q5l(put:TT AV d->AV->TT AV d)(L:TT AV d)(r:R1)(k:TT AV d->Hp->R1):oC (doE put L r) k=ve r fun v H=>k (put L v) H:=by cases r<;>rfl
structure StC(d:Nat) where f:Ev.Call->TT AV d->Hp->(TT AV d->Hp->R1)->R1
def zep(P:Program)(d n:Nat)(ops:Array Oper)(o:Oper):StC d:=
 match gV P d n o,o.guard,qW d n ops o,dR d n o.dst with
 | .q _ f,none,_,⟨put⟩=>⟨fun _ L H k=>vq (f H.nx L H) H fun v H=>k (put L v) H⟩
 | .e f,none,_,⟨put⟩=>⟨fun call L H k=>ve (f call L H) fun v H=>k (put L v) H⟩
 | .q _ f,some _,⟨w⟩,⟨put⟩=>⟨fun _ L H k=>vg (w L) (f H.nx L H) H fun v H=>k (put L v) H⟩
 | .e f,some _,⟨w⟩,⟨put⟩=>⟨fun call L H k=>qG (w L) (f call L H) H fun v H=>k (put L v) H⟩
theorem zeo(P:Program)(d n:Nat)(ops:Array Oper)(o:Oper)(call:Ev.Call)(L:TT AV d)(H:Hp)(k:TT AV d->Hp->R1):oC ((vV P d n ops o).f call L H) k=(zep P d n ops o).f call L H k:=by
 unfold vV zep;generalize gV P d n o=x;generalize o.guard=g;generalize qW d n ops o=w;generalize dR d n o.dst=p;obtain⟨w⟩:=w;cases x with
 |q l f=>cases g with
  |none=>exact q5k ..
  |some j=>
   show oC (ifW (w L) _ _) k=vg (w L) _ H _;rw[zvl];cases h:w L with
   |none=>rfl
   |some b=>cases b with
    |true=>exact q5k ..
    |false=>rfl
 |e f=>cases g with
  |none=>exact q5l ..
  |some j=>
   show oC (ifW (w L) _ _) k=qG (w L) _ H _;rw[zeb];cases h:w L with
   |none=>rfl
   |some b=>cases b with
    |true=>exact q5l ..
    |false=>rfl
def q3u(P:Program)(d n:Nat)(ops:Array Oper)(o:Oper):StC d:=
 match xB o with
 |none=>zep P d n ops o
 |some _=>match yM P d n ops o with|⟨g⟩=>⟨fun call L H k=>oC (g call L H) k⟩
theorem zeq(P:Program)(d n:Nat)(ops:Array Oper)(o:Oper)(call:Ev.Call)(L:TT AV d)(H:Hp)(k:TT AV d->Hp->R1):oC ((yM P d n ops o).f call L H) k=(q3u P d n ops o).f call L H k:=by
 unfold q3u;cases h:xB o with
 |none=>simp only;rw[<-zeo];unfold yM;rw[h]
 |some c=>rfl
def aCO(P:Program)(d n:Nat)(ops:Array Oper):List Oper->StC d
 | []=>⟨fun _ L H k=>k L H⟩
 |o::r=>match q3u P d n ops o,aCO P d n ops r with|⟨g⟩,⟨h⟩=>⟨fun call L H k=>g call L H fun L H=>h call L H k⟩
theorem zfx(P:Program)(d n:Nat)(ops:Array Oper)(call:Ev.Call):∀(l:List Oper) (L:TT AV d) (H:Hp) (k:TT AV d->Hp->R1), oC ((oU P d n ops l).f call L H) k=(aCO P d n ops l).f call L H k
 | [],_,_,_=>rfl
 |o::r,L,H,k=>by
  show oC (q78 ((yM P d n ops o).f call L H) ((oU P d n ops r).f call)) k=(q3u P d n ops o).f call L H fun L H=>(aCO P d n ops r).f call L H k;rw[<-zeq];cases (yM P d n ops o).f call L H with
  |bad=>rfl
  |ok L H=>exact zfx P d n ops call r L H k
structure SxC(d:Nat) where f:Ev.Call->Nat->TT AV d->Hp->List Pd->List Wt->(TT AV d->Hp->List Pd->List Wt->R1)->R1
def qpr(P:Program)(d n:Nat)(ops:Array Oper)(i A:Nat)(o:Oper):SxC d:=
 match gV P d n o,lX d n (kL ops o),qW d n ops o,dR d n o.dst with
 | .q lk f,⟨pj⟩,⟨w⟩,⟨put⟩=>⟨fun _ base L H p ws k=>dq lk (qg2 o.op&& !lk) i A (base+i) H p ws (f (base+i) (pj L)) (w (pj L)) fun v H p ws=>k (put L v) H p ws⟩
 | .e f,⟨pj⟩,⟨w⟩,⟨put⟩=>⟨fun call _ L H p ws k=>de A H p ws (f call (pj L) (bQ A p H)) (w (pj L)) fun v H p ws=>k (put L v) H p ws⟩
theorem zen(P:Program)(d n:Nat)(ops:Array Oper)(i A:Nat)(o:Oper)(call:Ev.Call)(base:Nat)(L:TT AV d)(H:Hp)(p:List Pd)(ws:List Wt)(k:TT AV d->Hp->List Pd->List Wt->R1):aFY ((qu9 P d n ops i A o).f call base L H p ws) k=(qpr P d n ops i A o).f call base L H p ws k:=by
 unfold qu9 qpr;generalize gV P d n o=x;generalize lX d n (kL ops o)=j;generalize qW d n ops o=w;generalize dR d n o.dst=pt;obtain⟨w⟩:=w;obtain⟨j⟩:=j;cases x with
 |q lk f=>
  dsimp only;rw[zo4];unfold qX dq0;cases w (j L)with
  |none=>rfl
  |some b=>cases b with
   |false=>rfl
   |true=>
    cases f (base+i) (j L) (bQ A p H)with
    |bad=>rfl
    |val v=>rfl
    |new v b=>simp only;cases (qg2 o.op&& !lk&&b.wr)<;>rfl
 |e f=>
  dsimp only;rw[zo5];unfold eX de0;cases w (j L)with
  |none=>rfl
  |some b=>cases b with
   |false=>rfl
   |true=>
    cases f call (j L) (bQ A p H)with
    |bad=>rfl
    |ok v H'=>simp only;cases yO (pM A p) H' (pK A ws)<;>rfl
def qnx(P:Program)(d n:Nat)(ops:Array Oper)(ms:List Nat):List Nat->SxC d
 | []=>⟨fun _ _ L H p w k=>k L H p w⟩
 |i::r=>match ops[i]? with
  |some o=>match qpr P d n ops i (ms.getD i 0) o,qnx P d n ops ms r with|⟨g⟩,⟨h⟩=>⟨fun call base L H p w k=>g call base L H p w fun L H p w=>h call base L H p w k⟩
  |none=>⟨fun _ _ _ _ _ _ _=>.bad⟩
theorem q4q(P:Program)(d n:Nat)(ops:Array Oper)(ms:List Nat)(call:Ev.Call)(base:Nat):∀(l:List Nat) (L:TT AV d) (H:Hp) (p:List Pd) (w:List Wt) (k:TT AV d->Hp->List Pd->List Wt->R1), aFY ((rG P d n ops ms l).f call base L H p w) k=(qnx P d n ops ms l).f call base L H p w k
 | [],_,_,_,_,_=>rfl
 |i::r,L,H,p,w,k=>by
  unfold rG qnx;cases ops[i]? with
  |none=>rfl
  |some o=>
   show aFY (zya ((qu9 P d n ops i (ms.getD i 0) o).f call base L H p w) ((rG P d n ops ms r).f call base)) k=(qpr P d n ops i (ms.getD i 0) o).f call base L H p w fun L H p w=>(qnx P d n ops ms r).f call base L H p w k;rw[<-zen];cases (qu9 P d n ops i (ms.getD i 0) o).f call base L H p w with
   |bad=>rfl
   |ok L H p w=>exact q4q P d n ops ms call base r L H p w k
def zxr(P:Program)(d n:Nat)(ops:Array Oper):StC d:=
 match q00 P d n ops with
 |none=>⟨fun _ _ _ _=>.bad⟩
 |some pl=>match qnx P d n ops pl.ms pl.ord with
  |⟨g⟩=>⟨fun call L H k=>g call H.nx L ⟨H.t,H.nx+pl.up⟩ [] [] fun L H p _=>k L (lW p H)⟩
theorem zo3(P:Program)(d n:Nat)(ops:Array Oper)(call:Ev.Call)(L:TT AV d)(H:Hp)(k:TT AV d->Hp->R1):oC ((qke P d n ops).f call L H) k=(zxr P d n ops).f call L H k:=by
 unfold qke zxr;cases q00 P d n ops with
 |none=>rfl
 |some pl=>show oC (match(rG P d n ops pl.ms pl.ord).f call H.nx L ⟨H.t,H.nx+pl.up⟩ [] []with| .bad=>.bad| .ok L' H' pend _=>.ok L' (lW pend H')) k=(qnx P d n ops pl.ms pl.ord).f call H.nx L ⟨H.t,H.nx+pl.up⟩ [] [] fun L H p _=>k L (lW p H);rw[<-q4q];cases (rG P d n ops pl.ms pl.ord).f call H.nx L ⟨H.t,H.nx+pl.up⟩ [] []<;>rfl
/- regions that draw their order, without effects and new blocks -/
def q4k(P:Program)(d n:Nat)(ops:Array Oper)(i:Nat):Bool:=match ops[i]? with|some o=> !isE (gV P d n o)&& !qg2 o.op|none=>false
def zw1(P:Program)(d n:Nat)(ops:Array Oper)(i:Nat)(o:Oper):StC d:=
 match gV P d n o,lX d n (kL ops o),o.guard,qW d n ops o,dR d n o.dst with
 | .q _ f,⟨pj⟩,none,_,⟨put⟩=>⟨fun _ L H k=>vl (f (H.nx+i) (pj L) H) fun v=>k (put L v) H⟩
 | .q _ f,⟨pj⟩,some _,⟨w⟩,⟨put⟩=>⟨fun _ L H k=>rQ (w (pj L)) (f (H.nx+i) (pj L) H) fun v=>k (put L v) H⟩
 | .e _,_,_,_,_=>⟨fun _ _ _ _=>.bad⟩
def q03(P:Program)(d n:Nat)(ops:Array Oper):List Nat->StC d
 | []=>⟨fun _ L H k=>k L H⟩
 |i::r=>match ops[i]? with
  |some o=>match zw1 P d n ops i o,q03 P d n ops r with|⟨g⟩,⟨h⟩=>⟨fun call L H k=>g call L H fun L H=>h call L H k⟩
  |none=>⟨fun _ _ _ _=>.bad⟩
theorem zsb(lk:Bool)(i A nm:Nat)(H:Hp)(w:List Wt)(f:Hp->R0)(g:Option Bool)(k:AV->Hp->List Pd->List Wt->R1)(k':AV->R1)(h:∀ v w,k v H [] w=k' v):dq lk false i A nm H [] w f g k=rQ g (f H) k':=by
 rw[zo4,q3k];unfold dq0 zQ;cases g with
 |none=>rfl
 |some b=>cases b with
  |false=>exact h _ _
  |true=>
   show(match f H with| .bad=>R1.bad| .val v=>_| .new v b=>_)=vl (f H) k';cases f H with
   |bad=>rfl
   |val v=>exact h _ _
   |new v b=>rfl
theorem qtb(P:Program)(d n:Nat)(ops:Array Oper)(ms:List Nat)(call:Ev.Call)(H:Hp):∀(l:List Nat),l.all (q4k P d n ops)=true->∀(L:TT AV d) (w:List Wt) (k:TT AV d->Hp->R1), (qnx P d n ops ms l).f call H.nx L H [] w (fun L H p _=>k L (lW p H))=(q03 P d n ops l).f call L H k
 | [],_,_,_,_=>rfl
 |i::r,hl,L,w,k=>by
  rw[List.all_cons,Bool.and_eq_true]at hl;have hq:=hl.1;unfold q4k at hq;unfold qnx q03;cases ho:ops[i]? with
  |none=>simp[ho]at hq
  |some o=>
   rw[ho]at hq;simp only[Bool.and_eq_true,Bool.not_eq_true']at hq;show(qpr P d n ops i (ms.getD i 0) o).f call H.nx L H [] w (fun L H' p w=>(qnx P d n ops ms r).f call H.nx L H' p w (fun L H p _=>k L (lW p H)))=(zw1 P d n ops i o).f call L H fun L H=>(q03 P d n ops r).f call L H k;unfold qpr zw1;have hal:=hq.2;have hE:=hq.1;have hw:o.guard=none->(qW d n ops o).f=fun _=>some true:=fun hg=>by unfold qW;rw[hg]
   generalize qW d n ops o=x1 at hw;generalize gV P d n o=x2 at hE;generalize lX d n (kL ops o)=x3;generalize dR d n o.dst=x4;obtain⟨x1⟩:=x1;obtain⟨x3⟩:=x3;obtain⟨x4⟩:=x4;cases x2 with
   |e f=>cases hE
   |q lk f=>
    cases hg:o.guard with
    |none=>have e:=hw hg;subst e;rw[hal];refine(zsb lk i _ _ H w _ (some true) _ (fun v=>(q03 P d n ops r).f call (x4 L v) H k) fun v w=>?_).trans (by rw[q3k];rfl);exact qtb P d n ops ms call H r hl.2 (x4 L v) w k
    |some j=>rw[hal];exact zsb lk i _ _ H w _ (x1 (x3 L)) _ (fun v=>(q03 P d n ops r).f call (x4 L v) H k) fun v w=>qtb P d n ops ms call H r hl.2 (x4 L v) w k
def zxq(P:Program)(d n:Nat)(ops:Array Oper):StC d:=
 match q00 P d n ops with
 |none=>⟨fun _ _ _ _=>.bad⟩
 |some pl=>match pl.ord.all (q4k P d n ops)&&Nat.beq pl.up 0,q03 P d n ops pl.ord,qnx P d n ops pl.ms pl.ord with
  |true,⟨g⟩,_=>⟨g⟩
  |false,_,⟨g⟩=>⟨fun call L H k=>g call H.nx L ⟨H.t,H.nx+pl.up⟩ [] [] fun L H p _=>k L (lW p H)⟩
theorem zo2(P:Program)(d n:Nat)(ops:Array Oper)(call:Ev.Call)(L:TT AV d)(H:Hp)(k:TT AV d->Hp->R1):oC ((qke P d n ops).f call L H) k=(zxq P d n ops).f call L H k:=by
 rw[zo3];unfold zxr zxq;cases q00 P d n ops with
 |none=>rfl
 |some pl=>
  dsimp only;cases hq:(pl.ord.all (q4k P d n ops)&&Nat.beq pl.up 0)with
  |false=>rfl
  |true=>rw[Bool.and_eq_true]at hq;have hu:=Nat.eq_of_beq_eq_true hq.2;rw[hu];exact qtb P d n ops pl.ms call H pl.ord hq.1 L [] k
def thn(b:TT AV d->Hp->R1)(K:Kt d):Kt d:=fun e L H=>match e with| .normal=>b L H|e=>K e L H
def vH(id:Nat)(K:Kt d):Kt d:=fun e L H=>match e with| .exit i=>bif Nat.beq i id then K .normal L H else K (.exit i) L H|e=>K e L H
structure DnC(d:Nat) where f:Ev.Call->TT AV d->Hp->Kt d->R1
def mZ(P:Program)(d n:Nat):Code->DnC d
 | .skip| .label _=>⟨fun _ L H K=>K .normal L H⟩
 | .region _ ops false=>match aCO P d n ops ops.toList with|⟨g⟩=>⟨fun call L H K=>g call L H (K .normal)⟩
 | .region _ ops true=>match zxq P d n ops with|⟨g⟩=>⟨fun call L H K=>g call L H (K .normal)⟩
 | .seq a b=>match mZ P d n a,mZ P d n b with|⟨f⟩,⟨g⟩=>⟨fun call L H K=>f call L H (thn (fun L H=>g call L H K) K)⟩
 | .cond x a b=>match aH d n x,mZ P d n a,mZ P d n b with|⟨g⟩,⟨f⟩,⟨h⟩=>⟨fun call L H K=>cd (g L) (f call L H K) (h call L H K)⟩
 | .block id b=>match mZ P d n b with|⟨f⟩=>⟨fun call L H K=>f call L H (vH id K)⟩
 | .scope b=>mZ P d n b
 | .exit id=>⟨fun _ L H K=>K (.exit id) L H⟩
 | .ret=>⟨fun _ L H K=>K .ret L H⟩
 |c=>match den P d n c with|⟨g⟩=>⟨fun call L H K=>fin (g call L H) K⟩
theorem q5j(r:Rs d)(K:Kt d):fin (lZ r) K=oC r (K .normal):=by cases r<;>rfl
theorem q1g(r:Rc d)(k:TT AV d->Hp->Rc d)(K:Kt d):fin (qE r k) K=fin r (thn (fun L H=>fin (k L H) K) K):=by
 cases r with
 |bad=>rfl
 |ok e L H=>cases e<;>rfl
theorem qwt(id:Nat)(r:Rc d)(K:Kt d):fin (qqp id r) K=fin r (vH id K):=by
 cases r with
 |bad=>rfl
 |ok e L H=>
  cases e with
  |exit i=>show fin (bif Nat.beq i id then _ else _) K=bif Nat.beq i id then _ else _;cases Nat.beq i id<;>rfl
  |_=>rfl
theorem qf1(P:Program)(d n:Nat)(call:Ev.Call):∀(c:Code) (L:TT AV d) (H:Hp) (K:Kt d),fin ((den P d n c).f call L H) K=(mZ P d n c).f call L H K
 | .skip,_,_,_| .label _,_,_,_| .exit _,_,_,_| .ret,_,_,_| .goto _,_,_,_| .loop _,_,_,_| .rangeFunc ..,_,_,_| .refuse _,_,_,_=>rfl
 | .region _ ops false,L,H,K=>(q5j ..).trans (zfx ..)
 | .region _ ops true,L,H,K=>(q5j ..).trans (zo2 ..)
 | .seq a b,L,H,K=>by refine(q1g ((den P d n a).f call L H) ((den P d n b).f call) K).trans ?_;rw[qf1 P d n call a];show(mZ P d n a).f call L H (thn (fun L H=>fin ((den P d n b).f call L H) K) K)=(mZ P d n a).f call L H (thn (fun L H=>(mZ P d n b).f call L H K) K);congr 2;funext L H;exact qf1 P d n call b L H K
 | .cond x a b,L,H,K=>by
  show fin (condC ((aH d n x).f L) ((den P d n a).f call L H) ((den P d n b).f call L H)) K=cd ((aH d n x).f L) ((mZ P d n a).f call L H K) ((mZ P d n b).f call L H K);rw[<-qf1 P d n call a,<-qf1 P d n call b];generalize (aH d n x).f L=v;cases v with
  |bool q=>cases q<;>rfl
  |_=>rfl
 | .block id b,L,H,K=>(qwt ..).trans (qf1 P d n call b L H (vH id K))
 | .scope b,L,H,K=>qf1 P d n call b L H K
def Lk(P:Program)(d n:Nat)(call:Ev.Call)(c:Code)(K:Kt d)(D:TT AV d->Hp->R1):Prop:=∀ L H,fin ((den P d n c).f call L H) K=D L H
variable {P:Program} {n:Nat} {call:Ev.Call} {K:Kt d}
theorem p5{c:Code}{D:TT AV d->Hp->R1}(h:∀ L H,(mZ P d n c).f call L H K=D L H):Lk P d n call c K D:=fun L H=>(qf1 P d n call c L H K).trans (h L H)
theorem q0{a b:Code}{D E:TT AV d->Hp->R1}(hb:Lk P d n call b K E)(ha:Lk P d n call a (thn E K) D):Lk P d n call (.seq a b) K D:=fun L H=>by refine(q1g ((den P d n a).f call L H) ((den P d n b).f call) K).trans ?_;rw[show(fun L H=>fin ((den P d n b).f call L H) K)=E from funext fun L=>funext fun H=>hb L H];exact ha L H
theorem r8{id:Nat}{b:Code}{D:TT AV d->Hp->R1}(h:Lk P d n call b (vH id K) D):Lk P d n call (.block id b) K D:=fun L H=>(qwt ..).trans (h L H)
theorem p7{b:Code}{D:TT AV d->Hp->R1}(h:Lk P d n call b K D):Lk P d n call (.scope b) K D:=h
theorem pB{x:Operand}{a b:Code}{A B:TT AV d->Hp->R1}(ha:Lk P d n call a K A)(hb:Lk P d n call b K B):Lk P d n call (.cond x a b) K (fun L H=>cd ((aH d n x).f L) (A L H) (B L H)):=fun L H=>by
 show fin (condC ((aH d n x).f L) ((den P d n a).f call L H) ((den P d n b).f call L H)) K=cd ((aH d n x).f L) (A L H) (B L H);rw[<-ha L H,<-hb L H];generalize (aH d n x).f L=v;cases v with
 |bool q=>cases q<;>rfl
 |_=>rfl
def dO:Nat:=Classical.choose (⟨cK,rfl⟩:∃ n,n=cK)
theorem dH:dO=cK:=Classical.choose_spec (⟨cK,rfl⟩:∃ n,n=cK)
theorem pT{b:Code}{D:Nat->TT AV d->Hp->R1}(hs:∀ k,Lk P d n call b (thn (D k) K) (D (k+1)))(h0:∀ L H,D 0 L H=.bad:=by intros;kernel_rfl):Lk P d n call (.loop b) K (D dO):=by
 have main:∀ k L H,fin (qn0 ((den P d n b).f call) k L H) K=D k L H:=by
  intro k
  induction k with
  |zero=>intro L H;exact(h0 L H).symm
  |succ k ih=>intro L H;show fin (qE ((den P d n b).f call L H) (qn0 ((den P d n b).f call) k)) K=_;rw[q1g,show(fun L H=>fin (qn0 ((den P d n b).f call) k L H) K)=D k from funext fun L=>funext fun H=>ih L H];exact hs k L H
 rw[dH];exact fun L H=>main cK L H
theorem p0{c:Code}{D E:TT AV d->Hp->R1}(h:Lk P d n call c K D)(e:∀ L H,D L H=E L H:=by intros;kernel_rfl):Lk P d n call c K E:=fun L H=>(h L H).trans (e L H)
def aFA(n:Nat)(call:Ev.Call)(res:TT AV d->Hp->Option AV):Kt d:=fun e L H=>match e with| .normal=>iB n call res L H| .ret=>iB n call res L H|_=>.bad
theorem zv4(n:Nat)(call:Ev.Call)(res:TT AV d->Hp->Option AV)(r:Rc d):aBx n call res r=fin r (aFA n call res):=by
 cases r with
 |bad=>rfl
 |ok e L H=>cases e<;>rfl
def codeOf(f:Func):Code:=match f.body with|some c=>c|none=>.skip
theorem zop{f:FuncId}{F:Func}(hf:P.funcs[f]? =some F)(hn:(F.name == "runtime.NumGoroutine")=false) (hb:F.body.isSome=true) {args:List AV} (ha:(Nat.ble args.length F.ntmps&&Nat.ble (F.ntmps+1) 262144)=true)
  {D:TT AV (iJ (F.ntmps+1))->Hp->R1} (h:Lk P (iJ (F.ntmps+1)) F.ntmps call (codeOf F) (aFA F.ntmps call (zU P (iJ (F.ntmps+1)) F.ntmps F.results.toList).f) D) (H:Hp) :
  (aP P f).f call args H=D (mU args 0 (same .undef _)) H:=by
 unfold aP;rw[hf];simp only[hn,Bool.false_eq_true,if_false];unfold codeOf at h;cases hc:F.body with
 |none=>rw[hc]at hb;cases hb
 |some c=>rw[hc]at h;show(bif Nat.ble args.length F.ntmps&&Nat.ble (F.ntmps+1) 262144 then aBx F.ntmps call _ _ else .bad)=_;rw[ha,<-h _ H];exact zv4 ..
end Go.Di
namespace Go.Di
open Go.Ev
variable {d n:Nat} {P:Program} {call:Ev.Call}
def qjh:Code->Bool
 | .region _ ops _=> !(ops.toList.any pN)
 | .seq a b=>qjh a&&qjh b
 | .cond _ a b=>qjh a&&qjh b
 | .block _ b=>qjh b
 | .loop b=>qjh b
 | .scope b=>qjh b
 | .rangeFunc .. =>true
 |_=>true
theorem zhx{o:Oper}(h:pN o=false):xB o=none:=by
 unfold pN at h;unfold xB;split
 ·simp_all
 ·rfl
theorem qv6(hn:n<8 ^ d){ops:Array Oper}:∀(l:List Oper),l.any pN=false->∀{L:TT AV d} {H:Hp} {L':TT AV d} {H':Hp},(oU P d n ops l).f call L H=.ok L' H'->(dG d n).f L'=(dG d n).f L
 | [],_,L,H,L',H',h=>by cases h;rfl
 |o::r,hl,L,H,L',H',h=>by
  rw[List.any_cons,Bool.or_eq_false_iff]at hl;have h':q78 ((yM P d n ops o).f call L H) ((oU P d n ops r).f call)=.ok L' H':=h;cases h1:(yM P d n ops o).f call L H with
  |bad=>rw[h1]at h';cases h'
  |ok L1 H1=>rw[h1]at h';unfold yM at h1;rw[zhx hl.1]at h1;exact(qv6 hn r hl.2 h').trans (qps hn h1)
theorem qd5(hn:n<8 ^ d):∀(c:Code),qjh c=true->∀{L:TT AV d} {H:Hp} {e:Ex} {L':TT AV d} {H':Hp},(den P d n c).f call L H=.ok e L' H'->(dG d n).f L'=(dG d n).f L
 | .skip,_,_,_,_,_,_,h| .label _,_,_,_,_,_,_,h| .exit _,_,_,_,_,_,_,h| .ret,_,_,_,_,_,_,h=>by cases h;rfl
 | .goto _,_,_,_,_,_,_,h| .refuse _,_,_,_,_,_,_,h=>by cases h
 | .rangeFunc f ps sa bd,_,L,H,e,L',H',h=>by
  rw[den]at h;split at h
  ·cases h
  ·rename_i g _ _;have h:endLoop H.nx (qf4 call (g L) [.yield H.nx] (aS H (.loop true none d n L ps.toList sa bd))) L=.ok e L' H':=h;unfold endLoop at h;split at h
   ·cases h
   ·split at h<;>first|(cases h;rfl)|cases h
 | .region _ ops false,hc,L,H,e,L',H',h=>by
  have h':lZ ((oU P d n ops ops.toList).f call L H)=.ok e L' H':=h;cases h1:(oU P d n ops ops.toList).f call L H with
  |bad=>rw[h1]at h';cases h'
  |ok L1 H1=>rw[h1]at h';cases h';exact qv6 hn _ (by simpa [qjh] using hc) h1
 | .region _ ops true,_,L,H,e,L',H',h=>by
  have h':lZ ((qke P d n ops).f call L H)=.ok e L' H':=h;cases h1:(qke P d n ops).f call L H with
  |bad=>rw[h1]at h';cases h'
  |ok L1 H1=>rw[h1]at h';cases h';exact qql hn h1
 | .seq a b,hc,L,H,e,L',H',h=>by
  simp only[qjh,Bool.and_eq_true]at hc;have h':qE ((den P d n a).f call L H) ((den P d n b).f call)=.ok e L' H':=h;cases h1:(den P d n a).f call L H with
  |bad=>rw[h1]at h';cases h'
  |ok e1 L1 H1=>
   rw[h1]at h';have g1:=qd5 hn a hc.1 h1;cases e1 with
   |normal=>exact(qd5 hn b hc.2 h').trans g1
   |exit i=>cases h';exact g1
   |goto i=>cases h';exact g1
   |ret=>cases h';exact g1
 | .cond x a b,hc,L,H,e,L',H',h=>by
  simp only[qjh,Bool.and_eq_true]at hc;have h':condC ((aH d n x).f L) ((den P d n a).f call L H) ((den P d n b).f call L H)=.ok e L' H':=h;unfold condC at h';split at h'
  ·exact qd5 hn a hc.1 h'
  ·exact qd5 hn b hc.2 h'
  ·cases h'
 | .block id b,hc,L,H,e,L',H',h=>by
  have h':qqp id ((den P d n b).f call L H)=.ok e L' H':=h;cases h1:(den P d n b).f call L H with
  |bad=>rw[h1]at h';cases h'
  |ok e1 L1 H1=>
   rw[h1]at h';have g1:=qd5 hn b hc h1;cases e1 with
   |exit i=>
    have h2:(bif Nat.beq i id then Rc.ok .normal L1 H1 else Rc.ok (.exit i) L1 H1)=.ok e L' H':=h';cases hb:Nat.beq i id with
    |true=>rw[hb]at h2;cases h2;exact g1
    |false=>rw[hb]at h2;cases h2;exact g1
   |normal=>cases h';exact g1
   |goto i=>cases h';exact g1
   |ret=>cases h';exact g1
 | .loop b,hc,L,H,e,L',H',h=>by
  have main:∀(k:Nat) {L:TT AV d} {H:Hp},qn0 ((den P d n b).f call) k L H=.ok e L' H'->(dG d n).f L'=(dG d n).f L:=by
   intro k
   induction k with
   |zero=>intro L H h;cases h
   |succ k ih=>
    intro L H h;have h':qE ((den P d n b).f call L H) (qn0 ((den P d n b).f call) k)=.ok e L' H':=h;cases h1:(den P d n b).f call L H with
    |bad=>rw[h1]at h';cases h'
    |ok e1 L1 H1=>
     rw[h1]at h';have g1:=qd5 hn b hc h1;cases e1 with
     |normal=>exact(ih h').trans g1
     |exit i=>cases h';exact g1
     |goto i=>cases h';exact g1
     |ret=>cases h';exact g1
  exact main cK h
 | .scope b,hc,L,H,e,L',H',h=>qd5 hn b hc h
def aBf(res:TT AV d->Hp->Option AV):Kt d:=fun e L H=>match e with| .normal=>eO (res L H) H| .ret=>eO (res L H) H|_=>.bad
theorem qS{c:Code}{K:Kt d}:Lk P d n call c K (fun L H=>(mZ P d n c).f call L H K):=fun L H=>qf1 P d n call c L H K
theorem kG{f:FuncId}{F:Func}(hf:P.funcs[f]? =some F)(hn:(F.name == "runtime.NumGoroutine")=false) (hb:F.body.isSome=true) (hd:qjh (codeOf F)=true) {args:List AV} (ha:(Nat.ble args.length F.ntmps&&Nat.ble (F.ntmps+1) 262144)=true)
  {D:TT AV (iJ (F.ntmps+1))->Hp->R1} (h:Lk P (iJ (F.ntmps+1)) F.ntmps call (codeOf F) (aBf (zU P (iJ (F.ntmps+1)) F.ntmps F.results.toList).f) D) (H:Hp) :
  (aP P f).f call args H=D (mU args 0 (same .undef _)) H:=by
 refine(zop hf hn hb ha (D:=fun L H=>fin ((den P (iJ (F.ntmps+1)) F.ntmps (codeOf F)).f call L H) (aFA F.ntmps call (zU P (iJ (F.ntmps+1)) F.ntmps F.results.toList).f)) (fun _ _=>rfl) H).trans ?_;rw[<-h];cases h1:(den P (iJ (F.ntmps+1)) F.ntmps (codeOf F)).f call (mU args 0 (same .undef _)) H with
 |bad=>rfl
 |ok e L' H'=>
  have hs:=qd5 (Nat.lt_of_lt_of_le (Nat.lt_succ_self _) (qbz _)) (codeOf F) hd h1;simp only[Bool.and_eq_true,Nat.ble_eq]at ha;have h0:=qi6 ha.1 ha.2;have hout:iB F.ntmps call (zU P (iJ (F.ntmps+1)) F.ntmps F.results.toList).f L' H'=eO ((zU P (iJ (F.ntmps+1)) F.ntmps F.results.toList).f L' H') H':=by unfold iB;rw[hs,h0];rfl
  cases e with
  |normal=>exact hout
  |ret=>exact hout
  |exit i=>rfl
  |goto i=>rfl
end Go.Di
end
noncomputable section
namespace Go.Di
open Go.Ev
def dz(up:Nat)(H:Hp)(k:Nat->Hp->R1):R1:=k H.nx ⟨H.t,H.nx+up⟩
def jU(p:List Pd)(H:Hp)(k:Hp->R1):R1:=k (lW p H)
def rV(r:R0):Option AV:=match r with| .val v=>some v|_=>none
def iX(a:Option AV)(b:Option (List AV)):Option (List AV):=match a,b with|some v,some l=>some (v::l)|_,_=>none
def jH(a:Option (List AV)):Option AV:=match a with|some l=>some (.aY l)|none=>none
def pA(k:Nat):P1:=⟨fun cs off=>some (.agg ((cs.drop off).take k))⟩
def p1:P1:=⟨fun cs off=>cs[off]?⟩
def aZ(x:AV):R0:=match x with| .ptr b o=>.val (.ptr b o)| .fn a b c=>.val (.fn a b c)| .yield l=>.val (.yield l)|_=>.bad
def dD(i:Nat)(x:AV):R0:=match x with| .aY l=>(match l[i]? with|some v=>.val v|none=>.bad)|_=>.bad
end Go.Di
end
noncomputable section
namespace Go.Ev
open Go.RowKit Go.Sort
variable {P:Program} {w:World} {ι:Im} {H:Hp}
def qm3:List AV->Option (List Int)
 | []=>some []
 | .int .i64 z::l=>match qm3 l with|some r=>some (z::r)|none=>none
 |_::_=>none
def zC(zs:List Int):List Int:=zs.mergeSort fun x y=>decide (x<=y)
def qvc(H:Hp)(b o n:Nat):Option R1:=
 match fU (H.get b) o n with
 |some l=>match qm3 l with
  |some zs=>match storeAt H b o ((zC zs).map fun z=>.int .i64 z) (.aY [])with
   | .ok v H'=>bif Nat.blt n 4611686018427387904 then some (.ok v H')else none
   | .bad=>none
  |none=>none
 |none=>none
def ql9(f:FuncId)(e:Ext):Ext:=fun g args H=>
 bif Nat.beq g f then(match args with
 | [.sl b o n _ _]=>qvc H b o n
 | [.aA]=>some (.ok (.aY []) H)
 |_=>none)else e g args H
theorem qqe:∀{l:List AV} {zs:List Int},qm3 l=some zs->l=zs.map fun z=>.int .i64 z
 | [],zs,h=>by cases h;rfl
 | .int .i64 z::l,zs,h=>by
  unfold qm3 at h;split at h
  ·rename_i r hr;cases h;rw[qqe hr];rfl
  ·cases h
 | .int .i8 _::_,_,h| .int .i16 _::_,_,h| .int .i32 _::_,_,h| .int .u8 _::_,_,h| .int .u16 _::_,_,h| .int .u32 _::_,_,h| .int .u64 _::_,_,h=>by cases h
 | .undef::_,_,h| .lit _::_,_,h| .bool _::_,_,h| .str _ _::_,_,h| .ptr _ _::_,_,h| .bX::_,_,h| .sl _ _ _ _ _::_,_,h| .aA::_,_,h| .sle::_,_,h| .map _::_,_,h| .dS::_,_,h| .fn _ _ _::_,_,h| .yield _::_,_,h| .jF::_,_,h| .iface _ _::_,_,h| .nH::_,_,h| .agg _::_,_,h| .aY _::_,_,h=>by cases h
def nU(P:Program)(f:FuncId):Prop:=∀(blk off cap:Nat) (zs:List Int) (w:World),Holds (Value.int .i64) w blk off zs.toArray->blk<w.heap.size->zs.length<4611686018427387904 ->
 Calls P f #[.slice (some ⟨blk,off,none⟩) zs.length cap] w fun e w'=>e=.returned (.tuple #[])/\∃ n os,w'=Go.Sort.grow (putRow (Value.int .i64) (Sort.ahead w n) blk off (zC zs).toArray) os
theorem ql7(zs:List Int):(zC zs).length=zs.length:=List.length_mergeSort _
theorem qsz{α:Type}[Inhabited α](enc:α->Value){b dd nn:Nat}{c:TT AV dd}{zz o:Nat}{loc:Loc}(hH:HR ι H w)(hg:H.get b=.cells dd nn c false zz)(hb:ι b=some loc){d0 d:Array α}(hHo:Holds enc w loc.blk (loc.base+o) d0)(hsz:d.size=d0.size){l:List AV}(hl:l.length=d.size)(hle:o+d.size<=nn)(hrep:∀ j,j<d.size->aL ι (l.getD j .undef) (enc d[j]!)/\(enc d[j]!).oneCell=true)(k:Nat)(os:Array Obj):HR ι (H.put b (.cells dd nn (mU l o c) false zz)) (Go.Sort.grow (putRow enc (Sort.ahead w k) loc.blk (loc.base+o) d) os)/\Fr ι ι H (H.put b (.cells dd nn (mU l o c) false zz)) w (Go.Sort.grow (putRow enc (Sort.ahead w k) loc.blk (loc.base+o) d) os):=by
 have hlt:=hH.lt hb;have hB:=hH.blk b hlt;rw[hg]at hB;obtain⟨l',b1,b2,b3,b4⟩:=hB;rw[hb]at b1;cases b1;have hput:HR ι (H.put b (.cells dd nn (mU l o c) false zz)) (putRow enc (Sort.ahead w k) loc.blk (loc.base+o) d)/\Fr ι ι H (H.put b (.cells dd nn (mU l o c) false zz)) w (putRow enc (Sort.ahead w k) loc.blk (loc.base+o) d):=by
  refine hH.put hlt (by rw[hg];rfl) hb _ rfl rfl rfl (by rw[size_putRow];rfl) (fun c' hc'=>?_) ?_
  ·show(w.heap.modify loc.blk _)[c']? =_;rw[Array.getElem?_modify,if_neg (by omega)]
  ·refine⟨loc,hb,b2,fun j hj=>?_,fun _ j hj=>?_⟩
   ·have b2':=b2.1;rw[qg8 _ _ _ _ (by omega) (by omega),hl];obtain⟨V,c1,c2,c3,c4⟩:=b3 j hj;by_cases hin:o<=j/\j<o+d.size
    ·rw[if_pos hin];obtain⟨e1,e2⟩:=hrep (j-o) (by omega);refine⟨enc d[j-o]!,?_,e1,e2,fun _=>?_⟩
     ·have h1:=cell?_putRow enc (Sort.ahead w k) loc.blk (loc.base+o) d0 d hHo hsz (j-o) (by omega);rwa [show loc.base+o+(j-o)=loc.base+j by omega]at h1
     ·simp_all
    ·rw[if_neg hin];refine⟨V,?_,c2,c3,fun _=>?_⟩
     ·rw[cell?_putRow_other _ _ _ _ _ _ (.inr (by simp only;omega))];exact c1
     ·simp_all
   ·have h4:=b4 rfl j hj;rw[frozen?_putRow,cell?_putRow_other _ _ _ _ _ _ (.inr (by simp only;omega))];exact h4
 obtain⟨g1,g2⟩:=hput;have hbel:Below (putRow enc (Sort.ahead w k) loc.blk (loc.base+o) d).heap.size (putRow enc (Sort.ahead w k) loc.blk (loc.base+o) d) (Go.Sort.grow (putRow enc (Sort.ahead w k) loc.blk (loc.base+o) d) os):=⟨rfl,rfl,rfl,by rw[Go.Sort.size_grow];omega,fun c hc=>Go.Sort.heap_grow_old _ _ hc⟩;obtain⟨g3,g4⟩:=g1.of_below hbel;exact⟨g3,g2.trans g4⟩
theorem qen{b:bM}{o n:Nat}{l:List AV}(h:fU b o n=some l):∃ dd nn c ro zz,b=.cells dd nn c ro zz/\o+n<=nn/\l.length=n/\∀ j,j<n->l[j]? =some ((dG dd (o+j)).f c):=by
 cases b with
 |cells dd nn c ro zz=>
  have h:(bif Nat.ble (o+n) nn then some (q8 c n o)else none)=some l:=h;cases hon:Nat.ble (o+n) nn with
  |false=>rw[hon]at h;cases h
  |true=>rw[hon]at h;simp only[cond_true,Option.some.injEq]at h;subst h;exact⟨dd,nn,c,ro,zz,rfl,mX hon,qgf c n o,zfd c n o⟩
 |_=>cases h
theorem qev{b o:Nat}{l:List AV}{v v':AV}{H':Hp}{dd nn zz:Nat}{c:TT AV dd}{ro:Bool}(hg:H.get b=.cells dd nn c ro zz)(h:storeAt H b o l v=.ok v' H'):ro=false/\v'=v/\H'=H.put b (.cells dd nn (mU l o c) false zz)/\o+l.length<=nn:=by
 unfold storeAt vZ at h;rw[hg]at h;cases ro with
 |true=>cases h
 |false=>
  dsimp only at h;cases hle:Nat.ble (o+l.length) nn with
  |false=>rw[hle]at h;cases h
  |true=>rw[hle]at h;cases h;exact⟨rfl,rfl,rfl,mX hle⟩
theorem zm2{f:FuncId}(hf:nU P f){b o n m:Nat}{x:Bool}{v:AV}{H':Hp}(h:qvc H b o n=some (.ok v H')){bC:List Value}(hH:HR ι H w)(ha:aI ι [.sl b o n m x] bC):Calls P f bC.toArray w (Post ι H w v H'):=by
 obtain⟨V,r,rfl,⟨hnm,loc,hb,rfl⟩,rfl⟩:=ha;unfold qvc at h;split at h
 ·rename_i l hl;split at h
  ·rename_i zs hz;have hlz:=qqe hz;split at h
   ·rename_i v' H2 hst;cases hn:Nat.blt n 4611686018427387904 with
    |false=>rw[hn]at h;cases h
    |true=>
     rw[hn]at h;cases h;have hn:=mX hn;obtain⟨dd,nn,c,ro,zz,hg,hle,hll,hget⟩:=qen hl;obtain⟨rfl,rfl,rfl,_⟩:=qev hg hst;have hlt:=hH.lt hb;have hB:=hH.blk b hlt;rw[hg]at hB;obtain⟨l',b1,b2,b3,b4⟩:=hB;rw[hb]at b1;cases b1;have hzn:zs.length=n:=by rw[<-hll,hlz,List.length_map]
     subst hzn;have hcell:∀ j,j<zs.length->(dG dd (o+j)).f c=.int .i64 zs[j]! :=fun j hj=>by simp_all
     have hHo:Holds (Value.int .i64) w loc.blk (loc.base+o) zs.toArray:=fun j hj=>by
      have hj:j<zs.length:=by simpa using hj
      obtain⟨V,c1,c2,c3,c4⟩:=b3 (o+j) (by omega);rw[hcell j hj]at c2;subst c2;rw[<-Nat.add_assoc]at c1 c4;refine⟨?_,c4 rfl⟩;rw[c1];simp
     have hbs:loc.blk<w.heap.size:=hH.low b loc hlt (by rw[hg];rfl) hb;refine(hf loc.blk (loc.base+o) (if x then m else m+loc.ext) zs w hHo hbs hn).mono fun e w' hp=>?_;obtain⟨rfl,k,os,rfl⟩:=hp;obtain⟨g1,g2⟩:=qsz (Value.int .i64) hH hg hb hHo (d:=(zC zs).toArray) (l:=(zC zs).map fun z=>.int .i64 z) (by simp[ql7]) (by simp) (by simp[ql7];omega) (fun j hj=>by
      have hj:j<(zC zs).length:=by simpa using hj
      refine⟨?_,rfl⟩;rw[List.getD_eq_getElem?_getD,List.getElem?_map,List.getElem?_eq_getElem hj];simp[hj,aL]) k os
     exact⟨ι,by simp only[aL,aI];exact⟨[],rfl,rfl⟩,g1,g2⟩
   ·cases h
  ·cases h
 ·cases h
def zix(P:Program)(f:FuncId):Prop:=∀ w,Calls P f #[.slice none 0 0] w fun e w'=>e=.returned (.tuple #[])/\Below w.heap.size w w'
def zgv:R1->Bool
 | .ok (.aY []) _=>true
 | .ok _ _=>false
 | .bad=>false
theorem qnw(hm:P.follows .mixedOrders=true){ext:Ext}(hE:uV P ext){k:Nat}{f:FuncId}(h:zgv (gD P ext k (.f f) [.aA] Hp.empty)=true):zix P f:=by
 intro w;unfold zgv at h;split at h
 ·rename_i H' he;have:=((qii hm hE k).fn _ _ _ _ _ he (fun _=>none) w [.slice none 0 0] HR.empty (by simp[aI,aL])).2 0;refine(callsIn_wide.1 this).mono fun e w' hp=>?_;cases e with
  |returned V=>obtain⟨ι',h1,h2,h3⟩:=hp;obtain⟨r,rfl,h1⟩:=h1;exact⟨by simp[h1],h3.below _ (Nat.le_refl _) fun b l _ _ h=>by cases h⟩
  |panicked=>exact hp.elim
  |outgrown=>exact hp.elim
 ·cases h
 ·cases h
theorem qdp{f:FuncId}(hb:qe4 P f=true)(A:Array Value):(callFunc f A).run P w=.ok (.enter f A) w:=by
 unfold qe4 at hb;split at hb
 ·rename_i fn hfn;simp only[Bool.and_eq_true,Bool.not_eq_true']at hb;obtain⟨c,hc'⟩:=Option.isSome_iff_exists.1 hb.1
  have hname':¬ fn.name = "runtime.NumGoroutine" :=fun e=>by rw[e]at hb;simp at hb
  simp[callFunc,hfn,hname',hc']
 ·cases hb
theorem q6m{e:Ext}(he:uV P e){f:FuncId}(hf:nU P f)(hn:zix P f)(hb:qe4 P f=true):uV P (ql9 f e):=by
 refine⟨fun g args H r hr v H' hv ι w bC hH ha=>?_⟩;unfold ql9 at hr;cases hg:Nat.beq g f with
 |false=>rw[hg]at hr;exact he.fn g _ H r hr v H' hv ι w bC hH ha
 |true=>
  rw[hg]at hr;obtain rfl:=Nat.eq_of_beq_eq_true hg;refine⟨qdp hb _,fun m=>callsIn_wide.2 ?_⟩;split at hr
  ·subst hv;exact zm2 hf hr hH ha
  ·cases hr;cases hv;obtain⟨V,r,rfl,rfl,rfl⟩:=ha;refine(hn w).mono fun e w' hp=>?_;obtain⟨rfl,hw⟩:=hp;obtain⟨k1,k2⟩:=hH.of_below hw;exact⟨ι,by simp[aL,aI],k1,k2⟩
  ·cases hr
structure Eg where
 (f t:Int)
 s:Bool
 deriving Inhabited
def egV(e:Eg):List AV:=[.int .i64 e.f,.int .i64 e.t,.bool e.s]
def yU(e:Eg):List Value:=[.int .i64 e.f,.int .i64 e.t,.bool e.s]
def qng:List AV->Option (List Eg)
 | []=>some []
 | .int .i64 f:: .int .i64 t:: .bool s::l=>match qng l with|some r=>some (⟨f,t,s⟩::r)|none=>none
 |_=>none
def cI(a b:Int):Int:=if a<b then -1 else if b<a then 1 else 0
def or3(a b c:Int):Int:=if a=0 then if b=0 then c else b else a
def wM(s:Bool):Int:=if s then 1 else 0
def jG(x y:Eg):Int:=or3 (cI x.f y.f) (cI x.t y.t) (cI (wM x.s) (wM y.s))
def qj3(l:List Eg):List Eg:=l.mergeSort fun x y=> !decide (jG y x<0)
theorem q6n(l:List Eg):(qj3 l).length=l.length:=List.length_mergeSort _
theorem zhq:∀{l:List AV} {es:List Eg},qng l=some es->l=es.flatMap egV:=by
 intro l
 induction l using qng.induct with
 |case1=>intro es h;unfold qng at h;cases h;rfl
 |case2 f t s l r h1 ih=>intro es h;unfold qng at h;rw[h1]at h;cases h;rw[ih h1];rfl
 |case3 f t s l h1 _=>intro es h;unfold qng at h;simp_all
 |case4 l h1 h2=>
  intro es h;unfold qng at h;split at h
  ·trivial
  ·rename_i f t s l;exact absurd rfl (h2 f t s l)
  ·cases h
theorem zhn(es:List Eg):(es.flatMap egV).length=es.length*3:=by
 induction es with
 |nil=>rfl
 |cons a l ih=>rw[List.flatMap_cons,List.length_append,ih,List.length_cons];show 3+_=_;omega
theorem zhp:∀(es:List Eg) (t:Nat) (h:t<es.length*3),(es.flatMap egV)[t]? =(egV (es[t / 3]'(by omega)))[t%3]?
 | [],t,h=>by simp at h
 |a::l,t,h=>by
  rw[List.flatMap_cons];by_cases ht:t<3
  ·rw[List.getElem?_append_left (by show t<3;exact ht)];have h0:t / 3=0:=by omega
   have h1:t%3=t:=by omega
   simp only[h0,h1,List.getElem_cons_zero]
  ·rw[List.getElem?_append_right (by show 3<=t;omega)];show(l.flatMap egV)[t-3]? =_;rw[List.length_cons]at h;rw[zhp l (t-3) (by omega)];have h0:t / 3=(t-3) / 3+1:=by omega
   have h1:t%3=(t-3)%3:=by omega
   simp_all
theorem zrv(e:Eg){i:Nat}(hi:i<3){V:Value}:aL ι ((egV e).getD i .undef) V↔V=(yU e)[i]!:=by
 match i,hi with
 |0,_|1,_|2,_=>simp only[egV,yU];exact Iff.rfl
theorem zxn(e:Eg){i:Nat}(hi:i<3):((yU e)[i]!).oneCell=true:=by
 match i,hi with
 |0,_|1,_|2,_=>rfl
def qvg(H:Hp)(b o n:Nat):Option R1:=
 match fU (H.get b) o (n*3)with
 |some l=>match qng l with
  |some es=>match storeAt H b o ((qj3 es).flatMap egV) (.aY [])with
   | .ok v H'=>bif Nat.blt n 4611686018427387904 then some (.ok v H')else none
   | .bad=>none
  |none=>none
 |none=>none
def mE(P:Program)(f fc:FuncId):Prop:=∀(d:Array Eg) (blk off cap:Nat) (w:World),Go.Sort.HoldsK yU 3 w blk off d->blk<w.heap.size->d.size<4611686018427387904 ->
 Calls P f #[.slice (some ⟨blk,off,none⟩) d.size cap,.func (.func fc) #[] #[]] w fun e w'=>e=.returned (.tuple #[])/\∃ n os,w'=Go.Proofs.sortWorldK yU 3 w blk off n (qj3 d.toList).toArray os
def rP(P:Program)(f:FuncId):Prop:=∀ p cap fv w,Calls P f #[.slice p 0 cap,fv] w fun e w'=>e=.returned (.tuple #[])/\w'=w
def qex(f fc:FuncId)(e:Ext):Ext:=fun g args H=>
 bif Nat.beq g f then(match args with
 | [.sl b o n _ _,.fn c [] []]=>bif Nat.beq c fc then qvg H b o n else none
 | [.aA,.fn c [] []]=>bif Nat.beq c fc then some (.ok (.aY []) H)else none
 |_=>none)else e g args H
theorem zey{f fc:FuncId}(hf:mE P f fc){b o n m:Nat}{x:Bool}{v:AV}{H':Hp}(h:qvg H b o n=some (.ok v H')){bC:List Value}(hH:HR ι H w)(ha:aI ι [.sl b o n m x,.fn fc [] []] bC):Calls P f bC.toArray w (Post ι H w v H'):=by
 obtain⟨V,r,rfl,⟨hnm,loc,hb,rfl⟩,V2,r2,rfl,⟨_,_,rfl,rfl,rfl⟩,rfl⟩:=ha;unfold qvg at h;split at h
 ·rename_i l hl;split at h
  ·rename_i es hz;have hlz:=zhq hz;split at h
   ·rename_i v' H2 hst;cases hn:Nat.blt n 4611686018427387904 with
    |false=>rw[hn]at h;cases h
    |true=>
     rw[hn]at h;cases h;have hn:=mX hn;obtain⟨dd,nn,c,ro,zz,hg,hle,hll,hget⟩:=qen hl;obtain⟨rfl,rfl,rfl,_⟩:=qev hg hst;have hlt:=hH.lt hb;have hB:=hH.blk b hlt;rw[hg]at hB;obtain⟨l',b1,b2,b3,b4⟩:=hB;rw[hb]at b1;cases b1;have hes:es.length=n:=by rw[hlz,zhn]at hll;omega
     subst hes;have hk:∀(d:List Eg) (t:Nat),t<d.length*3->(Go.Sort.flatK yU 3 d.toArray)[t]! =(yU (d[t / 3]!))[t%3]! :=fun d t ht=>by rw[Go.Sort.get_flatK yU 3 d.toArray t (by simpa using ht)];simp
     have hHo:Go.Sort.HoldsK yU 3 w loc.blk (loc.base+o) es.toArray:=fun j hj=>by
      have hj:j<es.length*3:=by simpa using hj
      obtain⟨V,c1,c2,c3,c4⟩:=b3 (o+j) (by omega);have h1:=hget j hj;have h2:=zhp es j hj;rw[<-hlz,h1]at h2;have hj3:j%3<3:=Nat.mod_lt _ (by omega);have h3:(dG dd (o+j)).f c=(egV (es[j / 3]'(by omega))).getD (j%3) .undef:=by rw[List.getD_eq_getElem?_getD,<-h2];rfl
      rw[h3,zrv _ hj3]at c2;subst c2;rw[<-Nat.add_assoc]at c1 c4;refine⟨?_,c4 rfl⟩;rw[c1];show some _=some (Go.Sort.flatK yU 3 es.toArray)[j]!;rw[hk es j hj,getElem!_pos es (j / 3) (by omega)]
     have hbs:loc.blk<w.heap.size:=hH.low b loc hlt (by rw[hg];rfl) hb;have hcall:=hf es.toArray loc.blk (loc.base+o) (if x then m else m+loc.ext) w hHo hbs (by rw[List.size_toArray];omega);refine hcall.mono fun e w' hp=>?_;obtain⟨rfl,k,os,rfl⟩:=hp;have hsl:=q6n es;obtain⟨g1,g2⟩:=qsz (α:=Value) id hH hg hb hHo (d:=Go.Sort.flatK yU 3 (qj3 es).toArray) (l:=(qj3 es).flatMap egV) (by simp[hsl]) (by rw[zhn];simp) (by simp[hsl];omega) (fun j hj=>by
      have hj:j<(qj3 es).length*3:=by simpa using hj
      have hj3:j%3<3:=Nat.mod_lt _ (by omega);rw[hk _ j hj,getElem!_pos (qj3 es) (j / 3) (by omega)];refine⟨?_,zxn _ hj3⟩;rw[List.getD_eq_getElem?_getD,zhp _ j hj,<-List.getD_eq_getElem?_getD];exact(zrv _ hj3).2 rfl) k os
     exact⟨ι,by simp only[aL,aI];exact⟨[],rfl,rfl⟩,g1,g2⟩
   ·cases h
  ·cases h
 ·cases h
theorem q0l{e:Ext}(he:uV P e){f fc:FuncId}(hf:mE P f fc)(hn:rP P f)(hb:qe4 P f=true):uV P (qex f fc e):=by
 refine⟨fun g args H r hr v H' hv ι w bC hH ha=>?_⟩;unfold qex at hr;cases hg:Nat.beq g f with
 |false=>rw[hg]at hr;exact he.fn g _ H r hr v H' hv ι w bC hH ha
 |true=>
  rw[hg]at hr;obtain rfl:=Nat.eq_of_beq_eq_true hg;refine⟨qdp hb _,fun k=>callsIn_wide.2 ?_⟩;split at hr
  ·rename_i b o n m x c;cases hc:Nat.beq c fc with
   |false=>rw[hc]at hr;cases hr
   |true=>rw[hc]at hr;obtain rfl:=Nat.eq_of_beq_eq_true hc;subst hv;exact zey hf hr hH ha
  ·rename_i c;cases hc:Nat.beq c fc with
   |false=>rw[hc]at hr;cases hr
   |true=>rw[hc]at hr;cases hr;cases hv;obtain⟨V,r,rfl,rfl,V2,r2,rfl,⟨_,_,rfl,rfl,rfl⟩,rfl⟩:=ha;exact(hn none 0 _ w).mono fun e w' hp=>by obtain⟨rfl,rfl⟩:=hp;exact⟨ι,by simp[aL,aI],hH,Fr.refl _ _ _⟩
  ·cases hr
def aFj(P:Program)(f:FuncId)(s:Nat×Nat):Prop:=∀(V:Value) (ι:Im) (w:World),aL ι (.str s.1 s.2) V->Calls P f #[V] w fun e w'=>e=.returned (.bool true)/\Below w.heap.size w w'
def ql1(fs:List FuncId)(ns:List (Nat×Nat))(e:Ext):Ext:=fun g args H=>
 bif fs.any (Nat.beq g)then(match args with
 | [.str n a]=>bif ns.any (fun s=>Nat.beq n s.1&&Nat.beq a s.2)then some (.ok (.bool true) H)else none
 |_=>none)else e g args H
theorem q6a{e:Ext}(he:uV P e){fs:List FuncId}{ns:List (Nat×Nat)}(h:∀ f∈fs,∀s∈ns,aFj P f s)(hb:fs.all (qe4 P)=true):uV P (ql1 fs ns e):=by
 refine⟨fun g args H r hr v H' hv ι w bC hH ha=>?_⟩;unfold ql1 at hr;cases hg:fs.any (Nat.beq g)with
 |false=>rw[hg]at hr;exact he.fn g _ H r hr v H' hv ι w bC hH ha
 |true=>
  rw[hg]at hr;rw[List.any_eq_true]at hg;obtain⟨g',hgm,hge⟩:=hg;obtain rfl:=Nat.eq_of_beq_eq_true hge;refine⟨qdp (List.all_eq_true.1 hb _ hgm) _,fun k=>callsIn_wide.2 ?_⟩;split at hr
  ·rename_i n a;cases hs:ns.any (fun s=>Nat.beq n s.1&&Nat.beq a s.2)with
   |false=>rw[hs]at hr;cases hr
   |true=>rw[hs]at hr;cases hr;cases hv;rw[List.any_eq_true]at hs;obtain⟨s,hsm,hse⟩:=hs;rw[Bool.and_eq_true]at hse;have e1:=Nat.eq_of_beq_eq_true hse.1;have e2:=Nat.eq_of_beq_eq_true hse.2;subst e1 e2;obtain⟨V,r,rfl,hV,rfl⟩:=ha;refine(h g hgm s hsm V ι w hV).mono fun e w' hp=>?_;obtain⟨rfl,hw⟩:=hp;obtain⟨k1,k2⟩:=hH.of_below hw;exact⟨ι,by simp[aL],k1,k2⟩
  ·cases hr
theorem qz7(hm:P.follows .mixedOrders=true){ext:Ext}(hE:uV P ext){k:Nat}{f:FuncId}{s:Nat×Nat}(h:qqd (gD P ext k (.f f) [.str s.1 s.2] Hp.empty)=true):aFj P f s:=by
 intro V ι w hV;unfold qqd at h;split at h
 ·rename_i b H' he;subst h;have:=((qii hm hE k).fn _ _ _ _ _ he (fun _=>none) w [V] HR.empty (by simp only[aI];exact⟨V,[],rfl,by simpa only[aL] using hV,rfl⟩)).2 0;refine(callsIn_wide.1 this).mono fun e w' hp=>?_;cases e with
  |returned V=>obtain⟨ι',h1,h2,h3⟩:=hp;exact⟨by rw[h1],h3.below _ (Nat.le_refl _) fun b l _ _ h=>by cases h⟩
  |panicked=>exact hp.elim
  |outgrown=>exact hp.elim
 ·cases h
def headA(H:Hp):AV->Option Int
 | .sl b o n _ _=>bif Nat.blt 0 n then(match dI (H.get b) o with| .val (.int .i64 z)=>some z|_=>none)else none
 |_=>none
def qm6(H:Hp):List AV->Option (List Int)
 | []=>some []
 |v::l=>match headA H v,qm6 H l with|some z,some r=>some (z::r)|_,_=>none
def wZ(zs:List Int)(i j:Fin zs.length):Bool:=decide (zs[i]-zs[j]<0)
def bW(zs:List Int)(h:0<zs.length):Array (Fin zs.length):=
 letI:Inhabited (Fin zs.length):=⟨⟨0,h⟩⟩
 pdq (wZ zs) (Array.finRange zs.length) 0 (Array.finRange zs.length).size (Go.Lib.bitLen (Array.finRange zs.length).size) true true
structure aEF(zs:List Int):Prop where
 pos:0<zs.length
 len:zs.length<4611686018427387904
 rng:∀ z∈zs,0<=z/\z<4611686018427387904
open Classical in
def qj2(H:Hp)(b o n:Nat):Option R1:=
 match fU (H.get b) o n with
 |some l=>match qm6 (H.put b .dead) l with
  |some zs=>if h:aEF zs then(match storeAt H b o ((bW zs h.pos).toList.map fun i:Fin zs.length=>l.getD i.1 .undef) (.aY [])with
   | .ok v H'=>bif Nat.beq (bW zs h.pos).size zs.length then some (.ok v H')else none
   | .bad=>none)else none
  |none=>none
 |none=>none
def qhz(f fc:FuncId)(e:Ext):Ext:=fun g args H=>
 bif Nat.beq g f then(match args with
 | [.sl b o n _ _,.fn c [] []]=>bif Nat.beq c fc then(bif Nat.beq n 0 then some (.ok (.aY []) H)else qj2 H b o n)else none
 | [.aA,.fn c [] []]=>bif Nat.beq c fc then some (.ok (.aY []) H)else none
 |_=>none)else e g args H
def nN(P:Program)(f:FuncId):Prop:=∀ p cap fv w,Calls P f #[.slice p 0 cap,fv] w fun e w'=>e=.returned (.tuple #[])/\w'=w
theorem ql8{f:FuncId}(hf:nN P f){p:Option Addr}{cap:Nat}{fv:Value}(hH:HR ι H w):Calls P f #[.slice p 0 cap,fv] w (Post ι H w (.aY []) H):=
 (hf p cap fv w).mono fun e w' hp=>by obtain⟨rfl,rfl⟩:=hp;exact⟨ι,by simp[aL,aI],hH,Fr.refl _ _ _⟩
def l8(P:Program)(f fc:FuncId):Prop:=∀(zs:List Int) (h:aEF zs) (enc:Fin zs.length->Value) (blk off cap:Nat) (w:World),
 letI:Inhabited (Fin zs.length):=⟨⟨0,h.pos⟩⟩
 (∀i:Fin zs.length,∃ba oa na ca,enc i=.slice (some ⟨ba,oa,none⟩) na ca/\0<na/\ba≠blk/\ba<w.heap.size/\w.cell? ⟨ba,oa,none⟩=some (.int .i64 zs[i])) ->
 Holds enc w blk off (Array.finRange zs.length)->blk<w.heap.size ->
 Calls P f #[.slice (some ⟨blk,off,none⟩) zs.length cap,.func (.func fc) #[] #[]] w fun e w'=>e=.returned (.tuple #[])/\∃ n os,w'=Go.Sort.grow (putRow enc (Sort.ahead w n) blk off (bW zs h.pos)) os
theorem qqf{H:Hp}:∀{l:List AV} {zs:List Int},qm6 H l=some zs->l.length=zs.length/\∀ i (h:i<l.length) (h':i<zs.length),headA H l[i]=some zs[i]
 | [],zs,h=>by cases h;exact⟨rfl,fun i h=>absurd h (Nat.not_lt_zero _)⟩
 |v::l,zs,h=>by
  unfold qm6 at h;split at h
  ·rename_i z r h1 h2;cases h;obtain⟨e1,e2⟩:=qqf h2;refine⟨by simp[e1],fun i h h'=>?_⟩;cases i with
   |zero=>exact h1
   |succ i=>exact e2 i (by simpa using h) (by simpa using h')
  ·cases h
theorem zg0{H:Hp}{v:AV}{z:Int}(h:headA H v=some z):∃ b o n m x,v=.sl b o n m x/\0<n/\dI (H.get b) o=.val (.int .i64 z):=by
 unfold headA at h;split at h
 ·rename_i b o n m x;cases hn:Nat.blt 0 n with
  |false=>rw[hn]at h;cases h
  |true=>
   rw[hn]at h;simp only[cond_true]at h;split at h
   ·rename_i z' hz;cases h;exact⟨_,_,_,_,_,rfl,mX hn,hz⟩
   ·cases h
 ·cases h
theorem zew{f fc:FuncId}(hf:l8 P f fc){b o n m:Nat}{x:Bool}{v:AV}{H':Hp}(h:qj2 H b o n=some (.ok v H')){bC:List Value}(hH:HR ι H w)(ha:aI ι [.sl b o n m x,.fn fc [] []] bC):Calls P f bC.toArray w (Post ι H w v H'):=by
 simp only[aI,aL]at ha;obtain⟨V,r,rfl,⟨hnm,loc,hb,rfl⟩,V2,r2,rfl,⟨_,_,rfl,rfl,rfl⟩,rfl⟩:=ha;unfold qj2 at h;split at h
 ·rename_i l hl;split at h
  ·rename_i zs hz;split at h
   ·rename_i hOk;split at h
    ·rename_i v' H2 hst;cases hsz:Nat.beq (bW zs hOk.pos).size zs.length with
     |false=>rw[hsz]at h;cases h
     |true=>
      rw[hsz]at h;cases h;have hsz:=Nat.eq_of_beq_eq_true hsz;obtain⟨dd,nn,c,ro,zz,hg,hle,hll,hget⟩:=qen hl;obtain⟨rfl,rfl,rfl,_⟩:=qev hg hst;obtain⟨hlz,hh⟩:=qqf hz
      letI:Inhabited (Fin zs.length):=⟨⟨0,hOk.pos⟩⟩
      have hlt:=hH.lt hb;have hB:=hH.blk b hlt;rw[hg]at hB;obtain⟨l',b1,b2,b3,b4⟩:=hB;rw[hb]at b1;cases b1;have hn:n=zs.length:=by omega
      subst hn;have hbs:loc.blk<w.heap.size:=hH.low b loc hlt (by rw[hg];rfl) hb;have hV:∀ i:Fin zs.length,∃V,w.cell? ⟨loc.blk,loc.base+o+i,none⟩=some V/\aL ι (l.getD i .undef) V/\V.oneCell=true/\w.frozen? ⟨loc.blk,loc.base+o+i,none⟩=false:=fun i=>by obtain⟨V,c1,c2,c3,c4⟩:=b3 (o+i) (by have:=i.2;omega);rw[<-Nat.add_assoc]at c1 c4;refine⟨V,c1,?_,c3,c4 rfl⟩;rw[List.getD_eq_getElem?_getD,hget i i.2];exact c2
      let enc:Fin zs.length->Value:=fun i=>Classical.choose (hV i)
      have henc:∀ i:Fin zs.length,w.cell? ⟨loc.blk,loc.base+o+i,none⟩=some (enc i)/\aL ι (l.getD i .undef) (enc i)/\(enc i).oneCell=true/\w.frozen? ⟨loc.blk,loc.base+o+i,none⟩=false:=fun i=>Classical.choose_spec (hV i);have hfr:∀ j (h:j<(Array.finRange zs.length).size),((Array.finRange zs.length)[j]! :Fin zs.length)=⟨j,by simpa using h⟩:=fun j h=>by rw[getElem!_pos _ j h];simp
      have hHo:Holds enc w loc.blk (loc.base+o) (Array.finRange zs.length):=fun j hj=>by obtain⟨e1,_,_,e4⟩:=henc ⟨j,by simpa using hj⟩;rw[hfr j hj];exact⟨e1,e4⟩
      have hel:∀ i:Fin zs.length,∃ba oa na ca,enc i=.slice (some ⟨ba,oa,none⟩) na ca/\0<na/\ba≠loc.blk/\ba<w.heap.size/\w.cell? ⟨ba,oa,none⟩=some (.int .i64 zs[i]):=fun i=>by
       have hi:=i.2;obtain⟨bi,oi,ni,mi,xi,e1,e2,e3⟩:=zg0 (hh i (by omega) i.2);obtain⟨_,r1,_,_⟩:=henc i;rw[List.getD_eq_getElem?_getD,List.getElem?_eq_getElem (by omega)]at r1;have r1:aL ι (l[(i:Nat)]'(by omega)) (enc i):=r1;rw[e1]at r1;simp only[aL]at r1;obtain⟨_,li,k1,k2⟩:=r1;have hbi:bi≠b:=fun e=>by subst e;rw[Hp.get_put _ _ _ _ oG oG,if_pos rfl]at e3;cases e3
       rw[Hp.get_put _ _ _ _ oG oG,if_neg hbi]at e3;have hBi:=hH.blk bi oG;cases hgi:H.get bi with
       |cells di ni' ci ri zi=>
        rw[hgi]at e3 hBi;have e3:(bif Nat.blt oi ni' then R0.val ((dG di oi).f ci)else .bad)=.val (.int .i64 zs[i]):=e3;cases hoi:Nat.blt oi ni' with
        |false=>rw[hoi]at e3;cases e3
        |true=>rw[hoi]at e3;simp only[cond_true,R0.val.injEq]at e3;have hoi:=mX hoi;obtain⟨li',q1,q2,q3,_⟩:=hBi;rw[k1]at q1;cases q1;obtain⟨Vi,p1,p2,_,_⟩:=q3 oi hoi;rw[e3]at p2;simp only[aL]at p2;subst p2;exact⟨li.blk,li.base+oi,ni,_,k2,e2,fun e=>hbi (hH.inj b bi loc li oG oG (by rw[hg];rfl) (by rw[hgi];rfl) hb k1 e.symm).symm,hH.low bi li oG (by rw[hgi];rfl) k1,p1⟩
       |_=>rw[hgi]at e3;cases e3
      refine(hf zs hOk enc loc.blk (loc.base+o) (if x then m else m+loc.ext) w hel hHo hbs).mono fun e w' hp=>?_;obtain⟨rfl,k,os,rfl⟩:=hp;obtain⟨g1,g2⟩:=qsz enc hH hg hb hHo (d:=bW zs hOk.pos) (l:=(bW zs hOk.pos).toList.map fun i:Fin zs.length=>l.getD i.1 .undef) (by rw[hsz];simp) (by simp) (by omega) (fun j hj=>by obtain⟨_,e2,e3,_⟩:=henc (bW zs hOk.pos)[j]!;refine⟨?_,e3⟩;rw[getElem!_pos _ j hj]at e2 ⊢;rw[List.getD_eq_getElem?_getD (l:=(bW zs hOk.pos).toList.map _),List.getElem?_map,List.getElem?_eq_getElem (by simpa using hj)];exact e2) k os;exact⟨ι,by simp only[aL,aI];exact⟨[],rfl,rfl⟩,g1,g2⟩
    ·cases h
   ·cases h
  ·cases h
 ·cases h
theorem q0j{e:Ext}(he:uV P e){f fc:FuncId}(hf:l8 P f fc)(hn:nN P f)(hb:qe4 P f=true):uV P (qhz f fc e):=by
 refine⟨fun g args H r hr v H' hv ι w bC hH ha=>?_⟩;unfold qhz at hr;cases hg:Nat.beq g f with
 |false=>rw[hg]at hr;exact he.fn g _ H r hr v H' hv ι w bC hH ha
 |true=>
  rw[hg]at hr;obtain rfl:=Nat.eq_of_beq_eq_true hg;refine⟨qdp hb _,fun k=>callsIn_wide.2 ?_⟩;simp only[cond_true]at hr;split at hr
  ·rename_i b o n m x c;cases hc:Nat.beq c fc with
   |false=>rw[hc]at hr;cases hr
   |true=>
    rw[hc]at hr;obtain rfl:=Nat.eq_of_beq_eq_true hc;subst hv;cases h0:Nat.beq n 0 with
    |false=>rw[h0]at hr;exact zew hf hr hH ha
    |true=>rw[h0]at hr;cases hr;obtain rfl:=Nat.eq_of_beq_eq_true h0;simp only[aI,aL]at ha;obtain⟨V,r,rfl,⟨hnm,loc,hb,rfl⟩,V2,r2,rfl,⟨_,_,rfl,rfl,rfl⟩,rfl⟩:=ha;exact ql8 hn hH
  ·rename_i c;cases hc:Nat.beq c fc with
   |false=>rw[hc]at hr;cases hr
   |true=>rw[hc]at hr;cases hr;cases hv;simp only[aI,aL]at ha;obtain⟨V,r,rfl,rfl,V2,r2,rfl,⟨_,_,rfl,rfl,rfl⟩,rfl⟩:=ha;exact ql8 hn hH
  ·cases hr
abbrev Ob:=ByteArray×ByteArray
def aCv(s:ByteArray):AV:=.str s.data.toList.length (jI s.data.toList)
def sM(e:Ob):List AV:=[aCv e.1,aCv e.2]
def yQ(e:Ob):List Value:=[.string e.1,.string e.2]
theorem q3p{s t:ByteArray}(h:aCv s=aCv t):s=t:=by injection h with h1 h2;have:=pack_inj h1 h2;cases s;simp_all
theorem zf3:∀{l m:List Ob},l.flatMap sM=m.flatMap sM->l=m
 | [],[],_=>rfl
 | [],_::_,h=>by cases h
 |_::_,[],h=>by cases h
 |a::l,b::m,h=>by injection h with h1 h;injection h with h2 h;rw[zf3 h,show a=b from Prod.ext (q3p h1) (q3p h2)]
open Classical in
def zf6(l:List AV):Option (List Ob):=if h:∃ es:List Ob,l=es.flatMap sM then some h.choose else none
theorem zf5{l:List AV}{es:List Ob}(h:zf6 l=some es):l=es.flatMap sM:=by
 unfold zf6 at h;split at h
 ·rename_i hx;injection h with h;rw[<-h];exact hx.choose_spec
 ·cases h
theorem znz(es:List Ob):zf6 (es.flatMap sM)=some es:=by have hx:∃ fs:List Ob,es.flatMap sM=fs.flatMap sM:=⟨es,rfl⟩;unfold zf6;rw[dif_pos hx];exact congrArg some (zf3 hx.choose_spec).symm
def aBM(s t:ByteArray):Int:=Lib.compareBytes s.data.toList t.data.toList
def or2(x y:Int):Int:=if x=0 then y else x
def qkf(x y:Ob):Int:=or2 (aBM x.1 y.1) (aBM x.2 y.2)
def z8(l:List Ob):List Ob:=l.mergeSort fun x y=> !decide (qkf y x<0)
theorem qpv(l:List Ob):(z8 l).length=l.length:=List.length_mergeSort _
theorem qh9(es:List Ob):(es.flatMap sM).length=es.length*2:=by
 induction es with
 |nil=>rfl
 |cons a l ih=>rw[List.flatMap_cons,List.length_append,ih,List.length_cons];show 2+_=_;omega
theorem q05:∀(es:List Ob) (t:Nat) (h:t<es.length*2),(es.flatMap sM)[t]? =(sM (es[t / 2]'(by omega)))[t%2]?
 | [],t,h=>by simp at h
 |a::l,t,h=>by
  rw[List.flatMap_cons];by_cases ht:t<2
  ·rw[List.getElem?_append_left (by show t<2;exact ht)];have h0:t / 2=0:=by omega
   have h1:t%2=t:=by omega
   simp only[h0,h1,List.getElem_cons_zero]
  ·rw[List.getElem?_append_right (by show 2<=t;omega)];show(l.flatMap sM)[t-2]? =_;rw[List.length_cons]at h;rw[q05 l (t-2) (by omega)];have h0:t / 2=(t-2) / 2+1:=by omega
   have h1:t%2=(t-2)%2:=by omega
   simp only[h0,h1,List.getElem_cons_succ]
theorem zru(e:Ob){i:Nat}(hi:i<2){V:Value}:aL ι ((sM e).getD i .undef) V↔V=(yQ e)[i]!:=by
 have key:∀ s:ByteArray,aL ι (.str s.data.toList.length (jI s.data.toList)) V↔V=.string s:=fun s=>by
  simp only[aL];constructor
  ·rintro ⟨s',rfl,h1,h2⟩;have:=pack_inj h1 h2;cases s;cases s';simp only at this;rw[Array.toList_inj.1 this]
  ·rintro rfl;exact⟨s,rfl,rfl,rfl⟩
 match i,hi with
 |0,_=>exact key e.1
 |1,_=>exact key e.2
theorem zwq(e:Ob){i:Nat}(hi:i<2):((yQ e)[i]!).oneCell=true:=by
 match i,hi with
 |0,_|1,_=>rfl
def qvd(H:Hp)(b o n:Nat):Option R1:=
 match fU (H.get b) o (n*2)with
 |some l=>match zf6 l with
  |some es=>match storeAt H b o ((z8 es).flatMap sM) (.aY [])with
   | .ok v H'=>bif Nat.blt n 4611686018427387904 then some (.ok v H')else none
   | .bad=>none
  |none=>none
 |none=>none
def l9(P:Program)(f fc:FuncId):Prop:=∀(d:Array Ob) (blk off cap:Nat) (w:World),Go.Sort.HoldsK yQ 2 w blk off d->blk<w.heap.size->d.size<4611686018427387904 ->
 Calls P f #[.slice (some ⟨blk,off,none⟩) d.size cap,.func (.func fc) #[] #[]] w fun e w'=>e=.returned (.tuple #[])/\∃ n os,w'=Go.Proofs.sortWorldK yQ 2 w blk off n (z8 d.toList).toArray os
def rT(P:Program)(f:FuncId):Prop:=∀ p cap fv w,Calls P f #[.slice p 0 cap,fv] w fun e w'=>e=.returned (.tuple #[])/\w'=w
def qgb(f fc:FuncId)(e:Ext):Ext:=fun g args H=>
 bif Nat.beq g f then(match args with
 | [.sl b o n _ _,.fn c [] []]=>bif Nat.beq c fc then qvd H b o n else none
 | [.aA,.fn c [] []]=>bif Nat.beq c fc then some (.ok (.aY []) H)else none
 |_=>none)else e g args H
theorem zev{f fc:FuncId}(hf:l9 P f fc){b o n m:Nat}{x:Bool}{v:AV}{H':Hp}(h:qvd H b o n=some (.ok v H')){bC:List Value}(hH:HR ι H w)(ha:aI ι [.sl b o n m x,.fn fc [] []] bC):Calls P f bC.toArray w (Post ι H w v H'):=by
 simp only[aI,aL]at ha;obtain⟨V,r,rfl,⟨hnm,loc,hb,rfl⟩,V2,r2,rfl,⟨_,_,rfl,rfl,rfl⟩,rfl⟩:=ha;unfold qvd at h;split at h
 ·rename_i l hl;split at h
  ·rename_i es hz;have hlz:=zf5 hz;split at h
   ·rename_i v' H2 hst;cases hn:Nat.blt n 4611686018427387904 with
    |false=>rw[hn]at h;cases h
    |true=>
     rw[hn]at h;cases h;have hn:=mX hn;obtain⟨dd,nn,c,ro,zz,hg,hle,hll,hget⟩:=qen hl;obtain⟨rfl,rfl,rfl,_⟩:=qev hg hst;have hlt:=hH.lt hb;have hB:=hH.blk b hlt;rw[hg]at hB;obtain⟨l',b1,b2,b3,b4⟩:=hB;rw[hb]at b1;cases b1;have hes:es.length=n:=by rw[hlz,qh9]at hll;omega
     subst hes;have hk:∀(d:List Ob) (t:Nat),t<d.length*2->(Go.Sort.flatK yQ 2 d.toArray)[t]! =(yQ (d[t / 2]!))[t%2]! :=fun d t ht=>by rw[Go.Sort.get_flatK yQ 2 d.toArray t (by simpa using ht)];simp
     have hHo:Go.Sort.HoldsK yQ 2 w loc.blk (loc.base+o) es.toArray:=fun j hj=>by
      have hj:j<es.length*2:=by simpa using hj
      obtain⟨V,c1,c2,c3,c4⟩:=b3 (o+j) (by omega);have h1:=hget j hj;have h2:=q05 es j hj;rw[<-hlz,h1]at h2;have hj2:j%2<2:=Nat.mod_lt _ (by omega);have h3:(dG dd (o+j)).f c=(sM (es[j / 2]'(by omega))).getD (j%2) .undef:=by rw[List.getD_eq_getElem?_getD,<-h2];rfl
      rw[h3,zru _ hj2]at c2;subst c2;rw[<-Nat.add_assoc]at c1 c4;refine⟨?_,c4 rfl⟩;rw[c1];show some _=some (Go.Sort.flatK yQ 2 es.toArray)[j]!;rw[hk es j hj,getElem!_pos es (j / 2) (by omega)]
     have hbs:loc.blk<w.heap.size:=hH.low b loc hlt (by rw[hg];rfl) hb;have hcall:=hf es.toArray loc.blk (loc.base+o) (if x then m else m+loc.ext) w hHo hbs (by rw[List.size_toArray];omega);refine hcall.mono fun e w' hp=>?_;obtain⟨rfl,k,os,rfl⟩:=hp;have hsl:=qpv es;obtain⟨g1,g2⟩:=qsz (α:=Value) id hH hg hb hHo (d:=Go.Sort.flatK yQ 2 (z8 es).toArray) (l:=(z8 es).flatMap sM) (by simp[hsl]) (by rw[qh9];simp) (by simp[hsl];omega) (fun j hj=>by
      have hj:j<(z8 es).length*2:=by simpa using hj
      have hj2:j%2<2:=Nat.mod_lt _ (by omega);rw[hk _ j hj,getElem!_pos (z8 es) (j / 2) (by omega)];refine⟨?_,zwq _ hj2⟩;rw[List.getD_eq_getElem?_getD,q05 _ j hj,<-List.getD_eq_getElem?_getD];exact(zru _ hj2).2 rfl) k os
     exact⟨ι,by simp only[aL,aI];exact⟨[],rfl,rfl⟩,g1,g2⟩
   ·cases h
  ·cases h
 ·cases h
theorem q0h{e:Ext}(he:uV P e){f fc:FuncId}(hf:l9 P f fc)(hn:rT P f)(hb:qe4 P f=true):uV P (qgb f fc e):=by
 refine⟨fun g args H r hr v H' hv ι w bC hH ha=>?_⟩;unfold qgb at hr;cases hg:Nat.beq g f with
 |false=>rw[hg]at hr;exact he.fn g _ H r hr v H' hv ι w bC hH ha
 |true=>
  rw[hg]at hr;obtain rfl:=Nat.eq_of_beq_eq_true hg;refine⟨qdp hb _,fun k=>callsIn_wide.2 ?_⟩;simp only[cond_true]at hr;split at hr
  ·rename_i b o n m x c;cases hc:Nat.beq c fc with
   |false=>rw[hc]at hr;cases hr
   |true=>rw[hc]at hr;obtain rfl:=Nat.eq_of_beq_eq_true hc;subst hv;exact zev hf hr hH ha
  ·rename_i c;cases hc:Nat.beq c fc with
   |false=>rw[hc]at hr;cases hr
   |true=>rw[hc]at hr;cases hr;cases hv;simp only[aI,aL]at ha;obtain⟨V,r,rfl,rfl,V2,r2,rfl,⟨_,_,rfl,rfl,rfl⟩,rfl⟩:=ha;exact(hn none 0 _ w).mono fun e w' hp=>by obtain⟨rfl,rfl⟩:=hp;exact⟨ι,by simp[aL,aI],hH,Fr.refl _ _ _⟩
  ·cases hr
theorem quc:∀(x y:List UInt8),Op.bytesLess x y=decide (x<y)
 | [],[]=>by simp[Op.bytesLess]
 |_::_,[]=>by simp[Op.bytesLess]
 | [],_::_=>by simp[Op.bytesLess]
 |a::x,b::y=>by rw[Op.bytesLess,quc x y];simp only[List.cons_lt_cons_iff];by_cases h1:a<b<;>by_cases h2:a=b<;>by_cases h3:x<y<;>simp[h1,h2,h3]
def qM(x u y v:List UInt8):Prop:=x<y\/(x=y/\u<v)
theorem qM.irr(x u:List UInt8):¬ qM x u x u:=by
 rintro (h|⟨_,h⟩)
 ·exact List.lt_irrefl _ h
 ·exact List.lt_irrefl _ h
theorem qM.trans{x u y v z w:List UInt8}(h:qM x u y v)(k:qM y v z w):qM x u z w:=by
 rcases h with h|⟨rfl,h⟩
 ·rcases k with k|⟨rfl,k⟩
  ·exact .inl (List.lt_trans h k)
  ·exact .inl h
 ·rcases k with k|⟨rfl,k⟩
  ·exact .inl k
  ·exact .inr ⟨rfl,List.lt_trans h k⟩
theorem qM.tri{x u y v:List UInt8}(h:¬ qM x u y v)(k:¬ qM y v x u):x=y/\u=v:=by unfold qM at h k;rw[not_or]at h k;have e:x=y:=List.le_antisymm k.1 h.1;subst e;exact⟨rfl,List.le_antisymm (fun w=>k.2 ⟨rfl,w⟩) fun w=>h.2 ⟨rfl,w⟩⟩
def rW(x y:Ob):Prop:=qM x.1.data.toList x.2.data.toList y.1.data.toList y.2.data.toList
theorem rW.tri{x y:Ob}(h:¬ rW x y)(k:¬ rW y x):x=y:=by obtain⟨e1,e2⟩:=qM.tri h k;obtain⟨⟨⟨a⟩⟩,⟨⟨b⟩⟩⟩:=x;obtain⟨⟨⟨c⟩⟩,⟨⟨d⟩⟩⟩:=y;simp only at e1 e2;rw[e1,e2]
theorem qt8{x y:Ob}:qkf x y<0↔rW x y:=by
 have key:∀ s t:ByteArray,(aBM s t<0↔s.data.toList<t.data.toList)/\(aBM s t=0↔s.data.toList=t.data.toList):=fun s t=>by
  unfold aBM;rw[qhl,quc];by_cases h:s.data.toList<t.data.toList
  ·rw[decide_eq_true h];exact⟨⟨fun _=>h,fun _=>by rw[cond_true];decide⟩,⟨fun h=>by simp at h,fun e=>absurd h (by rw[e];exact List.lt_irrefl _)⟩⟩
  ·rw[decide_eq_false h];by_cases e:s.data.toList=t.data.toList
   ·rw[decide_eq_true e];exact⟨⟨fun h=>by simp at h,fun k=>absurd k h⟩,⟨fun _=>e,fun _=>rfl⟩⟩
   ·rw[decide_eq_false e];exact⟨⟨fun h=>by simp at h,fun k=>absurd k h⟩,⟨fun h=>by simp at h,fun k=>absurd k e⟩⟩
 unfold qkf or2 rW qM;obtain⟨h1,h2⟩:=key x.1 y.1;obtain⟨h3,_⟩:=key x.2 y.2;split
 ·rename_i h;have e:=h2.1 h;rw[h3];constructor
  ·exact fun h=>.inr ⟨e,h⟩
  ·rintro (k|k)
   ·rw[e]at k;exact absurd k (List.lt_irrefl _)
   ·exact k.2
 ·rename_i h;rw[h1];constructor
  ·exact .inl
  ·rintro (k|k)
   ·exact k
   ·exact absurd (h2.2 k.1) h
theorem rW.ntrans{x y z:Ob}(h:¬ rW x y)(k:¬ rW y z):¬ rW x z:=fun w=>by
 by_cases c:rW y x
 ·exact k (qM.trans c w)
 ·have:=rW.tri h c;subst this;exact k w
theorem q6l(l:List Ob):(z8 l).Perm l/\(z8 l).Pairwise fun x y=>¬ rW y x:=by
 have hle:∀ x y:Ob,(!decide (qkf y x<0))=true↔¬ rW y x:=fun x y=>by rw[Bool.not_eq_true',decide_eq_false_iff_not,qt8]
 refine⟨List.mergeSort_perm _ _,(List.pairwise_mergeSort (fun a b c h1 h2=>?_) (fun a b=>?_) l).imp fun h=>(hle _ _).1 h⟩
 ·rw[hle]at h1 h2 ⊢;exact rW.ntrans h2 h1
 ·rw[Bool.or_eq_true,hle,hle];by_cases c:rW b a
  ·right;exact fun w=>qM.irr _ _ (qM.trans c w)
  ·left;exact c
end Go.Ev
end
noncomputable section
namespace Go.Ev
open Go.RowKit Go.WideShapes Go.ChangeShapes Go.ChangeAt
variable {P:Program} {Hd:Type} {enc:TypeId×Value->Hd}
theorem qin(hl:laidOutB P=true){W W':World}{sp:Nat->Bool}:∀{ts:List TypeId} {vs:List Value} {ds:List (DataW Hd)} {ps:List MemPlace},(∀t∈ts,P.readableRec t=true/\t<P.types.size) -> DataW.TrodAll enc P W 0 (fun _=>true) true ts vs ds ps->(∀p∈ps,W.sameAt W' p)->(∀p∈ps,sp p.block=true)->DataW.TrodAll enc P W' 0 sp true ts vs ds ps
 | [],[],[],_,_,h,_,_=>h
 |_::_,_::_,_::_,_,hT,⟨p,q,h1,h2,e⟩,hs,hb=>
  ⟨p,q,WideElems.Trod_stays hl (hT _ (List.mem_cons.2 (Or.inl rfl))).1 (hT _ (List.mem_cons.2 (Or.inl rfl))).2 h1 (fun x hx=>hs x (by rw[e];exact List.mem_append_left _ hx)) (fun x hx=>hb x (by rw[e];exact List.mem_append_left _ hx)),
   qin hl (fun t ht=>hT t (List.mem_cons.2 (Or.inr ht))) h2 (fun x hx=>hs x (by rw[e];exact List.mem_append_right _ hx)) (fun x hx=>hb x (by rw[e];exact List.mem_append_right _ hx)),e⟩
def zzs(P:Program)(ts:List TypeId):Bool:=ts.all fun t=>P.readableRec t&&decide (t<P.types.size)
theorem znr(hl:laidOutB P=true){f:Func}{s:ChangeSpec}{apart fresh handsOn again:Bool}{W W':World}{args:Array Value}{ds gs:List (DataW Hd)}{before:List MemPlace}{tb:TypeId}(hW:DataW.Whole enc P f.params.toList s.vars apart W args.toList ds gs before)(hv:s.vars=[])(hr:zzs P f.params.toList=true)(hfn:s.fn Hd ds={results:=[.lit (.bool true)],args:=ds})(hres:f.resultTypes= #[tb])(htb:P.underlying tb=some .bool)(hb:Below W.heap.size W W'):s.post enc P f apart fresh handsOn again W args (.bool true) W':=by
 have hW':=hW;obtain⟨p,q,hA,hV,hq,_,_⟩:=hW;rw[hv]at hV;obtain⟨rfl,rfl⟩:=trodVars_none hV;have hread:∀ t∈f.params.toList,P.readableRec t=true/\t<P.types.size:=fun t ht=>by have:=List.all_eq_true.1 hr t ht;simp_all
 have hds:ds++[]=ds:=List.append_nil ds;refine q6y (pa:=p) (pv:=[]) hW' (fun b sp hd=>?_) (fun sp hsp=>?_) (fun sp _=>?_) hq hb ?_
 ·rw[hds,hfn,hres];exact trodAll_cons_mk (shut_bool htb _) trodAll_mk0
 ·rw[hds,hfn];have hlow:=hW'.lt;exact qin hl hread hA (fun x hx=>hb.same (hlow x (by rw[hq];simpa using hx))) (fun x hx=>hsp x (by rw[hq];simpa using hx))
 ·rw[hds,hfn,hv];rfl
 ·exact ok_one hres rfl (okWide_bool_mk htb _)
end Go.Ev
end
