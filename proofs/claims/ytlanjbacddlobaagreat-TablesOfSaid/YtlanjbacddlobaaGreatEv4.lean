/-
 For TablesOf: the evaluator and its soundness, part 4 of 4: what a run of the abstract evaluator answers, the model's run answers, in every world and on every schedule. No conditions beyond those that each theorem states.
-/
import Derived.Test.YtlanjbacddlobaaGreatEv3
import Derived.Sort.Grow
import Derived.Sort.EveryDepth
import Derived.Sort.Defs
import Derived.Shelf.GgSortFunc.InsertionK
import Derived.Lib.BitFns
import Derived.WideKeyArgs
import Derived.Carry
import Derived.OpenShut
import Derived.ProofKit
import Derived.WalkKit
noncomputable section
namespace Go.Di
open Go.Ev
variable {d:Nat}
def G(L:TT AV d)(i:Nat):AV:=(dW d i).f L
abbrev Kt(d:Nat):=Ex->TT AV d->Hp->R1
def fin(r:Rc d)(K:Kt d):R1:=match r with| .bad=>.bad| .ok e L H=>K e L H
def pV(r:Rs d)(k:TT AV d->Hp->R1):R1:=match r with| .bad=>.bad| .ok L H=>k L H
def aH3(r:Rx d)(k:TT AV d->Hp->List Pd->List Wt->R1):R1:=match r with| .bad=>.bad| .ok L H p w=>k L H p w
def nrm(r:R0)(H:Hp):Option (AV×Hp):=match r with| .bad=>none| .val v=>some (v,H)| .new v b=>some (v,aK H b)
def vq(r:R0)(H:Hp)(k:AV->Hp->R1):R1:=match nrm r H with|none=>.bad|some p=>k p.1 p.2
def ve(r:R1)(k:AV->Hp->R1):R1:=match r with| .bad=>.bad| .ok v H=>k v H
def vg0(w:Option Bool)(r:R0)(H:Hp)(k:AV->Hp->R1):R1:=match w with|some true=>vq r H k|some false=>k .undef H|none=>.bad
def aDk(w:Option Bool)(r:R1)(H:Hp)(k:AV->Hp->R1):R1:=match w with|some true=>ve r k|some false=>k .undef H|none=>.bad
def aM(want:Bool)(v:AV):Option Bool:=match v with| .bool b=>some (b==want)| .undef=>some false|_=>none
def cd(x:AV)(a b:R1):R1:=match x with| .bool true=>a| .bool false=>b|_=>.bad
/- steps of a region that draws its order -/
def dq0(lk al:Bool)(i A nm:Nat)(H:Hp)(p:List Pd)(w:List Wt)(f:Hp->R0)(g:Option Bool)(k:AV->Hp->List Pd->List Wt->R1):R1:=
 match g with
 |none=>.bad
 |some false=>k .undef H p w
 |some true=>match f (fI A p H)with
  | .bad=>.bad
  | .val v=>k v H p (bif lk then⟨i,A,f,v⟩::w else w)
  | .new v b=>bif al&&b.wr then k v H (⟨i,nm,b⟩::p) w else .bad
def de0(A:Nat)(H:Hp)(p:List Pd)(w:List Wt)(r:R1)(g:Option Bool)(k:AV->Hp->List Pd->List Wt->R1):R1:=
 match g with
 |none=>.bad
 |some false=>k .undef H p w
 |some true=>match r with
  | .bad=>.bad
  | .ok v H'=>bif qjl (qT A p) H' (qV A w)then k v H' (qT A p) (qV A w)else .bad
def vl(r:R0)(k:AV->R1):R1:=match r with| .bad=>.bad| .val v=>k v| .new _ _=>.bad
def aBT(w:Option Bool)(r:R0)(k:AV->R1):R1:=match w with|some true=>vl r k|some false=>k .undef|none=>.bad
/- constants that cannot be taken apart: so two sides are compared argument by argument -/
def vg:Option Bool->R0->Hp->(AV->Hp->R1)->R1:=Classical.choose (⟨vg0,rfl⟩:∃ f,f=vg0)
theorem z7y:vg=vg0:=lIR (⟨vg0,rfl⟩:∃ f,f=vg0)
def veg:Option Bool->R1->Hp->(AV->Hp->R1)->R1:=Classical.choose (⟨aDk,rfl⟩:∃ f,f=aDk)
theorem zn8:veg=aDk:=lIR (⟨aDk,rfl⟩:∃ f,f=aDk)
def vlg:Option Bool->R0->(AV->R1)->R1:=Classical.choose (⟨aBT,rfl⟩:∃ f,f=aBT)
theorem zb0:vlg=aBT:=lIR (⟨aBT,rfl⟩:∃ f,f=aBT)
def dq:Bool->Bool->Nat->Nat->Nat->Hp->List Pd->List Wt->(Hp->R0)->Option Bool->(AV->Hp->List Pd->List Wt->R1)->R1:=Classical.choose (⟨dq0,rfl⟩:∃ f,f=dq0)
theorem zzd:dq=dq0:=lIR (⟨dq0,rfl⟩:∃ f,f=dq0)
def de:Nat->Hp->List Pd->List Wt->R1->Option Bool->(AV->Hp->List Pd->List Wt->R1)->R1:=Classical.choose (⟨de0,rfl⟩:∃ f,f=de0)
theorem zze:de=de0:=lIR (⟨de0,rfl⟩:∃ f,f=de0)
theorem zdr(a:TT AV d->AV->TT AV d)(L:TT AV d)(H:Hp)(r:R0)(k:TT AV d->Hp->R1):pV (doQ a L H r) k=vq r H fun v H=>k (a L v) H:=by cases r<;>rfl
theorem zds(a:TT AV d->AV->TT AV d)(L:TT AV d)(r:R1)(k:TT AV d->Hp->R1):pV (doE a L r) k=ve r fun v H=>k (a L v) H:=by cases r<;>rfl
structure StC(d:Nat) where f:Ev.Call->TT AV d->Hp->(TT AV d->Hp->R1)->R1
def zoq(P:Program)(d n:Nat)(ops:Array Oper)(o:Oper):StC d:=
 match iG P d n o,o.guard,uL d n ops o,eB d n o.dst with
 | .q _ f,none,_,⟨put⟩=>⟨fun _ L H k=>vq (f H.nx L H) H fun v H=>k (put L v) H⟩
 | .e f,none,_,⟨put⟩=>⟨fun O L H k=>ve (f O L H) fun v H=>k (put L v) H⟩
 | .q _ f,some _,⟨w⟩,⟨put⟩=>⟨fun _ L H k=>vg (w L) (f H.nx L H) H fun v H=>k (put L v) H⟩
 | .e f,some _,⟨w⟩,⟨put⟩=>⟨fun O L H k=>veg (w L) (f O L H) H fun v H=>k (put L v) H⟩
theorem zop(P:Program)(d n:Nat)(ops:Array Oper)(o:Oper)(O:Ev.Call)(L:TT AV d)(H:Hp)(k:TT AV d->Hp->R1):pV ((qg1 P d n ops o).f O L H) k=(zoq P d n ops o).f O L H k:=by
 unfold qg1 zoq;generalize iG P d n o=x;generalize o.guard=g;generalize uL d n ops o=w;generalize eB d n o.dst=p;obtain⟨w⟩:=w;cases x with
 |q l f=>cases g with
  |none=>exact zdr ..
  |some j=>
   show pV (ifW (w L) _ _) k=vg (w L) _ H _;rw[z7y];cases h:w L with
   |none=>rfl
   |some b=>cases b with
    |true=>exact zdr ..
    |false=>rfl
 |e f=>cases g with
  |none=>exact zds ..
  |some j=>
   show pV (ifW (w L) _ _) k=veg (w L) _ H _;rw[zn8];cases h:w L with
   |none=>rfl
   |some b=>cases b with
    |true=>exact zds ..
    |false=>rfl
def zb8(P:Program)(d n:Nat)(ops:Array Oper)(o:Oper):StC d:=
 match aAi o with
 |none=>zoq P d n ops o
 |some _=>match qjr P d n ops o with|⟨g⟩=>⟨fun O L H k=>pV (g O L H) k⟩
theorem zor(P:Program)(d n:Nat)(ops:Array Oper)(o:Oper)(O:Ev.Call)(L:TT AV d)(H:Hp)(k:TT AV d->Hp->R1):pV ((qjr P d n ops o).f O L H) k=(zb8 P d n ops o).f O L H k:=by
 unfold zb8;cases h:aAi o with
 |none=>simp only;rw[<-zop];unfold qjr;rw[h]
 |some c=>rfl
def aEK(P:Program)(d n:Nat)(ops:Array Oper):List Oper->StC d
 | []=>⟨fun _ L H k=>k L H⟩
 |o::r=>match zb8 P d n ops o,aEK P d n ops r with|⟨g⟩,⟨h⟩=>⟨fun O L H k=>g O L H fun L H=>h O L H k⟩
theorem zpv(P:Program)(d n:Nat)(ops:Array Oper)(O:Ev.Call):∀(l:List Oper) (L:TT AV d) (H:Hp) (k:TT AV d->Hp->R1), pV ((qF P d n ops l).f O L H) k=(aEK P d n ops l).f O L H k
 | [],_,_,_=>rfl
 |o::r,L,H,k=>by
  show pV (zgg ((qjr P d n ops o).f O L H) ((qF P d n ops r).f O)) k=(zb8 P d n ops o).f O L H fun L H=>(aEK P d n ops r).f O L H k;rw[<-zor];cases (qjr P d n ops o).f O L H with
  |bad=>rfl
  |ok L H=>exact zpv P d n ops O r L H k
structure SxC(d:Nat) where f:Ev.Call->Nat->TT AV d->Hp->List Pd->List Wt->(TT AV d->Hp->List Pd->List Wt->R1)->R1
def qvg(P:Program)(d n:Nat)(ops:Array Oper)(i A:Nat)(o:Oper):SxC d:=
 match iG P d n o,nU d n (lQ ops o),uL d n ops o,eB d n o.dst with
 | .q lk f,⟨pj⟩,⟨w⟩,⟨put⟩=>⟨fun _ base L H p ws k=>dq lk (qha o.op&& !lk) i A (base+i) H p ws (f (base+i) (pj L)) (w (pj L)) fun v H p ws=>k (put L v) H p ws⟩
 | .e f,⟨pj⟩,⟨w⟩,⟨put⟩=>⟨fun O _ L H p ws k=>de A H p ws (f O (pj L) (fI A p H)) (w (pj L)) fun v H p ws=>k (put L v) H p ws⟩
theorem zoo(P:Program)(d n:Nat)(ops:Array Oper)(i A:Nat)(o:Oper)(O:Ev.Call)(base:Nat)(L:TT AV d)(H:Hp)(p:List Pd)(ws:List Wt)(k:TT AV d->Hp->List Pd->List Wt->R1):aH3 ((q1l P d n ops i A o).f O base L H p ws) k=(qvg P d n ops i A o).f O base L H p ws k:=by
 unfold q1l qvg;generalize iG P d n o=x;generalize nU d n (lQ ops o)=j;generalize uL d n ops o=w;generalize eB d n o.dst=pt;obtain⟨w⟩:=w;obtain⟨j⟩:=j;cases x with
 |q lk f=>
  dsimp only;rw[zzd];unfold qX dq0;cases w (j L)with
  |none=>rfl
  |some b=>cases b with
   |false=>rfl
   |true=>
    cases f (base+i) (j L) (fI A p H)with
    |bad=>rfl
    |val v=>rfl
    |new v b=>simp only;cases (qha o.op&& !lk&&b.wr)<;>rfl
 |e f=>
  dsimp only;rw[zze];unfold eX de0;cases w (j L)with
  |none=>rfl
  |some b=>cases b with
   |false=>rfl
   |true=>
    cases f O (j L) (fI A p H)with
    |bad=>rfl
    |ok v H'=>simp only;cases qjl (qT A p) H' (qV A ws)<;>rfl
def qsw(P:Program)(d n:Nat)(ops:Array Oper)(ms:List Nat):List Nat->SxC d
 | []=>⟨fun _ _ L H p w k=>k L H p w⟩
 |i::r=>match ops[i]? with
  |some o=>match qvg P d n ops i (ms.getD i 0) o,qsw P d n ops ms r with|⟨g⟩,⟨h⟩=>⟨fun O base L H p w k=>g O base L H p w fun L H p w=>h O base L H p w k⟩
  |none=>⟨fun _ _ _ _ _ _ _=>.bad⟩
theorem zc0(P:Program)(d n:Nat)(ops:Array Oper)(ms:List Nat)(O:Ev.Call)(base:Nat):∀(l:List Nat) (L:TT AV d) (H:Hp) (p:List Pd) (w:List Wt) (k:TT AV d->Hp->List Pd->List Wt->R1), aH3 ((uO P d n ops ms l).f O base L H p w) k=(qsw P d n ops ms l).f O base L H p w k
 | [],_,_,_,_,_=>rfl
 |i::r,L,H,p,w,k=>by
  unfold uO qsw;cases ops[i]? with
  |none=>rfl
  |some o=>
   show aH3 (xav ((q1l P d n ops i (ms.getD i 0) o).f O base L H p w) ((uO P d n ops ms r).f O base)) k=(qvg P d n ops i (ms.getD i 0) o).f O base L H p w fun L H p w=>(qsw P d n ops ms r).f O base L H p w k;rw[<-zoo];cases (q1l P d n ops i (ms.getD i 0) o).f O base L H p w with
   |bad=>rfl
   |ok L H p w=>exact zc0 P d n ops ms O base r L H p w k
def xai(P:Program)(d n:Nat)(ops:Array Oper):StC d:=
 match q8f P d n ops with
 |none=>⟨fun _ _ _ _=>.bad⟩
 |some pl=>match qsw P d n ops pl.ms pl.ord with
  |⟨g⟩=>⟨fun O L H k=>g O H.nx L ⟨H.t,H.nx+pl.up⟩ [] [] fun L H p _=>k L (nT p H)⟩
theorem zzc(P:Program)(d n:Nat)(ops:Array Oper)(O:Ev.Call)(L:TT AV d)(H:Hp)(k:TT AV d->Hp->R1):pV ((ql8 P d n ops).f O L H) k=(xai P d n ops).f O L H k:=by
 unfold ql8 xai;cases q8f P d n ops with
 |none=>rfl
 |some pl=>show pV (match(uO P d n ops pl.ms pl.ord).f O H.nx L ⟨H.t,H.nx+pl.up⟩ [] []with| .bad=>.bad| .ok L' H' pend _=>.ok L' (nT pend H')) k=(qsw P d n ops pl.ms pl.ord).f O H.nx L ⟨H.t,H.nx+pl.up⟩ [] [] fun L H p _=>k L (nT p H);rw[<-zc0];cases (uO P d n ops pl.ms pl.ord).f O H.nx L ⟨H.t,H.nx+pl.up⟩ [] []<;>rfl
/- regions that draw their order, without effects and new blocks -/
def zct(P:Program)(d n:Nat)(ops:Array Oper)(i:Nat):Bool:=match ops[i]? with|some o=> !isE (iG P d n o)&& !qha o.op|none=>false
def z9u(P:Program)(d n:Nat)(ops:Array Oper)(i:Nat)(o:Oper):StC d:=
 match iG P d n o,nU d n (lQ ops o),o.guard,uL d n ops o,eB d n o.dst with
 | .q _ f,⟨pj⟩,none,_,⟨put⟩=>⟨fun _ L H k=>vl (f (H.nx+i) (pj L) H) fun v=>k (put L v) H⟩
 | .q _ f,⟨pj⟩,some _,⟨w⟩,⟨put⟩=>⟨fun _ L H k=>vlg (w (pj L)) (f (H.nx+i) (pj L) H) fun v=>k (put L v) H⟩
 | .e _,_,_,_,_=>⟨fun _ _ _ _=>.bad⟩
def q8h(P:Program)(d n:Nat)(ops:Array Oper):List Nat->StC d
 | []=>⟨fun _ L H k=>k L H⟩
 |i::r=>match ops[i]? with
  |some o=>match z9u P d n ops i o,q8h P d n ops r with|⟨g⟩,⟨h⟩=>⟨fun O L H k=>g O L H fun L H=>h O L H k⟩
  |none=>⟨fun _ _ _ _=>.bad⟩
theorem z3n(c:Bool)(i A nm:Nat)(H:Hp)(w:List Wt)(f:Hp->R0)(g:Option Bool)(k:AV->Hp->List Pd->List Wt->R1)(a:AV->R1)(h:∀ v w,k v H [] w=a v):dq c false i A nm H [] w f g k=vlg g (f H) a:=by
 rw[zzd,zb0];unfold dq0 aBT;cases g with
 |none=>rfl
 |some b=>cases b with
  |false=>exact h _ _
  |true=>
   show(match f H with| .bad=>R1.bad| .val v=>_| .new v b=>_)=vl (f H) a;cases f H with
   |bad=>rfl
   |val v=>exact h _ _
   |new v b=>rfl
theorem qza(P:Program)(d n:Nat)(ops:Array Oper)(ms:List Nat)(O:Ev.Call)(H:Hp):∀(l:List Nat),l.all (zct P d n ops)=true->∀(L:TT AV d) (w:List Wt) (k:TT AV d->Hp->R1), (qsw P d n ops ms l).f O H.nx L H [] w (fun L H p _=>k L (nT p H))=(q8h P d n ops l).f O L H k
 | [],_,_,_,_=>rfl
 |i::r,hl,L,w,k=>by
  rw[lXK,lI0]at hl;have a:=hl.1;unfold zct at a;unfold qsw q8h;cases u:ops[i]? with
  |none=>simp[u]at a
  |some o=>
   rw[u]at a;simp only[lI0,lOC]at a;show(qvg P d n ops i (ms.getD i 0) o).f O H.nx L H [] w (fun L x p w=>(qsw P d n ops ms r).f O H.nx L x p w (fun L H p _=>k L (nT p H)))=(z9u P d n ops i o).f O L H fun L H=>(q8h P d n ops r).f O L H k;unfold qvg z9u;have c:=a.2;have s:=a.1;have t:o.guard=none->(uL d n ops o).f=fun _=>some true:=fun g=>by unfold uL;rw[g]
   generalize uL d n ops o=h at t;generalize iG P d n o=x2 at s;generalize nU d n (lQ ops o)=m;generalize eB d n o.dst=b;obtain⟨h⟩:=h;obtain⟨m⟩:=m;obtain⟨b⟩:=b;cases x2 with
   |e f=>cases s
   |q lk f=>
    cases g:o.guard with
    |none=>have e:=t g;subst e;rw[c];refine(z3n lk i _ _ H w _ (some true) _ (fun v=>(q8h P d n ops r).f O (b L v) H k) fun v w=>?_).trans (by rw[zb0];rfl);exact qza P d n ops ms O H r hl.2 (b L v) w k
    |some j=>rw[c];exact z3n lk i _ _ H w _ (h (m L)) _ (fun v=>(q8h P d n ops r).f O (b L v) H k) fun v w=>qza P d n ops ms O H r hl.2 (b L v) w k
def xah(P:Program)(d n:Nat)(ops:Array Oper):StC d:=
 match q8f P d n ops with
 |none=>⟨fun _ _ _ _=>.bad⟩
 |some pl=>match pl.ord.all (zct P d n ops)&&Nat.beq pl.up 0,q8h P d n ops pl.ord,qsw P d n ops pl.ms pl.ord with
  |true,⟨g⟩,_=>⟨g⟩
  |false,_,⟨g⟩=>⟨fun O L H k=>g O H.nx L ⟨H.t,H.nx+pl.up⟩ [] [] fun L H p _=>k L (nT p H)⟩
theorem zzb(P:Program)(d n:Nat)(ops:Array Oper)(O:Ev.Call)(L:TT AV d)(H:Hp)(k:TT AV d->Hp->R1):pV ((ql8 P d n ops).f O L H) k=(xah P d n ops).f O L H k:=by
 rw[zzc];unfold xai xah;cases q8f P d n ops with
 |none=>rfl
 |some pl=>
  dsimp only;cases a:(pl.ord.all (zct P d n ops)&&Nat.beq pl.up 0)with
  |false=>rfl
  |true=>rw[lI0]at a;have b:=lIL a.2;rw[b];exact qza P d n ops pl.ms O H pl.ord a.1 L [] k
def thn(b:TT AV d->Hp->R1)(K:Kt d):Kt d:=fun e L H=>match e with| .normal=>b L H|e=>K e L H
def aAP(id:Nat)(K:Kt d):Kt d:=fun e L H=>match e with| .exit i=>bif Nat.beq i id then K .normal L H else K (.exit i) L H|e=>K e L H
structure DnC(d:Nat) where f:Ev.Call->TT AV d->Hp->Kt d->R1
def oK(P:Program)(d n:Nat):Code->DnC d
 | .skip| .label _=>⟨fun _ L H K=>K .normal L H⟩
 | .region _ ops false=>match aEK P d n ops ops.toList with|⟨g⟩=>⟨fun O L H K=>g O L H (K .normal)⟩
 | .region _ ops true=>match xah P d n ops with|⟨g⟩=>⟨fun O L H K=>g O L H (K .normal)⟩
 | .seq a b=>match oK P d n a,oK P d n b with|⟨f⟩,⟨g⟩=>⟨fun O L H K=>f O L H (thn (fun L H=>g O L H K) K)⟩
 | .cond x a b=>match aJ d n x,oK P d n a,oK P d n b with|⟨g⟩,⟨f⟩,⟨h⟩=>⟨fun O L H K=>cd (g L) (f O L H K) (h O L H K)⟩
 | .block id b=>match oK P d n b with|⟨f⟩=>⟨fun O L H K=>f O L H (aAP id K)⟩
 | .scope b=>oK P d n b
 | .exit id=>⟨fun _ L H K=>K (.exit id) L H⟩
 | .ret=>⟨fun _ L H K=>K .ret L H⟩
 |c=>match den P d n c with|⟨g⟩=>⟨fun O L H K=>fin (g O L H) K⟩
theorem zdq(r:Rs d)(K:Kt d):fin (nH r) K=pV r (K .normal):=by cases r<;>rfl
theorem q8w(r:Rc d)(k:TT AV d->Hp->Rc d)(K:Kt d):fin (sI r k) K=fin r (thn (fun L H=>fin (k L H) K) K):=by
 cases r with
 |bad=>rfl
 |ok e L H=>cases e<;>rfl
theorem q3p(id:Nat)(r:Rc d)(K:Kt d):fin (qwc id r) K=fin r (aAP id K):=by
 cases r with
 |bad=>rfl
 |ok e L H=>
  cases e with
  |exit i=>show fin (bif Nat.beq i id then _ else _) K=bif Nat.beq i id then _ else _;cases Nat.beq i id<;>rfl
  |_=>rfl
theorem qgd(P:Program)(d n:Nat)(O:Ev.Call):∀(c:Code) (L:TT AV d) (H:Hp) (K:Kt d),fin ((den P d n c).f O L H) K=(oK P d n c).f O L H K
 | .skip,_,_,_| .label _,_,_,_| .exit _,_,_,_| .ret,_,_,_| .goto _,_,_,_| .loop _,_,_,_| .rangeFunc ..,_,_,_| .refuse _,_,_,_=>rfl
 | .region _ ops false,L,H,K=>(zdq ..).trans (zpv ..)
 | .region _ ops true,L,H,K=>(zdq ..).trans (zzb ..)
 | .seq a b,L,H,K=>by refine(q8w ((den P d n a).f O L H) ((den P d n b).f O) K).trans ?_;rw[qgd P d n O a];show(oK P d n a).f O L H (thn (fun L H=>fin ((den P d n b).f O L H) K) K)=(oK P d n a).f O L H (thn (fun L H=>(oK P d n b).f O L H K) K);congr 2;funext L H;exact qgd P d n O b L H K
 | .cond x a b,L,H,K=>by
  show fin (condC ((aJ d n x).f L) ((den P d n a).f O L H) ((den P d n b).f O L H)) K=cd ((aJ d n x).f L) ((oK P d n a).f O L H K) ((oK P d n b).f O L H K);rw[<-qgd P d n O a,<-qgd P d n O b];generalize (aJ d n x).f L=v;cases v with
  |bool q=>cases q<;>rfl
  |_=>rfl
 | .block id b,L,H,K=>(q3p ..).trans (qgd P d n O b L H (aAP id K))
 | .scope b,L,H,K=>qgd P d n O b L H K
def Lk(P:Program)(d n:Nat)(O:Ev.Call)(c:Code)(K:Kt d)(D:TT AV d->Hp->R1):Prop:=∀ L H,fin ((den P d n c).f O L H) K=D L H
variable {P:Program} {n:Nat} {O:Ev.Call} {K:Kt d}
theorem q0{c:Code}{D:TT AV d->Hp->R1}(h:∀ L H,(oK P d n c).f O L H K=D L H):Lk P d n O c K D:=fun L H=>(qgd P d n O c L H K).trans (h L H)
theorem mA{a b:Code}{D E:TT AV d->Hp->R1}(c:Lk P d n O b K E)(e:Lk P d n O a (thn E K) D):Lk P d n O (.seq a b) K D:=fun L H=>by refine(q8w ((den P d n a).f O L H) ((den P d n b).f O) K).trans ?_;rw[show(fun L H=>fin ((den P d n b).f O L H) K)=E from funext fun L=>funext fun H=>c L H];exact e L H
theorem pB{id:Nat}{b:Code}{D:TT AV d->Hp->R1}(h:Lk P d n O b (aAP id K) D):Lk P d n O (.block id b) K D:=fun L H=>(q3p ..).trans (h L H)
theorem kA{b:Code}{D:TT AV d->Hp->R1}(h:Lk P d n O b K D):Lk P d n O (.scope b) K D:=h
theorem pD{x:Operand}{a b:Code}{A B:TT AV d->Hp->R1}(c:Lk P d n O a K A)(e:Lk P d n O b K B):Lk P d n O (.cond x a b) K (fun L H=>cd ((aJ d n x).f L) (A L H) (B L H)):=fun L H=>by
 show fin (condC ((aJ d n x).f L) ((den P d n a).f O L H) ((den P d n b).f O L H)) K=cd ((aJ d n x).f L) (A L H) (B L H);rw[<-c L H,<-e L H];generalize (aJ d n x).f L=v;cases v with
 |bool q=>cases q<;>rfl
 |_=>rfl
def dN:Nat:=Classical.choose (⟨bZ,rfl⟩:∃ n,n=bZ)
theorem dD:dN=bZ:=lIR (⟨bZ,rfl⟩:∃ n,n=bZ)
theorem p0{b:Code}{D:Nat->TT AV d->Hp->R1}(c:∀ k,Lk P d n O b (thn (D k) K) (D (k+1)))(e:∀ L H,D 0 L H=.bad:=by intros;kernel_rfl):Lk P d n O (.loop b) K (D dN):=by
 have a:∀ k L H,fin (qsz ((den P d n b).f O) k L H) K=D k L H:=by
  intro k
  induction k with
  |zero=>intro L H;exact(e L H).symm
  |succ k ih=>intro L H;show fin (sI ((den P d n b).f O L H) (qsz ((den P d n b).f O) k)) K=_;rw[q8w,show(fun L H=>fin (qsz ((den P d n b).f O) k L H) K)=D k from funext fun L=>funext fun H=>ih L H];exact c k L H
 rw[dD];exact fun L H=>a bZ L H
theorem qS{c:Code}{D E:TT AV d->Hp->R1}(h:Lk P d n O c K D)(e:∀ L H,D L H=E L H:=by intros;kernel_rfl):Lk P d n O c K E:=fun L H=>(h L H).trans (e L H)
def aIG(n:Nat)(O:Ev.Call)(res:TT AV d->Hp->Option AV):Kt d:=fun e L H=>match e with| .normal=>iP n O res L H| .ret=>iP n O res L H|_=>.bad
theorem z8w(n:Nat)(O:Ev.Call)(a:TT AV d->Hp->Option AV)(r:Rc d):aDw n O a r=fin r (aIG n O a):=by
 cases r with
 |bad=>rfl
 |ok e L H=>cases e<;>rfl
def codeOf(f:Func):Code:=match f.body with|some c=>c|none=>.skip
theorem zyx{f:FuncId}{F:Func}(hf:P.funcs[f]? =some F)(hn:(F.name == "runtime.NumGoroutine")=false) (hb:F.body.isSome=true) {args:List AV} (ha:(Nat.ble args.length F.ntmps&&Nat.ble (F.ntmps+1) 262144)=true)
  {D:TT AV (eF (F.ntmps+1))->Hp->R1} (h:Lk P (eF (F.ntmps+1)) F.ntmps O (codeOf F) (aIG F.ntmps O (qb7 P (eF (F.ntmps+1)) F.ntmps F.results.toList).f) D) (H:Hp) :
  (aO P f).f O args H=D (pE args 0 (same .undef _)) H:=by
 unfold aO;rw[hf];simp only[hn,lUE,lX7];unfold codeOf at h;cases hc:F.body with
 |none=>rw[hc]at hb;cases hb
 |some c=>rw[hc]at h;show(bif Nat.ble args.length F.ntmps&&Nat.ble (F.ntmps+1) 262144 then aDw F.ntmps O _ _ else .bad)=_;rw[ha,<-h _ H];exact z8w ..
end Go.Di
namespace Go.Di
open Go.Ev
variable {d n:Nat} {P:Program} {O:Ev.Call}
def qlf:Code->Bool
 | .region _ ops _=> !(ops.toList.any rQ)
 | .seq a b=>qlf a&&qlf b
 | .cond _ a b=>qlf a&&qlf b
 | .block _ b=>qlf b
 | .loop b=>qlf b
 | .scope b=>qlf b
 | .rangeFunc .. =>true
 |_=>true
theorem zrt{o:Oper}(h:rQ o=false):aAi o=none:=by
 unfold rQ at h;unfold aAi;split
 ·simp_all
 ·rfl
theorem q2q(f:n<8 ^ d){ops:Array Oper}:∀(l:List Oper),l.any rQ=false->∀{L:TT AV d} {H:Hp} {a:TT AV d} {c:Hp},(qF P d n ops l).f O L H=.ok a c->(dW d n).f a=(dW d n).f L
 | [],_,L,H,a,c,h=>by cases h;rfl
 |o::r,hl,L,H,a,c,h=>by
  rw[List.any_cons,lXD]at hl;have e:zgg ((qjr P d n ops o).f O L H) ((qF P d n ops r).f O)=.ok a c:=h;cases b:(qjr P d n ops o).f O L H with
  |bad=>rw[b]at e;cases e
  |ok L1 H1=>rw[b]at e;unfold qjr at b;rw[zrt hl.1]at b;exact(q2q f r hl.2 e).trans (qvh f b)
theorem qd6(p:n<8 ^ d):∀(c:Code),qlf c=true->∀{L:TT AV d} {H:Hp} {e:Ex} {l:TT AV d} {o:Hp},(den P d n c).f O L H=.ok e l o->(dW d n).f l=(dW d n).f L
 | .skip,_,_,_,_,_,_,h| .label _,_,_,_,_,_,_,h| .exit _,_,_,_,_,_,_,h| .ret,_,_,_,_,_,_,h=>by cases h;rfl
 | .goto _,_,_,_,_,_,_,h| .refuse _,_,_,_,_,_,_,h=>by cases h
 | .rangeFunc f ps sa bd,_,L,H,e,l,o,h=>by
  rw[den]at h;split at h
  ·cases h
  ·rename_i g _ _;have h:endLoop H.nx (qj9 O (g L) [.yield H.nx] (aK H (.loop true none d n L ps.toList sa bd))) L=.ok e l o:=h;unfold endLoop at h;split at h
   ·cases h
   ·split at h<;>first|(cases h;rfl)|cases h
 | .region _ ops false,hc,L,H,e,l,o,h=>by
  have j:nH ((qF P d n ops ops.toList).f O L H)=.ok e l o:=h;cases m:(qF P d n ops ops.toList).f O L H with
  |bad=>rw[m]at j;cases j
  |ok L1 H1=>rw[m]at j;cases j;exact q2q p _ (by simpa [qlf] using hc) m
 | .region _ ops true,_,L,H,e,l,o,h=>by
  have j:nH ((ql8 P d n ops).f O L H)=.ok e l o:=h;cases m:(ql8 P d n ops).f O L H with
  |bad=>rw[m]at j;cases j
  |ok L1 H1=>rw[m]at j;cases j;exact qv6 p m
 | .seq a b,hc,L,H,e,l,o,h=>by
  simp only[qlf,lI0]at hc;have j:sI ((den P d n a).f O L H) ((den P d n b).f O)=.ok e l o:=h;cases m:(den P d n a).f O L H with
  |bad=>rw[m]at j;cases j
  |ok e1 L1 H1=>
   rw[m]at j;have g1:=qd6 p a hc.1 m;cases e1 with
   |normal=>exact(qd6 p b hc.2 j).trans g1
   |exit i=>cases j;exact g1
   |goto i=>cases j;exact g1
   |ret=>cases j;exact g1
 | .cond x a b,hc,L,H,e,l,o,h=>by
  simp only[qlf,lI0]at hc;have j:condC ((aJ d n x).f L) ((den P d n a).f O L H) ((den P d n b).f O L H)=.ok e l o:=h;unfold condC at j;split at j
  ·exact qd6 p a hc.1 j
  ·exact qd6 p b hc.2 j
  ·cases j
 | .block id b,hc,L,H,e,l,o,h=>by
  have j:qwc id ((den P d n b).f O L H)=.ok e l o:=h;cases m:(den P d n b).f O L H with
  |bad=>rw[m]at j;cases j
  |ok e1 L1 H1=>
   rw[m]at j;have g1:=qd6 p b hc m;cases e1 with
   |exit i=>
    have r:(bif Nat.beq i id then Rc.ok .normal L1 H1 else Rc.ok (.exit i) L1 H1)=.ok e l o:=j;cases s:Nat.beq i id with
    |true=>rw[s]at r;cases r;exact g1
    |false=>rw[s]at r;cases r;exact g1
   |normal=>cases j;exact g1
   |goto i=>cases j;exact g1
   |ret=>cases j;exact g1
 | .loop b,hc,L,H,e,l,o,h=>by
  have q:∀(k:Nat) {L:TT AV d} {H:Hp},qsz ((den P d n b).f O) k L H=.ok e l o->(dW d n).f l=(dW d n).f L:=by
   intro k
   induction k with
   |zero=>intro L H h;cases h
   |succ k ih=>
    intro L H h;have j:sI ((den P d n b).f O L H) (qsz ((den P d n b).f O) k)=.ok e l o:=h;cases m:(den P d n b).f O L H with
    |bad=>rw[m]at j;cases j
    |ok e1 L1 H1=>
     rw[m]at j;have g1:=qd6 p b hc m;cases e1 with
     |normal=>exact(ih j).trans g1
     |exit i=>cases j;exact g1
     |goto i=>cases j;exact g1
     |ret=>cases j;exact g1
  exact q bZ h
 | .scope b,hc,L,H,e,l,o,h=>qd6 p b hc h
def aE6(res:TT AV d->Hp->Option AV):Kt d:=fun e L H=>match e with| .normal=>cO (res L H) H| .ret=>cO (res L H) H|_=>.bad
theorem kB{c:Code}{K:Kt d}:Lk P d n O c K (fun L H=>(oK P d n c).f O L H K):=fun L H=>qgd P d n O c L H K
theorem qga{f:FuncId}{F:Func}(hf:P.funcs[f]? =some F)(hn:(F.name == "runtime.NumGoroutine")=false) (hb:F.body.isSome=true) (hd:qlf (codeOf F)=true) {args:List AV} (ha:(Nat.ble args.length F.ntmps&&Nat.ble (F.ntmps+1) 262144)=true)
  {D:TT AV (eF (F.ntmps+1))->Hp->R1} (h:Lk P (eF (F.ntmps+1)) F.ntmps O (codeOf F) (aE6 (qb7 P (eF (F.ntmps+1)) F.ntmps F.results.toList).f) D) (H:Hp) :
  (aO P f).f O args H=D (pE args 0 (same .undef _)) H:=by
 refine(zyx hf hn hb ha (D:=fun L H=>fin ((den P (eF (F.ntmps+1)) F.ntmps (codeOf F)).f O L H) (aIG F.ntmps O (qb7 P (eF (F.ntmps+1)) F.ntmps F.results.toList).f)) (fun _ _=>rfl) H).trans ?_;rw[<-h];cases h1:(den P (eF (F.ntmps+1)) F.ntmps (codeOf F)).f O (pE args 0 (same .undef _)) H with
 |bad=>rfl
 |ok e L' H'=>
  have hs:=qd6 (af (lU6 _) (qbz _)) (codeOf F) hd h1;simp only[lI0,Nat.ble_eq]at ha;have h0:=qk6 ha.1 ha.2;have hout:iP F.ntmps O (qb7 P (eF (F.ntmps+1)) F.ntmps F.results.toList).f L' H'=cO ((qb7 P (eF (F.ntmps+1)) F.ntmps F.results.toList).f L' H') H':=by unfold iP;rw[hs,h0];rfl
  cases e with
  |normal=>exact hout
  |ret=>exact hout
  |exit i=>rfl
  |goto i=>rfl
end Go.Di
end
noncomputable section
namespace Go.Di
open Go.Ev
def dz(up:Nat)(H:Hp)(k:Nat->Hp->R1):R1:=k H.nx ⟨H.t,H.nx+up⟩
def dz2(p:List Pd)(H:Hp)(k:Hp->R1):R1:=k (nT p H)
def rV(r:R0):Option AV:=match r with| .val v=>some v|_=>none
def d9(a:Option AV)(b:Option (List AV)):Option (List AV):=match a,b with|some v,some l=>some (v::l)|_,_=>none
def eT(a:Option (List AV)):Option AV:=match a with|some l=>some (.bB l)|none=>none
def p1:P1:=⟨fun cs off=>cs[off]?⟩
def aV(x:AV):R0:=match x with| .ptr b o=>.val (.ptr b o)| .fn a b c=>.val (.fn a b c)| .yield l=>.val (.yield l)|_=>.bad
def aW(i:Nat)(x:AV):R0:=match x with| .bB l=>(match l[i]? with|some v=>.val v|none=>.bad)|_=>.bad
end Go.Di
end
noncomputable section
namespace Go.Ev
open Go.RowKit Go.Sort
variable {P:Program} {w:World} {ι:Im} {H:Hp}
def qr0:List AV->Option (List Int)
 | []=>some []
 | .int .i64 z::l=>match qr0 l with|some r=>some (z::r)|none=>none
 |_::_=>none
def qjs(zs:List Int):List Int:=zs.mergeSort fun x y=>decide (x<=y)
def q1q(H:Hp)(b o n:Nat):Option R1:=
 match iF (H.get b) o n with
 |some l=>match qr0 l with
  |some zs=>match storeAt H b o ((qjs zs).map fun z=>.int .i64 z) (.bB [])with
   | .ok v H'=>bif Nat.blt n 4611686018427387904 then some (.ok v H')else none
   | .bad=>none
  |none=>none
 |none=>none
def qyt(f:FuncId)(e:Ext):Ext:=fun g args H=>
 bif Nat.beq g f then(match args with
 | [.sl b o n _ _]=>q1q H b o n
 | [.aA]=>some (.ok (.bB []) H)
 |_=>none)else e g args H
theorem qvy:∀{l:List AV} {zs:List Int},qr0 l=some zs->l=zs.map fun z=>.int .i64 z
 | [],zs,h=>by cases h;rfl
 | .int .i64 z::l,zs,h=>by
  unfold qr0 at h;split at h
  ·rename_i r a;cases h;rw[qvy a];rfl
  ·cases h
 | .int .i8 _::_,_,h| .int .i16 _::_,_,h| .int .i32 _::_,_,h| .int .u8 _::_,_,h| .int .u16 _::_,_,h| .int .u32 _::_,_,h| .int .u64 _::_,_,h=>by cases h
 | .undef::_,_,h| .lit _::_,_,h| .bool _::_,_,h| .str _ _::_,_,h| .ptr _ _::_,_,h| .bS::_,_,h| .sl _ _ _ _ _::_,_,h| .aA::_,_,h| .sle::_,_,h| .map _::_,_,h| .eP::_,_,h| .fn _ _ _::_,_,h| .yield _::_,_,h| .jE::_,_,h| .iface _ _::_,_,h| .oW::_,_,h| .agg _::_,_,h| .bB _::_,_,h=>by cases h
def pX(P:Program)(f:FuncId):Prop:=∀(blk off cap:Nat) (zs:List Int) (w:World),Holds (Value.int .i64) w blk off zs.toArray->blk<w.heap.size->zs.length<4611686018427387904 ->
 Calls P f #[.slice (some ⟨blk,off,none⟩) zs.length cap] w fun e w'=>e=.returned (.tuple #[])/\∃ n os,w'=Go.Sort.grow (putRow (Value.int .i64) (Sort.ahead w n) blk off (qjs zs).toArray) os
theorem qq0(zs:List Int):(qjs zs).length=zs.length:=List.length_mergeSort _
theorem q79{α:Type}[Inhabited α](enc:α->Value){b a e:Nat}{c:TT AV a}{f o:Nat}{loc:Loc}(q:HR ι H w)(x:H.get b=.cells a e c false f)(p:ι b=some loc){r d:Array α}(s:Holds enc w loc.blk (loc.base+o) r)(t:d.size=r.size){l:List AV}(B:l.length=d.size)(C:o+d.size<=e)(g:∀ j,j<d.size->aR ι (l.getD j .undef) (enc d[j]!)/\(enc d[j]!).oneCell=true)(k:Nat)(u:Array Obj):HR ι (H.put b (.cells a e (pE l o c) false f)) (Go.Sort.grow (putRow enc (Sort.ahead w k) loc.blk (loc.base+o) d) u)/\Fr ι ι H (H.put b (.cells a e (pE l o c) false f)) w (Go.Sort.grow (putRow enc (Sort.ahead w k) loc.blk (loc.base+o) d) u):=by
 have h:=q.lt p;have y:=q.blk b h;rw[x]at y;obtain⟨R,z,A,K,L⟩:=y;rw[p]at z;cases z;have i:HR ι (H.put b (.cells a e (pE l o c) false f)) (putRow enc (Sort.ahead w k) loc.blk (loc.base+o) d)/\Fr ι ι H (H.put b (.cells a e (pE l o c) false f)) w (putRow enc (Sort.ahead w k) loc.blk (loc.base+o) d):=by
  refine q.put h (by rw[x];rfl) p _ rfl rfl rfl (by rw[size_putRow];rfl) (fun D E=>?_) ?_
  ·show(w.heap.modify loc.blk _)[D]? =_;rw[Array.getElem?_modify,lEU (by omega)]
  ·refine⟨loc,p,A,fun j v=>?_,fun _ j v=>?_⟩
   ·have G:=A.1;rw[qhp _ _ _ _ (by omega) (by omega),B];obtain⟨V,M,N,O,S⟩:=K j v;by_cases n:o<=j/\j<o+d.size
    ·rw[lEZ n];obtain⟨P,Q⟩:=g (j-o) (by omega);refine⟨enc d[j-o]!,?_,P,Q,fun _=>?_⟩
     ·have I:=cell?_putRow enc (Sort.ahead w k) loc.blk (loc.base+o) r d s t (j-o) (by omega);rwa [show loc.base+o+(j-o)=loc.base+j by omega]at I
     ·simp_all
    ·rw[lEU n];refine⟨V,?_,N,O,fun _=>?_⟩
     ·rw[cell?_putRow_other _ _ _ _ _ _ (.inr (by simp only;omega))];exact M
     ·simp_all
   ·have J:=L rfl j v;rw[frozen?_putRow,cell?_putRow_other _ _ _ _ _ _ (.inr (by simp only;omega))];exact J
 obtain⟨g1,g2⟩:=i;have m:Below (putRow enc (Sort.ahead w k) loc.blk (loc.base+o) d).heap.size (putRow enc (Sort.ahead w k) loc.blk (loc.base+o) d) (Go.Sort.grow (putRow enc (Sort.ahead w k) loc.blk (loc.base+o) d) u):=⟨rfl,rfl,rfl,by rw[Go.Sort.size_grow];omega,fun c F=>Go.Sort.heap_grow_old _ _ F⟩;obtain⟨g3,g4⟩:=g1.of_below m;exact⟨g3,g2.trans g4⟩
theorem qgr{b:bX}{o n:Nat}{l:List AV}(h:iF b o n=some l):∃ e d c f g,b=.cells e d c f g/\o+n<=d/\l.length=n/\∀ j,j<n->l[j]? =some ((dW e (o+j)).f c):=by
 cases b with
 |cells e d c f g=>
  have h:(bif Nat.ble (o+n) d then some (xO c n o)else none)=some l:=h;cases a:Nat.ble (o+n) d with
  |false=>rw[a]at h;cases h
  |true=>rw[a]at h;simp only[lII,lI4]at h;subst h;exact⟨e,d,c,f,g,rfl,pM a,qgq c n o,zpe c n o⟩
 |_=>cases h
theorem qhs{b o:Nat}{l:List AV}{v g:AV}{i:Hp}{e d j:Nat}{c:TT AV e}{f:Bool}(k:H.get b=.cells e d c f j)(h:storeAt H b o l v=.ok g i):f=false/\g=v/\i=H.put b (.cells e d (pE l o c) false j)/\o+l.length<=d:=by
 unfold storeAt xZ at h;rw[k]at h;cases f with
 |true=>cases h
 |false=>
  dsimp only at h;cases a:Nat.ble (o+l.length) d with
  |false=>rw[a]at h;cases h
  |true=>rw[a]at h;cases h;exact⟨rfl,rfl,rfl,pM a⟩
theorem zxb{f:FuncId}(N:pX P f){b o n m:Nat}{x:Bool}{v:AV}{E:Hp}(h:q1q H b o n=some (.ok v E)){F:List Value}(s:HR ι H w)(O:aL ι [.sl b o n m x] F):Calls P f F.toArray w (Post ι H w v E):=by
 obtain⟨V,r,rfl,⟨R,loc,t,rfl⟩,rfl⟩:=O;unfold q1q at h;split at h
 ·rename_i l S;split at h
  ·rename_i zs T;have y:=qvy T;split at h
   ·rename_i Z H2 C;cases i:Nat.blt n 4611686018427387904 with
    |false=>rw[i]at h;cases h
    |true=>
     rw[i]at h;cases h;have i:=pM i;obtain⟨U,nn,c,ro,zz,u,W,D,I⟩:=qgr S;obtain⟨rfl,rfl,rfl,_⟩:=qhs u C;have p:=s.lt t;have G:=s.blk b p;rw[u]at G;obtain⟨l',J,b2,X,b4⟩:=G;rw[t]at J;cases J;have A:zs.length=n:=by rw[<-D,y,lET]
     subst A;have g:∀ j,j<zs.length->(dW U (o+j)).f c=.int .i64 zs[j]! :=fun j a=>by simp_all
     have q:Holds (Value.int .i64) w loc.blk (loc.base+o) zs.toArray:=fun j a=>by
      have a:j<zs.length:=by simpa using a
      obtain⟨V,K,L,c3,M⟩:=X (o+j) (by omega);rw[g j a]at L;subst L;rw[<-lIP]at K M;refine⟨?_,M rfl⟩;rw[K];simp
     have B:loc.blk<w.heap.size:=s.low b loc p (by rw[u];rfl) t;refine(N loc.blk (loc.base+o) (if x then m else m+loc.ext) zs w q B i).mono fun e w' Q=>?_;obtain⟨rfl,k,Y,rfl⟩:=Q;obtain⟨g1,g2⟩:=q79 (Value.int .i64) s u t q (d:=(qjs zs).toArray) (l:=(qjs zs).map fun z=>.int .i64 z) (by simp[qq0]) (by simp) (by simp[qq0];omega) (fun j a=>by
      have a:j<(qjs zs).length:=by simpa using a
      refine⟨?_,rfl⟩;rw[lES,lO6,gp a];simp[a,aR]) k Y
     exact⟨ι,by simp only[aR,aL];exact⟨[],rfl,rfl⟩,g1,g2⟩
   ·cases h
  ·cases h
 ·cases h
def zsl(P:Program)(f:FuncId):Prop:=∀ w,Calls P f #[.slice none 0 0] w fun e w'=>e=.returned (.tuple #[])/\Below w.heap.size w w'
def zqt:R1->Bool
 | .ok (.bB []) _=>true
 | .ok _ _=>false
 | .bad=>false
theorem qsu(d:P.follows .mixedOrders=true){ext:Ext}(g:qh2 P ext){k:Nat}{f:FuncId}(h:zqt (gV P ext k (.f f) [.aA] Hp.empty)=true):zsl P f:=by
 intro w;unfold zqt at h;split at h
 ·rename_i m i;have:=((qka d g k).fn _ _ _ _ _ i (fun _=>none) w [.slice none 0 0] HR.empty (by simp[aL,aR])).2 0;refine(callsIn_wide.1 this).mono fun e w' a=>?_;cases e with
  |returned V=>obtain⟨n,c,o,j⟩:=a;obtain⟨r,rfl,c⟩:=c;exact⟨by simp[c],j.below _ (lEO _) fun b l _ _ h=>by cases h⟩
  |panicked=>exact a.elim
  |outgrown=>exact a.elim
 ·cases h
 ·cases h
theorem qfb{f:FuncId}(hb:qf8 P f=true)(A:Array Value):(callFunc f A).run P w=.ok (.enter f A) w:=by
 unfold qf8 at hb;split at hb
 ·rename_i fn hfn;simp only[lI0,lOC]at hb;obtain⟨c,hc'⟩:=lXF.1 hb.1
  have hname':¬ fn.name = "runtime.NumGoroutine" :=fun e=>by rw[e]at hb;simp at hb
  simp[callFunc,hfn,hname',hc']
 ·cases hb
theorem zet{e:Ext}(i:qh2 P e){f:FuncId}(j:pX P f)(k:zsl P f)(l:qf8 P f=true):qh2 P (qyt f e):=by
 refine⟨fun g args H r a v n b ι w o c d=>?_⟩;unfold qyt at a;cases h:Nat.beq g f with
 |false=>rw[h]at a;exact i.fn g _ H r a v n b ι w o c d
 |true=>
  rw[h]at a;obtain rfl:=lIL h;refine⟨qfb l _,fun m=>callsIn_wide.2 ?_⟩;split at a
  ·subst b;exact zxb j a c d
  ·cases a;cases b;obtain⟨V,r,rfl,rfl,rfl⟩:=d;refine(k w).mono fun e w' p=>?_;obtain⟨rfl,q⟩:=p;obtain⟨s,k2⟩:=c.of_below q;exact⟨ι,by simp[aR,aL],s,k2⟩
  ·cases a
structure Eg where
 (f t:Int)
 s:Bool
 deriving Inhabited
def egV(e:Eg):List AV:=[.int .i64 e.f,.int .i64 e.t,.bool e.s]
def egU(e:Eg):List Value:=[.int .i64 e.f,.int .i64 e.t,.bool e.s]
def qsb:List AV->Option (List Eg)
 | []=>some []
 | .int .i64 f:: .int .i64 t:: .bool s::l=>match qsb l with|some r=>some (⟨f,t,s⟩::r)|none=>none
 |_=>none
def cI(a b:Int):Int:=if a<b then -1 else if b<a then 1 else 0
def or3(a b c:Int):Int:=if a=0 then if b=0 then c else b else a
def zU(s:Bool):Int:=if s then 1 else 0
def jS(x y:Eg):Int:=or3 (cI x.f y.f) (cI x.t y.t) (cI (zU x.s) (zU y.s))
def qlv(l:List Eg):List Eg:=l.mergeSort fun x y=> !decide (jS y x<0)
theorem zeu(l:List Eg):(qlv l).length=l.length:=List.length_mergeSort _
theorem zrn:∀{l:List AV} {es:List Eg},qsb l=some es->l=es.flatMap egV:=by
 intro l
 induction l using qsb.induct with
 |case1=>intro es h;unfold qsb at h;cases h;rfl
 |case2 f t s l r h1 ih=>intro es h;unfold qsb at h;rw[h1]at h;cases h;rw[ih h1];rfl
 |case3 f t s l h1 _=>intro es h;unfold qsb at h;simp_all
 |case4 l h1 h2=>
  intro es h;unfold qsb at h;split at h
  ·trivial
  ·rename_i f t s l;exact absurd rfl (h2 f t s l)
  ·cases h
theorem zrk(es:List Eg):(es.flatMap egV).length=es.length*3:=by
 induction es with
 |nil=>rfl
 |cons a l ih=>rw[lIQ,lEP,ih,lEX];show 3+_=_;omega
theorem zrm:∀(es:List Eg) (t:Nat) (h:t<es.length*3),(es.flatMap egV)[t]? =(egV (es[t / 3]'(by omega)))[t%3]?
 | [],t,h=>by simp at h
 |a::l,t,h=>by
  rw[lIQ];by_cases d:t<3
  ·rw[lIO (by show t<3;exact d)];have b:t / 3=0:=by omega
   have c:t%3=t:=by omega
   simp only[b,c,List.getElem_cons_zero]
  ·rw[lIJ (by show 3<=t;omega)];show(l.flatMap egV)[t-3]? =_;rw[lEX]at h;rw[zrm l (t-3) (by omega)];have b:t / 3=(t-3) / 3+1:=by omega
   have c:t%3=(t-3)%3:=by omega
   simp_all
theorem z2t(e:Eg){i:Nat}(a:i<3){V:Value}:aR ι ((egV e).getD i .undef) V↔V=(egU e)[i]!:=by
 match i,a with
 |0,_|1,_|2,_=>simp only[egV,egU];exact Iff.rfl
theorem xag(e:Eg){i:Nat}(a:i<3):((egU e)[i]!).oneCell=true:=by
 match i,a with
 |0,_|1,_|2,_=>rfl
def q1v(H:Hp)(b o n:Nat):Option R1:=
 match iF (H.get b) o (n*3)with
 |some l=>match qsb l with
  |some es=>match storeAt H b o ((qlv es).flatMap egV) (.bB [])with
   | .ok v H'=>bif Nat.blt n 4611686018427387904 then some (.ok v H')else none
   | .bad=>none
  |none=>none
 |none=>none
def nM(P:Program)(f fc:FuncId):Prop:=∀(d:Array Eg) (blk off cap:Nat) (w:World),Go.Sort.HoldsK egU 3 w blk off d->blk<w.heap.size->d.size<4611686018427387904 ->
 Calls P f #[.slice (some ⟨blk,off,none⟩) d.size cap,.func (.func fc) #[] #[]] w fun e w'=>e=.returned (.tuple #[])/\∃ n os,w'=Go.Proofs.sortWorldK egU 3 w blk off n (qlv d.toList).toArray os
def vJ(P:Program)(f:FuncId):Prop:=∀ p cap fv w,Calls P f #[.slice p 0 cap,fv] w fun e w'=>e=.returned (.tuple #[])/\w'=w
def qgm(f fc:FuncId)(e:Ext):Ext:=fun g args H=>
 bif Nat.beq g f then(match args with
 | [.sl b o n _ _,.fn c [] []]=>bif Nat.beq c fc then q1v H b o n else none
 | [.aA,.fn c [] []]=>bif Nat.beq c fc then some (.ok (.bB []) H)else none
 |_=>none)else e g args H
theorem zoy{f I:FuncId}(T:nM P f I){b o n m:Nat}{x:Bool}{v:AV}{J:Hp}(h:q1v H b o n=some (.ok v J)){K:List Value}(z:HR ι H w)(U:aL ι [.sl b o n m x,.fn I [] []] K):Calls P f K.toArray w (Post ι H w v J):=by
 obtain⟨V,r,rfl,⟨hnm,loc,B,rfl⟩,V2,r2,rfl,⟨_,_,rfl,rfl,rfl⟩,rfl⟩:=U;unfold q1v at h;split at h
 ·rename_i l hl;split at h
  ·rename_i es hz;have p:=zrn hz;split at h
   ·rename_i v' H2 F;cases A:Nat.blt n 4611686018427387904 with
    |false=>rw[A]at h;cases h
    |true=>
     rw[A]at h;cases h;have A:=pM A;obtain⟨dd,nn,c,ro,zz,C,hle,G,y⟩:=qgr hl;obtain⟨rfl,rfl,rfl,_⟩:=qhs C F;have q:=z.lt B;have L:=z.blk b q;rw[C]at L;obtain⟨l',O,b2,b3,b4⟩:=L;rw[B]at O;cases O;have D:es.length=n:=by rw[p,zrk]at G;omega
     subst D;have M:∀(d:List Eg) (t:Nat),t<d.length*3->(Go.Sort.flatK egU 3 d.toArray)[t]! =(egU (d[t / 3]!))[t%3]! :=fun d t W=>by rw[Go.Sort.get_flatK egU 3 d.toArray t (by simpa using W)];simp
     have s:Go.Sort.HoldsK egU 3 w loc.blk (loc.base+o) es.toArray:=fun j a=>by
      have a:j<es.length*3:=by simpa using a
      obtain⟨V,Q,R,c3,S⟩:=b3 (o+j) (by omega);have Y:=y j a;have N:=zrm es j a;rw[<-p,Y]at N;have g:j%3<3:=lOK _ (by omega);have Z:(dW dd (o+j)).f c=(egV (es[j / 3]'(by omega))).getD (j%3) .undef:=by rw[lES,<-N];rfl
      rw[Z,z2t _ g]at R;subst R;rw[<-lIP]at Q S;refine⟨?_,S rfl⟩;rw[Q];show some _=some (Go.Sort.flatK egU 3 es.toArray)[j]!;rw[M es j a,getElem!_pos es (j / 3) (by omega)]
     have E:loc.blk<w.heap.size:=z.low b loc q (by rw[C];rfl) B;have i:=T es.toArray loc.blk (loc.base+o) (if x then m else m+loc.ext) w s E (by rw[List.size_toArray];omega);refine i.mono fun e w' X=>?_;obtain⟨rfl,k,os,rfl⟩:=X;have u:=zeu es;obtain⟨g1,g2⟩:=q79 (α:=Value) id z C B s (d:=Go.Sort.flatK egU 3 (qlv es).toArray) (l:=(qlv es).flatMap egV) (by simp[u]) (by rw[zrk];simp) (by simp[u];omega) (fun j a=>by
      have a:j<(qlv es).length*3:=by simpa using a
      have g:j%3<3:=lOK _ (by omega);rw[M _ j a,getElem!_pos (qlv es) (j / 3) (by omega)];refine⟨?_,xag _ g⟩;rw[lES,zrm _ j a,<-lES];exact(z2t _ g).2 rfl) k os
     exact⟨ι,by simp only[aR,aL];exact⟨[],rfl,rfl⟩,g1,g2⟩
   ·cases h
  ·cases h
 ·cases h
theorem q73{e:Ext}(q:qh2 P e){f h:FuncId}(s:nM P f h)(t:vJ P f)(u:qf8 P f=true):qh2 P (qgm f h e):=by
 refine⟨fun g args H r a v y i ι w z j l=>?_⟩;unfold qgm at a;cases p:Nat.beq g f with
 |false=>rw[p]at a;exact q.fn g _ H r a v y i ι w z j l
 |true=>
  rw[p]at a;obtain rfl:=lIL p;refine⟨qfb u _,fun k=>callsIn_wide.2 ?_⟩;split at a
  ·rename_i b o n m x c;cases d:Nat.beq c h with
   |false=>rw[d]at a;cases a
   |true=>rw[d]at a;obtain rfl:=lIL d;subst i;exact zoy s a j l
  ·rename_i c;cases d:Nat.beq c h with
   |false=>rw[d]at a;cases a
   |true=>rw[d]at a;cases a;cases i;obtain⟨V,r,rfl,rfl,V2,B,rfl,⟨_,_,rfl,rfl,rfl⟩,rfl⟩:=l;exact(t none 0 _ w).mono fun e w' A=>by obtain⟨rfl,rfl⟩:=A;exact⟨ι,by simp[aR,aL],j,Fr.refl _ _ _⟩
  ·cases a
def aIE(P:Program)(f:FuncId)(s:Nat×Nat):Prop:=∀(V:Value) (ι:Im) (w:World),aR ι (.str s.1 s.2) V->Calls P f #[V] w fun e w'=>e=.returned (.bool true)/\Below w.heap.size w w'
def qyk(fs:List FuncId)(ns:List (Nat×Nat))(e:Ext):Ext:=fun g args H=>
 bif fs.any (Nat.beq g)then(match args with
 | [.str n a]=>bif ns.any (fun s=>Nat.beq n s.1&&Nat.beq a s.2)then some (.ok (.bool true) H)else none
 |_=>none)else e g args H
theorem zej{e:Ext}(x:qh2 P e){i:List FuncId}{m:List (Nat×Nat)}(h:∀ f∈i,∀s∈m,aIE P f s)(y:i.all (qf8 P)=true):qh2 P (qyk i m e):=by
 refine⟨fun g args H r b v z q ι w A t u=>?_⟩;unfold qyk at b;cases j:i.any (Nat.beq g)with
 |false=>rw[j]at b;exact x.fn g _ H r b v z q ι w A t u
 |true=>
  rw[j]at b;rw[lUH]at j;obtain⟨I,d,o⟩:=j;obtain rfl:=lIL o;refine⟨qfb (lOQ.1 y _ d) _,fun k=>callsIn_wide.2 ?_⟩;split at b
  ·rename_i n a;cases l:m.any (fun s=>Nat.beq n s.1&&Nat.beq a s.2)with
   |false=>rw[l]at b;cases b
   |true=>rw[l]at b;cases b;cases q;rw[lUH]at l;obtain⟨s,p,c⟩:=l;rw[lI0]at c;have C:=lIL c.1;have D:=lIL c.2;subst C D;obtain⟨V,r,rfl,E,rfl⟩:=u;refine(h g d s p V ι w E).mono fun e w' B=>?_;obtain⟨rfl,F⟩:=B;obtain⟨G,k2⟩:=t.of_below F;exact⟨ι,by simp[aR],G,k2⟩
  ·cases b
theorem q7s(c:P.follows .mixedOrders=true){ext:Ext}(d:qh2 P ext){k:Nat}{f:FuncId}{s:Nat×Nat}(h:qvx (gV P ext k (.f f) [.str s.1 s.2] Hp.empty)=true):aIE P f s:=by
 intro V ι w g;unfold qvx at h;split at h
 ·rename_i b n i;subst h;have:=((qka c d k).fn _ _ _ _ _ i (fun _=>none) w [V] HR.empty (by simp only[aL];exact⟨V,[],rfl,by simpa only[aR] using g,rfl⟩)).2 0;refine(callsIn_wide.1 this).mono fun e w' a=>?_;cases e with
  |returned V=>obtain⟨o,j,p,m⟩:=a;exact⟨by rw[j],m.below _ (lEO _) fun b l _ _ h=>by cases h⟩
  |panicked=>exact a.elim
  |outgrown=>exact a.elim
 ·cases h
def headA(H:Hp):AV->Option Int
 | .sl b o n _ _=>bif Nat.blt 0 n then(match bI (H.get b) o with| .val (.int .i64 z)=>some z|_=>none)else none
 |_=>none
def qr2(H:Hp):List AV->Option (List Int)
 | []=>some []
 |v::l=>match headA H v,qr2 H l with|some z,some r=>some (z::r)|_,_=>none
def aA0(zs:List Int)(i j:Fin zs.length):Bool:=decide (zs[i]-zs[j]<0)
def dM(zs:List Int)(h:0<zs.length):Array (Fin zs.length):=
 letI:Inhabited (Fin zs.length):=⟨⟨0,h⟩⟩
 pdq (aA0 zs) (Array.finRange zs.length) 0 (Array.finRange zs.length).size (Go.Lib.bitLen (Array.finRange zs.length).size) true true
structure aHS(zs:List Int):Prop where
 pos:0<zs.length
 len:zs.length<4611686018427387904
 rng:∀ z∈zs,0<=z/\z<4611686018427387904
open Classical in
def qq2(H:Hp)(b o n:Nat):Option R1:=
 match iF (H.get b) o n with
 |some l=>match qr2 (H.put b .dead) l with
  |some zs=>if h:aHS zs then(match storeAt H b o ((dM zs h.pos).toList.map fun i:Fin zs.length=>l.getD i.1 .undef) (.bB [])with
   | .ok v H'=>bif Nat.beq (dM zs h.pos).size zs.length then some (.ok v H')else none
   | .bad=>none)else none
  |none=>none
 |none=>none
def qn6(f fc:FuncId)(e:Ext):Ext:=fun g args H=>
 bif Nat.beq g f then(match args with
 | [.sl b o n _ _,.fn c [] []]=>bif Nat.beq c fc then(bif Nat.beq n 0 then some (.ok (.bB []) H)else qq2 H b o n)else none
 | [.aA,.fn c [] []]=>bif Nat.beq c fc then some (.ok (.bB []) H)else none
 |_=>none)else e g args H
def pQ(P:Program)(f:FuncId):Prop:=∀ p cap fv w,Calls P f #[.slice p 0 cap,fv] w fun e w'=>e=.returned (.tuple #[])/\w'=w
theorem qq1{f:FuncId}(b:pQ P f){p:Option Addr}{a:Nat}{fv:Value}(c:HR ι H w):Calls P f #[.slice p 0 a,fv] w (Post ι H w (.bB []) H):=
 (b p a fv w).mono fun e w' d=>by obtain⟨rfl,rfl⟩:=d;exact⟨ι,by simp[aR,aL],c,Fr.refl _ _ _⟩
def nY(P:Program)(f fc:FuncId):Prop:=∀(zs:List Int) (h:aHS zs) (enc:Fin zs.length->Value) (blk off cap:Nat) (w:World),
 letI:Inhabited (Fin zs.length):=⟨⟨0,h.pos⟩⟩
 (∀i:Fin zs.length,∃ba oa na ca,enc i=.slice (some ⟨ba,oa,none⟩) na ca/\0<na/\ba≠blk/\ba<w.heap.size/\w.cell? ⟨ba,oa,none⟩=some (.int .i64 zs[i])) ->
 Holds enc w blk off (Array.finRange zs.length)->blk<w.heap.size ->
 Calls P f #[.slice (some ⟨blk,off,none⟩) zs.length cap,.func (.func fc) #[] #[]] w fun e w'=>e=.returned (.tuple #[])/\∃ n os,w'=Go.Sort.grow (putRow enc (Sort.ahead w n) blk off (dM zs h.pos)) os
theorem qvz{H:Hp}:∀{l:List AV} {zs:List Int},qr2 H l=some zs->l.length=zs.length/\∀ i (h:i<l.length) (a:i<zs.length),headA H l[i]=some zs[i]
 | [],zs,h=>by cases h;exact⟨rfl,fun i h=>absurd h (lUD _)⟩
 |v::l,zs,h=>by
  unfold qr2 at h;split at h
  ·rename_i z r b c;cases h;obtain⟨d,e⟩:=qvz c;refine⟨by simp[d],fun i h a=>?_⟩;cases i with
   |zero=>exact b
   |succ i=>exact e i (by simpa using h) (by simpa using a)
  ·cases h
theorem zqx{H:Hp}{v:AV}{z:Int}(h:headA H v=some z):∃ b o n m x,v=.sl b o n m x/\0<n/\bI (H.get b) o=.val (.int .i64 z):=by
 unfold headA at h;split at h
 ·rename_i b o n m x;cases a:Nat.blt 0 n with
  |false=>rw[a]at h;cases h
  |true=>
   rw[a]at h;simp only[lII]at h;split at h
   ·rename_i d c;cases h;exact⟨_,_,_,_,_,rfl,pM a,c⟩
   ·cases h
 ·cases h
theorem zow{f W:FuncId}(hf:nY P f W){b o n m:Nat}{x:Bool}{v:AV}{X:Hp}(h:qq2 H b o n=some (.ok v X)){Y:List Value}(u:HR ι H w)(Z:aL ι [.sl b o n m x,.fn W [] []] Y):Calls P f Y.toArray w (Post ι H w v X):=by
 simp only[aL,aR]at Z;obtain⟨V,r,rfl,⟨hnm,loc,E,rfl⟩,V2,r2,rfl,⟨_,_,rfl,rfl,rfl⟩,rfl⟩:=Z;unfold qq2 at h;split at h
 ·rename_i l hl;split at h
  ·rename_i zs hz;split at h
   ·rename_i g;split at h
    ·rename_i v' H2 R;cases p:Nat.beq (dM zs g.pos).size zs.length with
     |false=>rw[p]at h;cases h
     |true=>
      rw[p]at h;cases h;have p:=lIL p;obtain⟨dd,nn,c,ro,zz,F,hle,hll,G⟩:=qgr hl;obtain⟨rfl,rfl,rfl,_⟩:=qhs F R;obtain⟨hlz,hh⟩:=qvz hz
      letI:Inhabited (Fin zs.length):=⟨⟨0,g.pos⟩⟩
      have A:=u.lt E;have hB:=u.blk b A;rw[F]at hB;obtain⟨l',b1,b2,b3,b4⟩:=hB;rw[E]at b1;cases b1;have hn:n=zs.length:=by omega
      subst hn;have N:loc.blk<w.heap.size:=u.low b loc A (by rw[F];rfl) E;have hV:∀ i:Fin zs.length,∃V,w.cell? ⟨loc.blk,loc.base+o+i,none⟩=some V/\aR ι (l.getD i .undef) V/\V.oneCell=true/\w.frozen? ⟨loc.blk,loc.base+o+i,none⟩=false:=fun i=>by obtain⟨V,c1,c2,c3,c4⟩:=b3 (o+i) (by have:=i.2;omega);rw[<-lIP]at c1 c4;refine⟨V,c1,?_,c3,c4 rfl⟩;rw[lES,G i i.2];exact c2
      let enc:Fin zs.length->Value:=fun i=>Classical.choose (hV i)
      have q:∀ i:Fin zs.length,w.cell? ⟨loc.blk,loc.base+o+i,none⟩=some (enc i)/\aR ι (l.getD i .undef) (enc i)/\(enc i).oneCell=true/\w.frozen? ⟨loc.blk,loc.base+o+i,none⟩=false:=fun i=>lIR (hV i);have O:∀ j (h:j<(Array.finRange zs.length).size),((Array.finRange zs.length)[j]! :Fin zs.length)=⟨j,by simpa using h⟩:=fun j h=>by rw[getElem!_pos _ j h];simp
      have B:Holds enc w loc.blk (loc.base+o) (Array.finRange zs.length):=fun j z=>by obtain⟨S,_,_,e4⟩:=q ⟨j,by simpa using z⟩;rw[O j z];exact⟨S,e4⟩
      have Q:∀ i:Fin zs.length,∃K oa na ca,enc i=.slice (some ⟨K,oa,none⟩) na ca/\0<na/\K≠loc.blk/\K<w.heap.size/\w.cell? ⟨K,oa,none⟩=some (.int .i64 zs[i]):=fun i=>by
       have hi:=i.2;obtain⟨I,J,ni,mi,xi,S,L,a⟩:=zqx (hh i (by omega) i.2);obtain⟨_,y,_,_⟩:=q i;rw[lES,gp (by omega)]at y;have y:aR ι (l[(i:Nat)]'(by omega)) (enc i):=y;rw[S]at y;simp only[aR]at y;obtain⟨_,M,T,k2⟩:=y;have C:I≠b:=fun e=>by subst e;rw[Hp.get_put _ _ _ _ qL qL,lEZ rfl]at a;cases a
       rw[Hp.get_put _ _ _ _ qL qL,lEU C]at a;have D:=u.blk I qL;cases t:H.get I with
       |cells di ni' ci ri zi=>
        rw[t]at a D;have a:(bif Nat.blt J ni' then R0.val ((dW di J).f ci)else .bad)=.val (.int .i64 zs[i]):=a;cases s:Nat.blt J ni' with
        |false=>rw[s]at a;cases a
        |true=>rw[s]at a;simp only[lII,R0.val.injEq]at a;have s:=pM s;obtain⟨li',q1,q2,q3,_⟩:=D;rw[T]at q1;cases q1;obtain⟨Vi,p1,U,_,_⟩:=q3 J s;rw[a]at U;simp only[aR]at U;subst U;exact⟨M.blk,M.base+J,ni,_,k2,L,fun e=>C (u.inj b I loc M qL qL (by rw[F];rfl) (by rw[t];rfl) E T e.symm).symm,u.low I M qL (by rw[t];rfl) T,p1⟩
       |_=>rw[t]at a;cases a
      refine(hf zs g enc loc.blk (loc.base+o) (if x then m else m+loc.ext) w Q B N).mono fun e w' hp=>?_;obtain⟨rfl,k,os,rfl⟩:=hp;obtain⟨g1,g2⟩:=q79 enc u F E B (d:=dM zs g.pos) (l:=(dM zs g.pos).toList.map fun i:Fin zs.length=>l.getD i.1 .undef) (by rw[p];simp) (by simp) (by omega) (fun j z=>by obtain⟨_,L,a,_⟩:=q (dM zs g.pos)[j]!;refine⟨?_,a⟩;rw[getElem!_pos _ j z]at L ⊢;rw[lES (l:=(dM zs g.pos).toList.map _),lO6,gp (by simpa using z)];exact L) k os;exact⟨ι,by simp only[aR,aL];exact⟨[],rfl,rfl⟩,g1,g2⟩
    ·cases h
   ·cases h
  ·cases h
 ·cases h
theorem q71{e:Ext}(u:qh2 P e){f i:FuncId}(y:nY P f i)(s:pQ P f)(t:qf8 P f=true):qh2 P (qn6 f i e):=by
 refine⟨fun g args H r a v z l ι w A j d=>?_⟩;unfold qn6 at a;cases p:Nat.beq g f with
 |false=>rw[p]at a;exact u.fn g _ H r a v z l ι w A j d
 |true=>
  rw[p]at a;obtain rfl:=lIL p;refine⟨qfb t _,fun k=>callsIn_wide.2 ?_⟩;simp only[lII]at a;split at a
  ·rename_i b o n m x c;cases h:Nat.beq c i with
   |false=>rw[h]at a;cases a
   |true=>
    rw[h]at a;obtain rfl:=lIL h;subst l;cases q:Nat.beq n 0 with
    |false=>rw[q]at a;exact zow y a j d
    |true=>rw[q]at a;cases a;obtain rfl:=lIL q;simp only[aL,aR]at d;obtain⟨V,r,rfl,⟨B,loc,t,rfl⟩,V2,C,rfl,⟨_,_,rfl,rfl,rfl⟩,rfl⟩:=d;exact qq1 s j
  ·rename_i c;cases h:Nat.beq c i with
   |false=>rw[h]at a;cases a
   |true=>rw[h]at a;cases a;cases l;simp only[aL,aR]at d;obtain⟨V,r,rfl,rfl,V2,C,rfl,⟨_,_,rfl,rfl,rfl⟩,rfl⟩:=d;exact qq1 s j
  ·cases a
end Go.Ev
end
noncomputable section
namespace Go.Ev
open Go.RowKit Go.WideShapes Go.ChangeShapes Go.ChangeAt
variable {P:Program} {Hd:Type} {enc:TypeId×Value->Hd}
theorem qke(b:laidOutB P=true){W c:World}{d:Nat->Bool}:∀{ts:List TypeId} {vs:List Value} {ds:List (DataW Hd)} {ps:List MemPlace},(∀t∈ts,P.readableRec t=true/\t<P.types.size) -> DataW.TrodAll enc P W 0 (fun _=>true) true ts vs ds ps->(∀p∈ps,W.sameAt c p)->(∀p∈ps,d p.block=true)->DataW.TrodAll enc P c 0 d true ts vs ds ps
 | [],[],[],_,_,h,_,_=>h
 |_::_,_::_,_::_,_,hT,⟨p,q,h1,h2,e⟩,hs,hb=>
  ⟨p,q,WideElems.Trod_stays b (hT _ (lI8.2 (Or.inl rfl))).1 (hT _ (lI8.2 (Or.inl rfl))).2 h1 (fun x a=>hs x (by rw[e];exact lOA _ a)) (fun x a=>hb x (by rw[e];exact lOA _ a)),
   qke b (fun t f=>hT t (lI8.2 (Or.inr f))) h2 (fun x a=>hs x (by rw[e];exact lOJ _ a)) (fun x a=>hb x (by rw[e];exact lOJ _ a)),e⟩
def xcn(P:Program)(ts:List TypeId):Bool:=ts.all fun t=>P.readableRec t&&decide (t<P.types.size)
theorem zx1(C:laidOutB P=true){f:Func}{s:ChangeSpec}{a g c h:Bool}{W v:World}{args:Array Value}{ds D:List (DataW Hd)}{d:List MemPlace}{tb:TypeId}(w:DataW.Whole enc P f.params.toList s.vars a W args.toList ds D d)(y:s.vars=[])(E:xcn P f.params.toList=true)(i:s.fn Hd ds={results:=[.lit (.bool true)],args:=ds})(e:f.resultTypes= #[tb])(l:P.underlying tb=some .bool)(z:Below W.heap.size W v):s.post enc P f a g c h W args (.bool true) v:=by
 have m:=w;obtain⟨p,q,G,B,u,_,_⟩:=w;rw[y]at B;obtain⟨rfl,rfl⟩:=trodVars_none B;have j:∀ t∈f.params.toList,P.readableRec t=true/\t<P.types.size:=fun t F=>by have:=lOQ.1 E t F;simp_all
 have k:ds++[]=ds:=lIM ds;refine ze8 (pa:=p) (pv:=[]) m (fun b A H=>?_) (fun A o=>?_) (fun A _=>?_) u z ?_
 ·rw[k,i,e];exact trodAll_cons_mk (shut_bool l _) trodAll_mk0
 ·rw[k,i];have n:=m.lt;exact qke C j G (fun x r=>z.same (n x (by rw[u];simpa using r))) (fun x r=>o x (by rw[u];simpa using r))
 ·rw[k,i,y];rfl
 ·exact ok_one e rfl (okWide_bool_mk l _)
end Go.Ev
end
