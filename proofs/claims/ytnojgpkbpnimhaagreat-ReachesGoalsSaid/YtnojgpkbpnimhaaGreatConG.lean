/-
 For ReachesGoals: functions in direct style, their contracts, and the plain mathematics, part 7 of 11. No conditions beyond those that each theorem states.
-/
import Derived.Test.YtnojgpkbpnimhaaGreatConA
import Derived.Test.YtnojgpkbpnimhaaGreatConF
import Derived.Test.YtnojgpkbpnimhaaGreatConC
set_option linter.unusedSimpArgs false
set_option linter.unusedVariables false
open Nat renaming reduceAdd->rB,reduceMul->rI,reduceSub->rK,reduceLeDiff->rL,reduceEqDiff->rN,reduceShiftRight->rS,reduceAnd->r6
noncomputable section
namespace Go.Di
open Go.Ev Go.Di.T
variable {LA LO:LP}
variable {H H':Hp} {S:Nat->Prop} {b i j m n o z:Nat} {l:List AV}
structure Gs(z:Nat)(H:Hp)(v:AV)(n:Nat)(l:List AV):Prop where
 len:l.length=n*z
 is:(v=.aA/\n=0)\/∃ b o m e q L,v=.sl b o n m e/\n<=m/\H.get b=aB q L/\o+m*z=L.length/\(L.drop o).take (n*z)=l/\(e=true\/q=z)/\b<H.nx
theorem Gs.nil(z:Nat)(H:Hp):Gs z H .aA 0 []:=⟨g3,.inl ⟨rfl,rfl⟩⟩
theorem Gs.bM{v:AV}(h:Gs z H v n l):aD v=.val (.int .i64 (.ofNat n)):=by rcases h.is with⟨rfl,rfl⟩|⟨b,o,m,e,q,L,rfl,_⟩<;>rfl
theorem Gs.lt{v:AV}(h:Gs z H v n l)(a:In v b):b<H.nx:=by
 obtain⟨_,_,_,_,e⟩:=a;rcases h.is with⟨rfl,_⟩|⟨c,o,m,y,q,L,rfl,_,_,_,_,_,d⟩
 ·cases e
 ·simp_all
theorem Gs.keep{v:AV}(h:Gs z H v n l)(c:H.nx<=H'.nx)(d:∀ b,In v b->b<H.nx->H'.get b=H.get b):Gs z H' v n l:=by
 refine⟨h.len,?_⟩;rcases h.is with h|⟨b,o,m,e,q,L,rfl,f,g,i,j,k,a⟩
 ·exact .inl h
 ·exact .inr ⟨b,o,m,e,q,L,rfl,f,(d b ⟨_,_,_,_,rfl⟩ a).trans g,i,j,k,ku a c⟩
theorem Gs.fm{v:AV}(h:Gs z H v n l)(a:Fm S H H')(d:∀ b,In v b->¬ S b):Gs z H' v n l:=
 h.keep a.nx fun b e c=>a.get b c (d b e)
theorem Gl.gs{v:AV}(h:Gl z H v n l):Gs z H v n l:=by
 refine⟨h.len,?_⟩;rcases h.is with h|⟨b,o,e,q,L,rfl,d,i,a,f,g⟩
 ·exact .inl h
 ·have c:o+n*z=L.length:=by have:=h.len;rw[<-a,vz]at this;omega
  exact .inr ⟨b,o,n,e,q,L,rfl,lu _,d,c,by rw[a,tq (by rw[h.len];exact lu _)],f,g⟩
theorem Gs.rl{v:AV}(h:Gs 1 H v n l):Rl H v l:=by
 have c:l.length=n:=by have:=h.len;omega
 refine⟨by rw[h.bM,c],fun i j=>?_⟩;rcases h.is with⟨rfl,rfl⟩|⟨b,o,m,e,q,L,rfl,k,d,p,f,r,g⟩
 ·omega
 ·refine⟨b,o+i,by rw[vL _ _ _ _ _ _ _ _ om,qm],g,?_⟩;have:L[o+i]? =some l[i]:=by
   have a:((L.drop o).take (n*1))[i]? =some l[i]:=by rw[f];simp
   rw[lA9,qj om,zg]at a;exact a
  rw[d,qca,this]
theorem Gs.cut{e:Bool}(h:Gs z H (.sl b o n m e) n l){k:Nat}(a:k<=n):Gs z H (.sl b o k m e) k (l.take (k*z)):=by
 have c:k*z<=n*z:=xh _ a;refine⟨by rw[qx,h.len];omega,?_⟩;rcases h.is with⟨h,_⟩|⟨r,s,t,u,q,L,d,v,f,g,i,j,p⟩
 ·cases h
 ·cases d;refine .inr ⟨b,o,m,e,q,L,rfl,om,f,g,?_,j,p⟩;rw[<-i,List.take_take];simp_all
theorem Gs.append{z w n:Nat}{v:AV}{l x:List AV}(h:Gs z H v n l)(B:x.length=z)(i:(n+1)*w<=1099511627776)(j:n+1<=1099511627776):Ok (iM z w H v (some ⟨1,x⟩)) fun a H'=>(∃b o m e,a=.sl b o (n+1) m e)/\Gs z H' a (n+1) (l++x)/\Fm (In v) H H'/\(∀b,In a b->In v b\/H.nx<=b):=by
 have d:∀(H:Hp) (v:AV),Gl z H v n l->Ok (iM z w H v (some ⟨1,x⟩)) fun a H'=>(∃b o m e,a=.sl b o (n+1) m e)/\Gs z H' a (n+1) (l++x)/\Fm (In v) H H'/\(∀b,In a b->In v b\/H.nx<=b):=fun H v g=>by obtain⟨H',r,E,J,F,K⟩:=g.append (w:=w) (k:=1) (x:=x) om om i j;exact⟨_,H',r,⟨_,_,_,_,rfl⟩,E.gs,F,fun b i=>by obtain⟨_,_,_,_,e⟩:=i;cases e;exact Or.inr (lu _)⟩
 rcases h.is with⟨rfl,rfl⟩|⟨b,o,m,e,q,L,rfl,M,u,N,t,y,A⟩
 ·have:l=[]:=tu.1 (by rw[h.len];simp);subst this;exact d H _ (Gl.nil _ _)
 ·rcases cu n m with c|c
  ·have C:Nat.ble (n+1) m=true:=by rw[ble_eq,qc om]
   have D:(n+1)*z<=m*z:=xh _ c;have f:(n+1)*z=n*z+z:=by rw[zk,lA5]
   have r:iM z w H (.sl b o n m e) (some ⟨1,x⟩)=.ok (.sl b o (n+1) m e) (H.put b (aB q (aZ L (o+n*z) x))):=by show(bif Nat.ble (n+1) m then storeAt H b (o+n*z) x (.sl b o (n+1) m e)else _)=_;rw[C];exact qb3 _ _ _ _ _ _ _ u om
   refine⟨_,_,r,⟨_,_,_,_,rfl⟩,⟨by rw[lL,h.len,B,f],.inr ⟨b,o,m,e,q,_,rfl,c,dN _ _ _,?_,?_,y,A⟩⟩,(Fm.refl _ _).put b _ fun _=>⟨_,_,_,_,rfl⟩,fun G p=>Or.inl ?_⟩
   ·unfold aZ;simp only[lL,qx,vz];omega
   ·rw[f];unfold aZ;have I:(L.take (o+n*z)).length=o+n*z:=by rw[qx];omega
    rw[qw,xn om,List.drop_take,show o+n*z-o=n*z by omega];have s:((L.drop o).take (n*z)).length=n*z:=by rw[t];exact h.len
    rw[lEG,tq om,s,t,show n*z+z-n*z=z by omega];simp_all
   ·obtain⟨_,_,_,_,e⟩:=p;cases e;exact⟨_,_,_,_,rfl⟩
  ·have:m=n:=om;subst this;refine d H _ ⟨h.len,.inr ⟨b,o,e,q,L,rfl,u,om,?_,y,A⟩⟩;rw[<-t,tq (by rw[vz];omega)]
def uT(nx:Nat->AV)(s:TS)(sv ov:AV)(i:Nat):AV:=
 if i<256 then nx i else if i<512 then .int .i64 (.ofNat (s.num (i-256)))else if i<768 then .int .i64 (.ofNat (s.low (i-512)))else if i<1024 then .bool (s.on (i-768))
 else if i=1024 then sv else if i=1025 then .int .i64 (.ofNat s.cnt)else ov
def qpu(nx:Nat->AV)(s:TS)(sv ov:AV):List AV:=(List.range 1027).map (uT nx s sv ov)
def TB(nx:Nat->AV)(s:TS)(sv ov:AV):bW:=aB 0 (qpu nx s sv ov)
theorem zay(nx:Nat->AV)(s:TS)(sv ov:AV):(qpu nx s sv ov).length=1027:=by unfold qpu;rw[pz,lAR]
variable {nx:Nat->AV} {s:TS} {sv ov:AV}
theorem zk4(j:Nat):(qpu nx s sv ov)[j]? =if j<1027 then some (uT nx s sv ov j)else none:=by
 unfold qpu;rw[xy];by_cases a:j<1027
 ·simp_all
 ·simp_all
theorem q4t(h:i<1027):bX (TB nx s sv ov) i=.val (uT nx s sv ov i):=by unfold TB;rw[qca,zk4,qj h]
attribute [local irreducible] qpu uT
theorem q4s{nx':Nat->AV}{f:TS}{k b:AV}{x:AV}(h:i<1027)(q:uT nx' f k b i=x)(o:∀ j,j<1027->j≠i->uT nx' f k b j=uT nx s sv ov j):qig (TB nx s sv ov) i [x]=some (TB nx' f k b):=by
 unfold TB;have a:=zay nx s sv ov;rw[qjd,qj (by rw[a];exact h)];refine congrArg some (congrArg (aB 0) ?_);unfold aZ;generalize p:qpu nx s sv ov=l at a;apply List.ext_getElem?;intro j;have d:l[j]? =if j<1027 then some (uT nx s sv ov j)else none:=by rw[<-p];exact zk4 j
 rw[zk4 j];have m:(l.take i).length=i:=by rw[qx];omega
 have n:(l.take i++[x]).length=i+1:=by rw[lL,m];rfl
 rcases Nat.lt_trichotomy j i with c|c|c
 ·rw[uj om,uj om,lA9,qj c,d];by_cases g:j<1027
  ·rw[qj g,qj g,o j g om]
  ·omega
 ·simp_all
 ·rw[uh om,zg,n];have e:i+[x].length+(j-(i+1))=j:=by show i+1+(j-(i+1))=j;omega
  rw[e,d];by_cases g:j<1027
  ·rw[qj g,qj g,o j g om]
  ·rw[pg g,pg g]
attribute [local semireducible] uT
theorem kN(h:i<256):uT nx s sv ov i=nx i:=by unfold uT;rw[qj h]
theorem aFQ(h:256<=i)(a:i<512):uT nx s sv ov i=.int .i64 (.ofNat (s.num (i-256))):=by unfold uT;rw[pg om,qj a]
theorem aGv(h:512<=i)(a:i<768):uT nx s sv ov i=.int .i64 (.ofNat (s.low (i-512))):=by unfold uT;rw[pg om,pg om,qj a]
theorem kOn(h:768<=i)(a:i<1024):uT nx s sv ov i=.bool (s.on (i-768)):=by unfold uT;rw[pg om,pg om,pg om,qj a]
theorem kS:uT nx s sv ov 1024=sv:=rfl
theorem kC:uT nx s sv ov 1025=.int .i64 (.ofNat s.cnt):=rfl
theorem kO:uT nx s sv ov 1026=ov:=rfl
theorem qpv{nx':Nat->AV}{a:TS}{c b:AV}(p:j<1027)(d:j≠i)(e:j<256->nx' j=nx j)(f:∀ m,j=256+m->a.num m=s.num m)(g:∀ m,j=512+m->a.low m=s.low m)(h:∀ m,j=768+m->a.on m=s.on m)(k:j=1024->c=sv)(l:j=1025->a.cnt=s.cnt)(n:j=1026->b=ov):uT nx' a c b j=uT nx s sv ov j:=by
 by_cases g1:j<256
 ·rw[kN g1,kN g1,e g1]
 by_cases g2:j<512
 ·rw[aFQ om g2,aFQ om g2,f (j-256) om]
 by_cases g3:j<768
 ·rw[aGv om g3,aGv om g3,g (j-512) om]
 by_cases g4:j<1024
 ·rw[kOn om g4,kOn om g4,h (j-768) om]
 by_cases g5:j=1024
 ·subst g5;rw[kS,kS,k rfl]
 by_cases g6:j=1025
 ·subst g6;rw[kC,kC,l rfl]
 have o:j=1026:=om;subst o;rw[kO,kO,n rfl]
theorem w9{v:Nat}(h:v<256):bX (TB nx s sv ov) v=.val (nx v):=by rw[q4t om,kN h]
theorem rdNum{v:Nat}(h:v<256):bX (TB nx s sv ov) (256+v)=.val (.int .i64 (.ofNat (s.num v))):=by rw[q4t om,aFQ om om,yx]
theorem aMC{v:Nat}(h:v<256):bX (TB nx s sv ov) (512+v)=.val (.int .i64 (.ofNat (s.low v))):=by rw[q4t om,aGv om om,yx]
theorem aVm{v:Nat}(h:v<256):bX (TB nx s sv ov) (768+v)=.val (.bool (s.on v)):=by rw[q4t om,kOn om om,yx]
theorem rdS:bX (TB nx s sv ov) 1024=.val sv:=by rw[q4t om,kS]
theorem rdC:bX (TB nx s sv ov) 1025=.val (.int .i64 (.ofNat s.cnt)):=by rw[q4t om,kC]
theorem rdO:bX (TB nx s sv ov) 1026=.val ov:=by rw[q4t om,kO]
theorem wrN{v:Nat}(h:v<256)(x:AV):qig (TB nx s sv ov) v [x]=some (TB (upd nx v x) s sv ov):=
 q4s om (by rw[kN h,upd_same]) fun j b a=>qpv b a (fun _=>upd_ne _ _ a) (fun _ _=>rfl) (fun _ _=>rfl) (fun _ _=>rfl) (fun _=>rfl) (fun _=>rfl) fun _=>rfl
theorem aNT{v:Nat}(h:v<256)(x:Nat):qig (TB nx s sv ov) (256+v) [.int .i64 (.ofNat x)]=some (TB nx {s with num:=upd s.num v x} sv ov):=
 q4s om (by rw[aFQ om om,yx,show({s with num:=upd s.num v x}:TS).num v=x from upd_same _ _ _]) fun j a b=>qpv a b (fun _=>rfl) (fun m c=>upd_ne _ _ om) (fun _ _=>rfl) (fun _ _=>rfl) (fun _=>rfl) (fun _=>rfl) fun _=>rfl
theorem aPI{v:Nat}(h:v<256)(x:Nat):qig (TB nx s sv ov) (512+v) [.int .i64 (.ofNat x)]=some (TB nx {s with low:=upd s.low v x} sv ov):=
 q4s om (by rw[aGv om om,yx,show({s with low:=upd s.low v x}:TS).low v=x from upd_same _ _ _]) fun j a b=>qpv a b (fun _=>rfl) (fun _ _=>rfl) (fun m c=>upd_ne _ _ om) (fun _ _=>rfl) (fun _=>rfl) (fun _=>rfl) fun _=>rfl
theorem aVq{v:Nat}(h:v<256)(x:Bool):qig (TB nx s sv ov) (768+v) [.bool x]=some (TB nx {s with on:=upd s.on v x} sv ov):=
 q4s om (by rw[kOn om om,yx,show({s with on:=upd s.on v x}:TS).on v=x from upd_same _ _ _]) fun j a b=>qpv a b (fun _=>rfl) (fun _ _=>rfl) (fun _ _=>rfl) (fun m c=>upd_ne _ _ om) (fun _=>rfl) (fun _=>rfl) fun _=>rfl
theorem wrS(x:AV):qig (TB nx s sv ov) 1024 [x]=some (TB nx s x ov):=
 q4s om kS fun j b a=>qpv b a (fun _=>rfl) (fun _ _=>rfl) (fun _ _=>rfl) (fun _ _=>rfl) (fun h=>absurd h a) (fun _=>rfl) fun _=>rfl
theorem wrC(x:Nat):qig (TB nx s sv ov) 1025 [.int .i64 (.ofNat x)]=some (TB nx {s with cnt:=x} sv ov):=
 q4s om kC fun j b a=>qpv b a (fun _=>rfl) (fun _ _=>rfl) (fun _ _=>rfl) (fun _ _=>rfl) (fun _=>rfl) (fun h=>absurd h a) fun _=>rfl
theorem wrO(x:AV):qig (TB nx s sv ov) 1026 [x]=some (TB nx s sv x):=
 q4s om kO fun j b a=>qpv b a (fun _=>rfl) (fun _ _=>rfl) (fun _ _=>rfl) (fun _ _=>rfl) (fun _=>rfl) (fun _=>rfl) fun h=>absurd h a
attribute [go_sem] w9 rdNum aMC aVm rdS rdC rdO wrN aNT aPI aVq wrS wrC wrO
end Go.Di
end
noncomputable section
namespace Go.Di
open Go.Ev Go.Di.T
variable {LA LO:LP}
variable {H H' H0:Hp} {N b i j n o tb z:Nat} {S:Nat->Prop} {aV:Nat->List Nat} {col:Nat->Nat} {cs l:List AV}
structure aFO(H:Hp)(col:Nat->Nat)(cs:List AV)(out:List (List Nat)):Prop where
 len:cs.length=out.length
 at':∀(i:Nat) (c:AV) (o:List Nat),cs[i]? =some c->out[i]? =some o->(∃b q n m e,c=.sl b q n m e)/\Gl 1 H c o.length (aJ o)/\∀ b,In c b->col b=5
structure TMd(H0:Hp)(aV:Nat->List Nat)(s:TS)(col:Nat->Nat)(tb:Nat)(H:Hp)(nx:Nat->AV)(sv ov:AV)(cs:List AV):Prop where
 fm:Fm No H0 H
 base:∀ b,b<H0.nx->col b=9
 ge:H0.nx<=tb
 lt:tb<H.nx
 ct:col tb=0
 get:H.get tb=TB nx s sv ov
 nxt:∀ v,v<256->Gl 1 H (nx v) (aV v).length (aJ (aV v))/\∀ b,In (nx v) b->col b=10+v
 stk:Gs 1 H sv s.stk.length (aJ s.stk)
 zO:∀ b,In sv b->col b=2
 out:Gl 1 H ov cs.length cs
 ouc:∀ b,In ov b->col b=4
 css:aFO H col cs s.out
def TM(H0:Hp)(aV:Nat->List Nat)(s:TS)(col:Nat->Nat)(tb:Nat)(H:Hp):Prop:=∃ nx sv ov cs,TMd H0 aV s col tb H nx sv ov cs
theorem aFO.keep{col a:Nat->Nat}{d:List (List Nat)}(h:aFO H col cs d)(g:H.nx<=H'.nx)(j:∀ b,b<H.nx->col b=5->H'.get b=H.get b)(k:∀ b,b<H.nx->a b=col b):aFO H' a cs d:=
 ⟨h.len,fun i c o l m=>by obtain⟨g0,g1,g2⟩:=h.at' i c o l m;exact⟨g0,g1.keep g fun b e f=>j b f (g2 b e),fun b e=>(k b (g1.lt e)).trans (g2 b e)⟩⟩
theorem TMd.step{s:TS}{nx:Nat->AV}{sv ov:AV}(h:TMd H0 aV s col tb H nx sv ov cs)(f:Fm S H H')(p:∀ b,b<H.nx->S b->b=tb\/col b=2\/col b=3){d:Nat->Nat}(j:∀ b,b<H.nx->d b=col b){k:TS}{m:AV}(q:H'.get tb=TB nx k m ov)(i:Gs 1 H' m k.stk.length (aJ k.stk))(n:∀ b,In m b->d b=2)(r:k.out=s.out):TMd H0 aV k d tb H' nx m ov cs:=by
 have w:∀ b,b<H0.nx->¬ S b:=fun b a i=>by
  have g:b<H.nx:=ku a h.fm.nx;rcases p b g i with e|e|e
  ·have:=h.ge;omega
  ·rw[h.base b a]at e;cases e
  ·rw[h.base b a]at e;cases e
 have o:∀{c:Nat},c≠0->c≠2->c≠3->∀ b,b<H.nx->col b=c->H'.get b=H.get b:=fun{c} t x y b a l=>f.get b a fun i=>by
  rcases p b a i with e|e|e
  ·rw[e,h.ct]at l;exact t l.symm
  ·omega
  ·omega
 exact{
  fm:=h.fm.then f fun b a i=>absurd i (w b a)
  base:=fun b a=>(j b (ku a h.fm.nx)).trans (h.base b a)
  ge:=h.ge
  lt:=ku h.lt f.nx
  ct:=(j tb h.lt).trans h.ct
  get:=q
  nxt:=fun v u=>by obtain⟨g1,g2⟩:=h.nxt v u;exact⟨g1.keep f.nx fun b a g=>o (c:=10+v) om om om b g (g2 b a),fun b a=>(j b (g1.lt a)).trans (g2 b a)⟩
  stk:=i
  zO:=n
  out:=h.out.keep f.nx fun b a g=>o (c:=4) om om om b g (h.ouc b a)
  ouc:=fun b a=>(j b (h.out.lt a)).trans (h.ouc b a)
  css:=r▸h.css.keep f.nx (o (c:=5) om om om) j}
def qse(col:Nat->Nat)(H:Hp)(k:Nat):Nat->Nat:=fun b=>if b<H.nx then col b else k
theorem qb4{k b:Nat}(h:b<H.nx):qse col H k b=col b:=qj h
theorem qho{k b:Nat}(h:H.nx<=b):qse col H k b=k:=pg om
theorem q87{k:Nat}(y:1<=k){s:TS}(d:TM H0 aV s col tb H){v:Nat}(K:v<256)(u:s.cnt<=256)(A:s.stk.length<=256):Ok (C k (.f 269) [.ptr tb 0,.int .i64 (.ofNat v)] H) fun r H'=>r=.bA []/\∃ f,(∀b,b<H.nx->f b=col b)/\TM H0 aV (s.enter v) f tb H'/\Fm (fun b=>b=tb\/col b=2) H H':=by
 obtain⟨j,rfl⟩:=aP y;rw[lk (zpm ..)];unfold zDd z0d;obtain⟨nx,sv,ov,cs,d⟩:=d;have g1:=d.get;have g3:=d.stk;have i:=d.zO;refine iG qm qg g1 ?_;have m:∀ b,In sv b->b≠tb:=fun b a e=>by have:=i b a;rw[e,d.ct]at this;cases this
 refine Ok.ve (Gs.append (z:=1) (n:=s.stk.length) (l:=aJ s.stk) (g3.keep ?_ fun b a o=>?_) ?_ ?_ ?_) ?_
 ·simp only[np,nq];omega
 ·rw[qcw _ _ _ (by simp only[nq];omega)];simp only[zla,dO _ _ _ _ (m b a)]
 ·rfl
 ·omega
 ·omega
 rintro r H1 ⟨⟨F,G,I,J,rfl⟩,x,q,t⟩;have o:=d.lt;have D:H1.get tb=TB nx {s with cnt:=s.cnt+1,num:=upd s.num v (s.cnt+1),low:=upd s.low v (s.cnt+1),on:=upd s.on v true} sv ov:=by rw[q.get tb gx fun a=>m tb a rfl,qcw _ _ _ (by simp only[nq];omega),dN]
 simp only[go_sem,qm,qg,D];have E:Fm (fun b=>b=tb\/col b=2) H H1:=by refine Fm.then (S:=fun b=>b=tb\/col b=2) (Fm.push ?_ _) q fun c L B=>Or.inr (i c B);exact((((Fm.refl _ _).put tb _ fun _=>Or.inl rfl).put tb _ fun _=>Or.inl rfl).put tb _ fun _=>Or.inl rfl).put tb _ fun _=>Or.inl rfl
 have w:=E.put tb (TB nx {s with cnt:=s.cnt+1,num:=upd s.num v (s.cnt+1),low:=upd s.low v (s.cnt+1),on:=upd s.on v true} (.sl F G (s.stk.length+1) I J) ov) fun _=>Or.inl rfl;have p:=q.nx;simp only[np,nq]at p t;refine Ok.ret ⟨rfl,qse col H 2,fun b a=>qb4 a,⟨nx,_,ov,cs,d.step w (fun b _ h=>h.imp id Or.inl) (fun b a=>qb4 a) (dN _ _ _) ?_ ?_ rfl⟩,w⟩
 ·have e:aJ s.stk++[.int .i64 (.ofNat v)]=aJ (s.stk++[v]):=by simp[aJ]
  rw[e]at x;show Gs 1 _ _ (s.stk++[v]).length (aJ (s.stk++[v]));rw[lL];refine x.keep (lu _) fun b a _=>dO _ _ _ _ fun e=>?_;subst e;rcases t b a with g|g
  ·exact m b g rfl
  ·omega
 ·intro b a;rcases t b a with g|g
  ·rw[qb4 (g3.lt g)];exact i b g
  ·exact qho om
theorem qkv(z b o n m:Nat)(e:Bool){a:Nat}(h:a<=n)(c:n<=m)(d:a<m):kU z (.sl b o n m e) (some (.int .i64 (.ofNat a))) none none=.val (.sl b (o+a*z) (n-a) (m-a) e):=by
 show(match bounds n m (some (.int .i64 (.ofNat a))) none none with|some bd=>iV b o z bd e|none=>R0.bad)=_;have:bounds n m (some (.int .i64 (.ofNat a))) none none=some ⟨a,n,m⟩:=by show(match(bif Nat.ble a n then some a else none)with|none=>none|some l=>some (Bd.mk l n m))=_;rw[ble_eq,qc h];rfl
 rw[this];show(bif Nat.beq m a then _ else R0.val (.sl b (o+a*z) (n-a) (m-a) e))=_;rw[beq_eq,ql om];rfl
theorem q7d(z b o n m:Nat)(e:Bool){k:Nat}(h:k<=n)(a:n<=m)(c:0<m):kU z (.sl b o n m e) none (some (.int .i64 (.ofNat k))) none=.val (.sl b o k m e):=by
 show(match bounds n m none (some (.int .i64 (.ofNat k))) none with|some bd=>iV b o z bd e|none=>R0.bad)=_;have:bounds n m none (some (.int .i64 (.ofNat k))) none=some ⟨0,k,m⟩:=by show(match(bif Nat.ble k m then some k else none)with|none=>none|some h=>match(some 0:Option Nat)with|none=>none|some l=>some (Bd.mk l h m))=_;rw[ble_eq,qc om];rfl
 rw[this];show(bif Nat.beq m 0 then _ else R0.val (.sl b (o+0*z) (k-0) (m-0) e))=_;rw[beq_eq,ql om,lAV];rfl
theorem Gs.from{v:AV}(h:Gs 1 H v n l){a:Nat}(k:a<n):∃ w,kU 1 v (some (.int .i64 (.ofNat a))) none none=.val w/\(∃b o n m e,w=.sl b o n m e)/\Rl H w (l.drop a):=by
 have g:=h.rl;have p:l.length=n:=by have:=h.len;omega
 rcases h.is with⟨rfl,c⟩|⟨b,o,m,e,q,L,rfl,c,r,s,t,u,j⟩
 ·omega
 ·refine⟨_,qkv 1 b o n m e om c om,⟨_,_,_,_,_,rfl⟩,?_,fun i f=>?_⟩
  ·show R0.val (.int .i64 (.ofNat (n-a)))=_;simp_all
  ·rw[vz]at f;refine⟨b,o+a*1+i,by rw[vL _ _ _ _ _ _ _ _ om];simp only[qm],j,?_⟩;obtain⟨x,y,d,_,z⟩:=g.at' (a+i) om;rw[vL _ _ _ _ _ _ _ _ om]at d;cases d;have:o+a*1+i=o+(a+i)*1:=om;simp_all
theorem Gs.upto{v:AV}(h:Gs z H v n l){k:Nat}(a:k<=n)(i:0<n):∃ b o m e,kU z v none (some (.int .i64 (.ofNat k))) none=.val (.sl b o k m e)/\Gs z H (.sl b o k m e) k (l.take (k*z))/\∀ c,In (.sl b o k m e) c->In v c:=by
 rcases h.is with⟨rfl,d⟩|⟨b,o,m,e,q,L,rfl,d,j,p,r,s,t⟩
 ·omega
 ·refine⟨b,o,m,e,q7d z b o n m e a d om,?_,fun c f=>?_⟩
  ·exact Gs.cut h a
  ·obtain⟨_,_,_,_,g⟩:=f;cases g;exact⟨_,_,_,_,rfl⟩
theorem ztd{k:Nat}(b:1<=k){s:TS}(a:TM H0 aV s col tb H){v:Nat}(d:v<256)(c:s.low v<s.num v):C k (.f 270) [.ptr tb 0,.int .i64 (.ofNat v)] H=.ok (.bA []) H:=by obtain⟨j,rfl⟩:=aP b;rw[lk (q5k ..)];unfold zDe zpl;obtain⟨nx,sv,ov,cs,a⟩:=a;have g1:=a.get;simp(disch:=omega)only[go_sem,seval,qm,qg,g1,c]
def aEx(on:Nat->Bool):List Nat->Nat->Bool
 | [],x=>on x
 |k::r,x=>aEx (upd on k false) r x
theorem zka:∀(l:List Nat) (a:Nat->Bool) (x:Nat),aEx a l x=if x∈l then false else a x
 | [],a,x=>by simp[aEx]
 |k::r,a,x=>by
  rw[aEx,zka r];by_cases h:x∈r
  ·simp[h]
  ·by_cases e:x=k
   ·subst e;simp[h,upd_same]
   ·simp[h,e,upd_ne _ _ e]
theorem q8e{O:Ev.Call}{nx:Nat->AV}{sv ov:AV}{tb:Nat}{comp:List Nat}{w:AV}{s:TS}(g:∀ x∈comp,x<256)(p:comp.length<900000){H1:Hp}(j:Rl H1 w (aJ comp)){q:pH}{Q:pL}(d:∀ i b o,i<comp.length->aH 1 w (.int .i64 (.ofNat i))=.val (.ptr b o)->b≠tb)(f:tb<H1.nx)(l:∀ H e,(∀x,e x=if x∈comp then false else s.on x)->H.get tb=TB nx {s with on:=e} sv ov->Fm (fun b=>b=tb) H1 H->Ok (q H) Q):∀(k i:Nat) (H:Hp) (a:Nat->Bool),comp.length-i<k->i<=comp.length->H.get tb=TB nx {s with on:=a} sv ov->Fm (fun b=>b=tb) H1 H->(∀x,aEx a (comp.drop i) x=if x∈comp then false else s.on x) -> Ok (qtd O q (.ptr tb 0) w (.int .i64 (.ofNat comp.length)) k (.int .i64 (.ofNat i)) H) Q
 |0,i,H,a,h,_,_,_,_=>om
 |k+1,i,H,a,h,hi,hg,hF,ho=>by
  show Ok (q04 O _ _ _ _ (qtd O _ _ _ _ k) _ H) Q;unfold q04;by_cases c:i<comp.length
  ·obtain⟨b,o,m,t,n⟩:=j.at' i (by rw[mP];exact c);rw[qiq]at n;have u:comp[i]<256:=g _ (lg _);have r:H.get b=H1.get b:=hF.get b t (d i b o c m);simp only[go_sem,qm,qg,c];unfold zd8;refine siG qm qg m r n hg ?_;unfold zd9;refine eF qm qg ?_;refine q8e g p j d f l k (i+1) _ (upd a comp[i] false) om om (dN _ _ _) (hF.put _ _ fun _=>rfl) fun x=>?_;rw[<-ho x,uq c];rfl
  ·simp only[go_sem,qm,qg,c];have:i=comp.length:=om;subst this;rw[lA8]at ho;exact l H a (fun x=>ho x) hg hF
theorem Gl.aAO{v:AV}(h:Gl 1 H v n l)(a:i<n)(e:aH 1 v (.int .i64 (.ofNat i))=.val (.ptr b o)):In v b:=by
 rcases h.is with⟨rfl,c⟩|⟨d,f,g,q,L,rfl,_⟩
 ·omega
 ·rw[vL _ _ _ _ _ _ _ _ a]at e;cases e;exact⟨_,_,_,_,rfl⟩
theorem Gl.aF8{z w n:Nat}{v:AV}{l x:List AV}(h:Gl z H v n l)(i:x.length=z)(c:(n+1)*w<=1099511627776)(a:n+1<=1099511627776):Ok (iM z w H v (some ⟨1,x⟩)) fun b H'=>b=.sl H.nx 0 (n+1) (n+1) false/\Gl z H' b (n+1) (l++x)/\Fm (In v) H H'/\H'.nx=H.nx+1:=by obtain⟨H',d,e,j,f,g⟩:=h.append (w:=w) (k:=1) (x:=x) om om c a;exact⟨_,H',d,rfl,e,f,g⟩
theorem TMd.aOk{s:TS}{nx:Nat->AV}{sv ov:AV}(h:TMd H0 aV s col tb H nx sv ov cs)(f:Fm S H H')(E:∀ b,b<H.nx->S b->b=tb\/col b=4){d:Nat->Nat}(p:∀ b,b<H.nx->d b=col b){r:TS}{x j c:AV}{o:List Nat}(I:H'.get tb=TB nx r x j)(k:Gs 1 H' x r.stk.length (aJ r.stk))(t:∀ b,In x b->In sv b)(F:r.out=s.out++[o])(y:Gl 1 H' j (cs++[c]).length (cs++[c]))(z:∀ b,In j b->d b=4)(A:∃ b q n m e,c=.sl b q n m e)(B:Gl 1 H' c o.length (aJ o))(C:∀ b,In c b->d b=5):TMd H0 aV r d tb H' nx x j (cs++[c]):=by
 have M:∀ b,b<H0.nx->¬ S b:=fun b a k=>by
  have l:b<H.nx:=ku a h.fm.nx;rcases E b l k with e|e
  ·have:=h.ge;omega
  ·rw[h.base b a]at e;cases e
 have G:∀{c:Nat},c≠0->c≠4->∀ b,b<H.nx->col b=c->H'.get b=H.get b:=fun{c} D N b a u=>f.get b a fun k=>by
  rcases E b a k with e|e
  ·rw[e,h.ct]at u;exact D u.symm
  ·omega
 have g:=h.css.keep f.nx (G (c:=5) om om) p;exact{
  fm:=h.fm.then f fun b a k=>absurd k (M b a)
  base:=fun b a=>(p b (ku a h.fm.nx)).trans (h.base b a)
  ge:=h.ge
  lt:=ku h.lt f.nx
  ct:=(p tb h.lt).trans h.ct
  get:=I
  nxt:=fun v J=>by obtain⟨g1,g2⟩:=h.nxt v J;exact⟨g1.keep f.nx fun b a l=>G (c:=10+v) om om b l (g2 b a),fun b a=>(p b (g1.lt a)).trans (g2 b a)⟩
  stk:=k
  zO:=fun b a=>(p b (h.stk.lt (t b a))).trans (h.zO b (t b a))
  out:=y
  ouc:=z
  css:=⟨by rw[F,lL,lL,g.len];rfl,fun i K L g1 g2=>by
   rw[F]at g2;rcases cu i cs.length with w|w
   ·rw[uj w]at g1;rw[uj (by rw[<-g.len];exact w)]at g2;exact g.at' i K L g1 g2
   ·rw[uh w]at g1;rw[uh (by rw[<-g.len];exact w),<-g.len]at g2;have D:i-cs.length=0:=by
     have:=(qp.1 g1).1;simp_all
    rw[D]at g1 g2;cases g1;cases g2;exact⟨A,B,C⟩⟩}
theorem zkz(hO:pJ C)(hS:qbv C)(hR:oL LA LO C){k:Nat}(hk:300<=k){s:TS}(m:TM H0 aV s col tb H){v:Nat}(hv:v<256)(hl:¬ s.low v<s.num v){pre f:List Nat}(L:s.stk=pre++v::f)(hp:v∉pre)(hst:s.stk.length<=256)(O:∀ x∈s.stk,x<256)(E:s.out.length<=256):Ok (C k (.f 270) [.ptr tb 0,.int .i64 (.ofNat v)] H) fun r H'=>r=.bA []/\∃(comp:List Nat) (q:Nat->Bool) (t:Nat->Nat),comp.Perm (v::f)/\comp.Pairwise (· <= ·)/\(∀x,q x=if x∈comp then false else s.on x) /\ (∀b,b<H.nx->t b=col b)/\TM H0 aV {s with stk:=pre,on:=q,out:=s.out++[comp]} t tb H'/\Fm (fun b=>b=tb\/col b=4) H H':=by
 obtain⟨j,rfl⟩:∃ j,k=j+2:=⟨k-2,om⟩;rw[lk (q5k ..)];unfold zDe zpl;obtain⟨nx,sv,ov,cs,m⟩:=m;have g1:=m.get;have g3:=m.stk;have hlen:s.stk.length=pre.length+1+f.length:=by rw[L];simp;omega
 simp(disch:=omega)only[go_sem,seval,qm,qg,g1,hl];unfold zd7;refine iG qm qg g1 ?_;refine Ok.ve (zur (k:=j+1) om g3.rl om L hp) ?_;rintro r H1 ⟨rfl,rfl⟩;obtain⟨w,e1,⟨wb,wo,wn,wm,we,rfl⟩,e2⟩:=g3.from (a:=pre.length) om;have ed:(aJ s.stk).drop pre.length=aJ (v::f):=by unfold aJ;simp_all
 rw[ed]at e2;simp only[go_sem,qm,qg,g1,e1]
 -- the component, sorted
 rw[lk (zpg ..)];unfold zDk zz8;simp only[go_sem,qm,qg];generalize D:aI H1 (aB 0 [.sl wb wo wn wm we])=H2;have n2:H2.nx=H1.nx+1:=by rw[<-D];rfl
 have f2:Fm No H1 H2:=by rw[<-D];exact(Fm.refl _ _).push _
 have R:H2.get H1.nx=aB 0 [.sl wb wo wn wm we]:=by rw[<-D,jG]
 refine Ok.ve (zm1 hO hS hR (k:=j+1) (l:=v::f) (by simp;omega) (by simp) (by simp;omega) (e2.fm f2) R (by omega)) ?_;rintro a9 V ⟨comp,N,c2,B,c4,f3⟩;have u:Fm No H1 V:=f2.trans f3;have hcl:comp.length=f.length+1:=by rw[N.length_eq];rfl
 have T:(v::f).length=comp.length:=by rw[N.length_eq]
 rw[T]at B;have G:∀ b,In a9 b->H1.nx<=b:=fun b d=>by have:=c4 b d;omega
 have e3:=B.bM;simp only[go_sem,qm,qg,e3];unfold zea;rw[dD];have I:=m.lt;refine q8e (s:=s) (sv:=sv) (ov:=ov) (nx:=nx) (comp:=comp) (fun x hx=>O x (by rw[L];exact ny _ (N.mem_iff.1 hx))) om B.rl (fun i b o P e d=>?_) (ku I u.nx) (fun H4 q ho F Q=>?_) bZ 0 V s.on lf om ((u.keep I).trans g1) (Fm.refl _ _) fun x=>?_
 ·have:=G b (B.aAO P e);omega
 ·-- the rest
  unfold q03;obtain⟨b5,o5,m5,e5,e6,W,X⟩:=g3.upto (k:=pre.length) om om;rw[qm]at W;have e9:(aJ s.stk).take pre.length=aJ pre:=by unfold aJ;rw[<-List.map_take,L,List.take_left]
  rw[e9]at W;simp only[go_sem,qm,qg,F,e6];have c3f:vT a9=true:=B.flat;rcases B.is with⟨_,h0⟩|⟨K,o9,Y,q9,L9,rfl,_⟩
  ·omega
  refine iG qm qg F ?_;have J:∀ b,In sv b->b≠tb:=fun b d e=>by have:=m.zO b d;rw[e,m.ct]at this;cases this
  have y:∀ b,In ov b->b≠tb:=fun b d e=>by have:=m.ouc b d;rw[e,m.ct]at this;cases this
  have A:Fm (fun b=>b=tb) H1 H4:=(u.mono fun _ _ h=>h.elim).trans (Q.mono fun _ _ h=>h);have hn4:=A.nx;have nn4:=Q.nx;have aM3:cs.length<=256:=by rw[m.css.len];exact E
  refine Ok.ve (Gl.aF8 (z:=1) (n:=cs.length) (l:=cs) (m.out.keep ?_ fun b d p=>?_) ?_ ?_ ?_) ?_
  ·simp only[np,nq];omega
  ·rw[qcw _ _ _ (by simp only[nq];omega),dO _ _ _ _ (y b d)];exact A.get b p (y b d)
  ·rfl
  ·omega
  ·omega
  rintro r Z ⟨rfl,h1,h2,h3⟩;simp only[np,nq]at h1 h3;have gt:Z.get tb=TB nx {s with on:=q} (.sl b5 o5 pre.length m5 e5) ov:=by rw[h2.get tb gx fun d=>y tb d rfl,qcw _ _ _ (by simp only[nq];omega),dN]
  simp only[go_sem,qm,qg,gt];have c9':H1.nx<=K:=G K ⟨_,_,_,_,rfl⟩;have f5:Fm (fun b=>b=tb\/col b=4) H1 Z:=by refine Fm.then (S:=fun b=>b=tb\/col b=4) (Fm.push (Fm.put (A.mono fun _ _ h=>Or.inl h) tb _ fun _=>Or.inl rfl) _) h2 fun c hc P=>Or.inr (m.ouc c P)
  have M:=f5.put tb (TB nx {s with on:=q} (.sl b5 o5 pre.length m5 e5) (.sl (H4.nx+1) 0 (cs.length+1) (cs.length+1) false)) fun _=>Or.inl rfl;refine Ok.ret ⟨rfl,comp,q,fun b=>if b<H1.nx then col b else if b=K then 5 else 4,N,c2,ho,fun b d=>qj d,⟨nx,_,_,_,m.aOk (c:=.sl K o9 comp.length comp.length Y) (o:=comp) M (fun b _ h=>h) (fun b d=>qj d) (dN _ _ _) ?_ X rfl ?_ ?_ ⟨_,_,_,_,_,rfl⟩ ?_ ?_⟩,M⟩
  ·refine W.keep M.nx fun b d p=>M.get b p fun h=>?_;rcases h with h|h
   ·exact J b (X b d) h
   ·have:=m.zO b (X b d);rw[h]at this;cases this
  ·rw[lL];refine h1.keep (lu _) fun b d _=>dO _ _ _ _ fun e=>?_;obtain⟨_,_,_,_,g⟩:=d;cases g;omega
  ·rintro b ⟨_,_,_,_,g⟩;cases g;rw[pg om,pg om]
  ·refine B.keep (by show V.nx<=Z.nx;omega) fun b d p=>?_;have U:b=K:=by obtain⟨_,_,_,_,g⟩:=d;cases g;rfl
   subst U;rw[dO _ _ _ _ om,h2.get b gx fun d=>by have:=m.out.lt d;omega,qcw _ _ _ (by simp only[nq];omega),dO _ _ _ _ om];exact Q.get b om (by show b≠tb;omega)
  ·rintro b ⟨_,_,_,_,g⟩;cases g;rw[pg om,qj rfl]
 ·rw[zka];rfl
def zA(fr:List (Nat×Nat)):List AV:=(fr.map fun p=>[AV.int .i64 (.ofNat p.1),AV.int .i64 (.ofNat p.2)]).flatten
theorem qhs(b:List (Nat×Nat)):(zA b).length=b.length*2:=by
 induction b with
 |nil=>rfl
 |cons a l ih=>simp[zA]at ih ⊢;omega
theorem qd2(l:List (Nat×Nat))(p:Nat×Nat):zA (l++[p])=zA l++[.int .i64 (.ofNat p.1),.int .i64 (.ofNat p.2)]:=by simp[zA]
theorem q81(a b:Nat):qL o7 (.int .i64 (.ofNat a)) [.int .i64 (.ofNat b)]=.val (.int .i64 (.ofNat (min a b))):=by rw[q4c];congr 2;simp only[ut];omega
theorem Gs.aDA{v:AV}{l:List (Nat×Nat)}{u i:Nat}(h:Gs 2 H v (l.length+1) (zA (l++[(u,i)]))):∃b o,aH 2 v (.int .i64 (.ofNat l.length))=.val (.ptr b o)/\In v b/\b<H.nx/\bX (H.get b) o=.val (.int .i64 (.ofNat u))/\bX (H.get b) (o+1)=.val (.int .i64 (.ofNat i)) /\ ∀a:Nat,∃B,qig (H.get b) (o+1) [.int .i64 (.ofNat a)]=some B/\∀ H':Hp,H.nx<=H'.nx->H'.get b=B->Gs 2 H' v (l.length+1) (zA (l++[(u,a)])):=by
 have c:=qhs l;rcases h.is with⟨_,f⟩|⟨b,o,m,e,q,L,rfl,f,g,F,n,D,p⟩
 ·omega
 ·have w:(l.length+1)*2<=m*2:=xh _ f;have g0:∀ j x,(zA (l++[(u,i)]))[j]? =some x->j<(l.length+1)*2->L[o+j]? =some x:=fun j x k r=>by
   rw[<-n,lA9,qj r,zg]at k;exact k
  have y:=g0 (l.length*2) (.int .i64 (.ofNat u)) (by rw[qd2,uh om,c,og];rfl) om;have z:=g0 (l.length*2+1) (.int .i64 (.ofNat i)) (by rw[qd2,uh om,c,show l.length*2+1-l.length*2=1 by omega];rfl) om;refine⟨b,o+l.length*2,vL _ _ _ _ _ _ _ _ om,⟨_,_,_,_,rfl⟩,p,by rw[g,qca,y],by rw[g,qca,show o+l.length*2+1=o+(l.length*2+1)by omega,z],fun a=>?_⟩;refine⟨_,by rw[g,qjd,qj (by show o+l.length*2+1+1<=L.length;omega)],fun H' s t=>⟨by rw[qhs,lL];rfl,.inr ⟨b,o,m,e,q,_,rfl,f,t,?_,?_,D,ku p s⟩⟩⟩
  ·unfold aZ;simp only[lL,qx,vz,pq,uo];omega
  ·have A:(l.length+1)*2=l.length*2+1+1:=om;unfold aZ;have C:(L.take (o+l.length*2+1)).length=o+l.length*2+1:=by rw[qx];omega
   rw[qw,xn om,List.drop_take,show o+l.length*2+1-o=l.length*2+1 by omega,qd2];have d:((L.drop o).take (l.length*2+1)).length=l.length*2+1:=by rw[qx,vz];omega
   rw[A,lEG,tq om,d,show l.length*2+1+1-(l.length*2+1)=1 by omega];have E:(L.drop o).take (l.length*2+1)=zA l++[.int .i64 (.ofNat u)]:=by
    have:((L.drop o).take ((l.length+1)*2)).take (l.length*2+1)=(zA (l++[(u,i)])).take (l.length*2+1):=by rw[n]
    rw[List.take_take,yu om]at this;rw[this,qd2,lEG,tq om,c,show l.length*2+1-l.length*2=1 by omega];rfl
   simp_all
structure WS(H0:Hp)(N:Nat)(aV:Nat->List Nat)(s:TS)(fr:List (Nat×Nat))(col:Nat->Nat)(tb:Nat)(v:AV)(H:Hp):Prop where
 tm:TM H0 aV s col tb H
 ti:TI N aV s fr
 fr:Gs 2 H v fr.length (zA fr)
 fc:∀ b,In v b->col b=3
def Le(s s':TS):Prop:=(∀x,0<s.num x->0<s'.num x)/\s.cnt<=s'.cnt
theorem Le.refl(s:TS):Le s s:=⟨fun _ h=>h,lu _⟩
theorem Le.trans{a b c:TS}(h:Le a b)(k:Le b c):Le a c:=⟨fun x d=>k.1 x (h.1 x d),rq h.2 k.2⟩
theorem Le.look(s:TS)(v k:Nat):Le s (s.look v k):=by unfold TS.look;split<;>exact⟨fun _ h=>h,lu _⟩
theorem Le.enter(s:TS){k:Nat}(b:s.num k=0):Le s (s.enter k):=⟨fun x a=>by
 show 0<upd s.num k (s.cnt+1) x;by_cases e:x=k
 ·simp_all
 ·rw[upd_ne _ _ e];exact a,Nat.le_succ _⟩
structure q4w(N:Nat)(aV:Nat->List Nat):Prop where
 le:N<=256
 lt:∀ u,∀k∈aV u,k<N
 len:∀ u,(aV u).length<200000
theorem zs7(s:TS)(v k:Nat):(s.look v k).cnt=s.cnt:=by unfold TS.look;split<;>rfl
theorem z16{j:Nat}(X:1<=j){H0:Hp}{N:Nat}{aV:Nat->List Nat}(G:q4w N aV){tb:Nat}{l:List (Nat×Nat)}{u fb Y:Nat}{v:AV}{s0:TS}{q1 q2:pD}{Q:pL}(Z:aH 2 v (.int .i64 (.ofNat l.length))=.val (.ptr fb Y))(y:∀ v' H' D I a,WS H0 N aV D I a tb v' H'->Le s0 D->2*(N-D.cnt)+I.length<2*(N-s0.cnt)+(l.length+1)->Ok (q1 v' H') Q)(A:∀ H' D a,WS H0 N aV D (l++[(u,(aV u).length)]) a tb v H'->Le s0 D->D.cnt=s0.cnt->Ok (q2 v H') Q):∀(k i:Nat) (s:TS) (col:Nat->Nat) (H:Hp),(aV u).length-i<k->WS H0 N aV s (l++[(u,i)]) col tb v H->Le s0 s->s.cnt=s0.cnt -> Ok (qtg (C j) q1 q2 (.ptr tb 0) (.ptr fb Y) k v H) Q
 |0,i,s,col,H,h,_,_,_=>om
 |k+1,i,s,col,H,h,hW,hle,hcnt=>by
  show Ok (q1a (C j) _ _ _ _ (qtg (C j) _ _ _ _ k) _ H) Q;unfold q1a;have t:=hW.ti;have J:(l++[(u,i)]).length=l.length+1:=g3;have hF:=hW.fr;rw[J]at hF;obtain⟨b,o,e1,e2,e3,e4,e5,e6⟩:=hF.aDA;rw[Z]at e1;cases e1;obtain⟨nx,sv,ov,cs,f⟩:=hW.tm;have g1:=f.get;have hus:u∈s.stk:=t.mU (by rw[rT];simp);have huN:u<N:=t.nL u hus;have hN:=G.le;have hu:u<256:=om;obtain⟨n1,n2⟩:=f.nxt u hu;have n3:=n1.bM;have hil:i<=(aV u).length:=(t.frE (u,i) (ny _ (qf.2 rfl))).1;have hne:fb≠tb:=fun e=>by have:=hW.fc fb e2;rw[e,f.ct]at this;cases this
  by_cases U:i<(aV u).length
  ·simp(disch:=omega)only[go_sem,qm,qg,e4,e5,g1,n3,U,zt];unfold q5p;obtain⟨b2,o2,m1,m2,m3⟩:=n1.rl.at' i (by rw[mP];exact U);rw[qiq]at m3;obtain⟨B,w1,w2⟩:=e6 (i+1);have hk:(aV u)[i]? =some (aV u)[i]:=by simp[U]
   generalize hkk:(aV u)[i]=x at *;have hxN:x<N:=G.lt u x (uz hk);have hx:x<256:=om;have hi2:i<900000:=by have:=G.len u;omega
   simp(disch:=go_size)only[go_sem,rB,rI,rK,rL,rN,rS,r6,qm,qg,e4,e5,g1,m1,m3,w1,zt];have E:(H.put fb B).get tb=TB nx s sv ov:=by rw[dO _ _ _ _ (Ne.symm hne)];exact g1
   have fB:Fm (fun c=>c=tb\/col c=3) H (H.put fb B):=(Fm.refl _ _).put _ _ fun _=>Or.inr (hW.fc fb e2);have gF:Gs 2 (H.put fb B) v (l.length+1) (zA (l++[(u,i+1)])):=w2 _ (lu _) (dN _ _ _);have bD3:Gs 1 (H.put fb B) sv s.stk.length (aJ s.stk):=f.stk.keep (lu _) fun c d _=>dO _ _ _ _ fun e=>by have m:=f.zO c d;rw[e,hW.fc fb e2]at m;cases m
   have p:TMd H0 aV s col tb (H.put fb B) nx sv ov cs:=f.step fB (fun c _ h=>h.imp id Or.inr) (fun _ _=>rfl) E bD3 f.zO rfl;by_cases V:s.num x=0
   ·simp only[go_sem,qm,qg,V];have tE:TI N aV (s.enter x) ((l++[(u,i+1)])++[(x,0)]):=t.enter V hxN (Or.inr ⟨l,u,i,rfl,hk,rfl⟩);have K:=tE.qB;have K:s.cnt+1<=N:=K;have hsl:s.stk.length<=N:=by have m:=t.mD;have h2:=t.qB;omega
    refine Ok.ve (q87 X ⟨nx,sv,ov,cs,p⟩ hx om om) ?_;rintro r H2 ⟨rfl,a,c1,⟨R,F,T,cs2,w⟩,f2⟩;have hv2:∀ c,In v c->c<H.nx:=fun c d=>hF.lt d;have L:Gs 2 H2 v (l.length+1) (zA (l++[(u,i+1)])):=gF.fm f2 fun c d=>by
     rintro (e|e)
     ·have:=hW.fc c d;rw[e,f.ct]at this;cases this
     ·have:=hW.fc c d;rw[e]at this;cases this
    have M:∀ c,In v c->a c=3:=fun c d=>(c1 c (hv2 c d)).trans (hW.fc c d);have fl:l.length<=N:=by have m:=t.aBh;rw[J]at m;omega
    refine aT ?_;refine Ok.ve (Gs.append (z:=2) (n:=l.length+1) (l:=zA (l++[(u,i+1)])) (L.fm ((Fm.refl No _).push _) fun _ _ h=>h) rfl om om) ?_;rintro r H3 ⟨⟨b',o',m',e',rfl⟩,a1,a2,a3⟩;have q:Fm (fun c=>a c=3) H2 H3:=Fm.then (S:=fun c=>a c=3) ((Fm.refl _ _).push _) a2 fun c _ d=>M c d;have n23:=q.nx;simp only[np]at a3;have ht2:H3.get tb=TB R (s.enter x) F T:=(q.get tb w.lt fun e=>by rw[w.ct]at e;cases e).trans w.get;have hs3:Gs 1 H3 F (s.enter x).stk.length (aJ (s.enter x).stk):=w.stk.keep n23 fun c d hlt=>q.get c hlt fun e=>by have:=w.zO c d;rw[e]at this;cases this
    refine y _ _ (s.enter x) ((l++[(u,i+1)])++[(x,0)]) (qse a H2 3) ⟨⟨R,F,T,cs2,w.step q (fun c _ h=>Or.inr (Or.inr h)) (fun c d=>qb4 d) ht2 hs3 (fun c d=>by rw[qb4 (w.stk.lt d)];exact w.zO c d) rfl⟩,tE,?_,?_⟩ (hle.trans (Le.enter s V)) ?_
    ·rw[qd2];simpa using a1
    ·intro c d;rcases a3 c d with g|g
     ·rw[qb4 (L.lt g)];exact M c g
     ·exact qho om
    ·show 2*(N-(s.cnt+1))+((l++[(u,i+1)])++[(x,0)]).length<_;simp only[lL,pq,uo];omega
   ·refine iG qm qg V ?_;have O:0<s.num x:=om;have tL:=t.look hk O;unfold zen;have hfr:∀ i',(l++[(u,i')]).length=l.length+1:=fun i'=>g3;cases W:s.on x with
    |false=>
     have P:s.look u x=s:=by unfold TS.look;rw[W];rfl
     rw[P]at tL;refine jD qm qg E W ?_;refine z16 X G Z y A k (i+1) s col _ om ⟨⟨nx,sv,ov,cs,p⟩,tL,?_,hW.fc⟩ hle hcnt;simp_all
    |true=>
     have P:s.look u x={s with low:=upd s.low u (min (s.low u) (s.num x))}:=by unfold TS.look;rw[W];rfl
     have r0:bX ((H.put fb B).get fb) Y=.val (.int .i64 (.ofNat u)):=by obtain⟨b3,o3,e7,e8,e9,e10,_⟩:=gF.aDA;simp_all
     rw[dN]at r0;refine siH qm qg E W r0 q81 zt ?_;rw[<-P];have fT:Fm (fun c=>c=tb\/col c=3) (H.put fb B) ((H.put fb B).put tb (TB nx (s.look u x) sv ov)):=(Fm.refl _ _).put _ _ fun _=>Or.inl rfl;refine z16 X G Z y A k (i+1) (s.look u x) col _ om ⟨⟨nx,sv,ov,cs,p.step fT (fun c _ h=>h.imp id Or.inr) (fun _ _=>rfl) (dN _ _ _) ?_ f.zO (by rw[P])⟩,tL,?_,hW.fc⟩ (hle.trans (Le.look s u x)) ((zs7 s u x).trans hcnt)
     ·have:(s.look u x).stk=s.stk:=by rw[P]
      rw[this];exact p.stk.keep (lu _) fun c d _=>dO _ _ _ _ fun e=>by have m:=f.zO c d;rw[e,f.ct]at m;cases m
     ·rw[hfr];exact gF.keep (lu _) fun c d _=>dO _ _ _ _ fun e=>by have m:=hW.fc c d;rw[e,f.ct]at m;cases m
  ·simp(disch:=omega)only[go_sem,qm,qg,e4,e5,g1,n3,U,zt];have:i=(aV u).length:=om;subst this;exact A H s col hW hle hcnt
theorem zrp{α:Type}(f:Nat->α)(i:Nat):upd f i (f i)=f:=funext fun j=>by
 by_cases e:j=i
 ·rw[e,upd_same]
 ·rw[upd_ne _ _ e]
theorem zss{a b:List Nat}(d:a.Perm b)(e:b.Nodup)(h:a.Pairwise (· <= ·)):a.Pairwise (· < ·):=by have c:a.Pairwise (· ≠ ·):=d.nodup_iff.2 e;exact(h.and c).imp fun⟨f,g⟩=>Nat.lt_of_le_of_ne f g
def aNG(H0:Hp)(N:Nat)(aV:Nat->List Nat)(s:TS)(l:List (Nat×Nat))(u tb:Nat)(v:AV)(H1:Hp):Prop:=
 ∃(s1:TS) (xQ:Nat->Nat),TM H0 aV s1 xQ tb H1/\Gs 2 H1 v (l.length+1) (zA (l++[(u,(aV u).length)]))/\(∀c,In v c->xQ c=3)/\(l=[]->TI N aV s1 []) /\
  (∀l' up jj,l=l'++[(up,jj)]->up<256/\TI N aV {s1 with low:=upd s1.low up (min (s1.low up) (s1.low u))} l)/\Le s s1/\s1.cnt=s.cnt
theorem z3m(M:pJ C)(O:qbv C)(P:oL LA LO C)(Q:300<=j)(R:q4w N aV){l:List (Nat×Nat)}{u:Nat}{v:AV}{s:TS}(b:WS H0 N aV s (l++[(u,(aV u).length)]) col tb v H):Ok (C j (.f 270) [.ptr tb 0,.int .i64 (.ofNat u)] H) fun r H1=>r=.bA []/\aNG H0 N aV s l u tb v H1:=by
 have a:=b.ti;have D:(l++[(u,(aV u).length)]).length=l.length+1:=by simp
 have A:=b.fr;rw[D]at A;have f:u∈s.stk:=a.mU (by rw[rT];simp);have S:=R.le;have n:∀ x∈s.stk,x<256:=fun x B=>ku (a.nL x B) S;have p:∀{y up z},l=y++[(up,z)]->up∈eO l:=fun{y up z} e=>by rw[e,rT];simp
 have g:∀{x},x∈eO l->x∈s.stk:=fun{x} B=>a.mU (by rw[rT];exact bz _ B);by_cases w:s.low u<s.num u
 ·refine⟨_,_,ztd om b.tm (n u f) w,rfl,s,col,b.tm,A,b.fc,fun e=>?_,fun y up z e=>?_,Le.refl _,rfl⟩
  ·subst e;exact absurd w a.root
  ·subst e;exact⟨n _ (g (p rfl)),a.pop w⟩
 ·obtain⟨pre,K,G⟩:=List.append_of_mem f;have i:=a.nd;rw[G]at i;have q:u∉pre:=fun h=>(yw.1 i).2.2 u h u ug rfl;have k:=(yw.1 i).2.1;have T:=a.qB;have U:=a.mD;have E:s.stk.length<=256:=om;have F:s.out.length<=256:=by
   have V:s.out.length<=s.out.flatten.length:=by
    have:∀(o:List (List Nat)),(∀c∈o,c≠[])->o.length<=o.flatten.length:=fun o=>by
     induction o with
     |nil=>intro _;exact lu _
     |cons c o ih=>intro h;have V:=ih fun c d=>h c (uk _ d);have h2:0<c.length:=aj.2 (h c ug);rw[dE,lL,pq];omega
    refine this _ fun c d e=>?_;obtain⟨_,r,hr,_⟩:=a.qE c d;simp_all
   omega
  refine(zkz M O P Q b.tm (n u f) w G q E n F).mono ?_;rintro r H1 ⟨rfl,comp,I,t,L,Z,c3,c4,t1,f1⟩;have J:=a.leave w G L (zss L k Z) I c3;refine⟨rfl,_,t,t1,?_,?_,?_,?_,⟨fun _ h=>h,lu _⟩,rfl⟩
  ·obtain⟨_,_,_,_,hM⟩:=b.tm;exact A.fm f1 fun c d=>by
    rintro (e|e)
    ·have:=b.fc c d;rw[e,hM.ct]at this;cases this
    ·have:=b.fc c d;rw[e]at this;cases this
  ·exact fun c d=>(c4 c (A.lt d)).trans (b.fc c d)
  ·rintro rfl;exact J
  ·intro y up z e;have m:=p e;refine⟨n _ (g m),?_⟩;have W:=a.top m;have X:=a.kI up (g m);have Y:min (s.low up) (s.low u)=s.low up:=yu om;rw[Y,zrp];exact J
theorem zrm(hO:pJ C)(hS:qbv C)(hR:oL LA LO C)(hj:300<=j)(G:q4w N aV){l:List (Nat×Nat)}{u fb V:Nat}{v:AV}{s:TS}{g3:pD}{Q:pL}(hp:aH 2 v (.int .i64 (.ofNat l.length))=.val (.ptr fb V))(n:WS H0 N aV s (l++[(u,(aV u).length)]) col tb v H)(W:∀ X H' I w,WS H0 N aV I l w tb X H'->Le s I->I.cnt=s.cnt->Ok (g3 X H') Q):Ok (qth (C j) g3 (.ptr tb 0) v (.ptr fb V) H) Q:=by
 unfold qth;have J:(l++[(u,(aV u).length)]).length=l.length+1:=by simp
 have Y:=n.fr;rw[J]at Y;obtain⟨b,o,e1,e2,e3,e4,e5,_⟩:=Y.aDA;rw[hp]at e1;cases e1;have Z:l.length<=256:=by have f:=n.ti.aBh;have h2:=n.ti.mD;have h3:=n.ti.qB;have h4:=G.le;omega
 have bRL:u<256:=by have:=n.ti.nL u (n.ti.mU (by rw[rT];simp));have:=G.le;omega
 simp only[go_sem,qm,qg,e4,zt];refine Ok.ve (z3m hO hS hR hj G n) ?_;rintro r H1 ⟨rfl,a,E,⟨nx,sv,ov,cs,g⟩,z,O,h0,f,q,m⟩;have g1:=g.get;have B:=z.bM;obtain⟨P,R,S,T,D,F,e9⟩:=z.upto (k:=l.length) om om;have K:(zA (l++[(u,(aV u).length)])).take (l.length*2)=zA l:=by rw[qd2,lAF (by rw[qhs];exact lu _),tq (by rw[qhs];exact lu _)]
 rw[K]at F;have p:∀ c,In (.sl P R l.length S T) c->E c=3:=fun c t=>O c (e9 c t);rcases List.eq_nil_or_concat l with rfl|⟨A,⟨up,jj⟩,d⟩
 ·have D:kU 2 v none (some (.int .i64 (.ofNat 0))) none=.val (.sl P R 0 S T):=D;have B:aD v=.val (.int .i64 (.ofNat 1)):=B;refine jD qm qg B D ?_;exact W _ H1 a E ⟨⟨nx,sv,ov,cs,g⟩,h0 rfl,F,p⟩ q m
 ·rw[List.concat_eq_append]at d;obtain⟨bUf,U⟩:=f A up jj d;have hll:l.length=A.length+1:=by rw[d];simp
  have x:=F;rw[d,lL]at x;obtain⟨b6,o6,k1,k2,k3,k4,k5,_⟩:=Gs.aDA (l:=A) (u:=up) (i:=jj) x;have y:0<l.length:=om;have L:l.length-1=A.length:=om;have M:aH 2 (.sl P R l.length S T) (.int .i64 (.ofNat A.length))=.val (.ptr b6 o6):=by simp_all
  simp(disch:=go_size)only[go_sem,rB,rI,rK,rL,rN,rS,r6,qm,qg,B,D,y,L,M,k4,g1,q81,zt,lAL];have fT:Fm (fun c=>c=tb\/E c=3) H1 (H1.put tb (TB nx {a with low:=upd a.low up (min (a.low up) (a.low u))} sv ov)):=(Fm.refl _ _).put _ _ fun _=>Or.inl rfl;refine W _ _ {a with low:=upd a.low up (min (a.low up) (a.low u))} E ⟨⟨nx,sv,ov,cs,g.step fT (fun c _ h=>h.imp id Or.inr) (fun _ _=>rfl) (dN _ _ _) ?_ g.zO rfl⟩,U,?_,p⟩ ⟨q.1,q.2⟩ m
  ·exact g.stk.keep (lu _) fun c t _=>dO _ _ _ _ fun e=>by have f:=g.zO c t;rw[e,g.ct]at f;cases f
  ·exact F.keep (lu _) fun c t _=>dO _ _ _ _ fun e=>by have f:=p c t;rw[e,g.ct]at f;cases f
theorem qui(r:pJ C)(t:qbv C)(w:oL LA LO C){j:Nat}(x:300<=j){H0:Hp}{N:Nat}{aV:Nat->List Nat}(e:q4w N aV){tb:Nat}{s0:TS}{q:pH}{Q:pL}(y:∀ H' g a,TM H0 aV g a tb H'->TI N aV g []->Le s0 g->Ok (q H') Q):∀(k:Nat) (v:AV) (H:Hp) (s:TS) (f:List (Nat×Nat)) (col:Nat->Nat),2*(N-s.cnt)+f.length<k->WS H0 N aV s f col tb v H->Le s0 s -> Ok (qrg (C j) q (.ptr tb 0) k v H) Q
 |0,v,H,s,f,col,h,_,_=>om
 |k+1,v,H,s,f,col,h,hW,hle=>by
  show Ok (zeo (C j) _ _ (qrg (C j) _ _ k) _ H) Q;unfold zeo;have n:=hW.fr.bM;rcases List.eq_nil_or_concat f with rfl|⟨l,⟨u,i⟩,E⟩
  ·have n:aD v=.val (.int .i64 (.ofNat 0)):=n;simp only[go_sem,qm,qg,n];exact y H s col hW.tm hW.ti hle
  ·rw[List.concat_eq_append]at E;have p:f.length=l.length+1:=by rw[E];simp
   rw[p]at n h;have G:l.length<=256:=by have T:=hW.ti.aBh;have U:=hW.ti.mD;have V:=hW.ti.qB;have W:=e.le;omega
   have I:0<l.length+1:=om;unfold q5o;have D:=hW.fr;rw[p]at D;rw[E]at D hW;obtain⟨b,o,F,k2,k3,X,Y,_⟩:=D.aDA;refine nI qm qg n F lAL ?_;unfold zep;rw[dD];have R:=e.len u;refine z16 om e F (fun J H' g z a d c S=>?_) (fun H' g a d c K=>?_) bZ i s col H lf hW (Le.refl s) rfl
   ·exact qui r t w x e y k J H' g z a om d (hle.trans c)
   ·refine zrm r t w x e F d fun L M O A B m P=>?_;exact qui r t w x e y k L M O l A om B ((hle.trans c).trans m)
theorem zrs(o:pJ C)(p:qbv C)(q:oL LA LO C){k:Nat}(t:301<=k)(m:q4w N aV){s:TS}(u:TM H0 aV s col tb H)(i:TI N aV s []){r:Nat}(w:r<N)(n:s.num r=0):Ok (C k (.f 250) [.ptr tb 0,.int .i64 (.ofNat r)] H) fun v H'=>v=.bA []/\∃ b a,TM H0 aV b a tb H'/\TI N aV b []/\Le s b/\0<b.num r:=by
 obtain⟨j,rfl⟩:=aP t;rw[lk (zpu ..)];have G:=m.le;have A:=i.qB;have B:=i.mD;refine Ok.ve (q87 (k:=j) om u (v:=r) om om om) ?_;rintro x H1 ⟨rfl,F,I,⟨nx,sv,ov,cs,d⟩,J⟩;unfold q5n zwd;rw[dD];have D:TI N aV (s.enter r) ([]++[(r,0)]):=i.enter n w (Or.inl ⟨rfl,rfl⟩);have l:Fm No H1 (aI H1 (aB 0 [.int .i64 (.ofNat r),.int .i64 (.ofNat 0)])):=(Fm.refl _ _).push _;have E:WS H0 N aV (s.enter r) ([]++[(r,0)]) (qse F H1 3) tb (.sl H1.nx 0 1 1 true) (aI H1 (aB 0 [.int .i64 (.ofNat r),.int .i64 (.ofNat 0)])):=by refine⟨⟨nx,sv,ov,cs,d.step l (fun c _ h=>h.elim) (fun c g=>qb4 g) ((l.keep d.lt).trans d.get) (d.stk.fm l fun _ _ h=>h) (fun c g=>by rw[qb4 (d.stk.lt g)];exact d.zO c g) rfl⟩,D,⟨rfl,.inr ⟨H1.nx,0,1,true,0,_,rfl,lu _,jG _ _,rfl,rfl,Or.inl rfl,ig _⟩⟩,?_⟩;rintro c ⟨_,_,_,_,e⟩;cases e;exact qho (lu _)
 refine qui o p q om m (s0:=s.enter r) (fun H' b a y z f=>?_) bZ _ _ (s.enter r) ([]++[(r,0)]) _ ?_ E (Le.refl _)
 ·exact Ok.ret ⟨rfl,b,a,y,z,(Le.enter s n).trans f,f.1 r (by show 0<upd s.num r (s.cnt+1) r;rw[upd_same];omega)⟩
 ·rw[wH];show 2*(N-(s.cnt+1))+1<1000000;omega
def j6(es:List Edge)(u:Nat):List Nat:=(es.filter fun e=>decide (e.f=u)).map Edge.t
theorem zbo(es:List Edge)(e:Edge)(u:Nat):j6 (es++[e]) u=if e.f=u then j6 es u++[e.t]else j6 es u:=by
 unfold j6;by_cases h:e.f=u
 ·simp[h]
 ·simp[h]
theorem qzx(es:List Edge)(u:Nat):(j6 es u).length<=es.length:=by unfold j6;rw[pz];exact zn _ _
theorem qg3{es:List Edge}{u k:Nat}:k∈j6 es u↔∃ e∈es,e.f=u/\e.t=k:=by unfold j6;simp only[uC,xF,yc];exact⟨fun⟨e,⟨a,b⟩,c⟩=>⟨e,a,b,c⟩,fun⟨e,a,b,c⟩=>⟨e,⟨a,b⟩,c⟩⟩
def s00:TS:=⟨fun _=>0,fun _=>0,fun _=>false,[],0,[]⟩
theorem TB0:aB 0 (List.replicate 256 (.aA)++List.replicate 512 (.int .i64 (.ofNat 0))++List.replicate 256 (.bool false)++[.aA]++[.int .i64 (.ofNat 0)]++[.aA])=TB (fun _=>.aA) s00 .aA .aA:=by
 refine congrArg (aB 0) ?_
 kernel_rfl
theorem qpf{O:Ev.Call}{es:List Edge}(l:es.length<200000){v:AV}{tb:Nat}{H0:Hp}(C:lV H0 v es)(D:∀ e∈es,e.f<256/\e.t<256){Q:pL}{q:pH}(E:∀ H nx col,TMd H0 (j6 es) s00 col tb H nx .aA .aA []->Ok (q H) Q):∀(k i:Nat) (H:Hp) (nx:Nat->AV) (col:Nat->Nat),es.length-i<k->i<=es.length->TMd H0 (j6 (es.take i)) s00 col tb H nx .aA .aA [] -> Ok (qtm O q (.ptr tb 0) v (.int .i64 (.ofNat es.length)) k (.int .i64 (.ofNat i)) H) Q
 |0,i,H,nx,col,h,_,_=>om
 |k+1,i,H,nx,col,h,hi,hM=>by
  show Ok (q1g O _ _ _ _ (qtm O _ _ _ _ k) _ H) Q;unfold q1g;by_cases d:i<es.length
  ·simp only[go_sem,qm,qg,d];unfold ze0;obtain⟨b,o,R,W,S⟩:=(C.fm hM.fm).at d;obtain⟨T,X⟩:=D es[i] (lg _);obtain⟨F,y⟩:=hM.nxt es[i].f T;have g1:=hM.get;have f:=hM.lt;have J:=qzx (es.take i) es[i].f;have K:(es.take i).length<=es.length:=by rw[qx];omega
   simp(disch:=first|omega|exact ti rfl)only[go_sem,seval,qm,qg,R,S,Edge.cells,g1,pq,uo];have p:Fm No H (Hp.put ⟨((aI H (aB 0 [.int .i64 (.ofNat 0),.int .i64 (.ofNat 0),.bool false])).put H.nx (aB 0 [.int .i64 (.ofNat es[i].f),.int .i64 (.ofNat es[i].t),.bool es[i].s])).t,H.nx+1+14⟩ (H.nx+1+9) (aB 0 [.int .i64 (.ofNat es[i].t)])):=by(repeat(first|exact Fm.refl _ _|assumption|refine Fm.push ?_ _|refine Fm.up2 ?_ (by go_size)|refine Fm.aG ?_ _ _ (by go_size)))
   obtain⟨H',e,z,_,A,nx'⟩:=(F.no p).append (k:=1) (w:=8) (x:=[.int .i64 (.ofNat es[i].t)]) om rfl om om;refine Ok.uU e ?_;have L:H'.nx=H.nx+1+14+1:=nx';have r:¬ In (nx es[i].f) tb:=fun n=>by have:=y tb n;rw[hM.ct]at this;omega
   have m:∀ c,In (nx es[i].f) c->c<H.nx:=fun c a=>F.lt a;have M:H'.get tb=TB nx s00 .aA .aA:=(A.get tb om r).trans ((p.keep f).trans g1);have N:Fm (In (nx es[i].f)) H H':=(p.mono fun _ _ h=>h.elim).trans A;have k2:H'.get H.nx=aB 0 [.int .i64 (.ofNat es[i].f),.int .i64 (.ofNat es[i].t),.bool es[i].s]:=by rw[A.get H.nx om fun n=>xx _ (m _ n),dO _ _ _ _ om,zla,dN]
   simp only[go_sem,seval,qm,qg,M,k2];unfold qkm;refine eF qm qg ?_;have s:es.take (i+1)=es.take i++[es[i]]:=lh d;refine qpf l C D E k (i+1) _ (upd nx es[i].f (.sl (H.nx+1+14) 0 ((j6 (es.take i) es[i].f).length+1) ((j6 (es.take i) es[i].f).length+1) false)) (qse col H (10+es[i].f)) om om ?_;have t:Fm (fun c=>c=tb\/In (nx es[i].f) c) H (H'.put tb (TB (upd nx es[i].f (.sl (H.nx+1+14) 0 ((j6 (es.take i) es[i].f).length+1) ((j6 (es.take i) es[i].f).length+1) false)) s00 .aA .aA)):=(N.mono fun _ _ h=>Or.inr h).put _ _ fun _=>Or.inl rfl;exact{
    fm:=hM.fm.then t fun c a h=>by
     rcases h with h|h
     ·have:=hM.ge;omega
     ·have:=y c h;rw[hM.base c a]at this;omega
    base:=fun c a=>(qb4 (ku a hM.fm.nx)).trans (hM.base c a)
    ge:=hM.ge
    lt:=ku f t.nx
    ct:=(qb4 f).trans hM.ct
    get:=dN _ _ _
    nxt:=fun u I=>by
     rw[s,zbo];by_cases j:es[i].f=u
     ·subst j;rw[qj rfl,upd_same];refine⟨?_,?_⟩
      ·have P:aJ (j6 (es.take i) es[i].f++[es[i].t])=aJ (j6 (es.take i) es[i].f)++[.int .i64 (.ofNat es[i].t)]:=by simp[aJ]
       rw[P,lL];refine z.keep (lu _) fun c a _=>dO _ _ _ _ ?_;obtain⟨_,_,_,_,g⟩:=a;cases g;omega
      ·rintro c ⟨_,_,_,_,g⟩;cases g;exact qho (by show H.nx<=H.nx+1+14;omega)
     ·rw[pg j,upd_ne _ _ fun e=>j e.symm];obtain⟨G,B⟩:=hM.nxt u I;refine⟨G.fm t fun c a h=>?_,fun c a=>(qb4 (G.lt a)).trans (B c a)⟩;rcases h with h|h
      ·have:=B c a;rw[h,hM.ct]at this;omega
      ·have U:=B c a;have V:=y c h;omega
    stk:=Gs.nil _ _
    zO:=fun c a=>by obtain⟨_,_,_,_,g⟩:=a;cases g
    out:=Gl.nil _ _
    ouc:=fun c a=>by obtain⟨_,_,_,_,g⟩:=a;cases g
    css:=⟨rfl,fun i c o h=>by cases h⟩}
  ·simp only[go_sem,qm,qg,d];have:i=es.length:=om;subst this;rw[um]at hM;exact E H nx col hM
structure qdt(N:Nat)(aV:Nat->List Nat)(out:List (List Nat)):Prop where
 scc:∀ c∈out,c.Pairwise (· < ·)/\∃ r∈c,∀x,x∈c↔Rc aV r x/\Rc aV x r
 nd:out.flatten.Nodup
 all:∀ x,x∈out.flatten↔x<N
structure pG(H0 H:Hp)(v:AV)(cs:List AV)(out:List (List Nat)):Prop where
 gl:Gl 1 H v cs.length cs
 len:cs.length=out.length
 new:∀ b,In v b->H0.nx<=b
 at':∀(i:Nat) (c:AV) (o:List Nat),cs[i]? =some c->out[i]? =some o->(∃b q n m e,c=.sl b q n m e)/\Gl 1 H c o.length (aJ o)/\∀ b,In c b->H0.nx<=b/\¬ In v b
theorem qio(d:pJ C)(f:qbv C)(g:oL LA LO C){j:Nat}(l:301<=j){H0:Hp}{N:Nat}{aV:Nat->List Nat}(c:q4w N aV){tb:Nat}{q:pH}{Q:pL}(m:∀ H s col,TM H0 aV s col tb H->TI N aV s []->(∀x,x<N->0<s.num x)->Ok (q H) Q):∀(k i:Nat) (H:Hp) (s:TS) (col:Nat->Nat),N-i<k->i<=N->TM H0 aV s col tb H->TI N aV s []->(∀x,x<i->0<s.num x) -> Ok (q5w (C j) q (.ptr tb 0) (.int .i64 (.ofNat N)) k (.int .i64 (.ofNat i)) H) Q
 |0,i,H,s,col,h,_,_,_,_=>om
 |k+1,i,H,s,col,h,hi,hM,hT,hx=>by
  show Ok (ze3 (C j) _ _ _ (q5w (C j) _ _ _ k) _ H) Q;unfold ze3;have w:=c.le;by_cases a:i<N
  ·simp only[go_sem,qm,qg,a];unfold ze2;have g1:∃ nx sv ov,H.get tb=TB nx s sv ov:=by obtain⟨nx,sv,ov,cs,h⟩:=hM;exact⟨nx,sv,ov,h.get⟩
   obtain⟨nx,sv,ov,g1⟩:=g1;by_cases p:s.num i=0
   ·refine jD qm qg g1 p ?_;refine Ok.ve (zrs d f g l c hM hT a p) ?_;rintro r H' ⟨rfl,t,b,u,v,o,y⟩;unfold qrh;refine eF qm qg ?_;exact qio d f g l c m k (i+1) H' t b om om u v fun x n=>by
     by_cases e:x=i
     ·simp_all
     ·exact o.1 x (hx x om)
   ·refine jD qm qg g1 p ?_;unfold qrh;refine eF qm qg ?_;exact qio d f g l c m k (i+1) H s col om om hM hT fun x n=>by
     by_cases e:x=i
     ·rw[e];omega
     ·exact hx x om
  ·simp only[go_sem,qm,qg,a];have:i=N:=om;subst this;exact m H s col hM hT hx
theorem TI.parts{s:TS}(h:TI N aV s [])(b:∀ x,x<N->0<s.num x):qdt N aV s.out:=by refine⟨h.qE,h.pY,fun x=>⟨fun a=>(h.mX x a).2.2,fun a=>?_⟩⟩;have:=h.vis x (b x a);rw[h.empty]at this;simp_all
theorem zst(O:pJ C)(P:qbv C)(Q:oL LA LO C){k:Nat}(w:302<=k){es:List Edge}(y:n<=256)(d:es.length<200000)(z:∀ e∈es,e.f<n/\e.t<n){v:AV}(J:lV H v es):Ok (C k (.f 223) [.agg [.int .i64 (.ofNat n),v]] H) fun r H'=>∃ cs out,qdt n (j6 es) out/\pG H H' r cs out/\Fm No H H':=by
 obtain⟨j,rfl⟩:=aP w;rw[lk (zp7 ..)];unfold zCe z0u;have G:=J.len;refine jD qm qg G TB0 ?_;unfold ze4;rw[dD];generalize m:aI H (aB 0 [.int .i64 (.ofNat n),v])=H1;have S:H1.nx=H.nx+1:=by rw[<-m];rfl
 have M:Fm No H H1:=by rw[<-m];exact(Fm.refl _ _).push _
 have g1:H1.get H.nx=aB 0 [.int .i64 (.ofNat n),v]:=by rw[<-m,jG]
 have I:TMd H1 (j6 (es.take 0)) s00 (fun b=>if b<H1.nx then 9 else 0) (H.nx+1) (aI H1 (TB (fun _=>.aA) s00 .aA .aA)) (fun _=>.aA) .aA .aA []:={
  fm:=(Fm.refl _ _).push _
  base:=fun b a=>qj a
  ge:=om
  lt:=by rw[np];omega
  ct:=pg om
  get:=by rw[<-S];exact jG _ _
  nxt:=fun u _=>⟨Gl.nil _ _,fun c p=>by obtain⟨_,_,_,_,g⟩:=p;cases g⟩
  stk:=Gs.nil _ _
  zO:=fun c p=>by obtain⟨_,_,_,_,g⟩:=p;cases g
  out:=Gl.nil _ _
  ouc:=fun c p=>by obtain⟨_,_,_,_,g⟩:=p;cases g
  css:=⟨rfl,fun i c o h=>by cases h⟩}
 have T:q4w n (j6 es):=⟨y,fun u k w=>by obtain⟨e,q,_,rfl⟩:=qg3.1 w;exact(z e q).2,fun u=>lE1 (qzx es u) d⟩;refine qpf d (J.fm M) (fun e q=>⟨ku (z e q).1 y,ku (z e q).2 y⟩) (fun K nx col L=>?_) bZ 0 _ _ _ lf (gp _) I;unfold q1f;have g2:K.get H.nx=aB 0 [.int .i64 (.ofNat n),v]:=(L.fm.keep om).trans g1;simp only[go_sem,qm,qg,g2];unfold zwl;rw[dD];refine qio O P Q (j:=j) om T (fun X s A B D E=>?_) bZ 0 K s00 col lf (gp _) ⟨_,_,_,_,L⟩ (TI.init _ _) fun x E=>absurd E (lAD _);unfold ze1;obtain⟨U,sv,ov,cs,l⟩:=B;have g3:=l.get;simp only[go_sem,qm,qg,g3];have f:∀{b c:Nat},c≠9->A b=c->H.nx<=b:=fun{b c} p h=>by
  rcases cu b H1.nx with a|a
  ·have:=l.base b a;omega
  ·omega
 refine Ok.ret ⟨cs,s.out,TI.parts D E,⟨l.out,l.css.len,fun b a=>f (c:=4) om (l.ouc b a),fun i c o t R=>?_⟩,M.trans l.fm⟩;obtain⟨V,W,N⟩:=l.css.at' i c o t R;exact⟨V,W,fun b a=>⟨f (c:=5) om (N b a),fun F=>by have t:=N b a;rw[l.ouc b F]at t;cases t⟩⟩
open Go.Sort
variable {m:Nat} {gv:AV} {ins:List Nat}
structure Cv where
 b:Nat
 q:Nat
 n:Nat
 m:Nat
 e:Bool
 o:List Nat
def Cv.v(c:Cv):AV:=.sl c.b c.q c.n c.m c.e
theorem Cv.ex:∀(cs:List AV) (a:List (List Nat)),cs.length=a.length->(∀(i:Nat) (c:AV) (o:List Nat),cs[i]? =some c->a[i]? =some o->∃ b q n m e,c=.sl b q n m e)->∃ d:List Cv,d.map Cv.v=cs/\d.map Cv.o=a
 | [],[],_,_=>⟨[],rfl,rfl⟩
 | [],_::_,h,_=>by simp at h
 |_::_,[],h,_=>by simp at h
 |c::cs,o::a,h,hp=>by obtain⟨d,f,g⟩:=Cv.ex cs a (by simpa using h) fun i c o g1 g2=>hp (i+1) c o (by simpa using g1) (by simpa using g2);obtain⟨b,q,n,m,e,rfl⟩:=hp 0 c o rfl rfl;exact⟨⟨b,q,n,m,e,o⟩::d,by simp[f,Cv.v],by simp[g]⟩
def hdI(l:List Nat):Int:=.ofNat (l.headD 0)
theorem qy5{H:Hp}:∀{l:List AV} {zs:List Int},l.length=zs.length->(∀i (h:i<l.length) (a:i<zs.length),headA H l[i]=some zs[i])->qpz H l=some zs
 | [],[],_,_=>rfl
 | [],_::_,h,_=>by simp at h
 |_::_,[],h,_=>by simp at h
 |v::l,z::zs,h,k=>by unfold qpz;have b:headA H v=some z:=k 0 g3 g3;rw[b,qy5 (l:=l) (zs:=zs) (by simpa using h) fun i h a=>k (i+1) (by simpa using h) (by simpa using a)]
theorem zth{x:Bool}{z:Int}(a:0<n)(h:bX (H.get b) o=.val (.int .i64 z)):headA H (.sl b o n m x)=some z:=by unfold headA;simp only[blt_eq,qc a,uB,h]
theorem q3d(zs:List Int)(h:0<zs.length):(eB zs h).toList.Perm (List.finRange zs.length):=by
 letI:Inhabited (Fin zs.length):=⟨⟨0,h⟩⟩
 have c:SWO (aCV zs):={
  irrefl:=fun x=>by unfold aCV;simp
  trans:=fun x y z=>by unfold aCV;simp only[yc];omega
  ntrans:=fun x y z=>by unfold aCV;simp only[zf];omega}
 have e:(Array.finRange zs.length).size=zs.length:=g3;obtain⟨⟨b,_,a⟩,_⟩:=pdq_sorts (aCV zs) c (Array.finRange zs.length) 0 (Array.finRange zs.length).size (Go.Lib.bitLen (Array.finRange zs.length).size) true true (gp _) (lu _) (Or.inl rfl);change (eB zs h).size=_ at b;change ((eB zs h).extract _ _).toList.Perm _ at a;rw[show(eB zs h).extract 0 (Array.finRange zs.length).size=eB zs h by rw[<-b];exact Array.extract_size,show(Array.finRange zs.length).extract 0 (Array.finRange zs.length).size=Array.finRange zs.length from Array.extract_size]at a;have d:(Array.finRange zs.length).toList=List.finRange zs.length:=Array.toList_ofFn;rwa [d]at a
theorem zul(hS:qbv C){k:Nat}{v:AV}{g:List (List Nat)}(B:pG H0 H v cs g)(hn:cs.length<900000)(O:1<=cs.length)(hk:1<=k)(P:∀ o∈g,o≠[]/\∀ x∈o,x<1000):Ok (C k (.f 247) [v,.fn 248 [] []] H) fun r H'=>r=.bA []/\∃ D t,t.Perm g/\pG H0 H' v D t/\(∀c∈D,c∈cs)/\Fm (In v) H H':=by
 obtain⟨k,rfl⟩:∃ j,k=j+1:=⟨k-1,om⟩;obtain⟨d,n,y⟩:=Cv.ex cs g B.len fun i c o g1 g2=>(B.at' i c o g1 g2).1;have S:d.length=cs.length:=by rw[<-n,pz]
 have E:∀ c∈d,Gl 1 H c.v c.o.length (aJ c.o)/\∀ b,In c.v b->H0.nx<=b/\¬ In v b:=fun c p=>by obtain⟨i,A,rfl⟩:=ai p;exact(B.at' i d[i].v d[i].o (by rw[<-n];simp[A]) (by rw[<-y];simp[A])).2
 have F:∀ c∈d,c.o≠[]/\∀ x∈c.o,x<1000:=fun c p=>P c.o (by rw[<-y];exact uC.2 ⟨c,p,rfl⟩);rcases B.gl.is with⟨_,h0⟩|⟨b,o,e,q,L,rfl,g1,g2,g3,g4,g5⟩
 ·omega
 have hLl:L.length=o+cs.length:=by have:=congrArg List.length g3;rw[vz]at this;omega
 let zs:List Int:=d.map fun c=>hdI c.o
 have T:zs.length=d.length:=by simp[zs]
 have f:0<zs.length:=om;have U:∀ i (h:i<zs.length),zs[i]=hdI (d[i]'om).o:=fun i h=>by simp[zs]
 have V:aIV zs:=⟨f,om,fun z hz=>by
  obtain⟨c,p,rfl⟩:=uC.1 hz;obtain⟨K,x2⟩:=F c p;unfold hdI;cases w:c.o with
  |nil=>exact absurd w K
  |cons a l=>rw[w]at x2;have:=x2 a ug;simp only[List.headD_cons,ut];omega⟩
 have W:qpz (H.put b .dead) cs=some zs:=qy5 om fun i h h'=>by
  have J:d[i]'om∈d:=lg _;obtain⟨M,k2⟩:=E _ J;obtain⟨K,_⟩:=F _ J;have X:cs[i]=(d[i]'om).v:=by simp[<-n]
  rw[X,U i h'];generalize d[i]'om=c at M k2 K;unfold hdI;cases w:c.o with
  |nil=>exact absurd w K
  |cons a l=>
   rw[w]at M;obtain⟨b1,o1,N,_,e2,e3⟩:=Gl.head M;unfold Cv.v at N k2 ⊢;have hcn:c.n=l.length+1:=by
    have s:=M.bM;unfold Cv.v at s;have I:R0.val (.int .i64 (.ofNat c.n))=R0.val (.int .i64 (.ofNat (a::l).length)):=s;have h4:(c.n:Int)=l.length+1:=by simpa using I
    omega
   rw[vL _ _ _ _ _ _ _ _ om]at N;simp only[R0.val.injEq,AV.ptr.injEq]at N;obtain⟨rfl,rfl⟩:=N;have Y:c.b≠b:=fun e'=>(k2 c.b ⟨_,_,_,_,rfl⟩).2 ⟨_,_,_,_,by rw[e']⟩;refine zth om ?_;rw[dO _ _ _ _ Y];simpa using e3
 let ix:Fin zs.length->Cv:=fun i=>d[i.1]'(by have:=i.2;omega)
 have hp:=q3d zs f;have m:((eB zs f).toList.map ix).Perm d:=by
  have O:=hp.map ix;have s:(List.finRange zs.length).map ix=d:=by
   apply List.ext_getElem
   ·simp[T]
   ·intro i O s;simp[ix]
  rwa [s]at O
 have hV:((eB zs f).toList.map fun i:Fin zs.length=>cs.getD i.1 .undef)=((eB zs f).toList.map ix).map Cv.v:=by rw[oh];refine lAX fun i _=>?_;have A:=i.2;rw[gy,lq om];simp[<-n,ix]
 have Z:(eB zs f).size=zs.length:=by have:=hp.length_eq;simpa using this
 generalize hR:(eB zs f).toList.map ix=R at m hV;have u:(R.map Cv.v).length=cs.length:=by rw[pz,m.length_eq,S]
 have hst:storeAt H b o (R.map Cv.v) (.bA [])=.ok (.bA []) (H.put b (aB q (aZ L o (R.map Cv.v)))):=qb3 _ _ _ _ _ _ _ g1 om;have hr:qoz H b o cs.length=some (.ok (.bA []) (H.put b (aB q (aZ L o (R.map Cv.v))))):=by unfold qoz;rw[g1,yU,qj om,g3,tq (lu _)];simp only[W,dif_pos V,hV,hst];rw[Z,lE7];rfl
 rw[(hS k).aWJ _ _ _ _ _ _ _ hr];have G:aZ L o (R.map Cv.v)=L.take o++R.map Cv.v:=by unfold aZ;rw[xe om,uf]
 have hpo:(R.map Cv.o).Perm g:=by have:=m.map Cv.o;rwa [y]at this
 have hF:Fm (In (.sl b o cs.length cs.length e)) H (H.put b (aB q (aZ L o (R.map Cv.v)))):=(Fm.refl _ _).put _ _ fun _=>⟨_,_,_,_,rfl⟩;have w:(L.take o).length=o:=by rw[qx];omega
 refine Ok.ret ⟨rfl,R.map Cv.v,R.map Cv.o,hpo,⟨?_,by simp,B.new,fun i c o' s I=>?_⟩,fun c p=>?_,hF⟩
 ·rw[G,u];refine⟨by rw[u,qm],.inr ⟨b,o,e,q,_,rfl,dN _ _ _,?_,?_,g4,ku g5 hF.nx⟩⟩
  ·rw[lL,w];omega
  ·rw[xn om,xe om,yj]
 ·have A:i<R.length:=by
   have:=(qp.1 s).1;simpa using this
  have p:c=(R[i]).v:=by rw[xy,lq A]at s;exact(Option.some.inj s).symm
  have ho':o'=(R[i]).o:=by rw[xy,lq A]at I;exact(Option.some.inj I).symm
  have J:R[i]∈d:=m.mem_iff.1 (lg _);subst p;subst ho';obtain⟨q1,q2⟩:=E _ J;exact⟨⟨_,_,_,_,_,rfl⟩,q1.fm hF fun b' Q h=>(q2 b' Q).2 h,q2⟩
 ·obtain⟨x,hx,rfl⟩:=uC.1 p;rw[<-n];exact uC.2 ⟨x,m.mem_iff.1 hx,rfl⟩
theorem zum(a:qbv C){k:Nat}(f:5<=k){v:AV}(c:Gl 1 H v n l)(d:n=0)(H:Hp):C k (.f 247) [v,.fn 248 [] []] H=.ok (.bA []) H:=by
 obtain⟨k,rfl⟩:∃ j,k=j+1:=⟨k-1,om⟩;rcases c.is with⟨rfl,_⟩|⟨b,o,e,q,L,rfl,_⟩
 ·exact(a k).aIC H
 ·subst d;exact(a k).aW2 _ _ _ _ H
def fill(ins:List Nat)(o:List Nat)(i:Nat):List Nat:=o.foldl (fun a x=>a.set x i) ins
def qey:List Nat->List (List Nat)->Nat->List Nat
 |ins,[],_=>ins
 |ins,o::r,i=>qey (fill ins o i) r (i+1)
theorem qfy(i:Nat):∀(o ins:List Nat),(fill ins o i).length=ins.length
 | [],ins=>rfl
 |x::o,ins=>by show(fill (ins.set x i) o i).length=_;rw[qfy i o,vw]
theorem qp5:∀(a:List (List Nat)) (ins:List Nat) (i:Nat),(qey ins a i).length=ins.length
 | [],_,_=>rfl
 |o::r,ins,i=>by rw[qey,qp5 r,qfy]
theorem qnq(i:Nat):∀(o ins:List Nat) (x:Nat),x<ins.length->(fill ins o i)[x]? =if x∈o then some i else ins[x]?
 | [],ins,x,h=>by simp[fill]
 |y::o,ins,x,h=>by
  show(fill (ins.set y i) o i)[x]? =_;rw[qnq i o _ x (by rw[vw];exact h)];by_cases a:x∈o
  ·simp[a]
  ·by_cases e:x=y
   ·simp_all
   ·have:¬ y=x:=fun h=>e h.symm;simp_all
theorem qp6:∀(b:List (List Nat)) (ins:List Nat) (d i x:Nat) (o:List Nat),b.flatten.Nodup->b[i]? =some o->x∈o->x<ins.length->(qey ins b d)[x]? =some (d+i)
 | [],_,_,_,_,_,_,h,_,_=>by simp at h
 |o'::r,ins,d,0,x,o,hn,h,a,c=>by
  simp at h;subst h;have e:∀(r:List (List Nat)) (ins:List Nat) (i:Nat),x<ins.length->x∉r.flatten->(qey ins r i)[x]? =ins[x]? :=fun r=>by
   induction r with
   |nil=>intros;rfl
   |cons o r ih=>intro ins i c a;rw[dE,qi,not_or]at a;rw[qey,ih _ _ (by rw[qfy];exact c) a.2,qnq i o ins x c,pg a.1]
  rw[qey,e r _ _ (by rw[qfy];exact c) ?_,qnq _ _ _ _ c,qj a,zt];intro f;rw[dE,yw]at hn;exact hn.2.2 x a x f rfl
 |o'::r,ins,d,i+1,x,o,hn,h,a,c=>by rw[dE,yw]at hn;rw[qey,qp6 r _ (d+1) i x o hn.2.1 (by simpa using h) a (by rw[qfy];exact c)];congr 1;omega
theorem zlm{O:Ev.Call}{c:AV}{o:List Nat}{ib nb n i:Nat}{H1:Hp}(p:Rl H1 c (aJ o))(d:∀ j b q,j<o.length->aH 1 c (.int .i64 (.ofNat j))=.val (.ptr b q)->b≠nb)(l:o.length<900000)(r:∀ x∈o,x<n)(e:H1.get ib=aB 0 [.sl nb 0 n n true])(f:ib≠nb)(g:ib<H1.nx){q:pH}{Q:pL}{fin:List Nat}(s:∀ H,H.get nb=aB 0 (aJ fin)->Fm (fun b=>b=nb) H1 H->Ok (q H) Q):∀(k j:Nat) (ins:List Nat) (H:Hp),o.length-j<k->j<=o.length->ins.length=n->H.get nb=aB 0 (aJ ins)->Fm (fun b=>b=nb) H1 H->fill ins (o.drop j) i=fin -> Ok (qtl O q (.ptr ib 0) (.int .i64 (.ofNat i)) c (.int .i64 (.ofNat o.length)) k (.int .i64 (.ofNat j)) H) Q
 |0,j,ins,H,h,_,_,_,_,_=>om
 |k+1,j,ins,H,h,hj,hl,hg,hF,hf=>by
  show Ok (q1d O _ _ _ _ _ (qtl O _ _ _ _ _ k) _ H) Q;unfold q1d;by_cases a:j<o.length
  ·obtain⟨b,z,t,A,u⟩:=p.at' j (by rw[mP];exact a);rw[qiq]at u;have v:H.get b=H1.get b:=hF.get b A (d j b z a t);have w:H.get ib=aB 0 [.sl nb 0 n n true]:=(hF.get ib g f).trans e;have B:o[j]<n:=r _ (lg _);simp only[go_sem,a];unfold zew;have m:o[j]+1<=ins.length:=om;simp(disch:=omega)only[go_sem,seval,t,v,u,w,hg,qm,qg,pq,uo,mP,m,mg];unfold zex;refine aT ?_;have y:o.drop j=o[j]::o.drop (j+1):=uq a;rw[qjy _ _ _ om];refine zlm p d l r e f g s k (j+1) (ins.set o[j] i) _ om om (by rw[vw];exact hl) (dN _ _ _) (hF.put _ _ fun _=>rfl) ?_;rw[y]at hf;exact hf
  ·simp only[go_sem,a];have:j=o.length:=om;subst this;rw[lA8]at hf;subst hf;exact s H hg hF
theorem pG.dP{v:AV}{d:List (List Nat)}(h:pG H0 H v cs d)(f:Fm S H H')(g:∀ b,H0.nx<=b->b<H.nx->¬ S b):pG H0 H' v cs d:=
 ⟨h.gl.keep f.nx fun b e a=>f.get b a (g b (h.new b e) a),h.len,h.new,fun i c o j k=>by obtain⟨g1,g2,g3⟩:=h.at' i c o j k;exact⟨g1,g2.keep f.nx fun b e a=>f.get b a (g b (g3 b e).1 a),g3⟩⟩
theorem pG.no{v:AV}{a:List (List Nat)}(h:pG H0 H v cs a)(f:Fm No H H'):pG H0 H' v cs a:=h.dP f fun _ _ _ h=>h
theorem q85{O:Ev.Call}{v:AV}{cs:List AV}{a:List (List Nat)}{ib nb n:Nat}{H0 H1:Hp}(t:pG H0 H1 v cs a)(u:H1.nx<=nb+2)(w:∀ b,H0.nx<=b->b<H1.nx->b≠nb->True)(F:∀ b,In v b->b≠nb)(d:∀(i:Nat) (c:AV) (b:Nat),cs[i]? =some c->In c b->b≠nb)(p:∀ o∈a,o.length<900000/\∀ x∈o,x<n)(y:a.length<900000)(r:H1.get ib=aB 0 [.sl nb 0 n n true])(f:ib≠nb)(g:ib<H1.nx){q:pH}{Q:pL}{fin:List Nat}(I:∀ H,H.get nb=aB 0 (aJ fin)->Fm (fun b=>b=nb) H1 H->Ok (q H) Q):∀(k i:Nat) (ins:List Nat) (H:Hp),a.length-i<k->i<=a.length->ins.length=n->H.get nb=aB 0 (aJ ins)->Fm (fun b=>b=nb) H1 H->qey ins (a.drop i) i=fin -> Ok (qn7 O q (.ptr ib 0) v (.int .i64 (.ofNat a.length)) k (.int .i64 (.ofNat i)) H) Q
 |0,i,ins,H,h,_,_,_,_,_=>om
 |k+1,i,ins,H,h,hi,hl,hg,hF,s=>by
  show Ok (q1e O _ _ _ _ (qn7 O _ _ _ _ k) _ H) Q;unfold q1e;have G:=t.len;by_cases m:i<a.length
  ·simp only[go_sem,m];unfold zev;have A:Gl 1 H v cs.length cs:=t.gl.fm hF fun b z=>F b z;obtain⟨b,S,N,_,_,P⟩:=A.at (i:=i) (x:=cs[i]) g3;obtain⟨⟨cb,T,U,V,W,R⟩,g2,g3⟩:=t.at' i cs[i] a[i] g3 g3;have l:Gl 1 H cs[i] a[i].length (aJ a[i]):=g2.fm hF fun b z=>d i cs[i] b (by simp) z;have B:=l.bM;obtain⟨D,E⟩:=p a[i] (lg _);simp only[go_sem,N,P,B];unfold zey;rw[dD];have C:H.get ib=aB 0 [.sl nb 0 n n true]:=(hF.get ib g f).trans r;have M:a.drop i=a[i]::a.drop (i+1):=uq m;refine zlm (H1:=H) l.rl (fun j b q J e=>d i cs[i] b (by simp) (l.aAO J e)) D E C f (ku g hF.nx) (fin:=fill ins a[i] i) (fun K L k2=>?_) bZ 0 ins H (by rw[wH];omega) (gp _) hl hg (Fm.refl _ _) rfl;unfold q1c;refine aT ?_;refine q85 t u w F d p y r f g I k (i+1) (fill ins a[i] i) K om om (by rw[qfy];exact hl) L (hF.trans k2) ?_;rw[M]at s;exact s
  ·simp only[go_sem,m];have:i=a.length:=om;subst this;rw[lA8]at s;have s:ins=fin:=s;simp_all
theorem qno(n:Nat):List.replicate n (AV.int .i64 (.ofNat 0))=aJ (List.replicate n 0):=by simp[aJ]
structure aI3(H0 H:Hp)(n:Nat)(gv v:AV)(cs:List AV)(out:List (List Nat))(ins:List Nat)(lb gb ib wb:Nat):Prop where
 l:H.get lb=aB 0 [v]
 g:H.get gb=aB 0 [.int .i64 (.ofNat n),gv]
 i:H.get ib=aB 0 [.sl wb 0 n n true]
 w:H.get wb=aB 0 (aJ ins)
 lt:lb<H.nx/\gb<H.nx/\ib<H.nx/\wb<H.nx
 ls:pG H0 H v cs out
 il:ins.length=n
 ix:∀(i:Nat) (o:List Nat) (x:Nat),out[i]? =some o->x∈o->ins[x]? =some i
theorem zsd(V:qbv C){k:Nat}(hk:920<=k){gv v:AV}{f:List (List Nat)}(y:pG H0 H v cs f)(hH:H0.nx<=H.nx)(hn:n<=256)(hco:f.length<=256)(E:∀ o∈f,o≠[]/\o.length<=256/\∀ x∈o,x<n)(J:f.flatten.Nodup):Ok (C k (.f 222) [.agg [.int .i64 (.ofNat n),gv],v] H) fun r H'=>∃ M N ib wb g a ins,r=.fn 249 [] [.ptr M 0,.ptr N 0,.ptr ib 0]/\a.Perm f /\ aI3 H0 H' n gv v g a ins M N ib wb/\(∀c∈g,c∈cs)/\Fm (In v) H H'/\(H.nx<=M/\H.nx<=N/\H.nx<=ib/\H.nx<=wb):=by
 obtain⟨j,rfl⟩:=aP hk;rw[lk (zp6 ..)];unfold zCf z0t;have W:=y.len;have hvs:∃ u,qI 2 H.nx (.agg [.int .i64 (.ofNat n),gv])=.new (.ptr H.nx 0) (aB 0 [.int .i64 (.ofNat n),gv])/\u=aI H (aB 0 [.int .i64 (.ofNat n),gv]):=⟨_,rfl,rfl⟩
 -- the slice is nil or not: its box
 have O:∀ nm,nV nm v=.new (.ptr nm 0) (aB 0 [v]):=fun nm=>by rcases y.gl.is with⟨rfl,_⟩|⟨b,o,e,q,L,rfl,_⟩<;>rfl
 refine eP O ?_;generalize s:aI (aI H (aB 0 [.int .i64 (.ofNat n),gv])) (aB 0 [v])=u;have n2:u.nx=H.nx+2:=by rw[<-s];rfl
 have P:Fm No H u:=by rw[<-s];exact((Fm.refl _ _).push _).push _
 have g2:u.get H.nx=aB 0 [.int .i64 (.ofNat n),gv]:=by rw[<-s,qbs _ _ _ (by rw[np];omega),jG]
 have l2:u.get (H.nx+1)=aB 0 [v]:=by rw[<-s];exact jG _ _
 have z:∀ b,In v b->b<H.nx:=fun b m=>y.gl.lt m;have p:Ok (C j (.f 247) [v,.fn 248 [] []] u) fun r H'=>r=.bA []/\∃ g a,a.Perm f/\pG H0 H' v g a/\(∀c∈g,c∈cs)/\Fm (In v) u H':=by
  rcases Nat.eq_zero_or_pos cs.length with T|T
  ·rw[zum V om y.gl T];have:f=[]:=tu.1 om;subst this;exact Ok.ret ⟨rfl,cs,[],List.Perm.refl _,y.no P,fun _ h=>h,Fm.refl _ _⟩
  ·exact zul V (y.no P) om T om (fun o F=>⟨(E o F).1,fun x h=>by have:=(E o F).2.2 x h;omega⟩)
 refine Ok.ve p ?_;rintro r d ⟨rfl,g,a,D,l,U,G⟩;have n3:=G.nx;have Q:Fm (In v) H d:=(P.mono fun _ _ h=>h.elim).trans G;have g3:d.get H.nx=aB 0 [.int .i64 (.ofNat n),gv]:=(G.get _ om fun m=>xx _ (z _ m)).trans g2;have l3:d.get (H.nx+1)=aB 0 [v]:=(G.get _ om fun m=>by have:=z _ m;omega).trans l2;have A:=l.gl.bM;have w:=l.len;have hol:a.length=f.length:=D.length_eq;rw[w]at A;have X:=qc9 [.int .i64 (.ofNat 0)] 8 d.nx n om om;rw[qdj,qno]at X;refine jD g3 l3 X A ?_;generalize t:(aI (aI d (aB 0 (aJ (List.replicate n 0)))) (aB 0 [.aA])).put (d.nx+1) (aB 0 [.sl d.nx 0 n n true])=H4;have n4:H4.nx=d.nx+2:=by rw[<-t];rfl
 have B:Fm No d H4:=by rw[<-t];exact(((Fm.refl _ _).push _).push _).aG _ _ om
 have Y:H4.get (d.nx+1)=aB 0 [.sl d.nx 0 n n true]:=by rw[<-t,dN]
 have a4:H4.get d.nx=aB 0 (aJ (List.replicate n 0)):=by rw[<-t,dO _ _ _ _ om,qbs _ _ _ (by rw[np];omega),jG]
 have R:H4.get (H.nx+1)=aB 0 [v]:=(B.keep om).trans l3;unfold zez;rw[dD];have S:=l.no B;refine q85 (n:=n) S (by omega) (fun _ _ _ _=>trivial) (fun b m=>by have:=l.gl.lt m;omega) (fun i c b K m=>?_) (fun o F=>?_) (by omega) Y (by omega) (by omega) (fun H5 k1 k2=>?_) bZ 0 (List.replicate n 0) H4 (by rw[wH];omega) (gp _) (by simp) a4 (Fm.refl _ _) rfl
 ·have hi:=(qp.1 K).1;obtain⟨_,I,_⟩:=l.at' i c a[i] K (by simp);have:=I.lt m;omega
 ·have:=E o (D.mem_iff.1 F);exact⟨om,this.2.2⟩
 ·unfold q5v;have n5:=k2.nx;refine Ok.ret ⟨H.nx+1,H.nx,d.nx+1,d.nx,g,a,qey (List.replicate n 0) (a.drop 0) 0,rfl,D,⟨?_,?_,?_,k1,⟨om,om,om,om⟩,?_,?_,?_⟩,U,?_,om,om,om,om⟩
  ·exact(k2.get _ om om).trans R
  ·exact(k2.get _ om om).trans ((B.keep om).trans g3)
  ·exact(k2.get _ om om).trans Y
  ·exact l.dP (((B.mono fun _ _ h=>h.elim:Fm (fun b=>b=d.nx) d H4)).trans k2) fun b _ hlt=>om
  ·rw[qp5,lAA]
  ·intro i o x Z I;have hm:o∈a:=uz Z;have:=qp6 a (List.replicate n 0) 0 i x o (D.flatten.nodup_iff.2 J) Z I (by rw[lAA];exact(E o (D.mem_iff.1 hm)).2.2 x I);rw[lA4,this,qg]
  ·exact Q.then ((B.mono fun _ _ h=>h.elim:Fm (fun b=>b=d.nx) d H4).trans k2) fun c K h=>om
def bools(l:List Bool):List AV:=l.map .bool
theorem q9i(l:List Bool):(bools l).length=l.length:=by simp[bools]
theorem zmv(l:List Bool)(i:Nat)(h:i<l.length):(bools l)[i]? =some (.bool l[i]):=by simp[bools,h]
theorem qli(l:List Bool)(i:Nat)(d:Bool)(h:i<l.length):(bools l)[i]? =some (.bool (l.getD i d)):=by rw[zmv l i h];simp[h]
theorem qzo(l:List Bool)(i:Nat)(b:Bool)(h:i<l.length):aZ (bools l) i [.bool b]=bools (l.set i b):=by unfold aZ bools;rw[lEA,List.set_eq_take_append_cons_drop,qj (by simpa using h)];simp
structure RS(D:Nat->Prop)(H:Hp)(n:Nat)(gv:AV)(es:List Edge)(v:AV)(cs:List AV)(ins:List Nat)(lb gb ib wb:Nat):Prop where
 l:H.get lb=aB 0 [v]
 g:H.get gb=aB 0 [.int .i64 (.ofNat n),gv]
 i:H.get ib=aB 0 [.sl wb 0 n n true]
 w:H.get wb=aB 0 (aJ ins)
 gl:Gl 1 H v cs.length cs
 e:lV H gv es
 lt:lb<H.nx/\gb<H.nx/\ib<H.nx/\wb<H.nx
 dl:D lb
 dg:D gb
 di:D ib
 dw:D wb
 dv:∀ b,In v b->D b
 de:∀ b,In gv b->D b
def RB(gv v:AV)(lb gb ib wb b:Nat):Prop:=b=lb\/b=gb\/b=ib\/b=wb\/In v b\/In gv b
theorem RS.rb{D:Nat->Prop}{es:List Edge}{v:AV}{c d ib wb:Nat}(h:RS D H n gv es v cs ins c d ib wb)(a:RB gv v c d ib wb b):D b:=by
 rcases a with rfl|rfl|rfl|rfl|a|a
 ·exact h.dl
 ·exact h.dg
 ·exact h.di
 ·exact h.dw
 ·exact h.dv b a
 ·exact h.de b a
theorem RS.keep{D:Nat->Prop}{es:List Edge}{v:AV}{d e ib wb:Nat}(h:RS D H n gv es v cs ins d e ib wb)(f:Fm S H H')(c:∀ b,RB gv v d e ib wb b->¬ S b):RS D H' n gv es v cs ins d e ib wb:=by
 obtain⟨l1,j,l3,l4⟩:=h.lt;have i:=f.nx;exact⟨(f.get _ l1 (c _ (Or.inl rfl))).trans h.l,(f.get _ j (c _ (Or.inr (Or.inl rfl)))).trans h.g,(f.get _ l3 (c _ (Or.inr (Or.inr (Or.inl rfl))))).trans h.i,(f.get _ l4 (c _ (Or.inr (Or.inr (Or.inr (Or.inl rfl)))))).trans h.w,
  h.gl.keep i fun b g a=>f.get b a (c b (Or.inr (Or.inr (Or.inr (Or.inr (Or.inl g)))))),h.e.keep i fun b g a=>f.get b a (c b (Or.inr (Or.inr (Or.inr (Or.inr (Or.inr g)))))),⟨om,om,om,om⟩,h.dl,h.dg,h.di,h.dw,h.dv,h.de⟩
theorem RS.no{D:Nat->Prop}{es:List Edge}{v:AV}{a b ib wb:Nat}(h:RS D H n gv es v cs ins a b ib wb)(f:Fm No H H'):RS D H' n gv es v cs ins a b ib wb:=h.keep f fun _ _ h=>h
def yY(ins:List Nat)(dn:List Bool)(w:List Bool)(e:Edge):List Bool:=
 if ins.getD e.f 0≠ins.getD e.t 0/\dn.getD (ins.getD e.t 0) true=false then w.set (ins.getD e.f 0) true else w
def waits(es:List Edge)(ins:List Nat)(dn:List Bool)(w:List Bool):List Bool:=es.foldl (yY ins dn) w
theorem qw8(ins:List Nat)(dn:List Bool):∀(es:List Edge) (w:List Bool),(waits es ins dn w).length=w.length
 | [],w=>rfl
 |e::es,w=>by
  show(waits es ins dn (yY ins dn w e)).length=_;rw[qw8 ins dn es];unfold yY;split
  ·simp
  ·rfl
theorem qxa{O:Ev.Call}{D:Nat->Prop}{n:Nat}{gv:AV}{es:List Edge}{v:AV}{cs:List AV}{ins:List Nat}{lb gb ib wb F tb m:Nat}{dn:List Bool}{H1:Hp}(W:RS D H1 n gv es v cs ins lb gb ib wb)(G:es.length<200000)(M:ins.length=n)(X:∀ e∈es,e.f<n/\e.t<n)(r:∀ x<n,ins.getD x 0<m)(N:dn.length=m)(I:H1.get F=aB 0 (bools dn))(Y:F<H1.nx)(P:H1.nx<=tb){q:pH}{Q:pL}{fin:List Bool}(hq:∀ H,H.get tb=aB 0 (bools fin)->Fm No H1 H->tb<H.nx->Ok (q H) Q):∀(k i:Nat) (w:List Bool) (H:Hp),es.length-i<k->i<=es.length->w.length=m->H.get tb=aB 0 (bools w)->Fm No H1 H->tb<H.nx->waits (es.drop i) ins dn w=fin -> Ok (qn2 O q (.ptr ib 0) (.sl F 0 m m true) (.sl tb 0 m m true) gv (.int .i64 (.ofNat es.length)) k (.int .i64 (.ofNat i)) H) Q
 |0,i,w,H,h,_,_,_,_,_,_=>om
 |k+1,i,w,H,h,hi,hw,ht,hF,hlt,p=>by
  show Ok (q08 O _ _ _ _ _ _ (qn2 O _ _ _ _ _ _ k) _ H) Q;unfold q08;by_cases l:i<es.length
  ·simp only[go_sem,l];unfold zei;have g:=W.no hF;obtain⟨b,o,S,e2,T⟩:=g.e.at l;obtain⟨U,V⟩:=X es[i] (lg _);have s:(aJ ins)[es[i].f]? =some (.int .i64 (.ofNat (ins.getD es[i].f 0))):=by rw[qnp _ _ om,gy,lq om];rfl
   have t:(aJ ins)[es[i].t]? =some (.int .i64 (.ofNat (ins.getD es[i].t 0))):=by rw[qnp _ _ om,gy,lq om];rfl
   have ha:=r _ U;have hb:=r _ V;have j:(bools dn)[ins.getD es[i].t 0]? =some (.bool (dn.getD (ins.getD es[i].t 0) true)):=qli _ _ _ om;have u:es.drop i=es[i]::es.drop (i+1):=uq l;rw[u]at p;have p:waits (es.drop (i+1)) ins dn (yY ins dn w es[i])=fin:=p;obtain⟨l1,l2,l3,l4⟩:=g.lt;have y:=g.i;have z:=g.w;have J:H.get F=aB 0 (bools dn):=(hF.keep Y).trans I;generalize C:ins.getD es[i].f 0=a at *;generalize E:ins.getD es[i].t 0=c at *;have A:∀(w':List Bool) (H':Hp),yY ins dn w es[i]=w'->H'.get tb=aB 0 (bools w')->Fm No H1 H'->tb<H'.nx->Ok (qtf O (qn2 O q (.ptr ib 0) (.sl F 0 m m true) (.sl tb 0 m m true) gv (.int .i64 (.ofNat es.length)) k) (.int .i64 (.ofNat i)) H') Q:=fun w' H' Z h2 h3 h4=>by
    unfold qtf;refine aT ?_;refine qxa W G M X r N I Y P hq k (i+1) w' H' om om ?_ h2 h3 h4 (by rw[Z]at p;exact p);rw[<-Z];unfold yY;split
    ·rw[vw];exact hw
    ·exact hw
   have K:Fm No H ((aI H (aB 0 [.int .i64 (.ofNat 0),.int .i64 (.ofNat 0),.bool false])).put H.nx (aB 0 [.int .i64 (.ofNat es[i].f),.int .i64 (.ofNat es[i].t),.bool es[i].s])):=by exact kP
   have B:((aI H (aB 0 [.int .i64 (.ofNat 0),.int .i64 (.ofNat 0),.bool false])).put H.nx (aB 0 [.int .i64 (.ofNat es[i].f),.int .i64 (.ofNat es[i].t),.bool es[i].s])).get tb=aB 0 (bools w):=(K.keep hlt).trans ht;by_cases f:a=c
   ·have d:yY ins dn w es[i]=w:=by
     unfold yY;rw[C,E,pg (by simp[f])]
    simp(disch:=first|omega|exact ti rfl)only[go_sem,seval,S,T,Edge.cells,y,z,s,t,f,qm,qg,pq,uo];exact A w _ d B (hF.trans K) (by show tb<H.nx+1;omega)
   ·cases L:dn.getD c true with
    |true=>
     have d:yY ins dn w es[i]=w:=by unfold yY;rw[C,E,L,pg g3]
     rw[L]at j;simp(disch:=first|omega|exact ti rfl)only[go_sem,seval,S,T,Edge.cells,y,z,s,t,f,J,j,qm,qg,pq,uo];exact A w _ d B (hF.trans K) (by show tb<H.nx+1;omega)
    |false=>
     have d:yY ins dn w es[i]=w.set a true:=by unfold yY;rw[C,E,L,qj ⟨f,rfl⟩]
     rw[L]at j;have R:a+1<=w.length:=om;simp(disch:=go_size)only[go_sem,rB,rI,rK,rL,rN,rS,r6,S,T,Edge.cells,y,z,s,t,f,J,j,B,qm,qg,pq,uo,q9i,R,mg];rw[qzo _ _ _ om];exact A (w.set a true) _ d (dN _ _ _) ((hF.trans K).aG _ _ om) (by show tb<H.nx+1;omega)
  ·simp only[go_sem,l];have:i=es.length:=om;subst this;rw[lA8]at p;have p:w=fin:=p;simp_all
def okP(dn w:List Bool)(i:Nat):Bool:= !dn.getD i true&& !w.getD i true
def qjr(dn w:List Bool)(m:Nat):Option Nat:=(List.range m).find? (okP dn w)
def kG(es:List Edge)(ins:List Nat)(m:Nat):Nat->List Bool->List Nat
 |0,_=>[]
 |k+1,dn=>match qjr dn (waits es ins dn (List.replicate m false)) m with
  |none=>kG es ins m k dn
  |some i=>i::kG es ins m k (dn.set i true)
theorem qr7{dn w:List Bool}(h:qjr dn w m=none):∀ j,j<m->okP dn w j=false:=fun j a=>by have:=List.find?_eq_none.1 h j (xg.2 a);simp_all
theorem qe6{dn w:List Bool}(h:qjr dn w m=some i):i<m/\okP dn w i=true/\∀ j,j<i->okP dn w j=false:=by
 have d:=lEJ h;have b:=xf h;rw[xg]at b;refine⟨b,d,fun j k=>?_⟩;unfold qjr at h;rw[List.find?_eq_some_iff_append]at h;obtain⟨_,f,n,e,o⟩:=h;have l:j∈f:=by
  have a:j∈List.range m:=xg.2 om;rw[e]at a;rcases qi.1 a with g|g
  ·exact g
  ·have c:(List.range m).Pairwise (· < ·):=List.pairwise_lt_range;rw[e,zq,lE2]at c;rcases su.1 g with g|g
   ·omega
   ·have:=c.2.1.1 j g;omega
 simp_all
structure YI(C0:Ev.Call)(y bs:Nat)(cs:List AV)(ord:List Nat)(Inv:Nat->(Nat->Prop)->Hp->Prop):Prop where
 ext:∀ t D D' H H',Inv t D H->Fm (fun b=>D b/\bs<=b) H H'->(∀b,D' b->D b\/(H.nx<=b/\b<H'.nx))->Inv t D' H'
 step:∀ t i c D H,ord[t]? =some i->cs[i]? =some c->Inv t D H->Ok (C0 (.y y) [c] H) fun r H'=>r=.bool true/\Inv (t+1) D H'/\Fm (fun b=>¬ D b) H H'
theorem qxw{B:Ev.Call}{y bs:Nat}{q:List Nat}{Inv:Nat->(Nat->Prop)->Hp->Prop}{D:Nat->Prop}{n:Nat}{gv:AV}{es:List Edge}{v:AV}{cs:List AV}{ins:List Nat}{E gb ib wb a tb m t:Nat}{dn w:List Bool}(S:YI B y bs cs q Inv)(hm:m=cs.length)(T:m<900000)(U:dn.length=m)(V:w.length=m)(s:D a)(F:bs<=a)(G:a≠E){uZ f:pH}{Q:pL}{H:Hp}(O:RS D H n gv es v cs ins E gb ib wb)(I:∀ b,In v b->b≠a)(l:H.get a=aB 0 (bools dn))(rA:a<H.nx)(u:H.get tb=aB 0 (bools w))(hI:Inv t D H)(c:qjr dn w m=none->Ok (f H) Q)(d:∀ p H',qjr dn w m=some p->q[t]? =some p->H'.get a=aB 0 (bools (dn.set p true))->Inv (t+1) D H'->Fm (fun b=>¬ D b\/b=a) H H'->Ok (f H') Q)(z:∀ p,qjr dn w m=some p->q[t]? =some p):∀(k i:Nat),m-i<k->i<=m->(∀j,j<i->okP dn w j=false) -> Ok (qn3 B uZ f (.yield y) (.ptr E 0) (.sl a 0 m m true) (.sl tb 0 m m true) (.int .i64 (.ofNat m)) k (.int .i64 (.ofNat i)) H) Q
 |0,i,h,_,_=>om
 |k+1,i,h,hi,hj=>by
  show Ok (q09 B _ _ _ _ _ _ _ (qn3 B _ _ _ _ _ _ _ k) _ H) Q;unfold q09;by_cases A:i<m
  ·have K:okP dn w i=false->Ok (q07 B (qn3 B uZ f (.yield y) (.ptr E 0) (.sl a 0 m m true) (.sl tb 0 m m true) (.int .i64 (.ofNat m)) k) (.int .i64 (.ofNat i)) H) Q:=fun J=>by
    unfold q07;refine aT ?_;exact qxw S hm T U V s F G O I l rA u hI c d z k (i+1) om om fun j hj'=>by
     by_cases e:j=i
     ·simp_all
     ·exact hj j om
   have L:=qli dn i true om;have P:=qli w i true om;simp only[go_sem,A];unfold zej;cases M:dn.getD i true with
   |true=>rw[M]at L;refine jD l L qm qg ?_;exact K (by unfold okP;rw[M];rfl)
   |false=>
    rw[M]at L;cases R:w.getD i true with
    |true=>rw[R]at P;refine siG l L u P qm qg ?_;exact K (by unfold okP;rw[M,R];rfl)
    |false=>
     rw[R]at P;have J:okP dn w i=true:=by unfold okP;rw[M,R];rfl
     have C:qjr dn w m=some i:=by
      cases N:qjr dn w m with
      |none=>have:=qr7 N i A;rw[J]at this;cases this
      |some p=>
       obtain⟨p1,p2,p3⟩:=qe6 N;rcases Nat.lt_trichotomy p i with g|g|g
       ·simp_all
       ·rw[g]
       ·simp_all
     have W:i+1<=dn.length:=om;have X:(H.put a (aB 0 (bools (dn.set i true)))).get E=aB 0 [v]:=by rw[dO _ _ _ _ (Ne.symm G)];exact O.l
     have Y:Gl 1 (H.put a (aB 0 (bools (dn.set i true)))) v cs.length cs:=O.gl.keep (lu _) fun b hb _=>dO _ _ _ _ (I b hb);obtain⟨b,o,e1,_,_,e2⟩:=Y.at (i:=i) (x:=cs[i]'om) g3;have fd:Fm (fun b=>b=a) H (H.put a (aB 0 (bools (dn.set i true)))):=(Fm.refl _ _).put _ _ fun _=>rfl;have Z:Inv t D (H.put a (aB 0 (bools (dn.set i true)))):=S.ext t D D _ _ hI (fd.mono fun b _ h=>by subst h;exact⟨s,F⟩) fun b h=>Or.inl h;simp(disch:=omega)only[go_sem,seval,l,L,u,P,qm,qg,pq,uo,q9i,W,mg];rw[qzo _ _ _ om];have hl0:=O.l;simp only[go_sem,X,hl0,e1,e2,zms];refine Ok.ve (S.step t i (cs[i]'om) D _ (z i C) (lq om) Z) ?_;rintro r H' ⟨rfl,qQ,f3⟩;refine d i H' C (z i C) ?_ qQ ((fd.mono fun _ _ h=>Or.inr h).trans (f3.mono fun _ _ h=>Or.inl h));rw[f3.get a rA fun h=>h s,dN]
  ·simp only[go_sem,A];have:i=m:=om;subst this;cases C:qjr dn w i with
   |none=>exact c C
   |some p=>obtain⟨p1,p2,p3⟩:=qe6 C;simp_all
theorem qzp(m:Nat):List.replicate m (AV.bool false)=bools (List.replicate m false):=by simp[bools]
theorem qkw{G:Ev.Call}{y V:Nat}{a:List Nat}{Inv:Nat->(Nat->Prop)->Hp->Prop}{D:Nat->Prop}{n:Nat}{gv:AV}{es:List Edge}{v:AV}{cs:List AV}{ins:List Nat}{L I ib wb d m:Nat}(J:YI G y V cs a Inv)(K:m=cs.length)(l:m<900000)(o:D d)(q:V<=d)(r:d≠L/\d≠I/\d≠ib/\d≠wb)(i:∀ b,In v b->b≠d)(s:∀ b,In gv b->b≠d)(f:es.length<200000)(u:ins.length=n)(M:∀ e∈es,e.f<n/\e.t<n)(w:∀ x<n,ins.getD x 0<m){iX A:pH}{Q:pL}(W:∀ H,Inv a.length D H->Ok (A H) Q):∀(k c t:Nat) (dn:List Bool) (H:Hp),m-c<k->c<=m->dn.length=m->RS D H n gv es v cs ins L I ib wb->H.get d=aB 0 (bools dn)->d<H.nx->Inv t D H->t<=a.length->a.drop t=kG es ins m (m-c) dn -> Ok (qrf G iX A (.yield y) (.ptr L 0) (.ptr I 0) (.ptr ib 0) (.sl d 0 m m true) (.int .i64 (.ofNat m)) k (.int .i64 (.ofNat c)) H) Q
 |0,c,t,dn,H,h,_,_,_,_,_,_,_,_=>om
 |k+1,c,t,dn,H,h,hc,hdl,hR,hdb,rA,hI,ht,ho=>by
  show Ok (zek G _ _ _ _ _ _ _ _ (qrf G _ _ _ _ _ _ _ _ k) _ H) Q;unfold zek;by_cases F:c<m
  ·simp only[go_sem,F];unfold zeh;have e1:=hR.l;have P:=hR.gl.bM;rw[<-K]at P;have e3:=hR.g;have e4:=hR.e.len;have X:=qc9 [.bool false] 1 H.nx m om om;rw[qdj,qzp]at X;obtain⟨l1,l2,l3,l4⟩:=hR.lt;have Y:Fm No H (aI H (aB 0 (bools (List.replicate m false)))):=(Fm.refl _ _).push _;have R:(aI H (aB 0 (bools (List.replicate m false)))).get I=aB 0 [.int .i64 (.ofNat n),gv]:=(Y.keep l2).trans e3;simp only[go_sem,e1,P,X,R,e4];unfold zel;rw[dD];refine qxa hR f u M w hdl hdb rA (tb:=H.nx) (lu _) (fin:=waits es ins dn (List.replicate m false)) (fun N g1 g2 g3=>?_) bZ 0 (List.replicate m false) _ lf (gp _) g3 (jG _ _) Y (ig _) rfl;unfold q06;have z:Fm No H N:=g2;have g:=hR.no z;have e5:=g.l;simp only[go_sem,e5,P];unfold zem;rw[dD];have C:Inv t D N:=J.ext t D D _ _ hI (z.mono fun _ _ h=>h.elim) fun b h=>Or.inl h;have S:m-c=(m-(c+1))+1:=om;rw[S,kG]at ho;refine qxw J K l hdl (by rw[qw8];simp) o q r.1 g i ((z.keep rA).trans hdb) (ku rA z.nx) g1 C (fun B=>?_) (fun p H3 B O k1 k2 k3=>?_) (fun p B=>?_) bZ 0 lf (gp _) fun j hj=>absurd hj (lAD _)
   ·unfold wE;refine aT ?_;rw[B]at ho;exact qkw J K l o q r i s f u M w W k (c+1) t dn N om om hdl g ((z.keep rA).trans hdb) (ku rA z.nx) C ht ho
   ·unfold wE;refine aT ?_;rw[B]at ho;have E:t<a.length:=(qp.1 O).1;have T:a.drop (t+1)=kG es ins m (m-(c+1)) (dn.set p true):=by
     rw[uq E]at ho;simp_all
    refine qkw J K l o q r i s f u M w W k (c+1) (t+1) (dn.set p true) H3 om om (by rw[vw];exact hdl) (g.keep k3 ?_) k1 (ku rA (rq z.nx k3.nx)) k2 E T;rintro b Z (h|h)
    ·exact h (g.rb Z)
    ·subst h;rcases Z with e|e|e|e|e|e
     ·omega
     ·omega
     ·omega
     ·omega
     ·exact i _ e rfl
     ·exact s _ e rfl
   ·rw[B]at ho;have U:(a.drop t)[0]? =some p:=by rw[ho];rfl
    rwa [zg,zt]at U
  ·simp only[go_sem,F];have:c=m:=om;subst this;rw[og]at ho;have U:a.drop t=[]:=ho;have:a.length<=t:=List.drop_eq_nil_iff.1 U;have:t=a.length:=om;simp_all
theorem zjn{k:Nat}(E:1<=k){y w:Nat}{c:List Nat}{Inv:Nat->(Nat->Prop)->Hp->Prop}{es:List Edge}{v:AV}{g i ib wb:Nat}{D:Nat->Prop}(z:YI (C (k-1)) y w cs c Inv)(l:cs.length<900000)(d:RS D H n gv es v cs ins g i ib wb)(m:w<=H.nx)(f:es.length<200000)(o:ins.length=n)(F:∀ e∈es,e.f<n/\e.t<n)(p:∀ x<n,ins.getD x 0<cs.length)(K:c=kG es ins cs.length cs.length (List.replicate cs.length false))(G:Inv 0 D H):Ok (C k (.f 249) [.yield y,.ptr g 0,.ptr i 0,.ptr ib 0] H) fun r H'=>r=.bA []/\∃ I,Inv c.length I H':=by
 obtain⟨j,rfl⟩:=aP E;rw[lk (zpt ..)];unfold zCw z0i;have A:=d.l;have J:=d.gl.bM;obtain⟨l1,L,l3,l4⟩:=d.lt;have B:=qc9 [.bool false] 1 H.nx cs.length om om;rw[qdj,qzp]at B;have s:Fm No H (aI H (aB 0 (bools (List.replicate cs.length false)))):=(Fm.refl _ _).push _;have t:(aI H (aB 0 (bools (List.replicate cs.length false)))).get g=aB 0 [v]:=(s.keep l1).trans A;simp only[go_sem,A,J,B,t];unfold zwc;rw[dD];have a:=d.no s;have u:RS (fun b=>D b\/b=H.nx) (aI H (aB 0 (bools (List.replicate cs.length false)))) n gv es v cs ins g i ib wb:=
  ⟨a.l,a.g,a.i,a.w,a.gl,a.e,a.lt,Or.inl a.dl,Or.inl a.dg,Or.inl a.di,Or.inl a.dw,fun b h=>Or.inl (a.dv b h),fun b h=>Or.inl (a.de b h)⟩
 refine qkw (D:=fun b=>D b\/b=H.nx) z rfl l (Or.inr rfl) m ⟨om,om,om,om⟩ (fun b q e=>by have:=d.gl.lt q;omega) (fun b q e=>by have:=d.e.lt q;omega) f o F p (fun H' h=>Ok.ret ⟨rfl,_,h⟩) bZ 0 0 (List.replicate cs.length false) _ lf (gp _) g3 u (jG _ _) (ig _) (z.ext 0 D _ _ _ G (s.mono fun _ _ h=>h.elim) fun b h=>h.imp id fun e=>⟨om,by rw[np];omega⟩) (gp _) ?_;trivial
def aYG(HB H:Hp)(iv:AV)(nb n l ob:Nat)(ins:List Nat)(D:Nat->Prop):Prop:=
 (n=0/\iv=.aA)\/(iv=.sl nb 0 n n true/\H.get nb=aB 0 (aJ ins)/\HB.nx<=nb/\nb<l/\¬ D nb/\nb≠ob)
structure OI(LO:LP)(HB:Hp)(L:TT AV 2)(l ob nb x2 n:Nat)(iv:AV)(cs:List AV)(out:List (List Nat))(ord:List Nat)(t:Nat)(D:Nat->Prop)(H:Hp):Prop where
 fm:Fm No HB H
 dlt:∀ b,D b->b<H.nx
 lp:H.get l=LO.blk true L
 hl:HB.nx<=l/\l<H.nx/\¬ D l
 ho:HB.nx<=ob/\ob<l/\¬ D ob
 rc:H.get x2=aB 0 [.aA,.aA]/\x2<l/\¬ D x2/\x2≠ob/\x2≠nb
 ins:∃ gU:List Nat,gU.length=n/\aYG HB H iv nb n l ob gU D/\∀(j i:Nat) (o:List Nat) (x:Nat),j<t->ord[j]? =some i->out[i]? =some o->x∈o->gU[x]? =some j
 lv:∃(lv:AV) (os:List AV),H.get ob=aB 0 [lv,iv]/\Gl 1 H lv t os/\(∀b,In lv b->l<b/\¬ D b)/\∀(j:Nat) (w:AV),os[j]? =some w->∃ i o,ord[j]? =some i/\out[i]? =some o/\Gl 1 H w o.length (aJ o)/\dU w=.val (.int .i64 (.ofNat o.length))/\∀ b,In w b->HB.nx<=b/\¬ D b/\b<l/\b≠ob/\b≠nb/\b≠x2
 cs:∀(i:Nat) (c:AV) (o:List Nat),cs[i]? =some c->out[i]? =some o->Gl 1 H c o.length (aJ o)/\∀ b,In c b->HB.nx<=b/\¬ D b/\b<l/\b≠ob/\b≠nb/\b≠x2
theorem OI.ext{HB:Hp}{L:TT AV 2}{l ob nb x2 n:Nat}{iv:AV}{p:List (List Nat)}{q:List Nat}{t:Nat}{D s:Nat->Prop}(h:OI LO HB L l ob nb x2 n iv cs p q t D H)(f:Fm (fun b=>D b/\HB.nx<=b) H H')(A:∀ b,s b->D b\/(H.nx<=b/\b<H'.nx)):OI LO HB L l ob nb x2 n iv cs p q t s H':=by
 obtain⟨l1,x,l3⟩:=h.hl;obtain⟨K,M,B⟩:=h.ho;obtain⟨y,N,C,O⟩:=h.rc;have k:∀ b,b<H.nx->¬ D b->¬ s b:=fun b a u v=>(A b v).elim u fun g=>by have:=g.1;omega
 have m:∀ b,b<H.nx->¬ D b->H'.get b=H.get b:=fun b a u=>f.get b a fun g=>u g.1;obtain⟨P,Q,R,S⟩:=h.ins;obtain⟨lv,T,U,E,z,V⟩:=h.lv;refine⟨h.fm.then f fun c F g=>absurd F (by have:=g.2;omega),fun b a=>(A b a).elim (fun g=>ku (h.dlt b g) f.nx) fun g=>g.2,(m l x l3).trans h.lp,⟨l1,ku x f.nx,k l x l3⟩,⟨K,M,k ob om B⟩,⟨(m x2 om C).trans y,N,k x2 om C,O⟩,⟨P,Q,?_,S⟩,⟨lv,T,(m ob om B).trans U,E.keep f.nx fun b a d=>m b d (z b a).2,fun b a=>⟨(z b a).1,k b (E.lt a) (z b a).2⟩,fun j w G=>?_⟩,fun i c o I J=>?_⟩
 ·rcases R with g|⟨g1,g2,g3,g4,g5,g6⟩
  ·exact Or.inl g
  ·exact Or.inr ⟨g1,(m nb om g5).trans g2,g3,g4,k nb om g5,g6⟩
 ·obtain⟨i,o,W,X,r,Y,e⟩:=V j w G;exact⟨i,o,W,X,r.keep f.nx fun b a d=>m b d (e b a).2.1,Y,fun b a=>⟨(e b a).1,k b (r.lt a) (e b a).2.1,(e b a).2.2⟩⟩
 ·obtain⟨r,e⟩:=h.cs i c o I J;exact⟨r.keep f.nx fun b a d=>m b d (e b a).2.1,fun b a=>⟨(e b a).1,k b (r.lt a) (e b a).2.1,(e b a).2.2⟩⟩
theorem qym{O:Ev.Call}{c lv:AV}{o:List Nat}{ob nb n t:Nat}{H1:Hp}(i:Gl 1 H1 c o.length (aJ o))(d:∀ b,In c b->b≠nb)(l:o.length<900000)(p:∀ x∈o,x<n)(r:H1.get ob=aB 0 [lv,.sl nb 0 n n true])(e:ob≠nb)(f:ob<H1.nx)(g:aD lv=.val (.int .i64 (.ofNat t))){q:pH}{Q:pL}{fin:List Nat}(s:∀ H,H.get nb=aB 0 (aJ fin)->Fm (fun b=>b=nb) H1 H->Ok (q H) Q):∀(k j:Nat) (ins:List Nat) (H:Hp),o.length-j<k->j<=o.length->ins.length=n->H.get nb=aB 0 (aJ ins)->Fm (fun b=>b=nb) H1 H->fill ins (o.drop j) t=fin -> Ok (qkf O q (.ptr ob 0) c (.int .i64 (.ofNat o.length)) k (.int .i64 (.ofNat j)) H) Q
 |0,j,ins,H,h,_,_,_,_,_=>om
 |k+1,j,ins,H,h,hj,hl,hg,hF,hf=>by
  show Ok (q1w O _ _ _ _ (qkf O _ _ _ _ k) _ H) Q;unfold q1w;by_cases a:j<o.length
  ·obtain⟨b,C,u,A,v⟩:=i.rl.at' j (by rw[mP];exact a);rw[qiq]at v;have w:H.get b=H1.get b:=hF.get b A (d b (i.aAO a u));have y:H.get ob=aB 0 [lv,.sl nb 0 n n true]:=(hF.get ob f e).trans r;have B:o[j]<n:=p _ (lg _);have m:o[j]+1<=ins.length:=om;simp only[go_sem,a];unfold q1s;simp(disch:=omega)only[go_sem,seval,u,w,v,y,g,hg,qm,qg,pq,uo,mP,m,mg];unfold q1u;refine aT ?_;have z:o.drop j=o[j]::o.drop (j+1):=uq a;rw[qjy _ _ _ om];refine qym i d l p r e f g s k (j+1) (ins.set o[j] t) _ om om (by rw[vw];exact hl) (dN _ _ _) (hF.put _ _ fun _=>rfl) ?_;rw[z]at hf;exact hf
  ·simp only[go_sem,a];have:j=o.length:=om;subst this;rw[lA8]at hf;subst hf;exact s H hg hF
theorem z4y(hR:oL LA LO C){k:Nat}(hk:2<=k){HB:Hp}{L:TT AV 2}{l ob nb x2 n:Nat}(hG:G L 5=.ptr ob 0){iv:AV}{f:List (List Nat)}{v:List Nat}{t i:Nat}{c:AV}{D:Nat->Prop}(q:OI LO HB L l ob nb x2 n iv cs f v t D H)(ht:v[t]? =some i)(Y:cs[i]? =some c)(hlen:cs.length=f.length)(hn:n<=256)(ht2:t<900)(z:∀ o∈f,o≠[]/\o.length<=256/\∀ x∈o,x<n)(Z:∀(s:Nat) (u o:List Nat) (x:Nat),f[s]? =some u->f[i]? =some o->x∈o->x∈u->s=i)(M:∀ j,j<t->v[j]? ≠ some i):Ok (C k (.y l) [c] H) fun r H'=>r=.bool true/\OI LO HB L l ob nb x2 n iv cs f v (t+1) D H'/\Fm (fun b=>¬ D b) H H':=by
 obtain⟨k,rfl⟩:∃ j,k=j+1:=⟨k-1,om⟩;rw[(hR k).wS L l c H q.lp,hG];unfold wS;obtain⟨l1,l2,l3⟩:=q.hl;obtain⟨o1,o2,o3⟩:=q.ho;have hic:i<cs.length:=(qp.1 Y).1;obtain⟨o,P⟩:∃ o,f[i]? =some o:=⟨f[i]'om,g3⟩;obtain⟨g1,g2⟩:=q.cs i c o Y P;obtain⟨q1,q2,q3⟩:=z o (uz P);obtain⟨x1',x3,x4,x5⟩:=q.rc;obtain⟨K,i1,i2,i3⟩:=q.ins;obtain⟨lv,Q,v1,W,v3,v4⟩:=q.lv;have hn0:¬ n=0:=fun e=>by
  cases o with
  |nil=>exact q1 rfl
  |cons x o=>have:=q3 x ug;omega
 rcases i2 with⟨e,_⟩|⟨rfl,b1,b2,b3,b4,b5⟩
 ·exact absurd e hn0
 have hl':=g1.bM;simp only[go_sem,seval,hl'];unfold q1x;rw[dD];generalize F:H.put l (LO.blk false L)=H1;have n1:H1.nx=H.nx:=by rw[<-F];rfl
 have U:Fm (fun b=>b=l) H H1:=by rw[<-F];exact(Fm.refl _ _).put _ _ fun _=>rfl
 have gl1:H1.get l=LO.blk false L:=by rw[<-F,dN]
 have N:H1.get ob=aB 0 [lv,.sl nb 0 n n true]:=(U.get ob om om).trans v1;have gn1:H1.get nb=aB 0 (aJ K):=(U.get nb om om).trans b1;refine qym (H1:=H1) (g1.fm U fun b a=>by have:=(g2 b a).2.2.1;omega) (fun b a=>(g2 b a).2.2.2.2.1) om q3 N (Ne.symm b5) om W.bM (fin:=fill K o t) (fun d k1 k2=>?_) bZ 0 K H1 lf (gp _) i1 gn1 (Fm.refl _ _) rfl;unfold qia;have n2:=k2.nx;have f2:Fm (fun b=>b=l\/b=nb) H d:=(U.mono fun _ _ h=>Or.inl h).trans (k2.mono fun _ _ h=>Or.inr h);have O:d.get ob=aB 0 [lv,.sl nb 0 n n true]:=(k2.get ob om om).trans N;have gl2:d.get l=LO.blk false L:=(k2.get l om om).trans gl1;have gc2:Gl 1 d c o.length (aJ o):=g1.fm f2 fun b a=>by have:=(g2 b a).2.2;omega
 obtain⟨w,w1,w2,w3,w4⟩:=qwb (k:=k) om (H:=⟨d.t,d.nx+8⟩) (gc2.no ((Fm.refl _ _).up 8));have aZH:nC 64 lv lv=true:=wV W.flat 63;have hol:0<o.length:=aj.2 q1;rcases w2.is with⟨_,h0⟩|⟨wb,wo,we,wq,wL,rfl,_⟩
 ·omega
 simp only[go_sem,seval,O,w1,aZH];have J:Fm No d (Hp.put ⟨d.t,d.nx+8⟩ (d.nx+4) (aB 0 [.sl wb wo o.length o.length we])):=by(repeat(first|exact Fm.refl _ _|assumption|refine Fm.push ?_ _|refine Fm.up2 ?_ (by go_size)|refine Fm.aG ?_ _ _ (by go_size)))
 have v22:Gl 1 d lv t Q:=W.fm f2 fun b a=>by have:=(v3 b a).1;omega
 obtain⟨A,e,gl',_,R,nx'⟩:=(v22.no J).append (k:=1) (w:=24) (x:=[.sl wb wo o.length o.length we]) om rfl om om;refine Ok.uU e ?_;have nx3:A.nx=d.nx+8+1:=nx';have p:∀ b,In lv b->l<b:=fun b a=>(v3 b a).1;have go3:A.get ob=aB 0 [lv,.sl nb 0 n n true]:=(R.get ob om fun a=>by have:=p _ a;omega).trans ((J.keep om).trans O);have gl3:A.get l=LO.blk false L:=(R.get l om fun a=>by have:=p _ a;omega).trans ((J.keep om).trans gl2);simp only[go_sem,seval,go3,pq,uo];have es:aZ [lv,.sl nb 0 n n true] 0 [.sl (d.nx+8) 0 (t+1) (t+1) false]=[.sl (d.nx+8) 0 (t+1) (t+1) false,.sl nb 0 n n true]:=rfl;rw[es];have gl4:(A.put ob (aB 0 [.sl (d.nx+8) 0 (t+1) (t+1) false,.sl nb 0 n n true])).get l=LO.blk false L:=by rw[dO _ _ _ _ om];exact gl3
 rw[zlx gl4];have f3:Fm (fun b=>b=l\/b=nb\/In lv b) H A:=(((f2.mono fun _ _ h=>h.imp id Or.inl).trans (J.mono fun _ _ h=>h.elim)).trans (R.mono fun _ _ h=>Or.inr (Or.inr h)));have V:Fm (fun b=>b=l\/b=nb\/b=ob\/In lv b) H ((A.put ob (aB 0 [.sl (d.nx+8) 0 (t+1) (t+1) false,.sl nb 0 n n true])).put l (LO.blk true L)):=
  ((f3.mono (T:=fun b=>b=l\/b=nb\/b=ob\/In lv b) fun _ _ h=>h.imp id (Or.imp id Or.inr)).put ob _ fun _=>Or.inr (Or.inr (Or.inl rfl))).put l _ fun _=>Or.inl rfl
 have n4:((A.put ob (aB 0 [.sl (d.nx+8) 0 (t+1) (t+1) false,.sl nb 0 n n true])).put l (LO.blk true L)).nx=d.nx+9:=nx3;have old:∀{x:AV} {m:Nat} {y:List AV},Gl 1 H x m y->(∀b,In x b->b<l/\b≠ob/\b≠nb/\b≠x2)->Gl 1 ((A.put ob (aB 0 [.sl (d.nx+8) 0 (t+1) (t+1) false,.sl nb 0 n n true])).put l (LO.blk true L)) x m y:=fun{x m y} hx a=>hx.fm V fun b hb'=>by
  have:=a b hb';rintro (h|h|h|h)
  ·omega
  ·omega
  ·omega
  ·have:=p _ h;omega
 refine Ok.ret ⟨rfl,⟨q.fm.then V fun c Y h=>?_,fun b a=>ku (q.dlt b a) om,dN _ _ _,⟨l1,om,l3⟩,⟨o1,o2,o3⟩,⟨?_,x3,x4,x5⟩,⟨fill K o t,by rw[qfy];exact i1,Or.inr ⟨rfl,?_,b2,b3,b4,b5⟩,fun j s u x B I E S=>?_⟩,⟨.sl (d.nx+8) 0 (t+1) (t+1) false,Q++[.sl wb wo o.length o.length we],?_,?_,?_,fun j w B=>?_⟩,fun s c' u I E=>?_⟩,V.mono fun b _ h=>?_⟩
 ·rcases h with h|h|h|h
  ·omega
  ·omega
  ·omega
  ·have:=p _ h;omega
 ·rw[V.get x2 om ?_]
  ·exact x1'
  ·rintro (h|h|h|h)
   ·omega
   ·omega
   ·omega
   ·have:=p _ h;omega
 ·rw[dO _ _ _ _ om,dO _ _ _ _ b5,R.get nb om fun a=>by have:=p _ a;omega];exact(J.keep om).trans k1
 ·have hx:x<K.length:=by
   rw[i1];exact(z u (uz E)).2.2 x S
  rw[qnq t o K x hx];rcases cu j t with g|g
  ·have h4:=i3 j s u x g I E S;rw[pg fun hxo=>?_,h4];have:s=i:=Z s u o x E P hxo S;subst this;exact M j g I
  ·have:j=t:=om;subst this;rw[ht]at I;cases I;rw[P]at E;cases E;rw[qj S]
 ·rw[dO _ _ _ _ om,dN]
 ·refine gl'.keep (lu _) fun b a _=>?_;obtain⟨_,_,_,_,h⟩:=a;cases h;rw[dO _ _ _ _ om,dO _ _ _ _ om]
 ·rintro b ⟨_,_,_,_,h⟩;have a:b=d.nx+8:=by cases h;rfl
  subst a;exact⟨om,fun h=>by have:=q.dlt _ h;omega⟩
 ·rcases cu j Q.length with g|g
  ·rw[uj g]at B;obtain⟨s,u,a1,X,a3,a4,a5⟩:=v4 j w B;exact⟨s,u,a1,X,old a3 fun b a=>(a5 b a).2.2,a4,a5⟩
  ·rw[uh g]at B;have h0:j-Q.length=0:=by
    have:=(qp.1 B).1;simpa using this
   rw[h0]at B;cases B;have hos:Q.length=t:=by have:=W.len;omega
   have hjt:j=t:=om;subst hjt;refine⟨i,o,ht,P,?_,w3,fun b a=>g2 b (w4 b a)⟩;refine w2.keep (by show d.nx+8<=_;omega) fun b a _=>?_;obtain⟨_,_,b6,b7,b8⟩:=g2 b (w4 b a);rw[dO _ _ _ _ om,dO _ _ _ _ b7,R.get b om fun a=>by have:=p _ a;omega];exact J.keep om
 ·obtain⟨a1,X⟩:=q.cs s c' u I E;exact⟨old a1 fun b a=>(X b a).2.2,X⟩
 ·rcases h with rfl|rfl|rfl|h
  ·exact l3
  ·exact b4
  ·exact o3
  ·exact(v3 b h).2
theorem lV.eqG{v:AV}{es:List Edge}(h:lV H v es)(n:Int):Ev.nC 64 (.agg [.int .i64 n,v]) (.agg [.int .i64 n,v])=true:=
 qgx [.int .i64 n,v] (by unfold Tr;rw[lA6,lA6,h.flat];rfl)
theorem znh{k:Nat}(a:1<=k){v:AV}(h:Gl 1 H v n l):∃w,C k (.f 224) [v] H=.ok w H/\Gl 1 H w n l/\dU w=.val (.int .i64 (.ofNat n))/\(∀b,In w b->In v b):=by obtain⟨j,rfl⟩:=aP a;obtain⟨w,e,c,d,f⟩:=h.clip;refine⟨w,?_,c,d,f⟩;rw[lk (zp5 ..)];unfold zCg qn4;simp only[go_sem,h.bM,e]
theorem qng{es:List Edge}{ins:List Nat}{m:Nat}:∀(k:Nat) (dn:List Bool) (i:Nat),i∈kG es ins m k dn->i<m/\dn.getD i true=false
 |0,_,_,h=>by cases h
 |k+1,dn,i,h=>by
  rw[kG]at h;cases b:qjr dn (waits es ins dn (List.replicate m false)) m with
  |none=>rw[b]at h;exact qng k dn i h
  |some p=>
   rw[b]at h;obtain⟨p1,d,_⟩:=qe6 b;rcases su.1 h with rfl|h
   ·refine⟨p1,?_⟩;unfold okP at d;simp_all
   ·obtain⟨f,a⟩:=qng k _ i h;refine⟨f,?_⟩;rw[gy,lE4]at a;by_cases e:p=i
    ·subst e;by_cases c:p<dn.length
     ·simp[c]at a
     ·simp[c]at a
    ·simp_all
theorem qkx{es:List Edge}{ins:List Nat}{m:Nat}:∀(k:Nat) (dn:List Bool),dn.length=m->(kG es ins m k dn).Nodup
 |0,_,_=>List.nodup_nil
 |k+1,dn,hd=>by
  rw[kG];cases a:qjr dn (waits es ins dn (List.replicate m false)) m with
  |none=>exact qkx k dn hd
  |some p=>obtain⟨p1,b,_⟩:=qe6 a;refine lAC.2 ⟨fun h=>?_,qkx k _ (by rw[vw];exact hd)⟩;have:=(qng k _ p h).2;simp_all
structure CR(HB H:Hp)(n:Nat)(lv iv:AV)(os:List AV)(res:List (List Nat))(ins:List Nat):Prop where
 gl:Gl 1 H lv os.length os
 cap:dU lv=.val (.int .i64 (.ofNat os.length))
 len:os.length=res.length
 at':∀(j:Nat) (w:AV) (o:List Nat),os[j]? =some w->res[j]? =some o->Gl 1 H w o.length (aJ o)/\dU w=.val (.int .i64 (.ofNat o.length))/\∀ b,In w b->HB.nx<=b
 gi:Gl 1 H iv n (aJ ins)
 aZL:dU iv=.val (.int .i64 (.ofNat n))
 ins:∀(j:Nat) (o:List Nat) (x:Nat),res[j]? =some o->x∈o->ins[x]? =some j
 new:∀ b,In lv b\/In iv b->HB.nx<=b
structure qlk(n:Nat)(es:List Edge)(out:List (List Nat))(ins:List Nat)(res:List (List Nat)):Prop where
 parts:qdt n (j6 es) out
 il:ins.length=n
 ix:∀(i:Nat) (o:List Nat) (x:Nat),out[i]? =some o->x∈o->ins[x]? =some i
 res:res=(kG es ins out.length out.length (List.replicate out.length false)).map fun i=>out.getD i []
theorem qdt.perm{b a:List (List Nat)}(h:qdt n aV b)(p:a.Perm b):qdt n aV a:=
 ⟨fun c d=>h.scc c (p.mem_iff.1 d),p.flatten.nodup_iff.2 h.nd,fun x=>p.flatten.mem_iff.trans (h.all x)⟩
theorem q8i:∀(c:List (List Nat)) (i j:Nat) (a b:List Nat) (x:Nat),c.flatten.Nodup->c[i]? =some a->c[j]? =some b->x∈a->x∈b->i=j
 | [],_,_,_,_,_,_,h,_,_,_=>by simp at h
 |o::r,0,0,_,_,_,_,_,_,_,_=>rfl
 |o::r,0,j+1,a,b,x,hn,h1,h2,h3,h4=>by rw[dE,yw]at hn;simp at h1;subst h1;exact absurd rfl (hn.2.2 x h3 x (oq.2 ⟨b,uz (by simpa using h2),h4⟩))
 |o::r,i+1,0,a,b,x,hn,h1,h2,h3,h4=>by rw[dE,yw]at hn;simp at h2;subst h2;exact absurd rfl (hn.2.2 x h4 x (oq.2 ⟨a,uz (by simpa using h1),h3⟩))
 |o::r,i+1,j+1,a,b,x,hn,h1,h2,h3,h4=>by rw[dE,yw]at hn;rw[q8i r i j a b x hn.2.1 (by simpa using h1) (by simpa using h2) h3 h4]
theorem qdt.sizes{a:List (List Nat)}(h:qdt n aV a)(l:n<=256):a.length<=256/\∀ o∈a,o≠[]/\o.length<=256/\∀ x∈o,x<n:=by
 have k:a.flatten.length<=n:=by have:=h.nd.length_le_of_subset (l₂:=List.range n) fun x f=>xg.2 ((h.all x).1 f);simp_all
 have d:∀ o∈a,o≠[]:=fun o b e=>by obtain⟨_,r,i,_⟩:=h.scc o b;rw[e]at i;cases i
 have g:∀(o:List (List Nat)),(∀c∈o,c≠[])->o.length<=o.flatten.length:=fun o=>by
  induction o with
  |nil=>intro _;exact lu _
  |cons c o ih=>intro h;have m:=ih fun c j=>h c (uk _ j);have p:0<c.length:=aj.2 (h c ug);rw[dE,lL,pq];omega
 have:=g a d;refine⟨om,fun o b=>⟨d o b,?_,fun x f=>(h.all x).1 (oq.2 ⟨o,b,f⟩)⟩⟩;have:o.length<=a.flatten.length:=(List.sublist_flatten_of_mem b).length_le;omega
end Go.Di
end
