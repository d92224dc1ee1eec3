/-
 For ReachesGoals: functions in direct style, their contracts, and the plain mathematics, part 9 of 11. No conditions beyond those that each theorem states.
-/
import Derived.Test.YtnojgpkbpnimhaaGreatConA
import Derived.Test.YtnojgpkbpnimhaaGreatConH
import Derived.Test.YtnojgpkbpnimhaaGreatConD
set_option linter.unusedSimpArgs false
set_option linter.unusedVariables false
open Nat renaming reduceAdd->rB,reduceMul->rI,reduceSub->rK,reduceLeDiff->rL,reduceEqDiff->rN,reduceShiftRight->rS,reduceAnd->r6
noncomputable section
namespace Go.Di
open Go.Ev Go.Di.T Go.Sort
variable {LA LO:LP}
variable {H:Hp} {X:List aQ} {sv:AV}
structure LoX(X:List aQ):Prop where
 nm:∀ p∈aF X,p.1∈gX/\p.2∈gX
 ty:∀ a b g,lF X a b=some g->∀ t∈g.r.types,t.sp∈gX/\t.rl∈gX
def tu0:Tu:=⟨sE,sE,sE,sE,sE,sE,fun _=>rfl⟩
theorem zid:tu0.lo:=by constructor<;>exact ug
theorem qp3(c:bY H sv X){a b:SS}{g:bB}(h:lF X a b=some g):oJ H g:=by
 unfold lF at h;split at h
 ·cases h
 ·rename_i s d;exact(c.sp s (xf d)).rel g (xf h)
theorem qzc(c:sD X){a b:SS}{g:bB}(h:lF X a b=some g):g.r.types.length<=100:=by
 unfold lF at h;split at h
 ·cases h
 ·rename_i s d;exact c.t s (xf d) g (xf h)
theorem zrt{k:Nat}(J:4<=k)(x:bY H sv X)(n:sD X)(D:LoX X)(p:Nat)(q r s:Nat)(K:p<256/\q<256/\r<256/\s<256):Ok (C k (.f 17) [.agg [sv],.agg [uN p,uN q,uN r,uN s]] H) fun r H'=>Fm No H H'/\TuR X r:=by
 obtain⟨j,rfl⟩:=aP J;obtain⟨W,Y,R,Z⟩:=K;rw[lk (zo5 ..)];unfold zEc zzz;simp(disch:=first|omega|exact ti rfl|simp only[np,nq];first|done|omega)only[go_sem,rB,rI,rK,rL,rN,rS,r6];refine Ok.ve (qz7 (k:=j) om (x.fm fm) n) ?_;intro a H1 l;have y:=n.all X.length;rw[um]at y;have z:=l.bM;have L:=l.fm.nx;simp only[np]at L;have g0:H1.get H.nx=aB 0 [sv]:=(l.fm.keep gx).trans (by simp(disch:=first|omega|exact ti rfl|simp only[np,nq];first|done|omega)only[go_sem,rB,rI,rK,rL,rN,rS,r6]);have g1:H1.get (H.nx+1)=aB 0 [uN p,uN q,uN r,uN s]:=(l.fm.keep gx).trans (by simp(disch:=first|omega|exact ti rfl|simp only[np,nq];first|done|omega)only[go_sem,rB,rI,rK,rL,rN,rS,r6]);have g2:H1.get (H.nx+1+1)=aB 0 tu0.cells:=(l.fm.keep gx).trans (by simp(disch:=first|omega|exact ti rfl|simp only[np,nq];first|done|omega)only[go_sem,rB,rI,rK,rL,rN,rS,r6];rfl);have A:Fm No H H1:=Fm.trans fm l.fm;unfold tu0 Tu.cells SS.v sE at g2;by_cases I:(aF X).length=0
 ·simp(disch:=first|omega|exact ti rfl|simp only[np,nq];first|done|omega)only[go_sem,rB,rI,rK,rL,rN,rS,r6,z,I,g2];refine Ok.ret ⟨?_,tu0,false,rfl,zid,fun h=>by cases h⟩;exact A.aG _ _ om
 ·simp(disch:=first|omega|exact ti rfl|simp only[np,nq];first|done|omega)only[go_sem,rB,rI,rK,rL,rN,rS,r6,z,I];rw[kE qha];unfold qha;have E:p%(aF X).length<(aF X).length:=xq _ om;obtain⟨b,o,S,e2,B⟩:=(l.rs (f:=pC) fun _=>rfl).oZ E;have M:gQ 4 1 (.ptr (H.nx+1) 0) (iN 0)=.val (.ptr (H.nx+1) 0):=id rfl;have t:(aF X)[p%(aF X).length]∈aF X:=lg E;generalize (aF X)[p%(aF X).length]=pr at B t;unfold pC SS.v at B;simp(disch:=first|omega|exact ti rfl|simp only[np,nq];first|done|omega)only[go_sem,rB,rI,rK,rL,rN,rS,r6,M,g1,z,S,B,g0];refine Ok.ve (qll (k:=j) (by omega) (X:=X) ((x.fm A).fm (by(repeat(first|exact Fm.refl _ _|assumption|refine Fm.push ?_ _|refine Fm.up2 ?_ (by first|omega|simp only[np,nq];omega)|refine Fm.aG ?_ _ _ (by first|omega|simp only[np,nq];omega))))) (by have:=n.n;omega) (fun g d=>by have:=n.r g d;omega) pr.1 pr.2) ?_;rintro fr i ⟨u,v⟩;have N:=u.nx;simp only[np,nq]at N;have k0:i.get H1.nx=aB 0 [.str pr.1.n pr.1.a,.str pr.2.n pr.2.a]:=(u.keep gx).trans (by simp(disch:=first|omega|exact ti rfl|simp only[np,nq];first|done|omega)only[go_sem,rB,rI,rK,rL,rN,rS,r6]);have O:i.get (H.nx+1)=aB 0 [uN p,uN q,uN r,uN s]:=(u.keep gx).trans (by simp(disch:=first|omega|exact ti rfl|simp only[np,nq];first|done|omega)only[go_sem,rB,rI,rK,rL,rN,rS,r6,g1]);have k2:i.get (H.nx+1+1)=aB 0 [zS,zS,zS,zS,zS,zS]:=(u.keep gx).trans (by simp(disch:=first|omega|exact ti rfl|simp only[np,nq];first|done|omega)only[go_sem,rB,rI,rK,rL,rN,rS,r6,g2]);have w:Fm No H i:=Fm.trans (Fm.trans A (by(repeat(first|exact Fm.refl _ _|assumption|refine Fm.push ?_ _|refine Fm.up2 ?_ (by first|omega|simp only[np,nq];omega)|refine Fm.aG ?_ _ _ (by first|omega|simp only[np,nq];omega))))) u;unfold qz3 at v;cases d:lF X pr.1 pr.2 with
  |none=>rw[d]at v;subst v;unfold qqz;simp(disch:=first|omega|exact ti rfl|simp only[np,nq];first|done|omega)only[go_sem,rB,rI,rK,rL,rN,rS,r6,k2];refine Ok.ret ⟨?_,tu0,false,rfl,zid,fun h=>by cases h⟩;exact Fm.aG (Fm.aG (w.push _) _ _ om) _ _ om
  |some g=>
   rw[d]at v;subst v;have P:=(qp3 x d).fm w;have Q:=qzc n d;have F:=P.ty;have G:=F.len;unfold gP SS.v;by_cases m:g.r.types.length=0
   ·simp(disch:=first|omega|exact ti rfl|simp only[np,nq];first|done|omega)only[go_sem,rB,rI,rK,rL,rN,rS,r6,G,m,k2];refine Ok.ret ⟨?_,tu0,false,rfl,zid,fun h=>by cases h⟩;exact Fm.aG (Fm.aG (w.push _) _ _ om) _ _ om
   ·simp(disch:=first|omega|exact ti rfl|simp only[np,nq];first|done|omega)only[go_sem,rB,rI,rK,rL,rN,rS,r6,G,m,k2];have e:pr∈aF X:=t;refine Ok.mono (aMe (j:=j) (by omega) (H:=((aI i _).put i.nx _)) (x8:=i.nx) (pr:=pr) (p:=p) (q:=q) (r:=r) (s:=s) (ts:=g.r.types) (tv:=g.tv) (l1:=.str g.r.name.n g.r.name.a) (l3:=g.cs.getD 0 .undef) (l4:=g.cs.getD 1 .undef) (l5:=g.cs.getD 2 .undef) (l6:=g.cs.getD 3 .undef) ?_ ?_ ?_ ?_ ?_ ?_ ?_ ?_ R ?_ m Q (D.nm _ e) (D.ty _ _ _ d) e d rfl) ?_
    ·simp(disch:=first|omega|exact ti rfl|simp only[np,nq];first|done|omega)only[go_sem,rB,rI,rK,rL,rN,rS,r6,O]
    ·simp(disch:=first|omega|exact ti rfl|simp only[np,nq];first|done|omega)only[go_sem,rB,rI,rK,rL,rN,rS,r6,k2]
    ·simp(disch:=first|omega|exact ti rfl|simp only[np,nq];first|done|omega)only[go_sem,rB,rI,rK,rL,rN,rS,r6,k0]
    ·exact dN _ _ _
    ·simp(disch:=first|omega|exact ti rfl|simp only[np,nq];first|done|omega)only[go_sem,rB,rI,rK,rL,rN,rS,r6]<;>omega
    ·simp(disch:=first|omega|exact ti rfl|simp only[np,nq];first|done|omega)only[go_sem,rB,rI,rK,rL,rN,rS,r6]<;>omega
    ·simp(disch:=first|omega|exact ti rfl|simp only[np,nq];first|done|omega)only[go_sem,rB,rI,rK,rL,rN,rS,r6]<;>omega
    ·simp(disch:=first|omega|exact ti rfl|simp only[np,nq];first|done|omega)only[go_sem,rB,rI,rK,rL,rN,rS,r6]<;>omega
    ·exact F.fm (((Fm.refl No i).push _).aG _ _ om)
    ·rintro r H3 ⟨T,U⟩;refine⟨?_,U⟩;exact Fm.then (Fm.aG (w.push _) _ _ om) T fun c V h=>om
structure Q4 where
 p:Nat
 q:Nat
 r:Nat
 s:Nat
 b:p<256/\q<256/\r<256/\s<256
def Q4.cells(x:Q4):List AV:=[uN x.p,uN x.q,uN x.r,uN x.s]
theorem qvy{j:Nat}(p:4<=j){H0:Hp}{r s:Nat}{J lv sv:AV}{a:List Q4}{X:List aQ}(u:bY H0 sv X)(v:sD X)(x:LoX X)(z:H0.get r=aB 0 [J,lv])(A:H0.get s=aB 0 [sv])(c:r<H0.nx)(d:s<H0.nx)(e:Rs 4 Q4.cells H0 lv a){Q:pL}{q:pD}(f:∀ w m H,Ac 6 Tu.cells H0 H w m->m.length<=20->(∀t∈m,t.lo/\rC X t)->Ok (q w H) Q):∀(k i:Nat) (w:AV) (m:List Tu) (H:Hp),i<=20->20-i<k->m.length<=i->(∀t∈m,t.lo/\rC X t)->Ac 6 Tu.cells H0 H w m -> Ok (qtc (C j) q (.ptr r 0) (.ptr s 0) k w (iN i) H) Q
 |0,i,_,_,_,_,h,_,_,_=>om
 |k+1,i,w,m,H,hi,hk,hm,pm,ha=>by
  show Ok (q02 (C j) _ _ _ (qtc (C j) _ _ _ k) _ _ H) Q;unfold q02;have g1:=(ha.fm.keep c).trans z;have g4:=(ha.fm.keep d).trans A;have B:=e.len;by_cases n:i<a.length
  ·by_cases I:i<20
   ·simp only[go_sem,g1,B,n,I];unfold zdy;obtain⟨b,o,M,N,G⟩:=(e.fm ha.fm).oZ n;simp only[go_sem,seval,g1,g4,M,G];have E:Fm No H ⟨H.t,H.nx+13⟩:=(Fm.refl No H).up 13;refine Ok.iD (zrt (k:=j) p ((u.fm ha.fm).fm E) v x a[i].p a[i].q a[i].r a[i].s a[i].b) ?_;rintro _ H1 ⟨O,t,P,rfl,lo,T⟩;have g:=E.trans O;have K:=(g.keep (ku c ha.fm.nx)).trans g1;have L:=(g.keep (ku d ha.fm.nx)).trans g4;have k3:fD (H1.get b) o 4=some a[i].cells:=by rw[g.keep N];exact G
    refine nI K L k3 yF qkr ?_;have F:Fm No H ((H1.put (H.nx+10) (aB 0 [zS,zS,zS,zS,zS,zS])).put (H.nx+10) (aB 0 t.cells)):=(g.aG _ _ om).aG _ _ om;cases P with
    |true=>
     refine aT ?_;refine Ok.ve ((ha.no (F.push (aB 0 t.cells))).add t 96 rfl om om) ?_;intro R S D;unfold qfh;refine aT ?_;refine qvy p u v x z A c d e f k (i+1) R (m++[t]) S om om g2 ?_ D;intro y l;rw[qi,qf]at l;rcases l with l|rfl
     ·exact pm y l
     ·simp_all
    |false=>unfold qfh;refine aT ?_;exact qvy p u v x z A c d e f k (i+1) w m _ om om om pm (ha.no F)
   ·simp only[go_sem,g1,B,n,I];exact f w m H ha om pm
  ·simp only[go_sem,g1,B,n];exact f w m H ha om pm
theorem z5b{k:Nat}(y:21<=k){v:AV}{L:List (List Nat)}(z:iB H v L):Ok (C k (.f 16) [.agg [v]] H) fun r H'=>∃ sv X,r=.agg [sv]/\mQ H' sv X/\(∀b,In sv b->H.nx<=b)/\(∀g∈X,H.nx<=g.A)/\X.map aQ.sp=aAm L/\Fm No H H':=by
 obtain⟨j,rfl⟩:=aP y;rw[lk (zrk ..)];unfold zAc z11;refine aT ?_;unfold zhw;rw[dD];have u:Fm No H (aI (aI H (aB 0 [v])) (aB 0 [.aA])):=by exact qO
 have s:=z.fm u;refine zkb om (H0:=aI (aI H (aB 0 [v])) (aB 0 [.aA])) (cb:=H.nx) (sb:=H.nx+3) s (fun H1 sv l g e m=>?_) bZ 0 [] ⟨sU,[],.aA,H.nx+4,H.nx+4⟩ (.sl (H.nx+2) 0 1 1 true) _ (gp _) (by have:bS L<=12:=uy _ _;rw[wH];omega) ⟨?_,?_,?_,?_,?_,?_,?_,?_,?_,?_,?_,?_⟩ (.inl ⟨rfl,rfl,rfl⟩)
 ·rw[kE qfk];unfold qfk zhz;rw[dD];have f:=m.raw;refine qow om (H0:=aI (aI H (aB 0 [v])) (aB 0 [.aA])) (sb:=H.nx+3) (sv:=sv) (S:=vM L) ?_ (fun p A=>?_) (fun X o B a=>?_) bZ 1 (l++[g]) H1 ?_ ?_ ?_ ⟨e.m,fun x d=>⟨e.an x d,?_⟩,e.sbk,⟨e.sbl.1,e.sbl.2.2⟩,fun b i=>(e.vX b i).1,e.fm⟩
  ·unfold vM;have:bS L<=12:=uy _ _;simp;omega
  ·have t:=zjr A;refine⟨om,fun r D=>?_⟩;obtain⟨n,_,rfl⟩:=t.2 r D;have:=qo4 L n;omega
  ·rw[kE qgh];unfold qgh;have E:=a.sbk;have F:=a.fm.nx;have G:o.get (H.nx+1)=aB 0 [.aA]:=(a.fm.keep gx).trans (by simp(disch:=go_size)only[go_sem]);have w:Fm (fun b=>b=H.nx+1) o (o.put (H.nx+1) (aB 0 [sv])):=(Fm.refl _ _).put _ _ fun _=>rfl;have I:=a.sbl;simp only[go_sem,seval,E,G];refine Ok.ret ⟨sv,X,rfl,(a.m.dP w (fun b i h=>?_) (fun g q b t _ h=>?_)),fun b i=>?_,fun g q=>?_,B,(u.trans a.fm).then w fun c J h=>?_⟩
   ·have:=a.vX b i;simp only[np]at this;omega
   ·have:=(a.an g q).1;simp only[np]at this;omega
   ·have:=a.vX b i;simp only[np]at this;omega
   ·have:=(a.an g q).1;simp only[np]at this;omega
   ·omega
  ·have:=m.len (uy _ _);rw[<-f];simp
  ·rw[<-f];have:=m.len (uy _ _);rw[wH];simp;omega
  ·trivial
  ·rw[qi,qf]at d;rcases d with d|rfl
   ·exact e.sbd x d
   ·have:=e.sbl;omega
 ·exact⟨gx,by simp(disch:=first|go_size|omega)only[go_sem]⟩
 ·simp only[go_sem]
 ·simp only[np,nq];omega
 ·simp
 ·left;omega
 ·constructor<;>(rintro ⟨_,_,_,_,h⟩;injection h;omega)
 ·rintro b ⟨_,_,_,_,h⟩;cases h;simp only[np];omega
 ·simp
 ·refine⟨⟨rfl,.inr ⟨H.nx+2,0,true,0,_,rfl,?_,gp _,rfl,.inl rfl,?_⟩⟩,bf _ _,fun x d=>?_,fun x d b i=>?_⟩
  ·refine aT ?_;rfl
  ·simp only[np,nq];omega
  ·rw[yj,qf]at d;subst d;exact⟨xU.nil _ _ _,gx⟩
  ·simp_all
 ·intro x d;rw[yj,qf]at d;subst d;simp only[np];omega
 ·simp only[np,nq];omega
 ·repeat first|exact Fm.refl _ _|assumption|refine Fm.push ?_ _|refine Fm.aG ?_ _ _ gx
theorem z9a{k:Nat}(F:22<=k){n lv:AV}{L:List (List Nat)}{I:List Q4}(J:iB H n L)(K:Rs 4 Q4.cells H lv I)(M:∀ X:List aQ,X.map aQ.sp=aAm L->sD X/\LoX X):Ok (C k (.f 5) [.agg [n,lv]] H) fun r H'=>∃ sv X w m,r=.bA [.agg [sv],w]/\bY H' sv X/\X.map aQ.sp=aAm L/\Gl 6 H' w m.length (m.flatMap Tu.cells)/\m.length<=20/\(∀t∈m,t.lo/\rC X t)/\kY m/\Fm No H H':=by
 obtain⟨j,rfl⟩:=aP F;rw[lk (zo7 ..)];unfold zDw zz1;refine aT ?_;refine Ok.ve (z5b (k:=j) om (J.fm fm)) ?_;rintro _ H1 ⟨sv,X,rfl,D,f,i,E,l⟩;have y:=D.sr;simp only[np]at f i;obtain⟨Y,Z⟩:=M X E;have R:=l.nx;simp only[np]at R;have g0:H1.get H.nx=aB 0 [n,lv]:=(l.keep g1).trans g6;have g1:H1.get (H.nx+1)=aB 0 [.aA]:=(l.keep gz).trans g5;have z:Fm No H H1:=Fm.trans (by exact qO) l;refine aT ?_;unfold zdz;rw[dD];generalize x:(Hp.put _ H1.nx _)=G;have d:Fm No H1 G:=by rw[<-x];exact((Fm.refl No H1).push _).aG _ _ (lu _)
 have p:H1.nx<G.nx:=by rw[<-x];simp only[np,nq];omega
 have gG:G.get H1.nx=aB 0 [sv]:=by rw[<-x];exact dN _ _ _
 have S:=(d.keep (b:=H.nx) om).trans g0;have T:=(d.keep (b:=H.nx+1) om).trans g1;refine qvy (j:=j) om (y.fm d) Y Z S gG om p (K.fm (z.trans d)) ?_ bZ 0 .aA [] G om lf (gp _) (fun t N=>by cases N) (Ac.nil 6 _ (Fm.refl _ _));intro w m H2 e hm2 pm;unfold q00;have A:=(e.fm.keep p).trans gG;simp only[go_sem,A];refine aT ?_;refine Ok.iD (zi4 (k:=j) om (P:=fun t=>t.lo/\rC X t) (fun _ h=>h.1) om pm (e.rs yF)) ?_;rintro w2 s ⟨m2,a,hm3,u,v⟩;have U:=(a.fm.keep (ku p e.fm.nx)).trans A;have V:=((e.fm.trans a.fm).keep (b:=H.nx+1) (by have:=d.nx;omega)).trans T;simp only[go_sem,seval,U,V];have eS:nC 64 (.agg [sv]) (.agg [sv])=true:=qgx [sv] (by have:=y.fl;simp only[lA6,List.all_nil,this,pq,uo];rfl);rw[eS];have q:=(d.trans e.fm).trans a.fm;have W:=q.nx;have n2:=e.fm.nx;have fB:Fm (fun b=>b=H.nx+1) H1 (s.put (H.nx+1) (aB 0 [sv])):=⟨W,fun c O h=>(dO _ _ _ _ h).trans (q.keep O)⟩;have B:Fm (fun b=>b=H.nx+1) s (s.put (H.nx+1) (aB 0 [sv])):=(Fm.refl _ _).put _ _ fun _=>rfl;refine Ok.ret ⟨sv,X,w2,m2,rfl,(D.dP fB (fun b o h=>?_) (fun g Q b h1 _ h=>?_)).sr,E,a.gl.keep B.nx (fun b o _=>B.get b (by assumption) fun h=>?_),om,u,v,(z.trans q).aG _ _ om⟩
 ·have:=f b o;omega
 ·have:=i g Q;omega
 ·have:H2.nx<=b:=a.nw b o;omega
variable {L:List (List Nat)}
variable {H':Hp} {b i n o z:Nat} {l:List AV} {w:AV}
theorem zsy:∀ s∈nmL,s∈gX:=g4
theorem dB.lo(h:dB X):LoX X:=by
 refine⟨fun p i=>?_,fun a b g j t k=>?_⟩
 ·obtain⟨q,c,x,d,l,m⟩:=qd0.1 i;rw[<-l,<-m];exact⟨zsy _ (h.pr.r q c).2,zsy _ (h.pr.x q c x d).2.1⟩
 ·obtain⟨q,c,d,_⟩:=qci j;have f:=(h.pr.x q c g d).2.2.2 t k;refine⟨zsy _ f.1,?_⟩;rcases f.2 with e|e
  ·rw[e];decide
  ·exact zsy _ e
def ltS(s t:SS):Bool:=qd6 s.n s.n s.a t.n t.a
def ltP(p q:SS×SS):Bool:=ltS p.1 q.1||(decide (p.1=q.1)&&ltS p.2 q.2)
theorem q67(s t:SS):eD (lC .lss).f (.str s.n s.a) (.str t.n t.a)=.val (.bool (ltS s t)):=id rfl
theorem quq(s t:SS):eD (lC .eql).f (.str s.n s.a) (.str t.n t.a)=.val (.bool (decide (s=t))):=by have:=qcj s t;have e:eD (lC .eql).f (.str s.n s.a) (.str t.n t.a)=.val (.bool (Nat.beq s.n t.n&&Nat.beq s.a t.a)):=rfl;have a:bL s.v t.v=some (Nat.beq s.n t.n&&Nat.beq s.a t.a):=rfl;simp_all
theorem zta{k:Nat}(h:1<=k)(p q:SS×SS)(H:Hp):Ok (C k (.f 164) [.agg (pC p),.agg (pC q)] H) fun r H'=>r=.bool (ltP p q)/\Fm No H H':=by
 obtain⟨j,rfl⟩:=aP h;rw[lk (zog ..)];unfold zFu zy8 pC SS.v;have a:=q67 p.1 q.1;have b:=quq p.1 q.1;have i:=q67 p.2 q.2;have f:∀ c d,Fm No H (aI (aI H c) d):=fun c d=>by exact qO
 unfold ltP;cases e:ltS p.1 q.1 with
 |true=>rw[e]at a;refine eP a ?_;exact Ok.ret ⟨rfl,f _ _⟩
 |false=>
  rw[e]at a;by_cases g:p.1=q.1
  ·rw[qc g]at b ⊢;refine iG a b i ?_;exact Ok.ret ⟨g3,f _ _⟩
  ·rw[ql g]at b ⊢;refine eF a b ?_;exact Ok.ret ⟨g3,f _ _⟩
theorem qec(b:Bool):jT false (some b)=.val (.bool b):=id rfl
theorem qf5(p:SS×SS):(pC p).length=2:=id rfl
theorem qfq(p:SS×SS):List.take 2 (pC p)=pC p:=id rfl
theorem bE0(p q:SS×SS):dQ (eqFields [(p1,⟨bL⟩,0),(p1,⟨bL⟩,1)]) (.agg (pC p)) (.agg (pC q))=some (decide (p=q)):=qvz p q
theorem qy6{O:Ev.Call}{H:Hp}{v:AV}{l:List (SS×SS)}{x:SS×SS}{f:Nat}(d:Rs 2 pC H v l)(e:H.get f=aB 0 (pC x))(r:l.length<=1000){Q:pL}{qr:pD}{q:pH}(g:x∈l->Ok (qr (.bool true) H) Q)(j:x∉l->Ok (q H) Q):∀(k i:Nat),i<=l.length->l.length-i<k->x∉l.take i->Ok (q47 O qr q v (.ptr f 0) k (iN i) H) Q
 |0,i,_,h,_=>om
 |k+1,i,hi,hk,hm=>by
  show Ok (zcz O _ _ _ _ (q47 O _ _ _ _ k) _ H) Q;unfold zcz;have m:=d.len;by_cases a:i<l.length
  ·simp only[go_sem,m,a];unfold zvd;obtain⟨b,o,n,_,p⟩:=d.oZ a;have c:=bE0 l[i] x;by_cases h:l[i]=x
   ·rw[qc h]at c;simp only[go_sem,seval,n,p,e,qf5,qfq,c,qec];exact g (by rw[<-h];exact lg a)
   ·rw[ql h]at c;simp only[go_sem,seval,n,p,e,qf5,qfq,c,qec];unfold kQ;refine aT ?_;refine qy6 d e r g j k (i+1) om om fun s=>?_;rw[lh a,qi,qf]at s;simp_all
  ·simp only[go_sem,m,a];exact j (by rw[tq om]at hm;exact hm)
theorem z3q{k:Nat}(a:1<=k){v:AV}{l:List (SS×SS)}(b:Rs 2 pC H v l)(c:l.length<=1000)(x:SS×SS):Ok (C k (.f 163) [v,.agg (pC x)] H) fun r H'=>r=.bool (decide (x∈l))/\Fm No H H':=by
 obtain⟨j,rfl⟩:=aP a;rw[lk (zoh ..)];unfold zFt zy9;have d:qI 2 H.nx (.agg (pC x))=.new (.ptr H.nx 0) (aB 0 (pC x)):=id rfl;have f:Fm No H (aI H (aB 0 (pC x))):=by exact jF
 simp only[go_sem,d];unfold zve;rw[dD];refine qy6 (x:=x) (b.fm f) (by simp(disch:=omega)only[go_sem]) c (fun h=>Ok.ret ⟨by rw[qc h],f⟩) (fun h=>?_) bZ 0 (gp _) lf g3;exact Ok.ret ⟨by rw[ql h],f⟩
def rO(x:SS×SS):List (SS×SS)->List (SS×SS)
 | []=>[x]
 |y::l=>if ltP x y then x::y::l else y::rO x l
theorem qy3(x y:SS×SS)(l:List (SS×SS)):rO x (y::l)=if ltP x y then x::y::l else y::rO x l:=rfl
def sZ(l:List (SS×SS))(x:SS×SS):List (SS×SS):=if x∈l then l else rO x l
theorem qvs(x:SS×SS):∀ l,(rO x l).length=l.length+1
 | []=>rfl
 |y::l=>by
  unfold rO;split
  ·rfl
  ·rw[pq,qvs x l,pq]
theorem qnj(l:List (SS×SS))(x:SS×SS):(sZ l x).length<=l.length+1:=by
 unfold sZ;split
 ·omega
 ·rw[qvs];exact lu _
theorem qya{j:Nat}(B:1<=j){H0:Hp}{v:AV}{l:List (SS×SS)}{x:SS×SS}{r:Nat}(s:Rs 2 pC H0 v l)(D:H0.get r=aB 0 (pC x))(g:r<H0.nx)(L:l.length<=1000){Q:pL}{q:AV->pD}(E:∀ w b m H,Ac 2 pC H0 H w m->m++(if b then[]else[x])=rO x l->Ok (q w (.bool b) H) Q):∀(k i:Nat) (w:AV) (b:Bool) (m:List (SS×SS)) (H:Hp),i<=l.length->l.length-i<k->Ac 2 pC H0 H w m->m.length<=2*i->m++(if b then l.drop i else rO x (l.drop i))=rO x l -> Ok (qwi (C j) q v (.ptr r 0) k w (.bool b) (iN i) H) Q
 |0,i,_,_,_,_,_,h,_,_,_=>om
 |k+1,i,w,b,m,H,hi,hk,c,u,d=>by
  show Ok (zc3 (C j) _ _ _ (qwi (C j) _ _ _ k) _ _ _ H) Q;unfold zc3;have F:=s.len;by_cases a:i<l.length
  ·simp only[go_sem,F,a];unfold zc2;have y:=uq a;have z:=c.fm;obtain⟨G,I,t,J,p⟩:=(s.fm z).oZ a;have gx:=(z.keep g).trans D;have M:=z.nx;have fin:∀(w:AV) (b:Bool) (m:List (SS×SS)) (H:Hp),Ac 2 pC H0 H w m->m.length<=2*i+1->m++l[i]::(if b then l.drop (i+1)else rO x (l.drop (i+1)))=rO x l->Ok (qs9 (C j) (qwi (C j) q v (.ptr r 0) k) v w (.bool b) (iN i) H) Q:=fun w b m H c u d=>by
    unfold qs9;obtain⟨G,I,t,J,p⟩:=(s.fm c.fm).oZ a;refine jD t p qf5 qfq ?_;refine Ok.ve ((c.no ((Fm.refl No H).push (aB 0 (pC l[i])))).add l[i] 32 rfl om om) ?_;intro A e O;unfold zvf;refine aT ?_;refine qya B s D g L E k (i+1) A b (m++[l[i]]) e om om O g2 ?_;rw[qw];exact d
   cases b with
   |true=>simp only[go_sem,t,p,gx,qf5,qfq];refine fin w true m _ c om ?_;simp_all
   |false=>
    simp only[go_sem,seval,t,p,gx,qf5,qfq];refine Ok.iD (zta B x l[i] _) ?_;rintro _ e ⟨rfl,f⟩;replace f:Fm No H e:=f;have n:=(f.keep om).trans gx;have o:fD (e.get G) I 2=some (pC l[i]):=by rw[f.keep J];exact p
    rw[y,qy3,pg g4]at d;cases K:ltP x l[i]with
    |true=>rw[K,qj rfl]at d;refine jD n o qf5 qfq ?_;refine Ok.ve (((c.no f).no ((Fm.refl No e).push (aB 0 (pC x)))).add x 32 rfl om om) ?_;intro A P R;refine fin A true (m++[x]) P R g2 ?_;simp_all
    |false=>rw[K,pg g4]at d;simp only[go_sem,n,o,qf5,qfq];exact fin w false m e (c.no f) om d
  ·simp only[go_sem,F,a];have N:i=l.length:=om;refine E w b m H c ?_;rw[N,lA8]at d;exact d
theorem zjz{k:Nat}(o:2<=k){v:AV}{l:List (SS×SS)}(e:Rs 2 pC H v l)(i:l.length<=1000)(x:SS×SS):Ok (C k (.f 116) [v,.agg (pC x)] H) fun r H'=>Rs 2 pC H' r (sZ l x)/\Fm No H H':=by
 obtain⟨j,rfl⟩:=aP o;rw[lk (zoi ..)];unfold zFn zza;have q:qI 2 H.nx (.agg (pC x))=.new (.ptr H.nx 0) (aB 0 (pC x)):=id rfl;have f:Fm No H (aI H (aB 0 (pC x))):=by exact jF
 refine iG q qf5 qfq ?_;refine Ok.ve (z3q (k:=j) om (e.fm f) i x) ?_;rintro _ H1 ⟨rfl,g⟩;have c:=f.trans g;have g1:H1.get H.nx=aB 0 (pC x):=(g.keep gx).trans (jG _ _);have s:=g.nx;simp only[np]at s;unfold sZ;by_cases h:x∈l
 ·rw[qj h,qc h];exact Ok.ret ⟨e.fm c,c⟩
 ·rw[pg h,ql h];unfold zc1 zvg;rw[dD];refine qya om (e.fm c) g1 om i (fun w b m p d a=>?_) bZ 0 .aA false [] H1 (gp _) lf (Ac.nil 2 _ (Fm.refl _ _)) (gp _) g3;unfold zc0;have g2:=(d.fm.keep om).trans g1;cases b with
  |true=>rw[qj rfl,uf]at a;exact Ok.ret ⟨by rw[<-a];exact d.rs qf5,c.trans d.fm⟩
  |false=>rw[pg g4]at a;have t:=qvs x l;rw[<-a,lL,lAN]at t;refine iG g2 qf5 qfq ?_;refine Ok.ve ((d.no ((Fm.refl No p).push (aB 0 (pC x)))).add x 32 rfl om om) ?_;intro u y n;exact Ok.ret ⟨by rw[<-a];exact n.rs qf5,c.trans n.fm⟩
theorem qu6{d:Nat}(c:TT AV d):∀(a b o:Nat),Ev.w9 c (a+b) o=Ev.w9 c a o++Ev.w9 c b (o+a)
 |0,b,o=>by rw[qg];rfl
 |a+1,b,o=>by rw[Nat.add_right_comm];show _::Ev.w9 c (a+b) (o+1)=_::(Ev.w9 c a (o+1)++Ev.w9 c b (o+(a+1)));rw[qu6 c a b (o+1),show o+1+a=o+(a+1)by omega]
theorem zad{B:bW}{o a b:Nat}{l m:List AV}(h:fD B o a=some l)(d:fD B (o+a) b=some m):fD B o (a+b)=some (l++m):=by
 unfold fD at h d ⊢;split at h
 ·rename_i n c _ _;simp only[ble_eq]at h d ⊢;by_cases e:o+a+b<=n
  ·rw[qc e]at d;rw[qc om]at h;rw[qc om];injection h with h;injection d with d;rw[uB,qu6,h,d]
  ·simp_all
 ·cases h
theorem zac{B:bW}{o a:Nat}(h:fD B o a=some l):fD B o 0=some []:=by
 unfold fD at h ⊢;split at h
 ·rename_i n c _ _;simp only[ble_eq]at h ⊢;by_cases b:o+a<=n
  ·rw[qc om];rfl
  ·simp_all
 ·cases h
theorem Rs.src{α:Type}{f:α->List AV}(t:∀ x,(f x).length=z){v:AV}{l:List α}(h:Rs z f H v l)(q:l=[]->v=.aA):lY z H v=some ⟨l.length,l.flatMap f⟩:=by
 have c:=h.len;by_cases g:l=[]
 ·subst g;rw[q rfl];rfl
 ·have k:=aj.2 g;obtain⟨b,_,_,_,⟨o,n,m,e,rfl⟩,_⟩:=h.at' 0 k;have r:n=l.length:=by
   have u:aD (.sl b o n m e)=R0.val (iN n):=rfl;injection c with c;injection c with _ c;injection c
  subst r;have d:∀ i (a:i<l.length),fD (H.get b) (o+i*z) z=some (f l[i]):=fun i a=>by obtain⟨w,y,s,_,_,A,_⟩:=h.at' i a;rw[vL _ _ _ _ _ _ _ _ a]at s;simp_all
  have p:=zac (d 0 k);have j:∀ i,i<=l.length->fD (H.get b) o (i*z)=some ((l.take i).flatMap f):=fun i=>by
   induction i with
   |zero=>intro _;rw[lAV]at p ⊢;exact p
   |succ i ih=>intro a;have:=zad (ih om) (d i a);rw[lh a,qy,ry,zk,lA5];exact this
  rw[qxk,j _ (lu _),um]
theorem oJ.nl{g:bB}(h:oJ H g)(e:g.r.types=[]):g.tv=.aA:=by
 rcases h.tc with c|⟨b,o,n,m,f,c,_,i⟩
 ·exact c
 ·have a:=h.ty.len;rw[c,e]at a;have d:aD (.sl b o n m f)=R0.val (iN n):=rfl;rw[d]at a;injection a with a;simp_all
structure oU(H:Hp)(b:Nat)(rs:List (SS×bB)):Prop where
 ex:∃ es c,H.get b=.map es c/\es.map gD.key=(rs.map kq).map kyP/\∀(i:Nat) (e:gD) (p:SS×bB),es[i]? =some e->rs[i]? =some p->Rs 2 tC H e.val p.2.r.types
theorem oU.fm{d:List (SS×bB)}(h:oU H b d)(g:b<H.nx)(f:Fm No H H'):oU H' b d:=by obtain⟨es,c,j,k,l⟩:=h.ex;exact⟨es,c,(f.keep g).trans j,k,fun i e p a b=>(l i e p a b).fm f⟩
theorem Rs.aBK{α:Type}{f:α->List AV}{v:AV}{l:List α}{b c:Nat}{es:List gD}(h:Rs z f H v l)(g:H.get b=.map es c)(k:bW):Rs z f (H.put b k) v l:=⟨h.len,fun i m=>by
 obtain⟨e,o,p,q,r,d,s⟩:=h.at' i m;have a:e≠b:=fun h=>by rw[h,g]at d;cases d
 exact⟨e,o,p,q,r,by rw[dO _ _ _ _ a];exact d,fun j n=>by rw[dO _ _ _ _ a];exact s j n⟩⟩
theorem oU.put{a:List (SS×bB)}(h:oU H b a)(p:SS×bB)(m:kq p∉a.map kq)(n:Rs 2 tC H w p.2.r.types):∃k,kL ⟨dQ (eqFields [(p1,⟨bL⟩,0),(p1,⟨bL⟩,1)]),some 2⟩ H (.map b) (.agg [.str p.1.n p.1.a,.str p.2.r.name.n p.2.r.name.a]) w=.ok .undef (H.put b k)/\oU (H.put b k) b (a++[p]):=by
 obtain⟨es,g,j,l,r⟩:=h.ex;have o:es.length=a.length:=by have:=congrArg List.length l;simpa using this
 obtain⟨g1,_⟩:=qeo qlv (kq p) es (a.map kq) 0 l;refine⟨.map (es++[⟨kyP (kq p),w,g⟩]) (g+1),?_,⟨_,_,dN _ _ _,?_,fun i e q c d=>?_⟩⟩
 ·have t:qp2 ⟨dQ (eqFields [(p1,⟨bL⟩,0),(p1,⟨bL⟩,1)]),some 2⟩ (kyP (kq p)) es=some none:=g1 m;show kL _ H (.map b) (kyP (kq p)) w=_;unfold kL;simp_all
 ·simp_all
 ·by_cases s:i<es.length
  ·rw[uj s]at c;rw[uj om]at d;exact(r i e q c d).aBK j _
  ·have f:=(qp.1 c).1;have:i=es.length:=by simp at f;omega
   subst this;rw[uh (lu _),og]at c;rw[o,uh (lu _),og]at d;cases c;cases d;exact n.aBK j _
theorem oU.find{a:List (SS×bB)}(h:oU H b a)(z:AV){x y:SS}(d:(x,y)∈a.map kq):∃v,nR ⟨dQ (eqFields [(p1,⟨bL⟩,0),(p1,⟨bL⟩,1)]),some 2⟩ z true H (.map b) (.agg [.str x.n x.a,.str y.n y.a])=.val (.bA [v,.bool true])/\∀ p,a[(a.map kq).findIdx fun q=>decide (q=(x,y))]? =some p->Rs 2 tC H v p.2.r.types:=by obtain⟨es,c,f,g,i⟩:=h.ex;obtain⟨_,g2⟩:=qeo qlv (x,y) es (a.map kq) 0 g;obtain⟨e,j,x2⟩:=g2 d;refine⟨e.val,?_,fun p d=>i _ e p j d⟩;show(match(match H.get b with| .map es _=>some es|_=>none)with|some es=>q33 true z (yK _ (kyP (x,y)) es 0)|none=>.bad)=_;rw[f];simp only;rw[x2];rfl
theorem oU.miss{a:List (SS×bB)}(h:oU H b a)(z:AV){x y:SS}(d:(x,y)∉a.map kq):nR ⟨dQ (eqFields [(p1,⟨bL⟩,0),(p1,⟨bL⟩,1)]),some 2⟩ z true H (.map b) (.agg [.str x.n x.a,.str y.n y.a])=.val (.bA [z,.bool false]):=by obtain⟨es,c,e,f,g⟩:=h.ex;obtain⟨g1,_⟩:=qeo qlv (x,y) es (a.map kq) 0 f;show(match(match H.get b with| .map es _=>some es|_=>none)with|some es=>q33 true z (yK _ (kyP (x,y)) es 0)|none=>.bad)=_;rw[e];simp only;rw[g1 d];rfl
theorem cpG{α:Type}{z wd:Nat}{f:α->List AV}(m:∀ x,(f x).length=z){nm:Nat}(i:H.get nm=aB 0 [])(j:nm<H.nx){l:List α}(n:l.length*wd<=1000000)(d:l.length<=1000000):Ok (iM z wd H (.sl nm 0 0 0 true) (some ⟨l.length,l.flatMap f⟩)) fun w H'=>Gl z H' w l.length (l.flatMap f)/\Fm (· =nm) H H'/\∀ b,In w b->b=nm\/H.nx<=b:=by
 by_cases h:l=[]
 ·subst h;have e:iM z wd H (.sl nm 0 0 0 true) (some ⟨0,[]⟩)=storeAt H nm 0 [] (.sl nm 0 0 0 true):=by
   unfold iM;simp;rfl
  have o:storeAt H nm 0 [] (.sl nm 0 0 0 true)=.ok (.sl nm 0 0 0 true) (H.put nm (aB 0 [])):=by unfold storeAt;rw[i];rfl
  refine⟨_,_,e.trans o,⟨g3,.inr ⟨_,_,_,_,_,rfl,dN _ _ _,lu _,rfl,.inl rfl,j⟩⟩,(Fm.refl _ _).put _ _ fun _=>rfl,fun b c=>?_⟩;obtain⟨_,_,_,_,c⟩:=c;simp_all
 ·have p:Gl z H (.sl nm 0 0 0 true) 0 []:=⟨g3,.inr ⟨_,_,_,_,_,rfl,i,lu _,rfl,.inl rfl,j⟩⟩;have k:=aj.2 h;have r:(l.flatMap f).length=l.length*z:=by
   clear n d h k
   induction l with
   |nil=>simp
   |cons a q ih=>rw[uA,lL,ih,pq,m,zk];omega
  obtain⟨H',e,g,_,f,_⟩:=p.append (w:=wd) k r (by rw[qg];omega) om;rw[yj,qg]at g;rw[qg]at e;refine⟨_,H',e,g,f.mono fun b _ c=>?_,fun b c=>?_⟩
  ·obtain⟨_,_,_,_,c⟩:=c;cases c;rfl
  ·obtain⟨_,_,_,_,c⟩:=c;simp_all
theorem q3o{d:Nat}(c:TT AV d):∀(a o:Nat),(Ev.w9 c a o).length=a
 |0,_=>rfl
 |a+1,o=>congrArg (· +1) (q3o c a (o+1))
theorem qr5{B:bW}(h:fD B o n=some l){i k:Nat}(a:i+k<=n):fD B (o+i) k=some ((l.drop i).take k):=by
 unfold fD at h ⊢;split at h
 ·rename_i m c _ _;simp only[ble_eq]at h ⊢;by_cases b:o+n<=m
  ·rw[qc b]at h;rw[qc om];injection h with h;rw[uB,<-h,show n=i+(k+(n-i-k))by omega,qu6,qu6,List.drop_left' (q3o _ _ _),List.take_left' (q3o _ _ _)]
  ·simp_all
 ·cases h
def wX(o:List (SS×SS))(t:Tu):List (SS×SS):=sZ (sZ o (t.a,t.b)) (t.x,t.y)
theorem z88{α:Type}(f:α->Tu->α)(o:α){l:List Tu}(h:i<l.length):(l.take (i+1)).foldl f o=f ((l.take i).foldl f o) l[i]:=by rw[lh h,List.foldl_append];rfl
theorem zju{j:Nat}(c:2<=j){H0:Hp}{v:AV}{l:List Tu}(d:Rs 6 Tu.cells H0 v l)(p:l.length<=20){Q:pL}{q:pD}(r:∀ w H,Rs 2 pC H w (l.foldl wX [])->Fm No H0 H->Ok (q w H) Q):∀(k i:Nat) (w:AV) (H:Hp),i<=l.length->l.length-i<k->Rs 2 pC H w ((l.take i).foldl wX [])->((l.take i).foldl wX []).length<=2*i->Fm No H0 H -> Ok (q49 (C j) q v k w (iN i) H) Q
 |0,i,_,_,_,h,_,_,_=>om
 |k+1,i,w,H,hi,hk,hw,hwl,hf=>by
  show Ok (zc9 (C j) _ _ (q49 (C j) _ _ k) _ _ H) Q;unfold zc9;have m:=d.len;by_cases a:i<l.length
  ·simp only[go_sem,m,a];unfold zc8;obtain⟨e,f,z,A,o⟩:=(d.fm hf).oZ a;have s:fD (H.get e) f 2=some (pC (l[i].a,l[i].b)):=qr5 (i:=0) o g4;have n:fD (H.get e) (f+3) 2=some (pC (l[i].x,l[i].y)):=qr5 (i:=3) o g4;simp only[go_sem,z,s,n];refine Ok.iD (zjz c hw om (l[i].a,l[i].b)) ?_;rintro u H1 ⟨B,b⟩;replace b:Fm No H H1:=b;have t:fD (H1.get e) (f+3) 2=some (pC (l[i].x,l[i].y)):=by rw[b.keep A];exact n
   have x:=qnj ((l.take i).foldl wX []) (l[i].a,l[i].b);refine eP t ?_;refine Ok.iD (zjz c B om (l[i].x,l[i].y)) ?_;rintro D E ⟨g,F⟩;have y:=qnj (sZ ((l.take i).foldl wX []) (l[i].a,l[i].b)) (l[i].x,l[i].y);unfold qn0;refine aT ?_;refine zju c d p r k (i+1) D E om om ?_ ?_ ((hf.trans b).trans F)
   ·rw[z88 _ _ a];exact g
   ·rw[z88 _ _ a];show(sZ _ _).length<=_;omega
  ·simp only[go_sem,m,a];rw[tq om]at hw;simp_all
theorem aOE{k:Nat}(a:3<=k){v:AV}{l:List Tu}(b:Rs 6 Tu.cells H v l)(c:l.length<=20):Ok (C k (.f 65) [v] H) fun r H'=>Rs 2 pC H' r (l.foldl wX [])/\Fm No H H':=by obtain⟨j,rfl⟩:=aP a;rw[lk (zol ..)];unfold zFc zzc zvj;rw[dD];refine zju om b c (fun w H' d e=>?_) bZ 0 .aA H (gp _) lf ⟨rfl,fun i f=>by simp at f⟩ g3 (Fm.refl _ _);exact Ok.ret ⟨d,e⟩
abbrev G3:=(SS×SS)×SS
def gC(g:G3):List AV:=[g.1.1.v,g.1.2.v,g.2.v]
theorem vP(g:G3):(gC g).length=3:=id rfl
def rG(A:List (SS×SS))(p:SS×SS):List G3:=(A.filter fun q=>decide (q.1=p.1)).map fun q=>(p,q.2)
def jS(A o:List (SS×SS)):List G3:=o.flatMap (rG A)
theorem zje(A:List (SS×SS))(p:SS×SS){k:Nat}(h:k<A.length):rG (A.take (k+1)) p=rG (A.take k) p++if A[k].1=p.1 then[(p,A[k].2)]else[]:=by unfold rG;rw[lh h,eQ,ui];congr 1;by_cases a:A[k].1=p.1<;>simp[a]
theorem q7q(A:List (SS×SS))(p:SS×SS):(rG A p).length<=A.length:=by unfold rG;rw[pz];exact zn _ _
theorem qu4(A:List (SS×SS)):∀ o,(jS A o).length<=o.length*A.length
 | []=>by simp[jS]
 |p::o=>by have a:=q7q A p;have b:=qu4 A o;unfold jS at *;rw[uA,lL,pq,zk];omega
theorem zjm(A:List (SS×SS)){o:List (SS×SS)}{i:Nat}(h:i<o.length):jS A (o.take (i+1))=jS A (o.take i)++rG A o[i]:=by unfold jS;rw[lh h,qy,ry]
theorem qu9{O:Ev.Call}{H0:Hp}{ov av:AV}{o A:List (SS×SS)}{i:Nat}(j:Rs 2 pC H0 ov o)(f:Rs 2 pC H0 av A)(l:i<o.length)(c:o.length<=100)(d:A.length<=10000){Q:pL}{q:pD}{m0:List G3}(e:m0.length<=1000000)(m:∀ w H,Ac 3 gC H0 H w (m0++rG A o[i])->Ok (q w H) Q):∀(k a:Nat) (w:AV) (H:Hp),a<=A.length->A.length-a<k->Ac 3 gC H0 H w (m0++rG (A.take a) o[i]) -> Ok (q48 O q ov av (iN i) k w (iN a) H) Q
 |0,a,_,_,_,h,_=>om
 |k+1,a,w,H,ha,hk,hw=>by
  show Ok (zc6 O _ _ _ _ (q48 O _ _ _ _ k) _ _ H) Q;unfold zc6;have p:=f.len;by_cases b:a<A.length
  ·simp only[go_sem,p,b];unfold zc5;have r:=hw.fm;obtain⟨v,x,y,N,_,P,z⟩:=(f.fm r).at' a b;obtain⟨B,C,D,R,_,J,K⟩:=(j.fm r).at' i l;have s:bX (H.get v) x=.val (.str A[a].1.n A[a].1.a):=z 0 (by show 0<2;decide);have E:bX (H.get v) (x+1)=.val (.str A[a].2.n A[a].2.a):=z 1 (by show 1<2;decide);have t:bX (H.get B) C=.val (.str o[i].1.n o[i].1.a):=K 0 (by show 0<2;decide);have es:=quq A[a].1 o[i].1;have u:=zje A o[i] b;have F:=q7q (A.take a) o[i];have G:(A.take a).length<=A.length:=by rw[qx];exact uy _ _
   by_cases g:A[a].1=o[i].1
   ·rw[qc g]at es;rw[qj g]at u;have n:fD (H.get B) C 2=some [.str o[i].1.n o[i].1.a,.str o[i].2.n o[i].2.a]:=J;simp only[go_sem,seval,y,D,s,t,es,n,E];have I:Fm No H ((Hp.mk H.t (H.nx+14)).put (H.nx+11) (aB 0 [.str o[i].1.n o[i].1.a,.str o[i].2.n o[i].2.a,.str A[a].2.n A[a].2.a])):=((Fm.refl No H).up 14).aG _ _ om;refine Ok.iD ((hw.no I).add (o[i],A[a].2) 48 rfl (by rw[lL];omega) (by rw[lL];omega)) ?_;intro L M S;unfold yP;refine aT ?_;refine qu9 j f l c d e m k (a+1) L M om om ?_;simp_all
   ·rw[ql g]at es;rw[pg g,uf]at u;simp only[go_sem,y,D,s,t,es];unfold yP;refine aT ?_;refine qu9 j f l c d e m k (a+1) w H om om ?_;simp_all
  ·simp only[go_sem,p,b];rw[tq om]at hw;exact m w H hw
theorem q72{O:Ev.Call}{H0:Hp}{ov av:AV}{o A:List (SS×SS)}(d:Rs 2 pC H0 ov o)(e:Rs 2 pC H0 av A)(c:o.length<=100)(b:A.length<=10000){Q:pL}{q:pD}(f:∀ w H,Ac 3 gC H0 H w (jS A o)->Ok (q w H) Q):∀(k i:Nat) (w:AV) (H:Hp),i<=o.length->o.length-i<k->Ac 3 gC H0 H w (jS A (o.take i)) -> Ok (qwj O q ov av k w (iN i) H) Q
 |0,i,_,_,_,h,_=>om
 |k+1,i,w,H,hi,hk,hw=>by
  show Ok (zc7 O _ _ _ (qwj O _ _ _ k) _ _ H) Q;unfold zc7;have g:=d.len;by_cases a:i<o.length
  ·simp only[go_sem,g,a];unfold zc4 zvh;rw[dD];have p:=qu4 A (o.take i);have n:(o.take i).length<=o.length:=by rw[qx];exact uy _ _
   have r:(o.take i).length*A.length<=100*10000:=Nat.mul_le_mul om b;refine qu9 d e a c b (m0:=jS A (o.take i)) om (fun j l m=>?_) bZ 0 w H (gp _) lf ?_
   ·unfold qoh;refine aT ?_;refine q72 d e c b f k (i+1) j l om om ?_;rw[zjm A a];exact m
   ·have:rG (A.take 0) o[i]=[]:=by simp[rG]
    simp_all
  ·simp only[go_sem,g,a];rw[tq om]at hw;exact f w H hw
theorem aOz{k:Nat}(g:4<=k){H:Hp}{sv v:AV}{l:List Tu}(h:bY H sv X)(f:sD X)(i:Rs 6 Tu.cells H v l)(m:l.length<=20)(b:(l.foldl wX []).length<=100):Ok (C k (.f 22) [.agg [sv],v] H) fun r H'=>Ac 3 gC H H' r (jS (aF X) (l.foldl wX [])):=by
 obtain⟨j,rfl⟩:=aP g;rw[lk (zok ..)];unfold zFg zzb;have c:Fm No H (aI H (aB 0 [sv])):=by exact jF
 refine Ok.ve (aOE (k:=j) om (i.fm c) m) ?_;rintro w H1 ⟨o,d⟩;have g1:H1.get H.nx=aB 0 [sv]:=(d.keep gz).trans (by simp(disch:=omega)only[go_sem,seval]);simp only[go_sem,g1];refine Ok.ve (qz7 (k:=j) om (h.fm (c.trans d)) f) ?_;intro t p e;have a:=f.all X.length;rw[um]at a;unfold zvi;rw[dD];refine q72 (o.fm e.fm) (e.rs qf5) b a (fun q s n=>?_) bZ 0 .aA p (gp _) lf (by simp only[lA0];exact Ac.nil 3 _ (Fm.refl _ _));exact Ok.ret (Ac.trans ((c.trans d).trans e.fm) n)
theorem z96(t:iQ C){k:Nat}(u:22<=k){H:Hp}{sv:AV}{X:List aQ}(o:bY H sv X)(c:dB X){i:Nat}(v:i<(aF X).length):Ok (C k (.f 167) [.agg [sv],iN i] H) fun r H'=>r=.bA [(aF X)[i].1.v,(aF X)[i].2.v,iN 0]/\Fm No H H':=by
 obtain⟨j,rfl⟩:=aP u;rw[lk (zq3 ..)];unfold zAv z1k;refine aT ?_;have f:Fm No H (aI H (aB 0 [sv])):=by exact jF
 refine Ok.ve (qqm t (k:=j) om (o.fm f) c) ?_;rintro _ H1 ⟨rfl,d⟩;unfold zgc;have Q:=d.nx;have x:H1.get H.nx=aB 0 [sv]:=(d.keep gx).trans (jG _ _);simp only[go_sem,x];have h:=(o.fm f).fm d;refine Ok.ve (zm4 (k:=j) om h c.pr c.al c.sp) ?_;rintro _ p ⟨ib,rfl,F,G⟩;obtain⟨mb,nb,av,iv,g,q,_,_,s,I,_,_,R,J,_⟩:=F.ex;have y:(d9 X).length=(aF X).length:=by rw[<-uV,pz]
 have m:=s.len;have a:i<(d9 X).length:=om;have b:i<g.length:=om;have n:¬ g.length<=i:=om;have z:¬ i<0:=lAD i;simp only[go_sem,z,q,m,n];unfold zgd;obtain⟨K,L,M,S,_,_,N⟩:=s.at' i b;obtain⟨O,P,g1,g2,_,_,g4⟩:=I.at' i a;have A:bX (p.get K) L=.val (.ptr g[i].1 g[i].2):=N 0 (by rw[qvb];omega);have B:bX (p.get O) P=.val (.str (d9 X)[i].1.n (d9 X)[i].1.a):=g4 0 (by rw[zkg];omega);have D:=(J i b a).nm;simp only[go_sem,q,g1,B,M,A,D];have E:(aF X)[i]=kq (d9 X)[i]:=by
  have:∀(l:List (SS×SS)) (w:i<l.length),l=(d9 X).map kq->l[i]=kq (d9 X)[i]:=fun l w e=>by subst e;simp
  exact this _ v (uV X).symm
 rw[E];exact Ok.ret ⟨rfl,(f.trans d).trans G⟩
def stC(q:(SS×SS)×Nat):List AV:=[q.1.1.v,q.1.2.v,iN (q.2)]
theorem ziz(q:(SS×SS)×Nat):(stC q).length=3:=rfl
def stZ:List AV:=[zS,zS,iN 0]
def stL(ps:List ((SS×SS)×Nat))(i:Nat):List AV:=(ps.take i).flatMap stC++(List.replicate (ps.length-i) stZ).flatten
theorem flat3(ps:List ((SS×SS)×Nat)):(ps.flatMap stC).length=ps.length*3:=by
 induction ps with
 |nil=>rfl
 |cons a l ih=>rw[uA,lL,ih,ziz,pq];omega
theorem quv(A B:List AV)(x c:AV)(k:Nat)(a:k=A.length):aZ (A++x::B) k [c]=A++c::B:=by subst a;unfold aZ;simp
theorem zry{ps:List ((SS×SS)×Nat)}{i:Nat}(h:i<ps.length):aZ (aZ (aZ (stL ps i) (i*3) [ps[i].1.1.v]) (i*3+1) [ps[i].1.2.v]) (i*3+2) [iN (ps[i].2)]=stL ps (i+1):=by
 have a:((ps.take i).flatMap stC).length=i*3:=by rw[flat3,qx];omega
 have e:stL ps i=(ps.take i).flatMap stC++zS::zS::iN 0::(List.replicate (ps.length-(i+1)) stZ).flatten:=by unfold stL;rw[show ps.length-i=ps.length-(i+1)+1 by omega,List.replicate_succ,dE];rfl
 rw[e,quv _ _ _ _ _ a.symm];rw[show ∀(A B:List AV) (x y:AV),A++x::y::B=(A++[x])++y::B from fun A B x y=>g3];rw[quv _ _ _ _ _ (by simp[a])];rw[show ∀(A B:List AV) (x y z:AV),A++[x]++y::z::B=(A++[x,y])++z::B from fun A B x y z=>g3];rw[quv _ _ _ _ _ (by simp[a])];unfold stL;rw[lh h,qy,ry];simp[stC]
theorem qej(l:List AV):∀ n,aS l n=(List.replicate n l).flatten
 |0=>rfl
 |n+1=>by show l++aS l n=_;rw[qej l n,List.replicate_succ,dE]
theorem z97{k:Nat}(a:1<=k){b o:Nat}{n:Int}{H H':Hp}(h:storeAt H b (o+2) [.int .i64 n] .undef=.ok .undef H'):C k (.f 168) [.ptr b o,.int .i64 n] H=.ok (.bA []) H':=by obtain⟨j,rfl⟩:=aP a;rw[lk (zq2 ..)];unfold zAw z1j;simp only[go_sem,h]
theorem q7c(M:iQ C){j:Nat}(N:22<=j){Hb:Hp}{sv nv:AV}{X:List aQ}{r pb f n:Nat}{o:List Nat}(Z:bY Hb sv X)(A:dB X)(hn:n=(aF X).length)(B:Gl 1 Hb nv n (aJ o))(O:Hb.get r=aB 0 [sv])(s:r<Hb.nx)(D:Hb.get pb=aB 0 [.sl f 0 n n true])(m:pb<Hb.nx)(e:r≠f/\pb≠f/\f<Hb.nx)(t:∀ c,In nv c->c≠f)(u:∀ H,Fm (fun c=>c=f) Hb H->bY H sv X){Q:pL}{q:pH}(hq:∀ H,Gl 3 H (.sl f 0 n n true) n (((aF X).zip o).flatMap stC)->Fm (fun c=>c=f) Hb H->Ok (q H) Q):∀(k i:Nat) (H:Hp),i<=n->n-i<k->Gl 3 H (.sl f 0 n n true) n (stL ((aF X).zip o) i)->Fm (fun c=>c=f) Hb H -> Ok (qug (C j) q (.ptr r 0) nv (.ptr pb 0) (iN n) k (iN i) H) Q
 |0,i,_,_,h,_,_=>om
 |k+1,i,H,hi,hk,hg,hf=>by
  show Ok (q2q (C j) _ _ _ _ _ (qug (C j) _ _ _ _ _ k) _ H) Q;unfold q2q;have jP:(aF X).length<=256:=by have:=A.pr.len;rw[<-uV,pz];exact this
  have v:o.length=n:=by have:=B.len;simpa [aJ] using this
  have E:((aF X).zip o).length=n:=by rw[List.length_zip];omega
  by_cases d:i<n
  ·simp only[go_sem,d];unfold zhk;have p1:=(hf.get pb m e.2.1).trans D;have x1:=(hf.get r s e.1).trans O;obtain⟨b,q1,H2,l,e2,g2,f2,n2⟩:=hg.set1 d (j:=0) om ((aF X).zip o)[i].1.1.v;have F:b=f/\q1=i*3:=by rw[vL _ _ _ _ _ _ _ _ d,qg]at l;injection l with l;injection l with a b;exact⟨a.symm,b.symm⟩
   obtain⟨rfl,rfl⟩:=F;simp only[go_sem,p1,x1,l];have G:∀ H',Fm No H H'->Fm (fun c=>c=b) Hb H':=fun H' f'=>hf.then f' fun _ _ h=>absurd h id;refine aT ?_;refine Ok.iD (z96 M (k:=j) N (u _ (G _ (by exact Fm.refl _ _))) A (i:=i) om) ?_;rintro _ T ⟨rfl,f4⟩;have p:=(show Fm No H _ by exact Fm.refl _ _).trans f4;have I:=G T p;have P:=(I.get pb m e.2.1).trans D;have g4:=hg.fm p (fun _ _ h=>h);obtain⟨b4,q4,H5,x,L,g5,U,n5⟩:=g4.set1 d (j:=0) om (aF X)[i].1.v;rw[l]at x;injection x with x;injection x with ea eb;subst ea eb;have g:∀ c,In (AV.sl b 0 n n true) c->c=b:=fun c h=>by obtain⟨_,_,_,_,h⟩:=h;cases h;rfl
   have R:=(U.get pb (by have:=I.nx;omega) (fun h=>e.2.1 (g _ h))).trans P;unfold SS.v at L g5;rw[zt]at L;unfold SS.v;obtain⟨b5,q5,H6,y,V,g6,W,n6⟩:=g5.set1 d (j:=1) om (aF X)[i].2.v;rw[l]at y;injection y with y;injection y with ea eb;subst ea eb;have p6:=(W.get pb (by have:=I.nx;omega) (fun h=>e.2.1 (g _ h))).trans R;obtain⟨b6,q6,H7,z,e7,g7,f7,n7⟩:=g6.set1 d (j:=2) om (iN ((o.getD i 0)));rw[l]at z;injection z with z;injection z with ea eb;subst ea eb;have w:Fm (fun c=>c=b) Hb H6:=((G T p).then U fun c _ h=>g c h).then W fun c _ h=>g c h;obtain⟨vb,vo,v1,_,Y⟩:=((B.fm w t).rl).at' i (by rw[mP];omega);have J:(aJ o)[i]'(by rw[mP];omega)=iN ((o.getD i 0)):=by simp[aJ,gy,v,d]
   rw[J]at Y;unfold SS.v at V g6;have cp:=z97 (k:=j) om e7;simp only[go_sem,seval,P,l,L,R,V,p6,v1,Y,cp];unfold zhl;refine aT ?_;have K:=w.then f7 fun c _ h=>g c h;have hz:((aF X).zip o)[i]=((aF X)[i],o.getD i 0):=by simp[gy,v,d]
   have S:=zry (ps:=(aF X).zip o) (i:=i) om;rw[hz]at S;refine q7c M N Z A hn B O s D m e t u hq k (i+1) H7 om om ?_ K;rw[<-S];exact g7
  ·simp only[go_sem,d];have he:i=n:=om;subst he;have:stL ((aF X).zip o) i=((aF X).zip o).flatMap stC:=by
    unfold stL;rw[tq om,E,og];simp
   simp_all
theorem z94(E:iQ C)(J:qer C)(K:pJ C)(L:qbv C)(M:oL LA LO C){k:Nat}(N:1003<=k){H:Hp}{sv:AV}(t:bY H sv X)(h:SOK X):Ok (C k (.f 119) [.agg [sv]] H) fun r H'=>∃ y o,r=.bA [.agg [y],iN 0]/\Gl 3 H' y (aF X).length (((aF X).zip o).flatMap stC)/\vT y=true/\aHU X o/\Fm No H H':=by
 have hm:=h.len;obtain⟨j,rfl⟩:=aP N;rw[lk (zrj ..)];unfold zAd z10;refine aT ?_;have f:Fm No H (aI (aI H (aB 0 [sv])) (aB 0 [.aA])):=fm;refine Ok.ve (zyd E J (k:=j) om (t.fm f) h.val) ?_;rintro _ H1 ⟨Z,rfl,hg,_,s,_⟩;have O:=s.nx;simp only[np]at O;have P:H1.get H.nx=aB 0 [sv]:=(s.keep g1).trans g6;have Q:H1.get (H.nx+1)=aB 0 [.aA]:=(s.keep gz).trans g5;refine aT ?_;unfold zhi;have F:Fm No H1 ((aI H1 (aB 0 [iN 0,.aA])).put H1.nx (aB 0 [iN ((aF X).length),Z])):=fm;refine aT ?_;refine Ok.ve (zm5 K L M (k:=j) om h (hg.fm F)) ?_;rintro _ a ⟨I,w,o,rfl,D,_,p⟩;have R:=I.nx;simp only[np,nq]at R;have g:=F.trans I;refine aT ?_;unfold zhj;have z:=D.bM;have S:=qc9 [zS,zS,iN 0] 40 a.nx (aF X).length om om;refine eF z S ?_;unfold zhm;rw[dD];generalize b:(aI (aI a (aB 0 (aS [zS,zS,iN 0] (aF X).length))) (aB 0 [.aA])).put (a.nx+1) (aB 0 [.sl a.nx 0 (aF X).length (aF X).length true])=Hz;have q:Fm No a Hz:=by rw[<-b];exact fm
 have nz:Hz.nx=a.nx+2:=by rw[<-b];rfl
 have G:Hz.get (a.nx+1)=aB 0 [.sl a.nx 0 (aF X).length (aF X).length true]:=by rw[<-b];exact dN _ _ _
 have T:Hz.get a.nx=aB 0 (aS [zS,zS,iN 0] (aF X).length):=by rw[<-b];simp(disch:=first|go_size|omega)only[go_sem,seval]
 have U:=((g.trans q).keep (show H.nx<H1.nx by omega)).trans P;have V:=((g.trans q).keep (show H.nx+1<H1.nx by omega)).trans Q;have W:o.length=(aF X).length:=p.len;have l:((aF X).zip o).length=(aF X).length:=by rw[List.length_zip];omega
 have gz:Gl 3 Hz (.sl a.nx 0 (aF X).length (aF X).length true) (aF X).length (stL ((aF X).zip o) 0):=by
  have e:stL ((aF X).zip o) 0=aS [zS,zS,iN 0] (aF X).length:=by unfold stL;rw[l,qej];rfl
  have Y:(stL ((aF X).zip o) 0).length=(aF X).length*3:=by unfold stL;rw[l];simp[stZ]
  exact⟨Y,.inr ⟨a.nx,0,true,0,_,rfl,T,gp _,by rw[e];rfl,.inl rfl,om⟩⟩
 have d:=((f.trans s).trans g).trans q;have m:∀ H',Fm (fun c=>c=a.nx) Hz H'->Fm No H H':=fun H' u=>d.then u fun c i h=>om;have n:∀ c,In w c->c≠a.nx:=fun c i=>by have:=D.lt i;omega
 refine q7c E (j:=j) om (t.fm d) h.val rfl (D.fm q fun _ _ h=>h) U om G om ⟨om,om,om⟩ n (fun H' u=>t.fm (m H' u)) (fun v g3 x=>?_) bZ 0 Hz (gp _) lf gz (Fm.refl _ _);unfold q2p;have A:=(x.get (a.nx+1) om om).trans G;have B:=(x.get (H.nx+1) om om).trans V;refine eF A B ?_;have g4:=g3.fm (show Fm (fun c=>c=H.nx+1) v (v.put (H.nx+1) (aB 0 [.sl a.nx 0 (aF X).length (aF X).length true]))from(Fm.refl _ _).put _ _ fun _=>rfl) fun c i h=>by obtain⟨_,_,_,_,i⟩:=i;cases i;omega
 exact Ok.ret ⟨_,o,rfl,g4,rfl,p,(m v x).aG _ _ om⟩
structure yL(H:Hp)(zv:AV)(X:List aQ)(o:List Nat):Prop where
 rs:Rs 3 stC H zv ((aF X).zip o)
 flat:vT zv=true
 len:o.length=(aF X).length
 n:(aF X).length<13
 lt:∀ x∈o,x<13
theorem yL.fm{H H':Hp}{a:AV}{o:List Nat}(h:yL H a X o)(f:Fm No H H'):yL H' a X o:=⟨h.rs.fm f,h.flat,h.len,h.n,h.lt⟩
variable {o:List Nat}
theorem yL.zl(h:∃ H a,yL H a X o):((aF X).zip o).length=(aF X).length:=by obtain⟨_,_,h⟩:=h;have:=h.len;simp_all
theorem yL.at'{H:Hp}{a:AV}(h:yL H a X o){i:Nat}(d:i<(aF X).length):∃b p,aH 3 a (iN i)=.val (.ptr b p)/\fD (H.get b) p 3=some [.str (aF X)[i].1.n (aF X)[i].1.a,.str (aF X)[i].2.n (aF X)[i].2.a,iN ((o.getD i 0))]:=by
 have f:=h.len;have j:((aF X).zip o).length=(aF X).length:=yL.zl ⟨_,_,h⟩;obtain⟨b,p,g,_,_,c,_⟩:=h.rs.at' i om;have e:((aF X).zip o)[i]=((aF X)[i],o.getD i 0):=by simp[gy,f,d]
 rw[e]at c;exact⟨b,p,g,c⟩
theorem q59{O:Ev.Call}{n:AV}{H0:Hp}(h:yL H0 n X o)(a b:SS){Q:pL}{qr:AV->pD}{q:pH}(y:∀ H,Fm No H0 H->cB X a b<(aF X).length->Ok (qr (iN ((o.getD (cB X a b) 0))) (iN 0) H) Q)(u:∀ H,Fm No H0 H->(a,b)∉aF X->Ok (q H) Q):∀(k i:Nat) (H:Hp),i<=(aF X).length->(aF X).length-i<k->(∀m (_:m<i) (v:m<(aF X).length),(aF X)[m]≠(a,b))->Fm No H0 H -> Ok (qw0 O qr q a.v b.v n (iN ((aF X).length)) k (iN i) H) Q
 |0,i,_,_,h,_,_=>om
 |k+1,i,H,hi,hk,hn,e=>by
  show Ok (zg3 O _ _ _ _ _ _ (qw0 O _ _ _ _ _ _ k) _ H) Q;unfold zg3;have A:=h.n;have next:i<(aF X).length->(aF X)[i]? ≠ some (a,b)->∀ H,Fm No H0 H->Ok (wE O (qw0 O qr q a.v b.v n (iN ((aF X).length)) k) (iN i) H) Q:=fun d z H e=>by
   unfold wE;refine aT ?_;refine q59 h a b y u k (i+1) H om om (fun m g v=>?_) e;by_cases x:m=i
   ·simp_all
   ·exact hn m om v
  by_cases d:i<(aF X).length
  ·simp only[go_sem,d];unfold zg1;obtain⟨D,p,s,t⟩:=(h.fm e).at' d;unfold SS.v;have w:∀ c,Fm No H0 ((aI H (aB 0 [zS,zS,iN 0])).put H.nx c):=fun c=>e.trans (by exact kP);by_cases j:(aF X)[i].1.n=a.n/\(aF X)[i].1.a=a.a
   ·have f:=yt j;by_cases l:(aF X)[i].2.n=b.n/\(aF X)[i].2.a=b.a
    ·have r:=yt l;refine jD s t f r ?_;have B:(aF X)[i]=(a,b):=Prod.ext ((oD _ _).2 j) ((oD _ _).2 l);have C:cB X a b=i:=by
      unfold cB;rw[List.findIdx_eq d];simp_all
     simp_all
    ·refine jD s t f l ?_;refine next d (fun h=>l ?_) _ (w _)
     simp_all
   ·refine iG s t j ?_;refine next d (fun h=>j ?_) _ (w _)
    simp_all
  ·simp only[go_sem,d];refine u H e fun g=>?_;obtain⟨m,g,x⟩:=ai g;exact hn m om g x
theorem z5v{k:Nat}(i:1<=k){H:Hp}{c:AV}(h:yL H c X o)(a b:SS):Ok (C k (.f 122) [.agg [c],a.v,b.v] H) fun r H'=>Fm No H H'/\((cB X a b<(aF X).length/\r=.bA [iN ((o.getD (cB X a b) 0)),iN 0])\/((a,b)∉aF X/\r=.bA [iN 0,iN 6])):=by
 obtain⟨j,rfl⟩:=aP i;rw[lk (zre ..)];unfold zAi z1v;have f:Fm No H (aI H (aB 0 [c])):=by exact jF
 have p:((aF X).zip o).length=(aF X).length:=yL.zl ⟨_,_,h⟩;have g:=h.rs.len;rw[p]at g;refine eP g ?_;unfold zw2;rw[dD];have q:=h.n;refine q59 (h.fm f) a b (fun l d e=>?_) (fun l d n=>?_) bZ 0 _ (gp _) lf (fun m s=>om) (Fm.refl _ _)
 ·exact Ok.ret ⟨f.trans d,.inl ⟨e,rfl⟩⟩
 ·unfold zg2;exact Ok.ret ⟨f.trans d,.inr ⟨n,rfl⟩⟩
def mnS(o:List Nat)(i:Nat):Nat:=jU ((o.take i).map (· +1))
theorem qq7{j:Nat}(d:1<=j){e:AV}{H0:Hp}(h:yL H0 e X o){Q:pL}{q:pD}(f:∀ H,Fm No H0 H->Ok (q (iN ((mnS o (aF X).length))) H) Q):∀(k i:Nat) (H:Hp),i<=(aF X).length->(aF X).length-i<k->Fm No H0 H -> Ok (q6m (C j) q e (iN ((aF X).length)) k (iN ((mnS o i))) (iN i) H) Q
 |0,i,_,_,h,_=>om
 |k+1,i,H,hi,hk,hf=>by
  show Ok (zg0 (C j) _ _ _ (q6m (C j) _ _ _ k) _ _ H) Q;unfold zg0;have g:=h.n;have l:=h.len;by_cases a:i<(aF X).length
  ·simp only[go_sem,a];unfold zgz;obtain⟨v,p,s,t⟩:=(h.fm hf).at' a;have m:o.getD i 0<13:=h.lt _ (qen om);refine eF s t ?_;generalize b:aI _ (aB 0 [AV.int IntKind.i64 (Int.ofNat (mnS o i)),AV.int IntKind.i64 (Int.ofNat (o.getD i 0+1))])=Hr;have n:Fm No H Hr:=by rw[<-b];exact aM9
   have r:Gl 1 Hr (.sl (H.nx+1) 0 2 2 true) 2 (aJ [mnS o i,o.getD i 0+1]):=⟨rfl,.inr ⟨H.nx+1,0,true,0,_,rfl,by rw[<-b];exact jG _ _,gp _,rfl,.inl rfl,by rw[<-b];(go_size)⟩⟩;rw[q8t (k:=j) d r.rl g3];have c:jU [mnS o i,o.getD i 0+1]=mnS o (i+1):=by unfold mnS;rw[lh om,ui];unfold jU;simp_all
   rw[c];unfold qoh;refine aT ?_;exact qq7 d h f k (i+1) Hr om om (hf.trans n)
  ·simp only[go_sem,a];have u:i=(aF X).length:=om;simp_all
def mnA(X:List aQ)(o:List Nat):Nat:=mnS o (aF X).length
theorem znj{k:Nat}(c:2<=k){H:Hp}{a:AV}(h:yL H a X o):Ok (C k (.f 120) [.agg [a]] H) fun r H'=>r=iN ((mnA X o))/\Fm No H H':=by
 obtain⟨j,rfl⟩:=aP c;rw[lk (zrd ..)];unfold zAj z1u;have f:Fm No H (aI H (aB 0 [a])):=by exact jF
 have e:((aF X).zip o).length=(aF X).length:=yL.zl ⟨_,_,h⟩;have b:=h.rs.len;rw[e]at b;refine eP b ?_;unfold zw1;rw[dD];have g:=h.n;refine qq7 (j:=j) om (h.fm f) (fun i d=>?_) bZ 0 _ (gp _) lf (Fm.refl _ _);exact Ok.ret ⟨rfl,f.trans d⟩
end Go.Di
end
noncomputable section
namespace Go.Di
open Go.Ev
inductive Fo where
 |nil
 |cons (k:Nat) (rl to:SS) (a r:Fo)
namespace Fo
def len:Fo->Nat
 |nil=>0
 |cons _ _ _ _ r=>r.len+1
def size:Fo->Nat
 |nil=>0
 |cons _ _ _ a r=>a.size+1+r.size
def depth:Fo->Nat
 |nil=>0
 |cons _ _ _ a r=>max (a.depth+1) r.depth
def lv:Fo->Nat
 |nil=>0
 |cons k _ _ a r=>(if k<4 then 1 else a.lv)+r.lv
def app:Fo->Fo->Fo
 |nil,g=>g
 |cons k rl to a r,g=>cons k rl to a (r.app g)
def spl(k:Nat):Fo->Fo
 |nil=>nil
 |cons k' rl to a r=>if k'=k/\(k=4\/k=5)then a.app (spl k r)else cons k' rl to a (spl k r)
def flat:Fo->Fo
 |nil=>nil
 |cons k rl to a r=>cons k rl to (spl k a.flat) r.flat
def no(k:Nat):Fo->Prop
 |nil=>True
 |cons k' _ _ _ r=>¬(k'=k/\(k=4\/k=5))/\r.no k
def Rt(N:SS->Prop):Fo->Prop
 |nil=>True
 |cons k rl to a r=>((k=1/\rl=sE/\to=sE/\a=nil)\/(k=2/\N rl/\to=sE/\a=nil)\/(k=3/\N rl/\N to/\a=nil)\/(k=4/\rl=sE/\to=sE/\2<=a.len)\/(k=5/\rl=sE/\to=sE/\2<=a.len)\/(k=6/\rl=sE/\to=sE/\a.len=2))/\a.Rt N/\r.Rt N
theorem aB9:∀ f:Fo,f.app nil=f
 |nil=>rfl
 |cons k rl to a r=>by rw[app,aB9 r]
theorem nK:∀ f g:Fo,(f.app g).len=f.len+g.len
 |nil,g=>by simp[app,len]
 |cons k rl to a r,g=>by simp only[app,len,nK r g];omega
theorem tO:∀ f g:Fo,(f.app g).size=f.size+g.size
 |nil,g=>by simp[app,size]
 |cons k rl to a r,g=>by simp only[app,size,tO r g];omega
theorem qG:∀ f g:Fo,(f.app g).depth=max f.depth g.depth
 |nil,g=>by simp[app,depth]
 |cons k rl to a r,g=>by simp only[app,depth,qG r g];omega
theorem aBH(N:SS->Prop):∀ f g:Fo,(f.app g).Rt N↔f.Rt N/\g.Rt N
 |nil,g=>by simp[app,Rt]
 |cons k rl to a r,g=>by simp only[app,Rt,aBH N r g];exact⟨fun⟨a,b,c,d⟩=>⟨⟨a,b,c⟩,d⟩,fun⟨⟨a,b,c⟩,d⟩=>⟨a,b,c,d⟩⟩
theorem sP(k:Nat):∀ f:Fo,(spl k f).size<=f.size
 |nil=>lu _
 |cons k' rl to a r=>by
  have:=sP k r;unfold spl;split
  ·rw[tO];simp only[size];omega
  ·simp only[size];omega
theorem qxm(k:Nat):∀ f:Fo,(spl k f).depth<=f.depth
 |nil=>lu _
 |cons k' rl to a r=>by
  have:=qxm k r;unfold spl;split
  ·rw[qG];simp only[depth];omega
  ·simp only[depth];omega
theorem kH:∀ f:Fo,f.flat.size<=f.size
 |nil=>lu _
 |cons k rl to a r=>by have:=kH a;have:=kH r;have:=sP k a.flat;simp only[flat,size];omega
theorem nW:∀ f:Fo,f.flat.depth<=f.depth
 |nil=>lu _
 |cons k rl to a r=>by have:=nW a;have:=nW r;have:=qxm k a.flat;simp only[flat,depth];omega
theorem dK:∀ f:Fo,f.flat.len=f.len
 |nil=>rfl
 |cons k rl to a r=>by simp only[flat,len,dK r]
theorem zxk(k:Nat):∀ f:Fo,f.no k->spl k f=f
 |nil,_=>rfl
 |cons k' rl to a r,⟨h1,h2⟩=>by unfold spl;rw[pg h1,zxk k r h2]
theorem aAL(N:SS->Prop)(k:Nat):∀ f:Fo,f.Rt N->(spl k f).Rt N/\f.len<=(spl k f).len
 |nil,_=>⟨trivial,lu _⟩
 |cons k' rl to a r,⟨b,h2,h3⟩=>by
  obtain⟨c,d⟩:=aAL N k r h3;unfold spl;split
  ·next h=>refine⟨(aBH _ _ _).2 ⟨h2,c⟩,?_⟩;rw[nK];simp only[len];rcases b with b|b|b|b|b|b<;>omega
  ·exact⟨⟨b,h2,c⟩,by simp only[len];omega⟩
theorem o8(N:SS->Prop):∀ f:Fo,f.Rt N->f.flat.Rt N
 |nil,_=>trivial
 |cons k rl to a r,⟨b,h2,h3⟩=>by
  have e:=o8 N a h2;have i:=o8 N r h3;obtain⟨j1,j2⟩:=aAL N k _ e;rw[dK]at j2;refine⟨?_,j1,i⟩;have j:k=6->spl k a.flat=a.flat:=fun h=>zxk k _ (by
   subst h;generalize a.flat=g
   induction g with
   |nil=>trivial
   |cons _ _ _ _ _ _ ih=>exact⟨om,ih⟩)
  rcases b with⟨rfl,b,c,rfl⟩|⟨rfl,b,c,rfl⟩|⟨rfl,b,c,rfl⟩|⟨rfl,b,c,d⟩|⟨rfl,b,c,d⟩|⟨rfl,b,c,d⟩
  ·exact .inl ⟨rfl,b,c,rfl⟩
  ·exact .inr (.inl ⟨rfl,b,c,rfl⟩)
  ·exact .inr (.inr (.inl ⟨rfl,b,c,rfl⟩))
  ·exact .inr (.inr (.inr (.inl ⟨rfl,b,c,om⟩)))
  ·exact .inr (.inr (.inr (.inr (.inl ⟨rfl,b,c,om⟩))))
  ·exact .inr (.inr (.inr (.inr (.inr ⟨rfl,b,c,by rw[j rfl,dK];exact d⟩))))
def ixs:Fo->Nat->List Nat
 |nil,_=>[]
 |cons _ _ _ a r,p=>p::ixs r (p+1+a.size)
theorem aCa:∀(f:Fo) (p:Nat),(ixs f p).length=f.len
 |nil,_=>rfl
 |cons _ _ _ a r,p=>by rw[ixs,pq,aCa r,len]
end Fo
structure TN where
 k:Nat
 rl:SS
 to:SS
 args:List Nat
 leaf:Option Nat
namespace Fo
def eO:Fo->Nat->Nat->List TN
 |nil,_,_=>[]
 |cons k rl to a r,p,c=>⟨k,rl,to,ixs a (p+1),if k<4 then some c else none⟩::(eO a (p+1) c++eO r (p+1+a.size) (c+if k<4 then 1 else a.lv))
theorem oM:∀(f:Fo) (p c:Nat),(eO f p c).length=f.size
 |nil,_,_=>rfl
 |cons k rl to a r,p,c=>by rw[eO,pq,lL,oM a,oM r,size];omega
end Fo
end Go.Di
end
noncomputable section
namespace Go.Di
open Go.Ev
variable {H H' H0:Hp} {S:Nat->Prop} {av nv w:AV} {b j n o z:Nat} {cs l:List AV} {neg:Bool}
attribute [go_sem] qsu q9e zxq qry qxg qzk aL5
def iI(P:Nat->Prop)(H:Hp):Fo->List AV->Prop
 | .nil,cs=>cs=[]
 | .cons k rl to a r,cs=>∃ av ca cr,cs=uN k::rl.v::to.v::av::cr/\Gl 4 H av a.len ca/\(∀b,In av b->P b)/\iI P H a ca/\iI P H r cr
theorem iI.dP{P S:Nat->Prop}{H H':Hp}(f:Fm S H H')(a:∀ b,P b->¬ S b):∀{g:Fo} {cs:List AV},iI P H g cs->iI P H' g cs
 | .nil,_,h=>h
 | .cons _ _ _ _ _,_,⟨av,ca,cr,h1,h2,h3,h4,h5⟩=>⟨av,ca,cr,h1,h2.fm f fun b c=>a b (h3 b c),h3,iI.dP f a h4,iI.dP f a h5⟩
theorem iI.fm{P:Nat->Prop}(f:Fm No H H'){g:Fo}(h:iI P H g cs):iI P H' g cs:=h.dP f fun _ _ h=>h
theorem iI.mono{P Q:Nat->Prop}{H:Hp}(a:∀ b,b<H.nx->P b->Q b):∀{g:Fo} {cs:List AV},iI P H g cs->iI Q H g cs
 | .nil,_,h=>h
 | .cons _ _ _ _ _,_,⟨av,ca,cr,h1,h2,h3,h4,h5⟩=>⟨av,ca,cr,h1,h2,fun b c=>a b (h2.lt c) (h3 b c),iI.mono a h4,iI.mono a h5⟩
theorem iI.len{P:Nat->Prop}{H:Hp}:∀{g:Fo} {cs:List AV},iI P H g cs->cs.length=g.len*4
 | .nil,_,h=>by rw[show _=_ from h];rfl
 | .cons _ _ _ _ _,_,⟨av,ca,cr,h1,_,_,_,h5⟩=>by rw[h1];have:=iI.len h5;simp[Fo.len,this];omega
theorem iI.app{P:Nat->Prop}{H:Hp}:∀{f g:Fo} {cs ds:List AV},iI P H f cs->iI P H g ds->iI P H (f.app g) (cs++ds)
 | .nil,_,_,_,h,h'=>by rw[show _=_ from h];exact h'
 | .cons _ _ _ _ _,_,_,_,⟨av,ca,cr,h1,h2,h3,h4,h5⟩,h'=>⟨av,ca,_,by rw[h1];rfl,h2,h3,h4,iI.app h5 h'⟩
structure GrF(X:Nat->Prop)(H0 H:Hp)(w:AV)(g:Fo):Prop where
 ex:∃ cs,Gl 4 H w g.len cs/\iI (fun b=>H0.nx<=b/\¬ In w b/\¬ X b) H g cs
 nw:∀ b,In w b->H0.nx<=b/\¬ X b
theorem notNil(b:Nat):¬ In .aA b:=fun h=>by obtain⟨_,_,_,_,h⟩:=h;cases h
theorem GrF.nil(X:Nat->Prop)(H0 H:Hp):GrF X H0 H .aA .nil:=⟨⟨[],Gl.nil 4 H,rfl⟩,fun b h=>absurd h (notNil b)⟩
theorem GrF.dP{X S:Nat->Prop}{g:Fo}(h:GrF X H0 H w g)(f:Fm S H H')(i:∀ b,S b->X b\/b<H0.nx):GrF X H0 H' w g:=by
 obtain⟨cs,d,c⟩:=h.ex;have e:∀ b,H0.nx<=b->¬ X b->¬ S b:=fun b d c j=>by
  rcases i b j with h|h
  ·exact c h
  ·omega
 exact⟨⟨cs,d.fm f fun b a=>e b (h.nw b a).1 (h.nw b a).2,c.dP f fun b a=>e b a.1 a.2.2⟩,h.nw⟩
theorem GrF.no{X:Nat->Prop}{g:Fo}(h:GrF X H0 H w g)(f:Fm No H H'):GrF X H0 H' w g:=h.dP f fun _ h=>h.elim
theorem GrF.add{X:Nat->Prop}{g f:Fo}{d:List AV}(h:GrF X H0 H w g)(l:iI (fun b=>H0.nx<=b/\¬ In w b/\¬ X b) H f d)(n:∀ b,X b->b<H.nx)(o:H0.nx<=H.nx)(p:0<f.len)(u:g.len+f.len<=100000):Ok (iM 4 64 H w (some ⟨f.len,d⟩)) fun v H'=>GrF X H0 H' v (g.app f)/\Fm (In w) H H'/\H'.nx=H.nx+1/\v=.sl H.nx 0 (g.len+f.len) (g.len+f.len) false:=by
 obtain⟨cs,r,s⟩:=h.ex;obtain⟨H',e,t,_,m,nx'⟩:=r.append (k:=f.len) (w:=64) (x:=d) p l.len om om;refine⟨_,H',e,⟨⟨cs++d,by rw[Fo.nK];exact t,?_⟩,fun b j=>?_⟩,m,nx',rfl⟩
 ·have i:iI (fun b=>H0.nx<=b/\¬ In w b/\¬ X b) H (g.app f) (cs++d):=s.app l;refine(i.mono (Q:=fun b=>H0.nx<=b/\¬ In w b/\¬ X b/\b<H.nx) fun b j a=>⟨a.1,a.2.1,a.2.2,j⟩).dP m (fun b a=>a.2.1) |>.mono fun b _ a=>⟨a.1,fun c=>?_,a.2.2.1⟩;obtain⟨_,_,_,_,c⟩:=c;simp_all
 ·obtain⟨_,_,_,_,c⟩:=j;injection c with c;subst c;exact⟨o,fun q=>by have:=n _ q;omega⟩
theorem Gl.src{v:AV}(h:Gl z H v n l):lY z H v=some ⟨n,l⟩:=by
 have a:=h.len;rcases h.is with⟨rfl,rfl⟩|⟨b,o,e,q,L,rfl,d,g,c,i,j⟩
 ·have:l=[]:=tu.1 (by rw[a];simp);subst this;rfl
 ·have f:o+n*z=L.length:=by rw[<-c,vz]at a;omega
  rw[zi1 z H b o n n e q L d om,c,tq om]
theorem iI.one{P:Nat->Prop}{f:Fo}(h:iI P H f cs)(c:f.len=1):∃ k rl to a av ca,f=.cons k rl to a .nil/\cs=[uN k,.str rl.n rl.a,.str to.n to.a,av]/\Gl 4 H av a.len ca/\(∀b,In av b->P b)/\iI P H a ca:=by
 cases f with
 |nil=>cases c
 |cons k rl to a r=>
  cases r with
  |nil=>obtain⟨av,ca,d,e,g,i,j,l⟩:=h;obtain rfl:d=[]:=l;exact⟨k,rl,to,a,av,ca,rfl,e,g,i,j⟩
  |cons _ _ _ _ _=>simp[Fo.len]at c
theorem Gl.rule{P:Nat->Prop}{v:AV}{n i k:Nat}{rl to:SS}{a r:Fo}{pre c:List AV}(h:Gl 4 H v n (pre++c))(e:pre.length=i*4)(q:iI P H (.cons k rl to a r) c):i<n/\∃ b o av ca f,aH 4 v (iN i)=.val (.ptr b o)/\b<H.nx/\In v b/\fD (H.get b) o 4=some [uN k,.str rl.n rl.a,.str to.n to.a,av]/\bX (H.get b) (o+3)=.val av/\c=uN k::rl.v::to.v::av::f/\Gl 4 H av a.len ca/\(∀b,In av b->P b)/\iI P H a ca/\iI P H r f /\ ∀j x,[uN k,.str rl.n rl.a,.str to.n to.a,av][j]? =some x->bX (H.get b) (o+j)=.val x:=by
 obtain⟨av,ca,f,d,t,u,w,y⟩:=q;have g:=h.len;have l:i<n:=by rw[lL,e,d]at g;simp only[pq]at g;omega
 obtain⟨b,o,z,A,B,C,p⟩:=h.oZ l;refine⟨l,b,o,av,ca,f,z,A,B,?_,?_,d,t,u,w,y,fun j x s=>?_⟩
 ·rw[C,<-e,List.drop_left,d];rfl
 ·rw[p 3 om,<-e,gy,uh om,yx,d];rfl
 ·have m:j<4:=by
   rcases cu j 4 with h|h
   ·exact h
   ·simp_all
  rw[p j m,<-e,gy,uh om,yx,d]
  match j,m with
  |0,_|1,_|2,_|3,_=>cases s;rfl
theorem Fo.vY:∀ f g h:Fo,(f.app g).app h=f.app (g.app h)
 | .nil,_,_=>rfl
 | .cons k rl to a r,g,h=>by rw[Fo.app,Fo.app,Fo.app,Fo.vY r g h]
theorem Fo.mI:∀ f:Fo,f.len<=f.size
 | .nil=>lu _
 | .cons k rl to a r=>by have:=Fo.mI r;simp only[Fo.len,Fo.size];omega
abbrev Key:=Nat×SS×SS×List Nat
def Fo.kys:Fo->Nat->List Key
 | .nil,_=>[]
 | .cons k rl to a r,p=>(k,rl,to,a.ixs (p+1))::(a.kys (p+1)++r.kys (p+1+a.size))
theorem Fo.oN:∀(f:Fo) (p:Nat),(f.kys p).length=f.size
 | .nil,_=>rfl
 | .cons k rl to a r,p=>by rw[Fo.kys,pq,lL,oN a,oN r,Fo.size];omega
structure NE where
 k:Nat
 rl:SS
 to:SS
 args:List Nat
 av:AV
 ng:Bool
def neC(x:NE):List AV:=[uN x.k,x.rl.v,x.to.v,x.av,.bool x.ng]
theorem zki(x:NE):(neC x).length=5:=rfl
def NE.key(x:NE):Key:=(x.k,x.rl,x.to,x.args)
structure NE.Ar(P:Nat->Prop)(H:Hp)(x:NE):Prop where
 gl:Gl 1 H x.av x.args.length (aJ x.args)
 nw:∀ b,In x.av b->P b
theorem NE.Ar.fm{P Q S:Nat->Prop}{x:NE}(h:x.Ar P H)(f:Fm S H H')(d:∀ b,b<H.nx->P b->¬ S b)(e:∀ b,b<H.nx->P b->Q b):x.Ar Q H':=
 ⟨h.gl.keep f.nx fun b a c=>f.get b c (d b c (h.nw b a)),fun b a=>e b (h.gl.lt a) (h.nw b a)⟩
theorem zxw(a:AV):∀(l:List NE) (i:Nat) (x:NE),l[i]? =some x->aZ (l.flatMap neC) (i*5+3) [a]=(l.set i ⟨x.k,x.rl,x.to,x.args,a,x.ng⟩).flatMap neC
 | [],_,_,h=>by simp at h
 |y::l,0,x,h=>by
  obtain rfl:y=x:=by simpa using h
  simp[aZ,neC]
 |y::l,i+1,x,h=>by
  have:=zxw a l i x (by simpa using h);rw[lE0,uA,uA,<-this];unfold aZ;have e:(i+1)*5+3=(neC y).length+(i*5+3):=by rw[zki];omega
  rw[e,zx,qw,qw];congr 1;rw[qw];congr 2;rw[uu,zy]
theorem set_mid{α:Type}(lo a:List α)(h x:α):(lo++[h]++a).set lo.length x=lo++([x]++a):=by rw[qw,List.set_append_right _ _ (lu _),og];rfl
theorem iI.flat{P:Nat->Prop}{H:Hp}:∀{g:Fo} {cs:List AV},iI P H g cs->cs.all vT=true
 | .nil,_,h=>by rw[show _=_ from h];rfl
 | .cons _ _ _ _ _,_,⟨av,ca,cr,h1,h2,_,_,h5⟩=>by rw[h1];simp only[lA6,iI.flat h5,Gl.flat h2];rfl
attribute [go_sem] zx0 q8k zlu
theorem zuv{k:Nat}(a:1<=k){v:AV}(h:Gl 4 H v n l):∃w,C k (.f 194) [v] H=.ok w H/\Gl 4 H w n l/\dU w=.val (iN n)/\(∀b,In w b->In v b):=by obtain⟨j,rfl⟩:=aP a;obtain⟨w,e,c,d,f⟩:=h.clip;refine⟨w,?_,c,d,f⟩;rw[lk (zn2 ..)];unfold zHx zyx;simp only[go_sem,h.bM,e]
def aGn(k:Nat)(rl to:SS)(m:Nat):Prop:=(k=1/\rl=sE/\to=sE/\m=0)\/(k=2/\Nm rl/\to=sE/\m=0)\/(k=3/\Nm rl/\Nm to/\m=0)\/((k=4\/k=5)/\rl=sE/\to=sE/\2<=m)\/(k=6/\rl=sE/\to=sE/\m=2)
theorem Fo.Rt.one{k:Nat}{rl to:SS}{a r:Fo}(h:(Fo.cons k rl to a r).Rt Nm):aGn k rl to a.len:=by
 rcases h.1 with⟨b,c,d,rfl⟩|⟨b,c,d,rfl⟩|⟨b,c,d,rfl⟩|⟨b,c,d,e⟩|⟨b,c,d,e⟩|⟨b,c,d,e⟩
 ·exact .inl ⟨b,c,d,rfl⟩
 ·exact .inr (.inl ⟨b,c,d,rfl⟩)
 ·exact .inr (.inr (.inl ⟨b,c,d,rfl⟩))
 ·exact .inr (.inr (.inr (.inl ⟨.inl b,c,d,e⟩)))
 ·exact .inr (.inr (.inr (.inl ⟨.inr b,c,d,e⟩)))
 ·exact .inr (.inr (.inr (.inr ⟨b,c,d,e⟩)))
theorem zlq(l:iQ C){k:Nat}(y:2<=k){b o kd m:Nat}{rl to:SS}(e:rM H b o [uN kd,.str rl.n rl.a,.str to.n to.a,av])(f:aD av=.val (iN m))(t:aGn kd rl to m):Ok (C k (.f 228) [.ptr b o] H) fun v H'=>v=iN 0/\Fm No H H':=by
 obtain⟨j,rfl⟩:∃ j,k=j+1+1:=⟨k-2,om⟩;rw[lk (q5l ..)];unfold zDb zpo;have u:=e.lt;have a:bX (H.get b) o=.val (uN kd):=e.at' 0 g3;have c:bX (H.get b) (o+1)=.val (.str rl.n rl.a):=e.at' 1 g3;have d:bX (H.get b) (o+2)=.val (.str to.n to.a):=e.at' 2 g3;have g:bX (H.get b) (o+3)=.val av:=e.at' 3 g3;rcases t with⟨rfl,rfl,rfl,rfl⟩|⟨rfl,i,rfl,rfl⟩|⟨rfl,i,s,rfl⟩|⟨q,rfl,rfl,x⟩|⟨rfl,rfl,rfl,rfl⟩
 ·unfold sE at c d;refine siG a c d g f and_self ?_;unfold qc0;refine iG a qdx and_self ?_;unfold qd3 jW;exact Ok.ret ⟨rfl,fm⟩
 ·have n:=i.ne;have h:=(l j).r rl i;unfold SS.v at h;refine siH a c d g f n and_self ?_;unfold qc0;refine jD a c qdx h ?_;unfold qd3 jW;exact Ok.ret ⟨rfl,fm⟩
 ·have n:=i.ne;have w:=s.ne;have h:=(l j).r rl i;have r:=(l j).r to s;unfold SS.v at h r;refine siH a c d g f n w ?_;unfold qc0;refine siG a c d qdx h r ?_;unfold qd3 jW;exact Ok.ret ⟨rfl,fm⟩
 ·unfold sE at c d;have p:=yt x;rcases q with rfl|rfl<;>(
   refine siG a c d g f and_self ?_;unfold qn1;refine eP p ?_;unfold qc0;refine iG a qdx and_self ?_;unfold qd3 jW;exact Ok.ret ⟨rfl,fm⟩)
 ·unfold sE at c d;refine siG a c d g f and_self ?_;unfold qn1;unfold qc0;refine iG a qdx and_self ?_;unfold qd3 jW;exact Ok.ret ⟨rfl,fm⟩
structure WkF(H:Hp)(nb db fb vb:Nat)(l:List NE)(nv:AV)(d:Nat):Prop where
 n:H.get nb=aB 0 [nv]
 d:H.get db=aB 0 [iN d]
 f:H.get fb=aB 0 [iN 0]
 v:H.get vb=aB 0 [.fn 227 [] [.ptr nb 0,.ptr db 0,.ptr fb 0,.ptr vb 0]]
 o:nb<db/\db<fb/\fb<vb/\vb<H.nx
 gl:Gl 5 H nv l.length (l.flatMap neC)
 nin:∀ c,In nv c->vb<c
def aXH(C:Nat->Ev.Call)(a:Fo)(k:Nat):Prop:=
 ∀(b o lv kd:Nat) (rl to:SS) (av:AV) (neg:Bool) (H:Hp) (nb db fb vb:Nat) (lo:List NE) (nv:AV) (d:Nat) (ca:List AV),WkF H nb db fb vb lo nv d->rM H b o [uN kd,.str rl.n rl.a,.str to.n to.a,av]->b<nb->Gl 4 H av a.len ca->(∀b,In av b->b<nb)->iI (· < nb) H a ca ->
  aGn kd rl to a.len->a.Rt Nm->lv+a.depth<=8->lo.length+a.size<32->d<=8 ->
  Ok (C k (.f 227) [.ptr b o,iN lv,.bool neg,.ptr nb 0,.ptr db 0,.ptr fb 0,.ptr vb 0] H) fun v H'=>v=.bool true/\∃ ln sW d',WkF H' nb db fb vb (lo++ln) sW d'/\ln.map NE.key=(Fo.cons kd rl to a .nil).kys lo.length/\(∀e∈ln,e.Ar (fun c=>H.nx<=c/\¬ In sW c) H')/\d'<=8/\Fm (WkS nb db fb nv) H H'/\∀ c,In sW c->H.nx<=c
theorem qza(U:iQ C)(V:2<=j){b o lv:Nat}{nb g fb vb:Nat}{l:List NE}{d:Nat}{kd m:Nat}{rl to:SS}(i:WkF H nb g fb vb l nv d)(q:rM H b o [uN kd,.str rl.n rl.a,.str to.n to.a,av])(r:aD av=.val (iN m))(W:aGn kd rl to m)(hb:b<nb)(X:lv<=8)(Y:l.length<32)(hd:d<=8){Q:pL}(Z:∀ H' w O,WkF H' nb g fb vb (l++[⟨kd,rl,to,[],.aA,neg⟩]) w O->O<=8->Fm (WkS nb g fb nv) H H'->(∀c,In w c->H.nx<=c) -> Ok (qke (C j) (fun z H=>.ok z H) (fun bI H=>qgg (C j) (.ptr nb 0) (iN (l.length)) bI H) (.ptr b o) (iN lv) (.bool neg) (.ptr nb 0) (.ptr vb 0) (iN m) .aA (iN 0) H') Q):Ok (q9s (C j) (.ptr b o) (iN lv) (.bool neg) (.ptr nb 0) (.ptr g 0) (.ptr fb 0) (.ptr vb 0) H) Q:=by
 unfold q9s;obtain⟨o1,o2,o3,o4⟩:=i.o;have P:=i.n;have ed:=i.d;have R:=i.f;have y:=i.gl.bM;have B:¬ l.length=32:=om;have h8:¬ 8<lv:=om;have t:∀ c,c<=vb->¬ In nv c:=fun c a h=>by have:=i.nin c h;omega
 refine jD P y B h8 ?_;unfold q1b;refine eF ed R ?_;have S:Fm (fun c=>c=g) H (H.put g (aB 0 [iN ((max d lv))])):=(Fm.refl _ _).put _ _ fun _=>rfl;refine Ok.ve (zlq U (k:=j) V (q.keep S.nx (S.get _ om om)) r W) ?_;rintro _ e ⟨rfl,M⟩;have n2:H.nx<=e.nx:=M.nx;have d2:e.get g=aB 0 [iN ((max d lv))]:=(M.keep (show g<H.nx by omega)).trans (dN _ _ _);have p:∀ c,c<H.nx->c≠g->e.get c=H.get c:=fun c h1 A=>(M.keep (show c<H.nx by omega)).trans (dO _ _ _ _ A);have D:=(p fb om om).trans R;refine eP D ?_;unfold qtj;have u:=(p nb om om).trans P;have E:=(p vb om om).trans i.v;have n:=p b om om;have r0:bX (e.get b) o=.val (uN kd):=by rw[n];exact q.at' 0 g3
 have r1:bX (e.get b) (o+1)=.val (.str rl.n rl.a):=by rw[n];exact q.at' 1 g3
 have r2:bX (e.get b) (o+2)=.val (.str to.n to.a):=by rw[n];exact q.at' 2 g3
 have r3:bX (e.get b) (o+3)=.val av:=by rw[n];exact q.at' 3 g3
 refine nI u y r0 r1 r2 ?_;have hlt:∀ c,In nv c->c<H.nx:=fun c a=>i.gl.lt a;have g2:Gl 5 ((Hp.mk (e.put fb (aB 0 [iN 0])).t (e.nx+18)).put (e.nx+15) (aB 0 [uN kd,.str rl.n rl.a,.str to.n to.a,.aA,.bool neg])) nv l.length (l.flatMap neC):=by refine i.gl.keep (show H.nx<=e.nx+18 by omega) fun c a y=>?_;have:=i.nin c a;rw[dO _ _ _ _ om];show(e.put fb _).get c=_;rw[dO _ _ _ _ om];exact p c y om
 obtain⟨v,T,g3,q3,N,n3⟩:=g2.append (k:=1) (w:=72) (x:=[uN kd,.str rl.n rl.a,.str to.n to.a,.aA,.bool neg]) om rfl om om;simp only[nq]at T g3 q3 n3 N;refine Ok.uU T ?_;have f:∀ c,c<e.nx->c≠fb->¬ In nv c->v.get c=e.get c:=fun c h1 A h3=>by refine(N.get c (show c<e.nx+18 by omega) h3).trans ?_;rw[dO _ _ _ _ om];show(e.put fb _).get c=_;rw[dO _ _ _ _ A]
 have F:v.get fb=aB 0 [iN 0]:=by refine(N.get fb (show fb<e.nx+18 by omega) (t _ om)).trans ?_;rw[dO _ _ _ _ om];exact dN _ _ _
 have G:=(f nb om om (t _ om)).trans u;have I:=(f g om om (t _ om)).trans d2;have J:=(f vb om om (t _ om)).trans E;have K:=f b om om (t _ om);have L:bX (v.get b) (o+3)=.val av:=by rw[K];exact r3
 refine iG G L r ?_;refine Z _ _ (max d lv) ⟨dN _ _ _,?_,?_,?_,⟨o1,o2,o3,show vb<v.nx by omega⟩,?_,?_⟩ om ⟨show H.nx<=v.nx by omega,fun c a s=>?_⟩ ?_
 ·rw[dO _ _ _ _ om];exact I
 ·rw[dO _ _ _ _ om];exact F
 ·rw[dO _ _ _ _ om];exact J
 ·rw[lL,qy,ry];exact g3.keep (lu _) fun c a _=>by obtain⟨_,_,_,_,a⟩:=a;injection a with a;rw[dO _ _ _ _ om]
 ·rintro c ⟨_,_,_,_,a⟩;injection a with a;omega
 ·unfold WkS at s;rw[dO _ _ _ _ (fun h=>s (.inl h))];exact(f c om (fun h=>s (.inr (.inr (.inl h)))) fun h=>s (.inr (.inr (.inr h)))).trans (p c a fun h=>s (.inr (.inl h)))
 ·rintro c ⟨_,_,_,_,a⟩;injection a with a;omega
theorem za2(E:1<=j){nb q fb vb:Nat}{lo i:List NE}{d:Nat}{kd:Nat}{rl to:SS}(a:WkF H nb q fb vb (lo++[⟨kd,rl,to,[],.aA,neg⟩]++i) nv d){x:AV}{xs:List Nat}(F:Gl 1 H x xs.length (aJ xs))(s:∀ c,In x c->¬ In nv c):Ok (qgg (C j) (.ptr nb 0) (iN (lo.length)) x H) fun r H'=>r=.bool true/\∃ t,WkF H' nb q fb vb (lo++(⟨kd,rl,to,xs,t,neg⟩::i)) nv d/\Gl 1 H' t xs.length (aJ xs)/\(∀c,In t c->In x c)/\Fm (In nv) H H':=by
 unfold qgg;obtain⟨w,e,A,_,l⟩:=qwb (k:=j) E F;have u:=a.n;have z:=wV (Gl.flat a.gl) 63;have v:lo.length<(lo++[(⟨kd,rl,to,[],.aA,neg⟩:NE)]++i).length:=g3;obtain⟨b,o,H',B,D,g,f,nx⟩:=a.gl.set1 v (j:=3) om w;rw[zxw w _ lo.length ⟨kd,rl,to,[],.aA,neg⟩ g3,set_mid]at g;obtain⟨G,I,J,K⟩:=a.o;have p:∀ c,c<=vb->¬ In nv c:=fun c y h=>by have:=a.nin c h;omega
 have fin:WkF H' nb q fb vb (lo++(⟨kd,rl,to,xs,w,neg⟩::i)) nv d:=by
  refine⟨(f.get _ om (p _ om)).trans a.n,(f.get _ om (p _ om)).trans a.d,(f.get _ om (p _ om)).trans a.f,(f.get _ om (p _ om)).trans a.v,⟨G,I,J,om⟩,?_,a.nin⟩;have:(lo++([(⟨kd,rl,to,[],w,neg⟩:NE)]++i)).flatMap neC=(lo++(⟨kd,rl,to,xs,w,neg⟩::i)).flatMap neC:=by simp[neC]
  rw[<-this];have m:(lo++(⟨kd,rl,to,xs,w,neg⟩::i)).length=(lo++[(⟨kd,rl,to,[],.aA,neg⟩:NE)]++i).length:=g3;rw[m];exact g
 have n:=A.fm f fun c y=>s c (l c y);refine eP u ?_;refine Ok.uU e ?_;rcases A.is with⟨h,_⟩|⟨_,_,_,_,_,h,_⟩
 ·subst h;refine jD u z B D ?_;exact Ok.ret ⟨rfl,_,fin,n,l,f⟩
 ·subst h;refine jD u z B D ?_;exact Ok.ret ⟨rfl,_,fin,n,l,f⟩
structure VsI(nb db fb vb:Nat)(S0:Nat->Prop)(H0 H:Hp)(nv xa:AV)(lo ln:List NE)(done:List Nat)(d:Nat):Prop where
 wk:WkF H nb db fb vb (lo++ln) nv d
 fm:Fm S0 H0 H
 nw:∀ c,In nv c->H0.nx<=c
 xl:Gl 1 H xa done.length (aJ done)
 xw:∀ c,In xa c->H0.nx<=c/\¬ In nv c
 d8:d<=8
 ar:∀ e∈ln,e.Ar (fun c=>H0.nx<=c/\¬ In nv c/\¬ In xa c) H
def aM5(C:Nat->Ev.Call)(f:Fo):Prop:=
 ∀(j:Nat),f.depth+2<=j->∀(nb db fb vb:Nat) (S0:Nat->Prop) (H0:Hp) (b o lv kd n i:Nat) (rl to:SS) (av:AV) (pre rest:List AV) (neg:Bool) (H:Hp) (nv xa:AV) (lo ln:List NE) (done:List Nat) (d:Nat) (qr:pD) (q:pD) (Q:pL) (k:Nat),n-i<k->n=i+f.len->done.length=i->n<=1000 ->
  (lo++ln).length+f.size<=32->lv+f.depth<=8->(∀c,S0 c->nb<=c)->S0 nb->S0 db->S0 fb->vb<H0.nx->rM H0 b o [uN kd,.str rl.n rl.a,.str to.n to.a,av]->b<nb->Gl 4 H0 av n (pre++rest)->pre.length=i*4->(∀b,In av b->b<nb)->iI (· < nb) H0 f rest->f.Rt Nm->VsI nb db fb vb S0 H0 H nv xa lo ln done d ->
  (∀sW xa' H' ln' d',VsI nb db fb vb S0 H0 H' sW xa' lo (ln++ln') (done++f.ixs (lo++ln).length) d'->ln'.map NE.key=f.kys (lo++ln).length->Ok (q xa' H') Q) ->
  Ok (qgf (C j) qr q (.ptr b o) (iN lv) (.bool neg) (.ptr nb 0) (.ptr vb 0) (iN n) k xa (iN i) H) Q
theorem qrv(E:iQ C){a:Fo}(F:aM5 C a){k:Nat}(W:a.depth+3<=k):aXH C a k:=by
 obtain⟨j,rfl⟩:∃ m,k=m+1:=⟨k-1,om⟩;intro b o lv kd rl to av neg H nb y fb vb lo nv d ca u z A B v i O P x Q R;rw[lk (qti ..)];unfold zCo;obtain⟨Y,Z,o3,S⟩:=u.o;have N:=Fo.mI a;refine qza E om u z B.bM O A om om R fun H' w G q s I J=>?_;unfold qke;rw[dD];refine F j om nb y fb vb (WkS nb y fb nv) H b o lv kd a.len 0 rl to av [] ca neg H' w .aA (lo++[⟨kd,rl,to,[],.aA,neg⟩]) [] [] G _ _ _ bZ lf om rfl om g2 x (fun c h=>?_) (.inl rfl) (.inr (.inl rfl)) (.inr (.inr (.inl rfl))) S z A B rfl v i P ⟨by rw[uf];exact q,I,J,Gl.nil 1 H',fun c h=>absurd h (notNil c),s,fun e l=>by cases l⟩ fun t K X L M f g=>?_
 ·rcases h with h|h|h|h
  ·omega
  ·omega
  ·omega
  ·have:=u.nin c h;omega
 ·simp only[yj,uf]at f g;have n:(lo++[(⟨kd,rl,to,[],.aA,neg⟩:NE)]).length=lo.length+1:=g3;rw[n]at f g;refine(za2 (j:=j) om f.wk f.xl fun c i=>(f.xw c i).2).mono ?_;rintro r H3 ⟨rfl,x',T,U,V,D⟩;refine⟨rfl,_,t,M,T,?_,?_,f.d8,f.fm.then D fun c i h=>by have:=f.nw c h;omega,f.nw⟩
  ·rw[ou,g];simp[NE.key,Fo.kys]
  ·intro e l;rcases su.1 l with rfl|l
   ·exact⟨U,fun c i=>f.xw c (V c i)⟩
   ·exact(f.ar e l).fm D (fun c _ p=>p.2.1) fun c _ p=>⟨p.1,p.2.1⟩
theorem q9w(hN:iQ C):∀ f:Fo,aM5 C f:=by
 intro f
 induction f with
 |nil=>intro j hj nb N fb vb S0 H0 b o lv kd n i rl to av pre B neg H nv xa lo p done d qr q Q k hk hn I Z P hlv s1 s2 s3 s4 hvb h4 hb hg hp J z hr A hq;obtain⟨k,rfl⟩:∃ m,k=m+1:=⟨k-1,om⟩;show Ok (qeu (C j) _ _ _ _ _ _ _ _ (qgf (C j) _ _ _ _ _ _ _ _ k) _ _ H) Q;unfold qeu;simp only[Fo.len]at hn;have M:¬ i<n:=om;refine eP M ?_;exact hq nv xa H [] d (by simpa [Fo.ixs] using A) rfl
 |cons k1 r1 t1 a r iha ihr=>
  intro j hj nb N fb vb S0 H0 b o lv kd n i rl to av pre B neg H nv xa lo p done d qr q Q k hk hn I Z P hlv s1 s2 s3 s4 hvb h4 hb hg hp J z hr A hq;obtain⟨k,rfl⟩:∃ m,k=m+1:=⟨k-1,om⟩;show Ok (qeu (C j) _ _ _ _ _ _ _ _ (qgf (C j) _ _ _ _ _ _ _ _ k) _ _ H) Q;unfold qeu;simp only[Fo.len]at hn;simp only[Fo.depth]at hj hlv;simp only[Fo.size]at P;have M:i<n:=om;refine eP M ?_;unfold qtk;have F:=A.wk;obtain⟨o1,o2,o3,o4⟩:=F.o;have e0:=F.n;have hl:=F.gl.bM;refine eF e0 hl ?_;have fp:Fm No H (aI H (aB 0 [iN ((lo++p).length)])):=fm;obtain⟨t,e2,g2,q2,f2,n2⟩:=(A.xl.no fp).append (k:=1) (w:=8) (x:=[iN ((lo++p).length)]) om rfl om om;simp only[np]at n2;rw[I]at e2 g2;refine Ok.veE e2 ?_;have n0:=A.fm.nx;have fA:Fm (In xa) H t:=(fp.mono (T:=In xa) (fun _ _ h=>absurd h id)).then f2 fun _ _ h=>h;have X:Fm S0 H0 t:=A.fm.then fA fun c z h=>by have:=(A.xw c h).1;omega
  have kx:∀ c,c<H0.nx->t.get c=H.get c:=fun c z=>fA.get c om fun h=>by have:=(A.xw c h).1;omega
  have Y:rM t b o [uN kd,.str rl.n rl.a,.str to.n to.a,av]:=h4.keep X.nx (X.get b h4.lt fun h=>by have:=s1 b h;omega);have g02:Gl 4 t av n (pre++B):=hg.fm X fun c z h=>by have:=s1 c h;have:=J c z;omega
  have c02:iI (· < nb) t (.cons k1 r1 t1 a r) B:=z.dP X fun c z h=>by have:=s1 c h;omega
  obtain⟨_,b1,p1,R,ca,cr,i1,i2,i3,i4,_,i5,c1,c2,c3,c4,i6⟩:=g02.rule hp c02;have b1n:=J b1 i3;have I2:WkF t nb N fb vb (lo++p) nv d:=⟨(kx _ om).trans F.n,(kx _ om).trans F.d,(kx _ om).trans F.f,(kx _ om).trans F.v,⟨o1,o2,o3,om⟩,F.gl.fm fA fun c z h=>(A.xw c h).2 z,F.nin⟩;have v2:=I2.v;have r0:bX (t.get b) o=.val (uN kd):=Y.at' 0 g3;have r3:bX (t.get b) (o+3)=.val av:=Y.at' 3 g3;have a4:rM t b1 p1 [uN k1,.str r1.n r1.a,.str t1.n t1.a,R]:=⟨i2,fun m hm=>i6 m _ (lq hm)⟩;have O:∀ ng:Bool,Ok (C j (.f 227) [.ptr b1 p1,iN ((lv+1)),.bool ng,.ptr nb 0,.ptr N 0,.ptr fb 0,.ptr vb 0] t) _:=fun ng=>qrv hN iha (k:=j) om b1 p1 (lv+1) k1 r1 t1 R ng t nb N fb vb (lo++p) nv d ca I2 a4 b1n c1 c2 c3 hr.one hr.2.1 om om A.d8;have fin:∀(y:Hp) (g:List NE) (l:AV) (D:Nat),WkF y nb N fb vb (lo++p++g) l D->g.map NE.key=(Fo.cons k1 r1 t1 a .nil).kys (lo++p).length->(∀e∈g,e.Ar (fun c=>t.nx<=c/\¬ In l c) y)->D<=8->Fm (WkS nb N fb nv) t y->(∀c,In l c->t.nx<=c) ->
    Ok (qgf (C j) qr q (.ptr b o) (iN lv) (.bool neg) (.ptr nb 0) (.ptr vb 0) (iN n) k (.sl (aI H (aB 0 [iN ((lo++p).length)])).nx 0 (i+1) (i+1) false) (iN ((i+1))) y) Q:=by
   intro y g l D S s u v K L;have G:∀ b,In (.sl (aI H (aB 0 [iN ((lo++p).length)])).nx 0 (i+1) (i+1) false) b->b=H.nx+1:=fun b h=>by obtain⟨_,_,_,_,h⟩:=h;injection h with h;rw[<-h];simp only[np]
   have l3:g.length=1+a.size:=by have:=congrArg List.length s;rw[pz,Fo.oN]at this;rw[this];simp only[Fo.size];omega
   refine ihr j om nb N fb vb S0 H0 b o lv kd n (i+1) rl to av (pre++[uN k1,r1.v,t1.v,R]) cr neg y l _ lo (p++g) (done++[(lo++p).length]) D qr q Q k om om (by simp[I]) Z (by simp at P ⊢;omega) om s1 s2 s3 s4 hvb h4 hb (by rw[i5]at hg;simpa using hg) (by simp[hp];omega) J ?_ hr.2.2 ⟨by rw[<-qw];exact S,X.then K fun c z h=>?_,fun c h=>by have:=L c h;omega,?_,fun c h=>?_,v,fun e U=>?_⟩ fun nv4 xa4 H4 ln4 d4 V W=>?_
   ·obtain⟨_,_,cr',e1,_,_,_,e5⟩:=z;rw[i5]at e1;simp only[List.cons.injEq]at e1;rw[e1.2.2.2.2];exact e5
   ·rcases h with h|h|h|h
    ·exact h▸s2
    ·exact h▸s3
    ·exact h▸s4
    ·have:=A.nw c h;omega
   ·have:(done++[(lo++p).length]).length=i+1:=by simp[I]
    rw[this];have e:aJ (done++[(lo++p).length])=aJ done++[iN ((lo++p).length)]:=by simp[aJ]
    rw[e];exact g2.fm K fun c z h=>by
     have:=G c z;rcases h with h|h|h|h
     ·omega
     ·omega
     ·omega
     ·have:=F.gl.lt h;omega
   ·have:=G c h;exact⟨om,fun h'=>by have:=L c h';omega⟩
   ·rcases qi.1 U with U|U
    ·refine((A.ar e U).fm (Q:=fun c=>c<H.nx/\H0.nx<=c/\¬ In nv c) fA (fun c _ E=>E.2.2) fun c hl E=>⟨hl,E.1,E.2.1⟩).fm K (fun c _ E h=>?_) fun c _ E=>⟨E.2.1,fun h=>by have:=L c h;omega,fun h=>by have:=G c h;omega⟩;rcases h with h|h|h|h
     ·omega
     ·omega
     ·omega
     ·exact E.2.2 h
    ·exact(u e U).fm (Fm.refl No y) (fun _ _ _ h=>h) fun c _ E=>⟨om,E.2,fun h=>by have:=G c h;omega⟩
   ·have l4:(lo++(p++g)).length=(lo++p).length+1+a.size:=by simp[l3];omega
    rw[l4]at V W;refine hq nv4 xa4 H4 (g++ln4) d4 ?_ ?_
    ·have:(done++[(lo++p).length])++r.ixs ((lo++p).length+1+a.size)=done++(Fo.cons k1 r1 t1 a r).ixs (lo++p).length:=by simp[Fo.ixs]
     rw[<-this,<-qw];exact V
    ·rw[ui,s,W];simp[Fo.kys]
  cases neg
  ·by_cases h6:kd=6
   ·have h6t:=yt h6;refine nI v2 r0 r3 h6t i1 ?_;refine Ok.iD (O (decide (i=1))) ?_;rintro _ y ⟨rfl,g,l,D,S,s,u,v,K,L⟩;refine aT ?_;unfold qh9;refine aT ?_;exact fin y g l D S s u v K L
   ·refine nI v2 r0 r3 h6 i1 ?_;refine Ok.iD (O false) ?_;rintro _ y ⟨rfl,g,l,D,S,s,u,v,K,L⟩;refine aT ?_;unfold qh9;refine aT ?_;exact fin y g l D S s u v K L
  ·refine jD v2 r0 r3 i1 ?_;refine Ok.iD (O true) ?_;rintro _ y ⟨rfl,g,l,D,S,s,u,v,K,L⟩;refine aT ?_;unfold qh9;refine aT ?_;exact fin y g l D S s u v K L
structure Fo.Ok1(f:Fo):Prop where
 one:f.len=1
 rt:f.Rt Nm
 dp:f.depth<=8
 sz:f.size<=32
theorem q8x(F:iQ C){k:Nat}(O:12<=k){f:Fo}{P:Nat->Prop}(G:rM H b 0 cs)(g:iI P H f cs)(o:f.Ok1):Ok (C k (.f 195) [.ptr b 0] H) fun v H'=>∃(nv:AV) (s:List NE) (d:Nat),v=.bA [nv,iN d,iN 0]/\Gl 5 H' nv s.length (s.flatMap neC)/\s.map NE.key=f.kys 0/\(∀e∈s,e.Ar (fun c=>H.nx<=c/\¬ In nv c) H')/\(∀c,In nv c->H.nx<=c)/\Fm No H H':=by
 obtain⟨j,rfl⟩:=aP O;rw[lk (q52 ..)];unfold zBw zqc;refine aT ?_;obtain⟨kd,rl,to,a,av,ca,rfl,rfl,g1,g2,g3⟩:=g.one o.one;generalize m:(aI ((aI (aI (aI H (aB 0 [.aA])) (aB 0 [iN 0])) (aB 0 [iN 0])).put (H.nx+1+1) (aB 0 [iN 0])) (aB 0 [.jH])).put (H.nx+1+1+1) (aB 0 [.fn 227 [] [.ptr H.nx 0,.ptr (H.nx+1) 0,.ptr (H.nx+1+1) 0,.ptr (H.nx+1+1+1) 0]])=H1;have t:Fm No H H1:=by rw[<-m];(repeat(first|exact Fm.refl _ _|assumption|refine Fm.push ?_ _|refine Fm.up2 ?_ (by go_size)|refine Fm.aG ?_ _ _ (by go_size)))
 have Z:H1.nx=H.nx+4:=by rw[<-m];rfl
 have k0:H1.get H.nx=aB 0 [.aA]:=by rw[<-m];simp(disch:=first|go_size|omega)only[go_sem,seval]
 have S:H1.get (H.nx+1)=aB 0 [iN 0]:=by rw[<-m];simp(disch:=first|go_size|omega)only[go_sem,seval]
 have k2:H1.get (H.nx+1+1)=aB 0 [iN 0]:=by rw[<-m];simp(disch:=first|go_size|omega)only[go_sem,seval]
 have k3:H1.get (H.nx+1+1+1)=aB 0 [.fn 227 [] [.ptr H.nx 0,.ptr (H.nx+1) 0,.ptr (H.nx+1+1) 0,.ptr (H.nx+1+1+1) 0]]:=by rw[<-m];exact dN _ _ _
 have T:WkF H1 H.nx (H.nx+1) (H.nx+1+1) (H.nx+1+1+1) [] .aA 0:=⟨k0,S,k2,k3,⟨om,om,om,om⟩,Gl.nil 5 _,fun c h=>absurd h (notNil c)⟩;have U:=o.dp;have V:=o.sz;simp only[Fo.depth,Fo.size]at U V;refine Ok.ve (qrv F (q9w F a) (k:=j) (by omega) b 0 1 kd rl to av false H1 _ _ _ _ [] .aA 0 ca T (G.fm t) G.lt (g1.no t) (fun c g=>g1.lt g) ((g3.mono (Q:=fun c=>c<H.nx) fun c h _=>h).fm t) o.rt.one o.rt.2.1 (by omega) (by simp;omega) (by omega)) ?_;rintro _ u ⟨rfl,l,nv,d,i,n,D,Y,M,E⟩;simp only[yj,uo]at i n;have n2:=M.nx;have z:=i.n;have A:=i.d;have W:=i.f;refine aT ?_;unfold q1h;refine eP W ?_;unfold q1i;obtain⟨w,e,N,_,r⟩:=q9o (k:=j) om i.gl;have p:=wV (Gl.flat i.gl) 63;refine eF z A ?_;refine Ok.uU e ?_;have X:Fm No H u:=t.then M fun c g h=>by
  rcases h with h|h|h|⟨_,_,_,_,h⟩
  ·omega
  ·omega
  ·omega
  ·cases h
 have q:∀ c,In w c->H.nx+4<=c:=fun c g=>by have:=E c (r c g);omega
 have I:∀(x y:bW),Gl 5 ((u.put H.nx x).put (H.nx+1) y) w l.length (l.flatMap neC):=fun x y=>N.keep (lu _) fun c g _=>by have:=q c g;rw[dO _ _ _ _ om,dO _ _ _ _ om]
 have J:∀(x y:bW),Fm No H ((u.put H.nx x).put (H.nx+1) y):=fun x y=>(X.aG _ _ om).aG _ _ om;have K:∀(x y:bW),∀e∈l,e.Ar (fun c=>H.nx<=c/\¬ In w c) ((u.put H.nx x).put (H.nx+1) y):=fun x y e R=>by
  have B:=D e R;refine⟨B.gl.keep (lu _) fun c g _=>?_,fun c g=>?_⟩
  ·have:=(B.nw c g).1;rw[dO _ _ _ _ om,dO _ _ _ _ om]
  ·have:=B.nw c g;exact⟨om,fun h=>this.2 (r c h)⟩
 have L:∀ c,In w c->H.nx<=c:=fun c g=>by have:=q c g;omega
 rcases N.is with⟨h,_⟩|⟨_,_,_,_,_,h,_⟩
 ·subst h;refine iG z A p ?_;exact Ok.ret ⟨_,l,d,rfl,I _ _,n,K _ _,L,J _ _⟩
 ·subst h;refine iG z A p ?_;exact Ok.ret ⟨_,l,d,rfl,I _ _,n,K _ _,L,J _ _⟩
theorem zlr(q:iQ C){k:Nat}(r:13<=k){f:Fo}{P:Nat->Prop}(i:iI P H f cs)(m:f.Ok1):Ok (C k (.f 171) [.agg cs] H) fun v H'=>∃(nv:AV) (b:List NE),v=.bA [nv,iN 0]/\Gl 5 H' nv b.length (b.flatMap neC)/\b.map NE.key=f.kys 0/\(∀e∈b,e.Ar (fun c=>H.nx<=c/\¬ In nv c) H')/\(∀c,In nv c->H.nx<=c)/\Fm No H H':=by obtain⟨j,rfl⟩:=aP r;rw[lk (q54 ..)];unfold zBk zqp;obtain⟨kd,rl,to,a,av,ca,t,g,_⟩:=i.one m.one;have n:Fm No H (aI H (aB 0 cs)):=fm;have O:=q8x q (k:=j) om (rM.push (H:=H) (cs:=cs)) (i.fm n) m;subst g;refine aT ?_;refine Ok.ve O ?_;rintro _ H1 ⟨nv,l,d,rfl,g1,u,o,p,w⟩;simp only[np]at o p;refine aT ?_;exact Ok.ret ⟨nv,l,rfl,g1,u,fun e s=>(o e s).fm (Fm.refl No H1) (fun _ _ _ h=>h) fun c _ h=>⟨om,h.2⟩,fun c h=>by have:=p c h;omega,n.trans w⟩
theorem za4(h:iQ C){k:Nat}(i:13<=k){f:Fo}{P:Nat->Prop}(c:iI P H f cs)(e:f.Ok1):Ok (C k (.f 144) [.agg cs] H) fun v H'=>v=iN 0/\Fm No H H':=by obtain⟨j,rfl⟩:=aP i;rw[lk (q5m ..)];unfold zCx zps;obtain⟨kd,rl,to,a,av,ca,m,b,_⟩:=c.one e.one;have g:Fm No H (aI H (aB 0 cs)):=fm;have O:=q8x h (k:=j) om (rM.push (H:=H) (cs:=cs)) (c.fm g) e;subst b;refine aT ?_;refine Ok.ve O ?_;rintro _ H1 ⟨nv,l,d,rfl,_,_,_,_,n⟩;refine aT ?_;exact Ok.ret ⟨rfl,g.trans n⟩
theorem zxm(a b c d x:AV):aZ [a,b,c,d] 3 [x]=[a,b,c,x]:=id rfl
def aNd(C:Nat->Ev.Call)(f:Fo):Prop:=
 ∀(j:Nat),f.depth+1<=j->∀(H0:Hp) (ib kd n i:Nat) (rl to:SS) (av:AV) (pre rest:List AV) (w:AV) (g:Fo) (H:Hp) (q:pD) (Q:pL) (k:Nat),n-i<k->n=i+f.len->f.Rt Nm->(kd=4\/kd=5\/(3<kd->kd=6))->(kd<4->f=.nil)->g.len+f.size<=1000->n<=1000 ->
  Gl 4 H0 av n (pre++rest)->pre.length=i*4->iI (fun _=>True) H0 f rest->H0.nx<=ib->ib+1<H.nx->H.get ib=aB 0 [uN kd,.str rl.n rl.a,.str to.n to.a,av]->H.get (ib+1)=aB 0 [uN 0,zS,zS,.aA]->GrF (fun b=>b=ib\/b=ib+1) H0 H w g->Fm No H0 H ->
  (∀w H,GrF (fun b=>b=ib\/b=ib+1) H0 H w (g.app (Fo.spl kd f.flat))->H.get ib=aB 0 [uN kd,.str rl.n rl.a,.str to.n to.a,av]->H.get (ib+1)=aB 0 [uN 0,zS,zS,.aA]->ib+1<H.nx->Fm No H0 H->Ok (q w H) Q) ->
  Ok (qge (C j) q (.ptr ib 0) av (iN n) k w (iN i) H) Q
theorem q8b{a:Fo}(A:aNd C a)(B:a.depth+1<=j){kd:Nat}{rl to:SS}{ca:List AV}(p:Gl 4 H av a.len ca)(D:iI (fun _=>True) H a ca)(n:(Fo.cons kd rl to a .nil).Rt Nm)(N:a.size<=1000):Ok (C (j+1) (.f 170) [.agg [uN kd,.str rl.n rl.a,.str to.n to.a,av]] H) fun r H'=>∃ c d,r=.agg [uN kd,.str rl.n rl.a,.str to.n to.a,c]/\Gl 4 H' c (Fo.spl kd a.flat).len d/\(∀b,In c b->H.nx<=b)/\iI (fun b=>H.nx<=b) H' (Fo.spl kd a.flat) d/\Fm No H H':=by
 rw[lk (zn7 ..)];unfold zHr zy1;have F:=(p.no ((Fm.refl No H).push (aB 0 [uN kd,.str rl.n rl.a,.str to.n to.a,av]))).bM;refine eP F ?_;unfold q0p;rw[dD];obtain⟨H1,f⟩:∃ H1,H1=(aI (aI H (aB 0 [uN kd,.str rl.n rl.a,.str to.n to.a,av])) (aB 0 [uN 0,zS,zS,.aA])):=⟨_,rfl⟩;rw[<-f];have G:Fm No H H1:=by rw[f];exact qO
 have P:H1.nx=H.nx+1+1:=by rw[f];simp only[np]
 have I:=Fo.mI a;have J:H1.get (H.nx+1)=aB 0 [uN 0,zS,zS,.aA]:=by rw[f];simp(disch:=go_size)only[go_sem,seval]
 refine A j B H H.nx kd a.len 0 rl to av [] ca .aA .nil H1 _ _ bZ lf om n.2.1 ?_ ?_ (by simp only[Fo.len];omega) om p rfl D (lu _) om (by rw[f];simp(disch:=first|go_size|omega)only[go_sem,seval]) J (GrF.nil _ _ _) G fun w i q s t O E=>?_
 ·rcases n.1 with h|h|h|h|h|h<;>omega
 ·intro Q;rcases n.1 with h|h|h|h|h|h
  ·exact h.2.2.2
  ·exact h.2.2.2
  ·exact h.2.2.2
  ·omega
  ·omega
  ·omega
 obtain⟨cs,K,L⟩:=q.ex;obtain⟨j,rfl⟩:∃ m,j=m+1:=⟨j-1,om⟩;obtain⟨w',e,z,_,M⟩:=zuv (k:=j+1) om K;refine Ok.veE e ?_;have u:∀ b,In w' b->H.nx<=b/\¬(b=H.nx\/b=H.nx+1):=fun b g=>q.nw b (M b g);have l:∀ x y:bW,∃c d,AV.agg [uN kd,.str rl.n rl.a,.str to.n to.a,w']=.agg [uN kd,.str rl.n rl.a,.str to.n to.a,c]/\Gl 4 ((i.put H.nx x).put (H.nx+1) y) c (Fo.spl kd a.flat).len d/\(∀b,In c b->H.nx<=b)/\iI (fun b=>H.nx<=b) ((i.put H.nx x).put (H.nx+1) y) (Fo.spl kd a.flat) d/\Fm No H ((i.put H.nx x).put (H.nx+1) y):=fun x y=>by have v:Fm (fun b=>b=H.nx\/b=H.nx+1) i ((i.put H.nx x).put (H.nx+1) y):=((Fm.refl _ _).put _ _ fun _=>.inl rfl).put _ _ fun _=>.inr rfl;exact⟨w',cs,rfl,z.fm v fun b g o=>(u b g).2 o,fun b g=>(u b g).1,(L.dP v fun b g o=>g.2.2 o).mono fun b _ g=>g.1,(E.aG _ _ (lu _)).aG _ _ om⟩
 rcases z.is with⟨h,_⟩|⟨_,_,_,_,_,h,_⟩
 ·subst h;refine iG s t zxm ?_;exact Ok.ret (l _ _)
 ·subst h;refine iG s t zxm ?_;exact Ok.ret (l _ _)
theorem zsr:∀ f:Fo,aNd C f:=by
 intro f
 induction f with
 |nil=>intro j hj H0 ib kd n i rl to av pre u w g H q Q k hk hn F O A P R hg hp E i1 b1 W V G S X;obtain⟨k,rfl⟩:∃ m,k=m+1:=⟨k-1,om⟩;show Ok (qnx (C j) _ _ _ _ (qge (C j) _ _ _ _ k) _ _ H) Q;unfold qnx;simp only[Fo.len]at hn;have z:¬ i<n:=om;simp only[go_sem,z];refine X w H ?_ W V b1 S;simp only[Fo.flat,Fo.spl,Fo.aB9];exact G
 |cons k1 r1 t1 a r iha ihr=>
  intro j hj H0 ib kd n i rl to av pre u w g H q Q k hk hn F O A P R hg hp E i1 b1 W V G S X;obtain⟨k,rfl⟩:∃ m,k=m+1:=⟨k-1,om⟩;show Ok (qnx (C j) _ _ _ _ (qge (C j) _ _ _ _ k) _ _ H) Q;unfold qnx;simp only[Fo.len]at hn;simp only[Fo.depth]at hj;simp only[Fo.size]at P;have z:i<n:=om;obtain⟨_,b,o,l,ca,cr,e1,e2,e3,e4,_,e5,g1,g2,g3,g4,_⟩:=(hg.no S).rule hp (E.fm S);simp only[go_sem,z];unfold q0o;refine eF e1 e4 ?_;obtain⟨j,rfl⟩:∃ m,j=m+1:=⟨j-1,om⟩;have fsz:(Fo.spl k1 a.flat).len<=a.size:=rq (Fo.mI _) (rq (Fo.sP _ _) (Fo.kH _));obtain⟨y,p⟩:∃ y,y=(aI H (aB 0 [uN 0,zS,zS,.aA])).put H.nx (aB 0 [uN k1,.str r1.n r1.a,.str t1.n t1.a,l]):=⟨_,rfl⟩;have e:Fm No H y:=by rw[p];exact kP
  have nHH:y.nx=H.nx+1:=by rw[p];simp only[nq,np]
  have kHH:y.get H.nx=aB 0 [uN k1,.str r1.n r1.a,.str t1.n t1.a,l]:=by rw[p];exact dN _ _ _
  rw[<-p];refine Ok.ve (q8b iha (j:=j) om (kd:=k1) (g1.no e) (g3.fm e) ⟨F.1,F.2.1,trivial⟩ om) ?_;rintro _ I ⟨s,B,rfl,c1,c2,c3,f2⟩;have q2:=(f2.keep (show ib<y.nx by omega)).trans ((e.keep (show ib<H.nx by omega)).trans W);have k2:=(f2.keep (show H.nx<y.nx by omega)).trans kHH;have fin:∀(v:Fo) (Y:List AV) (U:Hp),Fm No H U->0<v.len->iI (fun b=>H.nx<=b) U v Y->v.app (Fo.spl kd r.flat)=Fo.spl kd (Fo.cons k1 r1 t1 a r).flat->v.len<=a.size+1 ->
    Ok (ve (iM 4 64 U w (some ⟨v.len,Y⟩)) fun Z H=>qnw (C (j+1)) (qge (C (j+1)) q (.ptr ib 0) av (iN n) k) Z (iN i) H) Q:=by
   intro v Y U t hl0 hff hap hln;have hnw:∀ b,In w b->b<H.nx:=fun b d=>by obtain⟨cs,d1,_⟩:=G.ex;exact d1.lt d
   have nA:=t.nx;refine Ok.ve ((G.no t).add (hff.mono fun b _ d=>⟨om,fun J=>by have:=hnw b J;omega,om⟩) (fun b d=>om) om hl0 om) ?_;rintro w' H4 ⟨w4,f4,n4,hw4⟩;have kp:∀ c,c<H.nx->(c=ib\/c=ib+1)->H4.get c=H.get c:=fun c E hx=>by rw[f4.get c om (fun J=>(G.nw c J).2 hx),t.keep E]
   subst hw4;unfold qnw;refine aT ?_;have f6:Fm No H0 H4:=(S.trans t).then f4 fun c E J=>by have:=(G.nw c J).1;omega
   have e5':pre++u=(pre++[uN k1,r1.v,t1.v,l])++cr:=by rw[e5];simp
   refine ihr (j+1) om H0 ib kd n (i+1) rl to av (pre++[uN k1,r1.v,t1.v,l]) cr _ (g.app v) _ q Q k om om F.2.2 O (fun h=>by cases A h) (by rw[Fo.nK];omega) R (e5'▸hg) (by simp[hp];omega) ?_ i1 om ((kp ib om (.inl rfl)).trans W) ((kp (ib+1) b1 (.inr rfl)).trans V) w4 f6 ?_
   ·obtain⟨_,_,cr',d1,_,_,_,d5⟩:=E;simp_all
   ·rw[<-hap,<-Fo.vY]at X;exact X
  have f3:∀ x,Fm (fun b=>b=H.nx) I (I.put H.nx x):=fun x=>(Fm.refl _ _).put _ _ fun h=>rfl;have t:∀ x,Fm No H (I.put H.nx x):=fun x=>(e.trans f2).aG _ _ (lu _);have K:∀ x,Gl 4 (I.put H.nx x) s (Fo.spl k1 a.flat).len B:=fun x=>c1.fm (f3 x) fun b d he=>by have:=c2 b d;omega
  have L:∀ x,iI (fun b=>H.nx<=b) (I.put H.nx x) (Fo.spl k1 a.flat) B:=fun x=>(c3.dP (f3 x) fun b d he=>om).mono fun b _ d=>om;have el:∀ x,iI (fun b=>H.nx<=b) (aI (I.put H.nx x) (aB 0 [uN k1,.str r1.n r1.a,.str t1.n t1.a,s])) (.cons k1 r1 t1 (Fo.spl k1 a.flat) .nil) [uN k1,.str r1.n r1.a,.str t1.n t1.a,s]:=fun x=>
   ⟨s,B,[],rfl,(K x).no ((Fm.refl _ _).push _),fun b d=>by have:=c2 b d;omega,(L x).fm ((Fm.refl _ _).push _),rfl⟩
  have M:(Fo.cons k1 r1 t1 (Fo.spl k1 a.flat) .nil).len=1:=rfl;have N:k1=4\/k1=5->0<(Fo.spl k1 a.flat).len:=fun h=>by
   have V:2<=a.len:=by rcases F.1 with T|T|T|T|T|T<;>omega
   have:=(Fo.aAL Nm k1 a.flat (Fo.o8 Nm a F.2.1)).2;rw[Fo.dK]at this;omega
  have h4':¬ kd<4:=fun h=>by cases A h
  by_cases D:k1=kd
  ·subst D;by_cases h6:k1=6
   ·subst h6;simp(disch:=go_size)only[go_sem,seval,k2,q2];exact fin _ _ _ ((t _).push _) (Nat.lt_of_lt_of_eq Nat.one_pos M.symm) (el _) (by simp[Fo.flat,Fo.spl,Fo.app]) om
   ·simp(disch:=go_size)only[go_sem,rB,rI,rK,rL,rN,rS,r6,k2,q2,h6,(K _).src];exact fin _ _ _ (t _) (N om) (L _) (by simp[Fo.flat,Fo.spl];omega) om
  ·refine iG k2 q2 D ?_;exact fin _ _ _ ((t _).push _) (Nat.lt_of_lt_of_eq Nat.one_pos M.symm) (el _) (by simp[Fo.flat,Fo.spl,D,Fo.app]) om
theorem z4z(s:iQ C){k:Nat}(t:14<=k){f:Fo}(m:iI (fun _=>True) H f cs)(c:f.Ok1):Ok (C k (.f 121) [.agg cs] H) fun v H'=>∃ ds,v=.bA [.agg ds,iN 0]/\iI (fun b=>H.nx<=b) H' f.flat ds/\Fm No H H':=by
 obtain⟨j,rfl⟩:=aP t;rw[lk (zoc ..)];unfold zHg zy5;have n:Fm No H (aI (aI H (aB 0 cs)) (aB 0 [uN 0,zS,zS,.aA])):=by exact qO
 have O:=za4 s (k:=j) om (m.fm n) c;obtain⟨kd,rl,to,a,av,ca,rfl,rfl,g1,g2,g3⟩:=m.one c.one;have w:=c.dp;have x:=c.sz;simp only[Fo.depth,Fo.size]at w x;refine aT ?_;refine Ok.ve O ?_;rintro _ H1 ⟨rfl,g⟩;unfold zcu;have y:=g.nx;simp only[np]at y;have k0:H1.get H.nx=aB 0 [uN kd,.str rl.n rl.a,.str to.n to.a,av]:=(g.keep (by(first|go_size|omega))).trans (by simp(disch:=first|go_size|omega)only[go_sem,seval]);have z:H1.get (H.nx+1)=aB 0 [uN 0,zS,zS,.aA]:=(g.keep gz).trans g5;simp only[go_sem,seval,k0];obtain⟨i,rfl⟩:∃ i,j=i+1:=⟨j-1,om⟩;have h:=n.trans g;refine Ok.ve (q8b (zsr a) (j:=i) om (g1.no h) (g3.fm h) c.rt om) ?_;rintro _ p ⟨e,l,rfl,A,q,B,r⟩;have k2:=(r.keep (show H.nx+1<H1.nx by omega)).trans z;refine eP k2 ?_;have o:Fm (fun b=>b=H.nx+1) p (p.put (H.nx+1) (aB 0 [uN kd,.str rl.n rl.a,.str to.n to.a,e])):=(Fm.refl _ _).put _ _ fun _=>rfl;exact Ok.ret ⟨_,rfl,⟨e,l,[],rfl,A.fm o fun b d u=>by have:=q b d;omega,fun b d=>by have:=q b d;omega,(B.dP o fun b d u=>om).mono fun b _ d=>om,rfl⟩,(h.trans r).aG _ _ om⟩
def pU(l:List Key):Nat:=l.countP fun x=>decide (x.1<4)
def lvs:List Key->Nat->List TN
 | [],_=>[]
 |(k,rl,to,as')::l,c=>⟨k,rl,to,as',if k<4 then some c else none⟩::lvs l (c+if k<4 then 1 else 0)
theorem zkr:∀(l:List Key) (c:Nat),(lvs l c).length=l.length
 | [],_=>rfl
 |(k,rl,to,as')::l,c=>by rw[lvs,pq,zkr l,pq]
theorem qqe(x:Key)(l:List Key):pU (x::l)=pU l+if x.1<4 then 1 else 0:=by unfold pU;rw[List.countP_cons];simp
theorem q9g(l m:List Key):pU (l++m)=pU l+pU m:=List.countP_append
theorem q30:∀(l m:List Key) (c:Nat),lvs (l++m) c=lvs l c++lvs m (c+pU l)
 | [],m,c=>by simp[lvs,pU]
 |(k,rl,to,as')::l,m,c=>by rw[lA7,lvs,q30 l m,lvs,qqe,lA7];congr 3;simp only;omega
theorem q36:∀(f:Fo) (p:Nat),f.Rt Nm->pU (f.kys p)=f.lv
 | .nil,_,_=>rfl
 | .cons k rl to a r,p,⟨h1,h2,h3⟩=>by
  rw[Fo.kys,qqe,q9g,q36 a _ h2,q36 r _ h3,Fo.lv];by_cases b:k<4
  ·have:a=.nil:=by
    rcases h1 with h|h|h|h|h|h
    ·exact h.2.2.2
    ·exact h.2.2.2
    ·exact h.2.2.2
    ·omega
    ·omega
    ·omega
   subst this;rw[qj b,qj b];simp only[Fo.lv];omega
  ·rw[pg b,pg b];omega
theorem qvp:∀(f:Fo) (p c:Nat),f.Rt Nm->lvs (f.kys p) c=f.eO p c
 | .nil,_,_,_=>rfl
 | .cons k rl to a r,p,c,⟨h1,h2,h3⟩=>by
  rw[Fo.kys,lvs,q30,qvp a _ _ h2,qvp r _ _ h3,q36 a _ h2,Fo.eO];have e:c+(if k<4 then 1 else 0)+a.lv=c+if k<4 then 1 else a.lv:=by
   by_cases b:k<4
   ·have:a=.nil:=by
     rcases h1 with h|h|h|h|h|h
     ·exact h.2.2.2
     ·exact h.2.2.2
     ·exact h.2.2.2
     ·omega
     ·omega
     ·omega
    subst this;rfl
   ·simp[b]
  by_cases b:k<4
  ·have:a=.nil:=by
    rcases h1 with h|h|h|h|h|h
    ·exact h.2.2.2
    ·exact h.2.2.2
    ·exact h.2.2.2
    ·omega
    ·omega
    ·omega
   subst this;rfl
  ·simp[b]
def qyz:Option Nat->AV
 |some c=>.int .i64 (.ofNat c)
 |none=>.int .i64 (.negSucc 0)
structure TE where
 t:TN
 av:AV
 sp:AV
def pE(e:TE):List AV:=[uN e.t.k,e.t.rl.v,e.t.to.v,e.sp,e.av,qyz e.t.leaf]
theorem qij(e:TE):(pE e).length=6:=rfl
structure TE.Ok(tg:SS->SS->List SS)(H:Hp)(e:TE):Prop where
 gl:Gl 1 H e.av e.t.args.length (aJ e.t.args)
 sp:(e.t.k=3/\Gl 1 H e.sp (tg e.t.rl e.t.to).length ((tg e.t.rl e.t.to).flatMap sC))\/(e.t.k≠3/\e.sp=.aA)
theorem TE.Ok.dP{tg:SS->SS->List SS}{e:TE}(h:e.Ok tg H)(f:Fm S H H')(c:∀ b,In e.sp b\/In e.av b->¬ S b):e.Ok tg H':=⟨h.gl.fm f fun b a=>c b (.inr a),h.sp.imp (fun h=>⟨h.1,h.2.fm f fun b a=>c b (.inl a)⟩) id⟩
theorem TE.Ok.fm{tg:SS->SS->List SS}{e:TE}(h:e.Ok tg H)(f:Fm No H H'):e.Ok tg H':=h.dP f fun _ _ h=>h
theorem TE.Ok.lt{tg:SS->SS->List SS}{e:TE}(h:e.Ok tg H)(a:In e.sp b\/In e.av b):b<H.nx:=by
 rcases a with a|a
 ·rcases h.sp with h|h
  ·exact h.2.lt a
  ·rw[h.2]at a;exact absurd a (notNil b)
 ·exact h.gl.lt a
structure TbR(tg:SS->SS->List SS)(H:Hp)(v:AV)(es:List TE)(f:Fo):Prop where
 gl:Gl 6 H v es.length (es.flatMap pE)
 is:es.map TE.t=f.eO 0 0
 ok:∀ e∈es,e.Ok tg H
theorem Gl.cells{v:AV}(h:Gl z H v n l):uQ v=some [v]:=by rcases h.is with⟨rfl,rfl⟩|⟨b,o,e,q,L,rfl,_⟩<;>rfl
theorem z6m(a b c d e f x:AV):aZ [a,b,c,d,e,f] 5 [x]=[a,b,c,d,e,x]:=id rfl
def teZ:List AV:=[uN 0,zS,zS,.aA,.aA,iN 0]
def yQ(es:List TE)(n:Nat):List AV:=es.flatMap pE++aS teZ (n-es.length)
theorem te6(es:List TE):(es.flatMap pE).length=es.length*6:=by
 induction es with
 |nil=>rfl
 |cons a l ih=>rw[uA,lL,ih,qij,pq];omega
theorem q7y(l:List AV):∀ n,(aS l n).length=n*l.length
 |0=>by show([]:List AV).length=_;simp
 |n+1=>by show(l++aS l n).length=_;rw[lL,q7y l n,lEM];omega
theorem q25{es:List TE}(h:es.length<=n):(yQ es n).length=n*6:=by unfold yQ;rw[lL,te6,q7y];show es.length*6+(n-es.length)*6=_;omega
theorem zr4(A B D Z:List AV)(k:Nat)(a:k=A.length)(h:B.length=D.length):aZ (A++(B++Z)) k D=A++(D++Z):=by subst a;unfold aZ;simp_all
theorem z2a{es:List TE}(h:es.length<n)(e:TE):aZ (yQ es n) (es.length*6) (pE e)=yQ (es++[e]) n:=by unfold yQ;rw[show n-es.length=n-(es.length+1)+1 by omega,show ∀m,aS teZ (m+1)=teZ++aS teZ m from fun _=>rfl,zr4 _ teZ (pE e) _ _ (te6 es).symm rfl,qy,ry,qw,lL];rfl
theorem zik{es:List TE}(e a:TE)(x:AV)(h:aZ (pE e) j [x]=pE a)(c:j<6):aZ (yQ (es++[e]) n) (es.length*6+j) [x]=yQ (es++[a]) n:=by unfold yQ;rw[qy,ry,qy,ry,lL,lL,<-h];have b:=te6 es;have d:=qij e;generalize es.flatMap pE=A at *;generalize pE e=B at *;unfold aZ;rw[<-b,qw,qw A,zx,lAF om,uu,zy,xn g2];simp
theorem qjj{v:AV}(h:uQ v=some [v]):j5 H (.ptr b o) v=storeAt H b o [v] .undef:=by cases v<;>first|rfl|cases h
variable {tg:SS->SS->List SS}
theorem qxs{O:Ev.Call}{H:Hp}{v:AV}{l:List SS}{s:SS}(d:Rs 1 sC H v l)(f:l.length<1000000)(e:s∉l):∀(k i:Nat),i<=l.length->l.length-i<k -> qnv O (fun x H=>.ok x H) (fun H=>qT O H) v (.str s.n s.a) (iN (l.length)) k (iN i) H=.ok (.int .i64 (.negSucc 0)) H
 |0,i,_,h=>om
 |k+1,i,hi,hk=>by
  show qwe O _ _ _ _ _ (qnv O _ _ _ _ _ k) _ H=_;unfold qwe;by_cases a:i<l.length
  ·obtain⟨b,o,j,_,_,_,m⟩:=d.at' i a;have g:bX (H.get b) o=.val (.str l[i].n l[i].a):=m 0 (by simp[sC]);have c:¬(s.n=l[i].n/\s.a=l[i].a):=fun h=>e (by rw[(oD _ _).2 h];exact lg a);simp only[go_sem,a];unfold qwd;simp only[go_sem,j,g,c];unfold kQ;refine aT ?_;exact qxs d f e k (i+1) om om
  ·simp only[go_sem,a];rfl
theorem zus{k:Nat}(c:2<=k){H:Hp}{v:AV}{l:List SS}{s:SS}(a:Rs 1 sC H v l)(d:l.length<900000)(b:s∉l):C k (.f 133) [v,.str s.n s.a] H=.ok (.bool false) H:=by obtain⟨j,rfl⟩:∃ j,k=j+1+1:=⟨k-2,om⟩;rw[lk (q43 ..)];unfold zIa zn1;simp only[go_sem];rw[lk (q41 ..)];unfold zIb zn0 q42;simp only[go_sem,a.len];rw[dD,qxs a om b bZ 0 (gp _) lf];rfl
variable {X:List aQ}
def Ru.fo:Ru->Fo
 | .leaf k rl to=>.cons k rl to .nil .nil
 | .node k a b=>.cons k sE sE (a.fo.app b.fo) .nil
theorem Ru.tJ:∀ r:Ru,r.fo.len=1
 | .leaf _ _ _=>rfl
 | .node _ _ _=>rfl
theorem jV.fo{P:Nat->Prop}{H:Hp}:∀{r:Ru} {cs:List AV},jV P H r cs->iI P H r.fo cs
 | .leaf k rl to,cs,h=>⟨.aA,[],[],h,Gl.nil 4 H,fun b i=>absurd i (notNil b),rfl,rfl⟩
 | .node k a b,cs,⟨bl,ca,cb,h1,h2,h6,h3,h4,h5⟩=>by
  have f:=(jV.fo h4).app (jV.fo h5);have e:(a.fo.app b.fo).len=2:=by rw[Fo.nK,a.tJ,b.tJ]
  have g:=f.len;rw[e]at g;refine⟨.sl bl 0 2 2 true,ca++cb,[],h1,?_,fun c d=>?_,f,rfl⟩
  ·rw[e];exact⟨g,.inr ⟨bl,0,true,0,ca++cb,rfl,h3,gp _,rfl,.inl rfl,h2⟩⟩
  ·obtain⟨_,_,_,_,d⟩:=d;simp_all
theorem Ru.rX:∀ r:Ru,r.fo.size=r.size
 | .leaf _ _ _=>rfl
 | .node k a b=>by simp only[Ru.fo,Fo.size,Fo.tO,a.rX,b.rX,Ru.size,zt]
theorem Ru.uE:∀ r:Ru,r.fo.depth=r.depth
 | .leaf _ _ _=>rfl
 | .node k a b=>by simp only[Ru.fo,Fo.depth,Fo.qG,a.uE,b.uE,Ru.depth,Nat.max_zero]
theorem Ru.aBN:∀ r:Ru,r.Fit->r.fo.Rt Nm
 | .leaf k rl to,h=>by
  refine⟨?_,trivial,trivial⟩;rcases h with⟨c,d,e⟩|⟨c,d,e⟩|⟨c,d,e⟩
  ·simp_all
  ·simp_all
  ·simp_all
 | .node k a b,⟨hk,ha,hb⟩=>by
  have f:(a.fo.app b.fo).len=2:=by rw[Fo.nK,a.tJ,b.tJ]
  refine⟨?_,(Fo.aBH _ _ _).2 ⟨a.aBN ha,b.aBN hb⟩,trivial⟩;simp_all
theorem Ru.Rt.ok1{r:Ru}(h:r.Rt):r.fo.Ok1:=⟨r.tJ,r.aBN h.fit,by rw[r.uE];exact h.dp,by rw[r.rX];exact h.sz⟩
theorem Fo.Ok1.flat{f:Fo}(h:f.Ok1):f.flat.Ok1:=⟨by rw[Fo.dK];exact h.one,Fo.o8 Nm f h.rt,rq (Fo.nW f) h.dp,rq (Fo.kH f) h.sz⟩
def Fo.All(p:Nat->SS->SS->Prop):Fo->Prop
 | .nil=>True
 | .cons k rl to a r=>p k rl to/\a.All p/\r.All p
theorem Fo.xM(p:Nat->SS->SS->Prop):∀ f g:Fo,f.All p->g.All p->(f.app g).All p
 | .nil,_,_,h=>h
 | .cons _ _ _ _ r,g,⟨h1,h2,h3⟩,h=>⟨h1,h2,Fo.xM p r g h3 h⟩
theorem Fo.tT(p:Nat->SS->SS->Prop)(k:Nat):∀ f:Fo,f.All p->(Fo.spl k f).All p
 | .nil,_=>trivial
 | .cons k' rl to a r,⟨h1,h2,h3⟩=>by
  unfold Fo.spl;split
  ·exact Fo.xM p _ _ h2 (Fo.tT p k r h3)
  ·exact⟨h1,h2,Fo.tT p k r h3⟩
theorem Fo.sQ(p:Nat->SS->SS->Prop):∀ f:Fo,f.All p->f.flat.All p
 | .nil,_=>trivial
 | .cons k rl to a r,⟨h1,h2,h3⟩=>⟨h1,Fo.tT p k _ (Fo.sQ p a h2),Fo.sQ p r h3⟩
theorem Fo.rU(p:Nat->SS->SS->Prop):∀(f:Fo) (i c:Nat),f.All p->∀ t∈f.eO i c,p t.k t.rl t.to
 | .nil,_,_,_,t,h=>by cases h
 | .cons k rl to a r,i,c,⟨h1,h2,h3⟩,t,h=>by
  rcases su.1 h with rfl|h
  ·exact h1
  rcases qi.1 h with h|h
  ·exact Fo.rU p a _ _ h2 t h
  ·exact Fo.rU p r _ _ h3 t h
theorem Ru.aBC(p:Nat->SS->SS->Prop):∀(r:Ru) (neg:Bool),(∀y∈r.nodes neg,p y.k y.rl y.to)->r.fo.All p
 | .leaf k rl to,neg,h=>⟨h ⟨k,rl,to,neg⟩ (by simp[Ru.nodes]),trivial,trivial⟩
 | .node k a b,neg,h=>⟨h ⟨k,sE,sE,neg⟩ (by simp[Ru.nodes]),Fo.xM p _ _ (a.aBC p neg fun y c=>h y (by simp[Ru.nodes,c])) (b.aBC p _ fun y c=>h y (by simp[Ru.nodes];exact .inr (.inr c))),trivial⟩
open Go.Di.T Go.Sort
variable {T:List Tu}
def goT(t:Tu):G3:=((t.a,t.b),t.c)
def suT(t:Tu):G3:=((t.x,t.y),t.z)
theorem aDB(g h:G3):dQ (eqFields [((pA 2),⟨dQ (eqFields [(p1,⟨bL⟩,0),(p1,⟨bL⟩,1)])⟩,0),(p1,⟨bL⟩,2)]) (.agg (gC g)) (.agg (gC h))=some (decide (g=h)):=by refine(eqG g.1.1 g.1.2 g.2 h.1.1 h.1.2 h.2).trans ?_;unfold gG;obtain⟨⟨a,b⟩,c⟩:=g;obtain⟨⟨d,e⟩,f⟩:=h;simp
def yR(X:List aQ)(g:G3)(k:Nat)(rl to:SS)(t:Tu):List G3:=
 if k=1/\goT t=g/\t.z≠sE then[suT t]else if k=3/\goT t=(g.1,rl)/\t.z=sE/\t.x∈iZ X g.1.1 rl to then[((t.x,t.y),to)]else[]
def rfN(X:List aQ)(T:List Tu)(g:G3)(k:Nat)(rl to:SS):List G3:=(if k=2 then[(g.1,rl)]else[])++T.flatMap (yR X g k rl to)
theorem q7w{O:Ev.Call}{H:Hp}{v:AV}{l:List G3}{g:G3}{f:Nat}(d:Rs 3 gC H v l)(e:H.get f=aB 0 (gC g))(t:l.length<=900000){Q:pL}{qr:pD}{q:pH}(j:g∈l->∀ i:Nat,Ok (qr (iN i) H) Q)(m:g∉l->Ok (q H) Q):∀(k i:Nat),i<=l.length->l.length-i<k->g∉l.take i->Ok (q4y O qr q v (.ptr f 0) k (iN i) H) Q
 |0,i,_,h,_=>om
 |k+1,i,hi,hk,hm=>by
  show Ok (zcb O _ _ _ _ (q4y O _ _ _ _ k) _ H) Q;unfold zcb;have n:=d.len;by_cases a:i<l.length
  ·simp only[go_sem,n,a];unfold zu1;obtain⟨b,o,r,_,s⟩:=d.oZ a;have c:=aDB l[i] g;have p:List.take 3 (gC g)=gC g:=rfl;by_cases h:l[i]=g
   ·rw[qc h]at c;simp only[go_sem,seval,r,s,e,vP,p,c,qec];exact j (by rw[<-h];exact lg a) i
   ·rw[ql h]at c;simp only[go_sem,seval,r,s,e,vP,p,c,qec];unfold kQ;refine aT ?_;refine q7w d e t j m k (i+1) om om fun u=>?_;rw[lh a,qi,qf]at u;simp_all
  ·simp only[go_sem,n,a];exact m (by rw[tq om]at hm;exact hm)
theorem z6y{k:Nat}(a:1<=k){H:Hp}{v:AV}{l:List G3}(b:Rs 3 gC H v l)(c:l.length<=900000)(g:G3):Ok (C k (.f 23) [v,.agg (gC g)] H) fun r H'=>Fm No H H'/\((g∈l/\∃ i:Nat,r=iN i)\/(g∉l/\r=.int .i64 (.negSucc 0))):=by
 obtain⟨j,rfl⟩:=aP a;rw[lk (znr ..)];unfold zIl zyo;have d:qI 3 H.nx (.agg (gC g))=.new (.ptr H.nx 0) (aB 0 (gC g)):=id rfl;have f:Fm No H (aI H (aB 0 (gC g))):=by exact jF
 simp only[go_sem,d];unfold zu3;rw[dD];refine q7w (g:=g) (b.fm f) (by simp(disch:=omega)only[go_sem,seval]) c (fun h i=>Ok.ret ⟨f,.inl ⟨h,i,rfl⟩⟩) (fun h=>?_) bZ 0 (gp _) lf g3;exact Ok.ret ⟨f,.inr ⟨h,rfl⟩⟩
def tg1(g:G3)(n:Nd)(t:Tu)(s:SS):List G3:=if n.k=3/\goT t=(g.1,n.rl)/\t.z=sE/\t.x=s then[((t.x,t.y),n.to)]else[]
theorem ssE(s:SS):(s.n=0/\s.a=0)↔s=sE:=by cases s;simp[sE]
theorem aMw{O:Ev.Call}{H1:Hp}{w1 nv r:AV}{a:List (Nd×AV)}{ts:List SS}{i:Nat}(W:i<a.length){t:Tu}{g:G3}{j tb:Nat}(X:Rs 5 kR H1 nv a)(u:Rs 1 sC H1 r ts)(Y:H1.get j=aB 0 (gC g))(Z:a[i].1.k=3->H1.get tb=aB 0 t.cells/\tb<H1.nx/\¬ In w1 tb)(lt:j<H1.nx)(z:∀ b,In w1 b->¬ In nv b/\¬ In r b/\b≠j)(hl:ts.length<=1000){acc:List G3}(I:acc.length<=1000000)(J:i<=1000000){Q:pL}{q:pD}(hq:∀ w H,lW 3 gC (In w1) H1 H w (acc++ts.flatMap (tg1 g a[i].1 t))->Ok (q w H) Q):∀(k m:Nat) (w:AV) (H:Hp),m<=ts.length->ts.length-m<k->lW 3 gC (In w1) H1 H w (acc++(ts.take m).flatMap (tg1 g a[i].1 t))->((ts.take m).flatMap (tg1 g a[i].1 t)).length<=m -> Ok (qff O q (.ptr j 0) nv (iN i) r (.ptr tb 0) k w (iN m) H) Q
 |0,m,_,_,_,h,_,_=>om
 |k+1,m,w,H,hm,hk,ha,hml=>by
  show Ok (q0g O _ _ _ _ _ _ (qff O _ _ _ _ _ _ k) _ _ H) Q;unfold q0g;have A:=ha.fm;have M:=X.dP A fun b K h=>(z b h).1 K;have v:=u.dP A fun b K h=>(z b h).2.1 K;have d:=(A.get j lt fun h=>(z j h).2.2 rfl).trans Y;have N:=v.len;obtain⟨P,R,p,d2,_,d3,S⟩:=M.at' i W;have r0:bX (H.get P) R=.val (uN (a[i].1.k)):=S 0 (by rw[r9];omega);have B:bX (H.get P) (R+1)=.val (.str a[i].1.rl.n a[i].1.rl.a):=S 1 (by rw[r9];omega);have C:bX (H.get P) (R+2)=.val (.str a[i].1.to.n a[i].1.to.a):=S 2 (by rw[r9];omega);by_cases c:m<ts.length
  ·by_cases y:a[i].1.k=3
   ·simp only[go_sem,N,c,p,r0,y];rw[kE qg6];unfold qg6;obtain⟨T,U,V⟩:=Z y;have f:=(A.get tb U V).trans T;have q1:=aDB (goT t) (g.1,a[i].1.rl);unfold goT gC SS.v at q1;have q3:∀ s:SS,eD (lC .eql).f (.str t.x.n t.x.a) (.str s.n s.a)=.val (.bool (decide (t.x=s))):=quq t.x;obtain⟨b2,o2,c1,c2,_,c3,c4⟩:=v.at' m c;have r3:bX (H.get b2) o2=.val (.str ts[m].n ts[m].a):=c4 0 (by show 0<1;decide);have D:=q3 ts[m];unfold Tu.cells gC SS.v at *;have next:∀(x:List G3) (n:AV) (o:Hp),lW 3 gC (In w1) H1 o n (acc++(ts.take m).flatMap (tg1 g a[i].1 t)++x)->tg1 g a[i].1 t ts[m]=x->x.length<=1->Ok (qka O (qff O q (.ptr j 0) nv (iN i) r (.ptr tb 0) k) n (iN m) o) Q:=fun x n o L hx hx1=>by
     unfold qka;refine aT ?_;have e:(ts.take (m+1)).flatMap (tg1 g a[i].1 t)=(ts.take m).flatMap (tg1 g a[i].1 t)++x:=by rw[lh c,qy,ry,hx]
     refine aMw W X u Y Z lt z hl I J hq k (m+1) n o om om ?_ ?_
     ·rw[e,<-qw];exact L
     ·rw[e,lL];omega
    have no:tg1 g a[i].1 t ts[m]=[]->Ok (qka O (qff O q (.ptr j 0) nv (iN i) r (.ptr tb 0) k) w (iN m) H) Q:=fun h=>next [] w H (by rw[uf];exact ha) h g3
    by_cases E:(((t.a,t.b),t.c):G3)=(g.1,a[i].1.rl)
    ·rw[qc E]at q1;by_cases F:t.z.n=0/\t.z.a=0
     ·have a5:=qc F;by_cases G:t.x=ts[m]
      ·rw[qc G]at D;simp only[go_sem,seval,f,d,p,B,C,q1,qec,a5,c1,r3,D];refine Ok.iD ((ha.no (((Fm.refl No H).up 13).aG (H.nx+10) (aB 0 (gC ((t.x,t.y),a[i].1.to))) om)).add ((t.x,t.y),a[i].1.to) 48 rfl (by rw[lL];omega) (by rw[lL];omega)) ?_;intro n o L;simp only[go_sem];exact next [((t.x,t.y),a[i].1.to)] n o L (qj ⟨y,E,(ssE _).1 F,G⟩) g3
      ·rw[ql G]at D;simp only[go_sem,seval,f,d,p,B,C,q1,qec,a5,c1,r3,D];exact no (pg fun h=>G h.2.2.2)
     ·simp only[go_sem,seval,f,d,p,B,C,q1,qec,F];exact no (pg fun h=>F ((ssE _).2 h.2.2.1))
    ·rw[ql E]at q1;simp only[go_sem,seval,f,d,p,B,C,q1,qec];exact no (pg fun h=>E h.2.1)
   ·simp only[go_sem,N,c,p,r0,y];have e9:∀ l:List SS,l.flatMap (tg1 g a[i].1 t)=[]:=fun l=>List.flatMap_eq_nil_iff.2 fun s _=>by unfold tg1;rw[pg fun h=>y h.1]
    simp_all
  ·simp only[go_sem,N,c];rw[tq om]at ha;exact hq w H ha
end Go.Di
end
