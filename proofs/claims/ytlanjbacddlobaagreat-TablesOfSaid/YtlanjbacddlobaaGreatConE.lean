/-
 For TablesOf: functions in direct style, their contracts, and the plain mathematics, part 5 of 10. No conditions beyond those that each theorem states.
-/
import Derived.Test.YtlanjbacddlobaaGreatConA
import Derived.Test.YtlanjbacddlobaaGreatConD
set_option linter.unusedSimpArgs false
set_option linter.unusedVariables false
open Nat renaming reduceAdd->rB,reduceMul->rI,reduceSub->rK,reduceLeDiff->rL,reduceEqDiff->rN,reduceShiftRight->rS,reduceAnd->r8
section
namespace Go.Di
open Go.Ev
variable {C:Nat->Ev.Call}
variable {H H' H0 Hb:Hp} {N b gb i k n sb z:Nat} {X:List aQ} {O:Ev.Call} {g:aQ} {l:List AV} {nv sv:AV}
def ptC(q:Nat×Nat):List AV:=[.ptr q.1 q.2]
theorem qy8(q:Nat×Nat):(ptC q).length=1:=rfl
def nmC(q:SS×bC):List AV:=[q.1.v]
def kq(q:SS×bC):SS×SS:=(q.1,q.2.r.name)
def dX(X:List aQ):List (SS×bC):=X.flatMap fun g=>g.gs.map fun x=>(g.name,x)
theorem pG(X:List aQ):(dX X).map kq=aF X:=by unfold dX aF;rw[List.map_flatMap];congr 1;funext g;rw[lUK];rfl
structure PtR(H:Hp)(q:Nat×Nat)(x:bC):Prop where
 lt:q.1<H.nx
 nm:bI (H.get q.1) q.2=.val (.str x.r.name.n x.r.name.a)
 tv:bI (H.get q.1) (q.2+1)=.val x.tv
 ru:iF (H.get q.1) (q.2+2) 4=some x.cs
 all:iF (H.get q.1) q.2 6=some (iK x)
theorem PtR.fm{q:Nat×Nat}{x:bC}(h:PtR H q x)(f:Fm No H H'):PtR H' q x:=by have e:=f.keep h.lt;exact⟨af h.lt f.nx,by rw[e];exact h.nm,by rw[e];exact h.tv,by rw[e];exact h.ru,by rw[e];exact h.all⟩
theorem SpR.pt(h:SpR H g)(a:i<g.gs.length):∃ b o,aG 6 g.rv (iN i)=.val (.ptr b o)/\PtR H (b,o) g.gs[i]:=by obtain⟨b,o,c,d,e,f,j,k⟩:=h.at' i a;exact⟨b,o,c,d,e,f,j,k⟩
structure IxI(H0 H:Hp)(ib mb nb:Nat)(sv av iv:AV)(ss:List SS)(rs:List (SS×bC))(qs:List (Nat×Nat)):Prop where
 blk:H.get ib=aB 0 [sv,.map mb,.map nb,av,iv]
 ms:uE H mb ss
 mn:iU H nb (rs.map kq)
 a:Gl 1 H av qs.length (qs.flatMap ptC)
 i:Gl 1 H iv rs.length (rs.flatMap nmC)
 len:qs.length=rs.length
 pt:∀ i (h:i<qs.length) (h':i<rs.length),PtR H0 qs[i] rs[i].2
 o:H0.nx<=mb/\mb<nb/\nb<ib/\ib<H.nx
 an:∀ c,In av c->ib<c/\¬ In iv c
 y9:∀ c,In iv c->ib<c
 fm:Fm No H0 H
theorem zep(H:Hp)(b o x y:Nat):jN H (.ptr b o) (.ptr x y)=storeAt H b o [.ptr x y] .undef:=id rfl
theorem zf5(a b:Nat):wX (.ptr a b)=some [.ptr a b]:=id rfl
theorem xca(a b c d e x:AV):aY [a,b,c,d,e] 3 [x]=[a,b,c,x,e]:=id rfl
theorem xb9(a b c d e x:AV):aY [a,b,c,d,e] 4 [x]=[a,b,c,d,x]:=id rfl
attribute [go_sem] zep zf5 xca xb9
theorem z92{v:pH}{ib mb nb pb:Nat}{sv n iv:AV}{Z:List SS}{e:List (SS×bC)}{f:List (Nat×Nat)}(d:IxI H0 H ib mb nb sv n iv Z e f){x:bC}{i b o:Nat}(J:aG 6 g.rv (iN i)=.val (.ptr b o))(y:PtR H0 (b,o) x)(s:(g.name,x.r.name)∉e.map kq)(hi:i<1000)(p:H.get pb=aB 0 [.str g.name.n g.name.a,g.rv])(hpl:pb<H.nx)(hrl:e.length<=1000)(K:¬ In n pb/\¬ In iv pb/\ib<pb){Q:pS}(hg:∀ H' z A,IxI H0 H' ib mb nb sv z A Z (e++[(g.name,x)]) (f++[(b,o)])->Fm (fun c=>c=nb\/c=ib\/In n c\/In iv c) H H'->(∀c,In z c\/In A c->H.nx<=c)->Ok (v (iN ((i+1))) H') Q):Ok (q6f O v (.ptr ib 0) (.ptr pb 0) (iN i) H) Q:=by
 unfold q6f;obtain⟨o1,o2,o3,o4⟩:=d.o;have B:=d.blk;have p1:=y.fm d.fm;have r0:bI (H.get b) o=.val (.str x.r.name.n x.r.name.a):=p1.nm;have em:=d.mn.miss (iN 0) g.name x.r.name s;have la:=d.a.aX;have C:=d.len;have M:=qP (Gl.flat d.i) 63;simp(disch:=go_size)only[go_sem,rB,rI,rK,rL,rN,rS,r8,p,J,B,r0,em];obtain⟨k,eu,mu⟩:=d.mn.put g.name x.r.name s;rw[lET,<-C]at eu;simp(disch:=go_size)only[go_sem,rB,rI,rK,rL,rN,rS,r8,p,B,r0,la];refine Ok.tT eu ?_;unfold q6g;have q:∀ c,c≠nb->(H.put nb k).get c=H.get c:=fun c h=>dS _ _ _ _ h;have e1:(H.put nb k).get ib=aB 0 [sv,.map mb,.map nb,n,iv]:=(q _ om).trans B;have q1:(H.put nb k).get pb=aB 0 [.str g.name.n g.name.a,g.rv]:=(q _ om).trans p;simp only[go_sem,seval,e1,q1];have N:∀ c,In iv c->c<H.nx:=fun c a=>d.i.lt a;have g2:Gl 1 ((Hp.mk (H.put nb k).t (H.nx+23)).put (H.nx+7) (aB 0 [.ptr b o])) n f.length (f.flatMap ptC):=by refine d.a.keep (show H.nx<=H.nx+23 by omega) fun c a E=>?_;have:=(d.an c a).1;rw[dS _ _ _ _ om];exact q c om
 obtain⟨l,e2,a2,_,X,n2⟩:=g2.append (k:=1) (w:=8) (x:=[.ptr b o]) om rfl om om;simp only[nq]at e2 a2 X n2;refine Ok.tT e2 ?_;have P:∀ c,c<H.nx->c≠nb->¬ In n c->l.get c=H.get c:=fun c h1 L h3=>by refine(X.get c (show c<H.nx+23 by omega) h3).trans ?_;rw[dS _ _ _ _ om];exact q c L
 have D:¬ In n ib:=fun h=>by have:=(d.an ib h).1;omega
 have R:¬ In iv ib:=fun h=>by have:=d.y9 ib h;omega
 have S:=(P ib om om D).trans B;have T:=(P pb om om K.1).trans p;simp only[go_sem,seval,S,T,M];have g3:Gl 1 (l.put (H.nx+15) (aB 0 [.str g.name.n g.name.a])) iv e.length (e.flatMap nmC):=by refine d.i.keep (show H.nx<=l.nx by omega) fun c a E=>?_;have:=d.y9 c a;rw[dS _ _ _ _ om];exact P c E om fun h=>(d.an c h).2 a
 obtain⟨G,e3,a3,_,I,n3⟩:=g3.append (k:=1) (w:=16) (x:=[.str g.name.n g.name.a]) om rfl om om;simp only[nq]at e3 a3 I n3;refine Ok.tT e3 ?_;have t:∀ c,c<H.nx->c≠nb->¬ In n c->¬ In iv c->G.get c=H.get c:=fun c h1 L h3 h4=>by refine(I.get c (show c<l.nx by omega) h4).trans ?_;rw[dS _ _ _ _ om];simp_all
 have U:=(t ib om om D R).trans B;simp only[go_sem,seval,U];unfold zk1;simp(disch:=go_size)only[go_sem,rB,rI,rK,rL,rN,rS,r8];have u:∀ c,In (.sl (H.nx+23) 0 (f.length+1) (f.length+1) false) c->c=H.nx+23:=fun c a=>by obtain⟨_,_,_,_,a⟩:=a;simp_all
 have r:∀ c,In (.sl l.nx 0 (e.length+1) (e.length+1) false) c->c=l.nx:=fun c a=>by obtain⟨_,_,_,_,a⟩:=a;simp_all
 generalize Y:((G.put ib (aB 0 [sv,.map mb,.map nb,.sl (H.nx+23) 0 (f.length+1) (f.length+1) false,iv])).put ib (aB 0 [sv,.map mb,.map nb,.sl (H.nx+23) 0 (f.length+1) (f.length+1) false,.sl l.nx 0 (e.length+1) (e.length+1) false]))=H4;have n4:H4.nx=G.nx:=by rw[<-Y];rfl
 have j:∀ c,c≠ib->H4.get c=G.get c:=fun c h=>by rw[<-Y,dS _ _ _ _ h,dS _ _ _ _ h]
 have b4:H4.get ib=aB 0 [sv,.map mb,.map nb,.sl (H.nx+23) 0 (f.length+1) (f.length+1) false,.sl l.nx 0 (e.length+1) (e.length+1) false]:=by rw[<-Y];exact dL _ _ _
 have V:H4.get mb=H.get mb:=(j mb om).trans (t mb om om (fun h=>by have:=(d.an mb h).1;omega) (fun h=>by have:=d.y9 mb h;omega));have W:H4.get nb=(H.put nb k).get nb:=by refine(j nb om).trans ((I.get nb (show nb<l.nx by omega) (fun h=>by have:=d.y9 nb h;omega)).trans ?_);rw[dS _ _ _ _ om];refine(X.get nb (show nb<H.nx+23 by omega) (fun h=>by have:=(d.an nb h).1;omega)).trans ?_;rw[dS _ _ _ _ om];rfl
 have fF:Fm (fun c=>c=nb\/c=ib\/In n c\/In iv c) H H4:=⟨om,fun c a F=>(j c fun h=>F (.inr (.inl h))).trans (t c a (fun h=>F (.inl h)) (fun h=>F (.inr (.inr (.inl h)))) fun h=>F (.inr (.inr (.inr h))))⟩;refine hg H4 (.sl (H.nx+23) 0 (f.length+1) (f.length+1) false) (.sl l.nx 0 (e.length+1) (e.length+1) false) ⟨b4,d.ms.eq V,?_,?_,?_,?_,?_,⟨o1,o2,o3,om⟩,?_,?_,?_⟩ fF ?_
 ·rw[lID];exact mu.eq W
 ·rw[lEP,lIC,lIE];refine a2.keep om fun c a E=>?_;have:=u c a;rw[j c om,I.get c (show c<l.nx by omega) (fun h=>by have:=N c h;omega),dS _ _ _ _ om]
 ·rw[lEP,lIC,lIE];refine a3.keep om fun c a E=>?_;have:=r c a;exact j c om
 ·simp[C]
 ·intro m h1 L;rw[List.getElem_append,List.getElem_append];split
  ·rename_i h;rw[dif_pos om];exact d.pt m h om
  ·rename_i h;rw[dif_neg om];simpa using y
 ·intro c a;have:=u c a;refine⟨om,fun h=>?_⟩;have:=r c h;omega
 ·intro c a;have:=r c a;omega
 ·refine d.fm.then fF fun c a h=>?_;rcases h with h|h|h|h
  ·omega
  ·omega
  ·have:=(d.an c h).1;omega
  ·have:=d.y9 c h;omega
 ·intro c a;rcases a with a|a
  ·have:=u c a;omega
  ·have:=r c a;omega
theorem ql0{α:Type}{l:List α}(h:l.Nodup)(b:i<l.length):l[i]∉l.take i:=fun c=>by obtain⟨j,a,e⟩:=lOO c;rw[List.getElem_take]at e;exact lO2.1 h j i (by simp at a;omega) b (by simp at a;omega) e
theorem qb4{α β:Type}(g:α->List β)(c:Nat):∀ l:List α,(∀x∈l,(g x).length<=c)->(l.flatMap g).length<=c*l.length
 | [],_=>g3
 |a::l,h=>by rw[lIQ,lEP,lEX,Nat.mul_add,lI1];have:=qb4 g c l fun x b=>h x (lIS _ b);have:=h a lIH;omega
theorem PrX.len(h:PrX X):(dX X).length<=256:=by
 have:=qb4 (fun g:aQ=>g.gs.map fun x=>(g.name,x)) 16 X fun g a=>by rw[lET];exact(h.r g a).1
 have:=h.n;unfold dX;omega
def dR(X:List aQ)(s:Nat):List (SS×bC):=dX (X.take s)
theorem zcw(X:List aQ)(s:Nat):(dR X s).length<=(dX X).length:=by
 unfold dR dX
 conv=>rhs;rw[<-lU9 s X,lIC,lEP]
 omega
theorem zpp{s i:Nat}(a:s<X.length)(b:i<X[s].gs.length):∃ Z,dX X=(dR X s++(X[s].gs.take i).map fun x=>(X[s].name,x))++(X[s].name,X[s].gs[i])::Z:=by
 refine⟨(X[s].gs.drop (i+1)).map (fun x=>(X[s].name,x))++dX (X.drop (s+1)),?_⟩;have c:X=X.take s++X[s]::X.drop (s+1):=by rw[<-lIU a,lU9]
 have d:X[s].gs=X[s].gs.take i++X[s].gs[i]::X[s].gs.drop (i+1):=by rw[<-lIU b,lU9]
 unfold dR dX
 conv=>lhs;rw[c,lIC,lIQ]
 conv=>lhs;rw[d,lID,lUJ]
 simp
theorem qy9(a:(aF X).Nodup){s i:Nat}(b:s<X.length)(c:i<X[s].gs.length):(X[s].name,X[s].gs[i].r.name)∉(dR X s++(X[s].gs.take i).map fun x=>(X[s].name,x)).map kq:=by obtain⟨Z,h⟩:=zpp b c;rw[<-pG,h,lID,lUJ]at a;intro d;exact(lOM.1 a).2.2 _ d (kq (X[s].name,X[s].gs[i])) lIH rfl
theorem zdd{O:Ev.Call}{H0 Hb:Hp}{ib mb nb pb:Nat}{sv:AV}{r:List SS}{X:List aQ}(t:cZ H0 sv X)(u:(aF X).Nodup)(w:(dX X).length<=256){s:Nat}(f:s<X.length)(g:X[s].gs.length<=16){Q:pS}{q:pL}(v:∀ H c iv d,IxI H0 H ib mb nb sv c iv r (dR X s++X[s].gs.map fun x=>(X[s].name,x)) d->Hb.nx<=H.nx->Ok (q H) Q):∀(k i:Nat) (H:Hp) (c iv:AV) (d:List (Nat×Nat)),i<=X[s].gs.length->X[s].gs.length-i<k->IxI H0 H ib mb nb sv c iv r (dR X s++(X[s].gs.take i).map fun x=>(X[s].name,x)) d -> H.get pb=aB 0 [.str X[s].name.n X[s].name.a,X[s].rv]->pb<H.nx->(¬In c pb/\¬ In iv pb/\ib<pb)->Hb.nx<=H.nx -> Ok (qxp O q (.ptr ib 0) (.ptr pb 0) (iN (X[s].gs.length)) k (iN i) H) Q
 |0,i,_,_,_,_,_,h,_,_,_,_,_=>om
 |k+1,i,H,c,iv,d,hi,hk,hI,hpb,hpl,hpn,hbn=>by
  show Ok (q6i O _ _ _ _ (qxp O _ _ _ _ k) _ H) Q;unfold q6i;by_cases a:i<X[s].gs.length
  ·simp only[go_sem,a];obtain⟨b,o,z,p1⟩:=(t.sp _ (lEQ f)).pt a;have p:(dR X s++(X[s].gs.take i).map fun x=>(X[s].name,x)).length<=1000:=by
    have:=zcw X s;rw[lEP,lET,lI6];omega
   obtain⟨A,B,C,D⟩:=hI.o;refine z92 hI z p1 (qy9 u f a) om hpb hpl p hpn fun H' j l m n e=>?_;refine zdd t u w f g v k (i+1) H' j l (d++[(b,o)]) om om ?_ ((n.get pb hpl fun h=>?_).trans hpb) (af hpl n.nx) ⟨fun h=>?_,fun h=>?_,hpn.2.2⟩ (lI7 hbn n.nx)
   ·rw[lER a,lID,lOD,<-lI5];exact m
   ·rcases h with h|h|h|h
    ·omega
    ·omega
    ·exact hpn.1 h
    ·exact hpn.2.1 h
   ·have:=e pb (.inl h);omega
   ·have:=e pb (.inr h);omega
  ·simp only[go_sem,a];have y:i=X[s].gs.length:=om;rw[y,lIN]at hI;exact v H c iv d hI hbn
theorem zdc{O:Ev.Call}{H0:Hp}{ib mb nb:Nat}{sv:AV}{X:List aQ}(n:cZ H0 sv X)(D:(aF X).Nodup)(E:(X.map aQ.name).Nodup)(o:PrX X){Q:pS}{q:pL}(F:∀ H d iv e,IxI H0 H ib mb nb sv d iv (X.map aQ.name) (dX X) e->Ok (q H) Q):∀(k s:Nat) (H:Hp) (d iv:AV) (e:List (Nat×Nat)),s<=X.length->X.length-s<k->IxI H0 H ib mb nb sv d iv ((X.take s).map aQ.name) (dR X s) e -> Ok (qp8 O q (.ptr ib 0) sv (iN (X.length)) k (iN s) H) Q
 |0,s,_,_,_,_,_,h,_=>om
 |k+1,s,H,d,iv,e,hs,hk,hI=>by
  show Ok (q6j O _ _ _ _ (qp8 O _ _ _ _ k) _ H) Q;unfold q6j;have hn:=o.n;by_cases a:s<X.length
  ·simp only[go_sem,a];unfold zkz;have p:=n.fm hI.fm;obtain⟨b1,K,W,e2,_,L,_⟩:=p.rs.at' s a;unfold xG SS.v at L;have I:=lEQ a;obtain⟨K,Y,Z,M⟩:=hI.o;have J:=hI.blk;have b:X[s].name∉(X.take s).map aQ.name:=by
    have G:=ql0 E (i:=s) (by simpa using a);simp_all
   have v:Fm No H ((aK H (aB 0 [.str 0 0,.aA])).put H.nx (aB 0 [.str X[s].name.n X[s].name.a,X[s].rv])):=by exact jW
   have l:uE ((aK H (aB 0 [.str 0 0,.aA])).put H.nx (aB 0 [.str X[s].name.n X[s].name.a,X[s].rv])) mb ((X.take s).map aQ.name):=hI.ms.eq (v.keep om);have T:=l.miss (iN 0) X[s].name b;have w:=(v.keep M).trans J;have y:tX ⟨iA,none⟩ (iN 0) false ⟨((aK H (aB 0 [.str 0 0,.aA])).put H.nx (aB 0 [.str X[s].name.n X[s].name.a,X[s].rv])).t,H.nx+1⟩ (.map mb) (.str X[s].name.n X[s].name.a)=.val (iN 0):=T;simp(disch:=go_size)only[go_sem,rB,rI,rK,rL,rN,rS,r8,W,L,w,y];obtain⟨kk,eu,N⟩:=l.put X[s].name b;refine Ok.tT eu ?_;have z:=n.sp _ I;have j:=z.len;have A:=(o.r _ I).1;simp(disch:=omega)only[go_sem,seval,j];unfold zk2;rw[dD];generalize f:((aK H (aB 0 [.str 0 0,.aA])).put H.nx (aB 0 [.str X[s].name.n X[s].name.a,X[s].rv])).put mb kk=H2 at N;have n2:H2.nx=H.nx+1:=by rw[<-f];rfl
   have m:∀ c,c<H.nx->c≠mb->H2.get c=H.get c:=fun c p G=>by rw[<-f,dS _ _ _ _ G];exact v.keep p
   have B:H2.get H.nx=aB 0 [.str X[s].name.n X[s].name.a,X[s].rv]:=by rw[<-f,dS _ _ _ _ om];exact dL _ _ _
   have C:IxI H0 H2 ib mb nb sv d iv ((X.take s).map aQ.name++[X[s].name]) (dR X s++(X[s].gs.take 0).map fun x=>(X[s].name,x)) e:=by
    rw[lX1,List.map_nil,lIM];refine⟨(m ib M om).trans J,N,hI.mn.eq (m nb om om),hI.a.keep om fun c g j=>m c j ?_,hI.i.keep om fun c g j=>m c j ?_,hI.len,hI.pt,⟨K,Y,Z,om⟩,hI.an,hI.y9,?_⟩
    ·have:=(hI.an c g).1;omega
    ·have:=hI.y9 c g;omega
    ·exact⟨by have:=hI.fm.nx;omega,fun c g _=>(m c (af g hI.fm.nx) om).trans (hI.fm.keep g)⟩
   refine zdd n D o.len a A (Hb:=H2) (fun P r t u R S=>?_) bZ 0 H2 d iv e (lEV _) lf C B om ⟨fun h=>?_,fun h=>?_,om⟩ (lEO _)
   ·unfold q6h;simp(disch:=go_size)only[go_sem,rB,rI,rK,rL,rN,rS,r8];refine zdc n D E o F k (s+1) P r t u om om ?_;have U:dR X (s+1)=dR X s++X[s].gs.map fun x=>(X[s].name,x):=by
     unfold dR dX;rw[lER a,lIC,lIE]
    rw[lER a,lID,lOD,U];exact R
   ·have:=hI.a.lt h;omega
   ·have:=hI.i.lt h;omega
  ·simp only[go_sem,a];have V:s=X.length:=om;rw[V,lIN]at hI;refine F H d iv e ?_;have:dR X X.length=dX X:=by unfold dR;rw[lIN]
   simp_all
structure zN(H:Hp)(ib:Nat)(sv:AV)(X:List aQ):Prop where
 ex:∃ mb nb av iv qs,H.get ib=aB 0 [sv,.map mb,.map nb,av,iv]/\uE H mb (X.map aQ.name)/\iU H nb (aF X)/\Rs 1 ptC H av qs/\Rs 1 nmC H iv (dX X)/\rH av=true/\rH iv=true/\qs.length=(dX X).length /\
  (∀i (h:i<qs.length) (h':i<(dX X).length),PtR H qs[i] (dX X)[i].2)/\mb<H.nx/\nb<H.nx
 lt:ib<H.nx
theorem zN.fm{ib:Nat}(h:zN H ib sv X)(f:Fm No H H'):zN H' ib sv X:=by obtain⟨mb,nb,e,iv,g,j,k,l,m,n,o,p,q,r,c,d⟩:=h.ex;exact⟨⟨mb,nb,e,iv,g,(f.keep h.lt).trans j,k.eq (f.keep c),l.eq (f.keep d),m.fm f,n.fm f,o,p,q,fun i a b=>(r i a b).fm f,af c f.nx,af d f.nx⟩,af h.lt f.nx⟩
theorem zp2(q:SS×bC):(nmC q).length=1:=rfl
theorem zsn(p:aU C)(q:1<=k)(l:cZ H sv X)(m:PrX X)(s:(aF X).Nodup)(t:(X.map aQ.name).Nodup):Ok (C k (.f 80) [.agg [sv]] H) fun r H'=>∃ ib,r=.ptr ib 0/\zN H' ib sv X/\Fm No H H':=by
 obtain⟨j,rfl⟩:=aT q;rw[(p j).zBr];unfold zBr z6k;have n:=l.rs.len;have B:=m.n;have f:wX sv=some [sv]:=by cases sv<;>first|rfl|(exfalso;revert n;exact fun h=>by cases h)
 have g:∀ b,wX (.map b)=some [.map b]:=fun b=>rfl;simp(disch:=first|go_size|omega)only[go_sem,seval,f,n,g];unfold zk3;rw[dD];generalize e:aK (aK (aK (aK H (aB 0 [sv])) (.map [] 0)) (.map [] 0)) (aB 0 [sv,.map (H.nx+1),.map (H.nx+1+1),.aA,.aA])=H1;have w:Fm No H H1:=by rw[<-e];exact fP4
 have D:H1.nx=H.nx+4:=by rw[<-e];rfl
 have x:H1.get (H.nx+1)=.map [] 0:=by rw[<-e];simp(disch:=first|go_size|omega)only[go_sem,seval]
 have k2:H1.get (H.nx+1+1)=.map [] 0:=by rw[<-e];simp(disch:=first|go_size|omega)only[go_sem,seval]
 have y:H1.get (H.nx+1+1+1)=aB 0 [sv,.map (H.nx+1),.map (H.nx+1+1),.aA,.aA]:=by rw[<-e];simp(disch:=go_size)only[go_sem,seval]
 have o:∀ c,¬In AV.aA c:=fun c h=>by obtain⟨_,_,_,_,h⟩:=h;cases h
 refine zdc l s t m (fun A u iv v d=>?_) bZ 0 H1 .aA .aA [] (lEV _) lf ⟨y,lJ.nil _ _ x,lJ.nil _ _ k2,Gl.nil 1 _,Gl.nil 1 _,rfl,fun i h=>by simp at h,⟨om,om,om,om⟩,fun c h=>absurd h (o c),fun c h=>absurd h (o c),w⟩;obtain⟨E,F,G,z⟩:=d.o;refine Ok.ret ⟨_,rfl,⟨⟨_,_,u,iv,v,d.blk,d.ms,?_,d.a.rs qy8,d.i.rs zp2,Gl.flat d.a,Gl.flat d.i,d.len,fun i a b=>(d.pt i a b).fm d.fm,om,om⟩,z⟩,d.fm⟩;have:=d.mn;rw[pG]at this;exact this
structure dF(X:List aQ):Prop where
 pr:PrX X
 al:(aF X).Nodup
 sp:(X.map aQ.name).Nodup
 ty:∀ g∈X,∀x∈g.gs,x.r.types.Nodup/\∀ t∈x.r.types,t.sp∈X.map aQ.name/\(t.rl=sE\/(t.sp,t.rl)∈aF X)
 nd:∀ g∈X,∀x∈g.gs,∀y∈x.r.rule.nodes false,(y.k=2\/y.k=3->(g.name,y.rl)∈aF X)/\(y.k=3->nP X g.name y.rl y.to≠[])
 us:∀ g∈X,∀x∈g.gs,((x.r.rule.nodes false).any (fun n=>decide (n.k=1))=true->x.r.types≠[])/\((x.r.rule.nodes false).any (fun n=>decide (n.k=1))=false->x.r.types≠[]->(g.gs.any fun z=>gD z.r.rule 3 x.r.name)=true)
theorem qdr{a:SS}{x:bC}:(a,x)∈dX X↔∃ g∈X,x∈g.gs/\g.name=a:=by
 unfold dX;rw[lU7];constructor
 ·rintro ⟨g,b,h⟩;rw[lIB]at h;obtain⟨y,c,e⟩:=h;injection e with e1 e2;subst e2;exact⟨g,b,c,e1⟩
 ·simp
theorem qkd{a b:SS}:(a,b)∈aF X↔∃ g∈X,∃x∈g.gs,g.name=a/\x.r.name=b:=by
 rw[<-pG,lIB];constructor
 ·rintro ⟨⟨f,x⟩,h,e⟩;injection e with e1 e2;subst e1;obtain⟨g,c,d,e⟩:=qdr.1 h;exact⟨g,c,x,d,e,e2⟩
 ·rintro ⟨g,c,x,d,rfl,rfl⟩;exact⟨(g.name,x),qdr.2 ⟨g,c,d,rfl⟩,rfl⟩
theorem qrs{α β:Type}{f:α->β}:∀{l:List α},(l.map f).Nodup->∀{x y:α},x∈l->y∈l->f x=f y->x=y
 | [],_,_,_,h,_,_=>by cases h
 |a::l,hn,x,y,hx,hy,e=>by
  rw[lUJ,lXO]at hn;rcases lI8.1 hx with c|c
  ·rcases lI8.1 hy with b|b
   ·rw[c,b]
   ·exact absurd (by rw[<-c,e];exact lIX b) hn.1
  ·rcases lI8.1 hy with b|b
   ·simp_all
   ·exact qrs hn.2 c b e
theorem qr1{α:Type}[DecidableEq α]{l:List α}(h:l.Nodup)(a:i<l.length):(l.findIdx fun q=>decide (q=l[i]))=i:=by rw[List.findIdx_eq a];refine⟨g3,fun j b=>?_⟩;have:=lO2.1 h j i om a b;simp_all
theorem qgb(f:(aF X).Nodup)(j:(X.map aQ.name).Nodup){a b:SS}(h:(a,b)∈aF X):∃ x,qY X a b=some x/\(dX X)[bD X a b]? =some (a,x):=by
 obtain⟨g,l,x,w,rfl,rfl⟩:=qkd.1 h;have q:X.find? (fun p=>decide (p.name=g.name))=some g:=by
  cases c:X.find? (fun p=>decide (p.name=g.name))with
  |none=>rw[List.find?_eq_none]at c;exact absurd (c g l) g3
  |some p=>
   have e:p.name=g.name:=by simpa using lY1 c
   rw[qrs j (lOP c) l e]
 obtain⟨y,m⟩:∃ y,g.gs.find? (fun z=>decide (z.r.name=x.r.name))=some y:=by
  cases c:g.gs.find? (fun z=>decide (z.r.name=x.r.name))with
  |none=>rw[List.find?_eq_none]at c;exact absurd (c x w) g3
  |some y=>exact⟨y,rfl⟩
 have k:qY X g.name x.r.name=some y:=by unfold qY;rw[q];exact m
 have r:y.r.name=x.r.name:=by simpa using lY1 m
 refine⟨y,k,?_⟩;have s:(g.name,y)∈dX X:=qdr.2 ⟨g,l,lOP m,rfl⟩;obtain⟨n,o,e⟩:=lOO s;have t:(dX X).length=(aF X).length:=by rw[<-pG,lET]
 have u:(aF X)[n]'om=(g.name,x.r.name):=by
  have d:(aF X)[n]? =some (kq (dX X)[n]):=by rw[<-pG,lO6,gp o];rfl
  rw[gp om]at d;injection d with d;rw[d,e];show(g.name,y.r.name)=_;rw[r]
 have v:bD X g.name x.r.name=n:=by have:=qr1 f (i:=n) om;rw[u]at this;exact this
 rw[v,gp o,e]
theorem qlj(c:(aF X).Nodup)(d:(X.map aQ.name).Nodup)(a b:SS):(qY X a b).isSome=decide ((a,b)∈aF X):=by
 by_cases h:(a,b)∈aF X
 ·obtain⟨x,k,_⟩:=qgb c d h;simp_all
 ·rw[lIF h];cases j:qY X a b with
  |none=>rfl
  |some x=>obtain⟨p,e,f,g,i⟩:=qgw j;exact absurd (qkd.2 ⟨p,e,x,f,g,i⟩) h
theorem zy2(a b:Nat):qg3 (.ptr a b) .bS=some false:=id rfl
theorem zy3:qg3 .bS .bS=some true:=id rfl
theorem zgd(n b:Bool):jR n (some b)=.val (.bool (bif n then !b else b)):=id rfl
attribute [go_sem] zy2 zy3 zgd
theorem qgz(m:aU C)(n:1<=k){ib:Nat}(o:zN H ib sv X)(d:(aF X).Nodup)(e:(X.map aQ.name).Nodup){a b:SS}(h:(a,b)∈aF X):∃q x,qY X a b=some x/\C k (.f 81) [.ptr ib 0,.str a.n a.a,.str b.n b.a] H=.ok (.ptr q.1 q.2) H/\PtR H q x:=by
 obtain⟨j,rfl⟩:=aT n;obtain⟨x,t,D⟩:=qgb d e h;obtain⟨mb,nb,E,iv,c,l,F,u,v,G,I,J,K,w,L,M⟩:=o.ex;have p:=qrp h;have r:(dX X).length=(aF X).length:=by rw[<-pG,lET]
 have g:bD X a b<c.length:=om;obtain⟨y,z,A,N,_,_,B⟩:=v.at' _ g;have s:bI (H.get y) z=.val (.ptr c[bD X a b].1 c[bD X a b].2):=B 0 (by rw[qy8];omega);refine⟨c[bD X a b],x,t,?_,?_⟩
 ·rw[(m j).zBx];unfold zBx zvj;have i:=u.find (iN 0) a b h;have f:(List.findIdx (fun q=>decide (q=(a,b))) (aF X))=bD X a b:=rfl;rw[f]at i;simp(disch:=go_size)only[go_sem,seval,l,i];unfold zkm;simp only[go_sem,l,A,s]
 ·have:=w _ g om;simp_all
theorem zz3(c:aU C)(d:1<=k){ib:Nat}(e:zN H ib sv X){a b:SS}(h:(a,b)∉aF X):C k (.f 81) [.ptr ib 0,.str a.n a.a,.str b.n b.a] H=.ok .bS H:=by obtain⟨j,rfl⟩:=aT d;obtain⟨mb,nb,l,iv,m,g,n,i,o,p,q,r,s,t,u,v⟩:=e.ex;rw[(c j).zBx];unfold zBx zvj;have f:=i.miss (iN 0) a b h;simp(disch:=go_size)only[go_sem,seval,g,f]
theorem qy7(l:aU C){j:Nat}(m:1<=j){H0:Hp}{ib:Nat}{sv tv:AV}{X:List aQ}(s:zN H0 ib sv X)(b:(aF X).Nodup)(c:(X.map aQ.name).Nodup){ts:List jX}(t:Rs 2 tC H0 tv ts)(f:ts.length<=1000)(to:SS){Q:pS}{q:pH}(B:∀ w H,Ac 1 sC H0 H w (tgL X to ts)->Ok (q w H) Q):∀(k i:Nat) (w:AV) (H:Hp),i<=ts.length->ts.length-i<k->Ac 1 sC H0 H w (tgL X to (ts.take i)) -> Ok (q0v (C j) q (.ptr ib 0) to.v tv (iN (ts.length)) k w (iN i) H) Q
 |0,i,_,_,_,h,_=>om
 |k+1,i,w,H,hi,hk,hw=>by
  show Ok (zkl (C j) _ _ _ _ _ (q0v (C j) _ _ _ _ _ k) _ _ H) Q;unfold zkl;by_cases d:i<ts.length
  ·simp only[go_sem,d];unfold zkk;have u:=t.fm hw.fm;obtain⟨L,M,A,N,_,p,_⟩:=u.at' i d;unfold tC SS.v at p;have o:=zb5 X to d;have v:=qyr X to (ts.take i);rw[lI6]at v;have a:∀ n,Fm No H n->tgP X to ts[i]=false->Ok (qp7 (C j) (q0v (C j) q (.ptr ib 0) (.str to.n to.a) tv (iN (ts.length)) k) w (iN i) n) Q:=fun n F h=>by
    unfold qp7;simp(disch:=go_size)only[go_sem,rB,rI,rK,rL,rN,rS,r8];refine qy7 l m s b c t f to B k (i+1) w n om om ?_;rw[o,h];simpa using hw.no F
   have D:Fm No H ((aK H (aB 0 [.str 0 0,.str 0 0])).put H.nx (aB 0 [.str ts[i].sp.n ts[i].sp.a,.str ts[i].rl.n ts[i].rl.a])):=by exact jW
   have g:=(s.fm hw.fm).fm D;unfold SS.v;unfold tgP at a o;by_cases r:ts[i].rl.n=0/\ts[i].rl.a=0
   ·have y:ts[i].rl=sE:=(o8 _ _).2 r;have E:=lO5 r;rw[lI9 y,qlj b c]at a o;by_cases e:(ts[i].sp,to)∈aF X
    ·obtain⟨O,x,_,z,_⟩:=qgz l (k:=j) m g b c e;rw[lI9 e]at o;simp(disch:=go_size)only[go_sem,seval,A,p,E,z];refine Ok.ve ((hw.no (D.trans fm)).add ts[i].sp 16 rfl om om) ?_;intro G I J;unfold qp7;simp(disch:=go_size)only[go_sem,rB,rI,rK,rL,rN,rS,r8];refine qy7 l m s b c t f to B k (i+1) G I om om ?_;simp_all
    ·have z:=zz3 l (k:=j) m g e;rw[lIF e]at a;simp(disch:=first|omega|exact ti rfl)only[go_sem,seval,A,p,E,z];simp_all
   ·rw[lIF (fun h=>r ((o8 _ _).1 h))]at a;simp(disch:=first|omega|exact ti rfl)only[go_sem,seval,A,p,r];simp_all
  ·simp only[go_sem,d];have K:i=ts.length:=om;simp_all
theorem z0a(a:aU C)(c:1<=k){v:AV}(h:Gl 1 H v n l):∃w,C k (.f 86) [v] H=.ok w H/\Gl 1 H w n l/\(∀b,In w b->In v b):=by obtain⟨j,rfl⟩:=aT c;obtain⟨w,e,d,g,f⟩:=h.clip;refine⟨w,?_,d,f⟩;rw[(a j).zCq];unfold zCq zu0;simp only[go_sem,h.aX,e]
theorem qsn(l:aU C)(u:2<=k){ib:Nat}(v:cZ H sv X)(y:xI X)(o:zN H ib sv X)(d:(aF X).Nodup)(f:(X.map aQ.name).Nodup)(a b to:SS)(m:(a,b)∈aF X):Ok (C k (.f 82) [.ptr ib 0,.str a.n a.a,.str b.n b.a,.str to.n to.a] H) fun r H'=>Ac 1 sC H H' r (nP X a b to):=by obtain⟨j,rfl⟩:=aT u;rw[(l j).zBy];unfold zBy z6g;obtain⟨q,x,s,E,F⟩:=qgz l (k:=j) om o d f m;have A:=F.tv;obtain⟨p,i,t,_,_⟩:=qgw s;have h:=((v.sp p i).rel x t).ty;have B:=y.t p i x t;have D:=h.len;simp only[go_sem,E,A,D];unfold z1p;rw[dD];refine qy7 l om o d f h om to (fun w I n=>?_) bZ 0 .aA H (lEV _) lf (Ac.nil _ _ (Fm.refl _ _));unfold za7;obtain⟨w',e,g,G⟩:=z0a l (k:=j) om n.gl;simp only[go_sem,e];unfold nP;rw[s];exact Ok.ret ⟨g,n.fm,fun c z=>n.nw c (G c z)⟩
theorem q35(n m i:Nat)(h:i<=m):bounds n m none (some (iN i)) none=some ⟨0,i,m⟩:=by show(match(bif Nat.ble i m then some i else none)with|none=>none|some h=>match(some 0:Option Nat)with|none=>none|some l=>some (Bd.mk l h m))=_;rw[ble_eq,lI9 h];rfl
theorem Rs.pre{α:Type}{f:α->List AV}{v:AV}{l:List α}(h:Rs z f H v l)(k:v=.aA\/∃ b o n m e,v=.sl b o n m e/\n<=m/\0<n)(y:i<l.length):∃w,lC z v none (some (iN i)) none=.val w/\Rs z f H w (l.take i):=by
 have a:=h.len;rcases k with rfl|⟨b,o,n,m,e,rfl,t⟩
 ·exfalso;have:l.length=0:=by
   have p:aD .aA=R0.val (iN 0):=rfl;injection a with a;injection a with _ a;injection a with a;omega
  omega
 ·have q:n=l.length:=by
   have p:aD (.sl b o n m e)=R0.val (iN n):=rfl;injection a with a;injection a with _ a;injection a
  subst q;have r:lC z (.sl b o l.length m e) none (some (iN i)) none=jF b o z ⟨0,i,m⟩ e:=by show(match bounds l.length m none (some (iN i)) none with|some bd=>jF b o z bd e|none=>R0.bad)=_;rw[q35 _ _ _ om]
  have s:jF b o z ⟨0,i,m⟩ e=.val (.sl b o i m e):=by unfold jF;simp only[beq_eq];rw[lIF om,lOZ];simp
  refine⟨.sl b o i m e,r.trans s,?_,fun j hj=>?_⟩
  ·rw[lI6,lOE om];rfl
  ·have d:j<i:=by rw[lI6]at hj;omega
   obtain⟨A,B,c,u,C,D,x⟩:=h.at' j om;rw[uY _ _ _ _ _ _ _ _ om]at c;injection c with c;injection c with c i6;subst c i6;refine⟨b,_,uY _ _ _ _ _ _ _ _ d,u,⟨_,_,_,_,rfl⟩,?_,fun m g=>?_⟩
   ·simp_all
   ·have:((l.take i)[j]'hj)=l[j]'om:=List.getElem_take ..;simp only[this]at g ⊢;exact x m g
def kyT(t:jX):SS×SS:=(t.sp,t.rl)
theorem z90{t u:jX}(h:kyT t=kyT u):t=u:=by injection h with h1 h2;cases t;simp_all
theorem zb4{O:Ev.Call}{H:Hp}{tv:AV}{ts:List jX}(g:Rs 2 tC H tv ts)(d:ts.length<=1000){t:jX}{pb:Nat}(e:H.get pb=aB 0 [.str t.sp.n t.sp.a,.str t.rl.n t.rl.a]){Q:pS}{q:pL}{qr:pH}(j:t∉ts->Ok (q H) Q)(l:t∈ts->∀ i:Nat,Ok (qr (iN i) H) Q):∀(k i:Nat),i<=ts.length->ts.length-i<k->t∉ts.take i->Ok (zat O qr q tv (.ptr pb 0) (iN (ts.length)) k (iN i) H) Q
 |0,i,_,h,_=>om
 |k+1,i,hi,hk,hn=>by
  show Ok (zi5 O _ _ _ _ _ (zat O _ _ _ _ _ k) _ H) Q;unfold zi5;by_cases a:i<ts.length
  ·simp only[go_sem,a];unfold zi3;obtain⟨n,o,m,p,_,f,_⟩:=g.at' i a;unfold tC SS.v at f;have c:kU (eqFields [(p1,⟨iA⟩,0),(p1,⟨iA⟩,1)]) (.agg [.str t.sp.n t.sp.a,.str t.rl.n t.rl.a]) (.agg [.str ts[i].sp.n ts[i].sp.a,.str ts[i].rl.n ts[i].rl.a])=some (decide (kyT t=kyT ts[i])):=q3b (kyT t) (kyT ts[i]);by_cases b:kyT t=kyT ts[i]
   ·rw[lI9 b]at c;simp only[go_sem,seval,e,m,f,c];exact l (by rw[z90 b];exact lEQ a) i
   ·rw[lIF b]at c;simp only[go_sem,seval,e,m,f,c];unfold z0w;simp(disch:=omega)only[go_sem];refine zb4 g d e j l k (i+1) om om fun h=>?_;rw[lER a,lEY,lI3]at h;simp_all
  ·simp only[go_sem,a];exact j (by rw[lIW om]at hn;exact hn)
theorem q4e(b:aU C)(g:2<=k){tv:AV}{ts:List jX}(c:Rs 2 tC H tv ts)(a:ts.length<=1000)(t:jX):Ok (C k (.f 154) [tv,.agg [.str t.sp.n t.sp.a,.str t.rl.n t.rl.a]] H) fun r H'=>r=.bool (decide (t∈ts))/\Fm No H H':=by
 obtain⟨j,rfl⟩:∃ j,k=j+1+1:=⟨k-2,om⟩;rw[(b (j+1)).zDf];unfold zDf z5i;simp(disch:=go_size)only[go_sem,seval];rw[(b j).zDm];unfold zDm z5d;have e:=c.len;simp only[go_sem,e];have f:Fm No H (aK (aK H (aB 0 [.str t.sp.n t.sp.a,.str t.rl.n t.rl.a])) (aB 0 [.str t.sp.n t.sp.a,.str t.rl.n t.rl.a])):=by exact xE
 unfold z0x;rw[dD];refine Ok.ve (R:=fun r H'=>((t∉ts/\r=.int .i64 (.negSucc 0))\/(t∈ts/\∃ i:Nat,r=iN i))/\Fm No H H') (zb4 (c.fm f) a (t:=t) (pb:=H.nx+1) (by simp(disch:=go_size)only[go_sem]) (fun h=>?_) (fun h i=>Ok.ret ⟨.inr ⟨h,i,rfl⟩,f⟩) bZ 0 (lEV _) lf (by rw[lX1];exact List.not_mem_nil)) ?_
 ·unfold zi4;exact Ok.ret ⟨.inl ⟨h,rfl⟩,f⟩
 ·rintro _ l ⟨⟨h,rfl⟩|⟨h,i,rfl⟩,d⟩
  ·simp only[go_sem];exact Ok.ret ⟨by rw[lIF h],d⟩
  ·simp only[go_sem];exact Ok.ret ⟨by rw[lI9 h,lI9 (lEV i)],d⟩
theorem q4f(b:aU C)(c:2<=k){tv:AV}{ts:List jX}(d:Rs 2 tC H tv ts)(a:ts.length<=1000){t:jX}(e:t∉ts):Ok (C k (.f 154) [tv,.agg [.str t.sp.n t.sp.a,.str t.rl.n t.rl.a]] H) fun r H'=>r=.bool false/\Fm No H H':=
 (q4e b c d a t).mono fun _ _ h=>by rw[lIF e]at h;exact h
theorem zcv(s:aU C){j:Nat}(I:2<=j){Hb:Hp}{ib:Nat}{sv:AV}{X:List aQ}(J:zN Hb ib sv X)(u:dF X){e:Nat×Nat}{x:bC}(f:PtR Hb e x)(g:rG Hb x)(v:x.r.types.length<=8)(l:x.r.types.Nodup)(m:∀ t∈x.r.types,t.sp∈X.map aQ.name/\(t.rl=sE\/(t.sp,t.rl)∈aF X)){Q:pS}{q:pL}{qr:pH}(K:∀ H,Fm No Hb H->Ok (q H) Q):∀(k i:Nat) (H:Hp),i<=x.r.types.length->x.r.types.length-i<k->Fm No Hb H->Ok (qug (C j) qr q (.ptr ib 0) (.ptr e.1 e.2) x.tv (iN (x.r.types.length)) k (iN i) H) Q
 |0,i,_,_,h,_=>om
 |k+1,i,H,hi,hk,hf=>by
  show Ok (zjj (C j) _ _ _ _ _ _ (qug (C j) _ _ _ _ _ _ k) _ H) Q;unfold zjj;by_cases b:i<x.r.types.length
  ·simp only[go_sem,b];rw[quh];unfold qnh;have L:=g.fm hf;obtain⟨V,W,P,Y,_,F,_⟩:=L.ty.at' i b;unfold tC SS.v at F;have z:=J.fm hf;have M:=m _ (lEQ b);have n:Fm No H ((aK H (aB 0 [.str 0 0,.str 0 0])).put H.nx (aB 0 [.str x.r.types[i].sp.n x.r.types[i].sp.a,.str x.r.types[i].rl.n x.r.types[i].rl.a])):=by exact jW
   have o:=z.fm n;obtain⟨mb,nb,Z,iv,qs,g1,g2,g3,_⟩:=o.ex;have N:tX ⟨iA,none⟩ (iN 0) false ⟨((aK H (aB 0 [.str 0 0,.str 0 0])).put H.nx (aB 0 [.str x.r.types[i].sp.n x.r.types[i].sp.a,.str x.r.types[i].rl.n x.r.types[i].rl.a])).t,H.nx+1⟩ (.map mb) (.str x.r.types[i].sp.n x.r.types[i].sp.a)=.val (iN 1):=g2.find _ _ M.1;have A:=(f.fm hf).fm n;have O:=A.tv;have p:=L.fm n;obtain⟨w,R,T⟩:=p.ty.pre p.tc b;have c:∀ a,Fm No ((aK H (aB 0 [.str 0 0,.str 0 0])).put H.nx (aB 0 [.str x.r.types[i].sp.n x.r.types[i].sp.a,.str x.r.types[i].rl.n x.r.types[i].rl.a])) a->Ok (C j (.f 154) [w,.agg [.str x.r.types[i].sp.n x.r.types[i].sp.a,.str x.r.types[i].rl.n x.r.types[i].rl.a]] a) fun r H'=>r=.bool false/\Fm No a H':=fun a d=>
    q4f s I (T.fm d) (by rw[lI6];omega) (t:=x.r.types[i]) (ql0 l b)
   have fin:∀ a,Fm No H a->Ok (zjh (C j) (qug (C j) qr q (.ptr ib 0) (.ptr e.1 e.2) x.tv (iN (x.r.types.length)) k) (iN i) a) Q:=fun a d=>by rw[q0r];unfold qxd;simp(disch:=omega)only[go_sem];exact zcv s I J u f g v l m K k (i+1) a om om (hf.trans d)
   by_cases G:x.r.types[i].rl.n=0/\x.r.types[i].rl.a=0
   ·have B:=lO5 G;simp(disch:=first|go_size|omega)only[go_sem,seval,P,F,g1,N,B,O,R];refine Ok.iR (c _ (Fm.refl _ _)) ?_;rintro _ a ⟨rfl,d⟩;simp only[go_sem];exact fin a (n.trans d)
   ·have D:(x.r.types[i].sp,x.r.types[i].rl)∈aF X:=by
     rcases M.2 with h|h
     ·exact absurd ((o8 _ _).1 h) G
     ·exact h
    obtain⟨S,y,_,U,_⟩:=qgz s (k:=j) om o u.al u.sp D;have E:C j (.f 81) [.ptr ib 0,.str x.r.types[i].sp.n x.r.types[i].sp.a,.str x.r.types[i].rl.n x.r.types[i].rl.a] ⟨((aK H (aB 0 [.str 0 0,.str 0 0])).put H.nx (aB 0 [.str x.r.types[i].sp.n x.r.types[i].sp.a,.str x.r.types[i].rl.n x.r.types[i].rl.a])).t,H.nx+1⟩=.ok (.ptr S.1 S.2) ((aK H (aB 0 [.str 0 0,.str 0 0])).put H.nx (aB 0 [.str x.r.types[i].sp.n x.r.types[i].sp.a,.str x.r.types[i].rl.n x.r.types[i].rl.a])):=U;simp(disch:=first|go_size|omega)only[go_sem,seval,P,F,g1,N,G,E,O,R];refine Ok.iR (c _ (Fm.refl _ _)) ?_;rintro _ a ⟨rfl,d⟩;simp only[go_sem];exact fin a (n.trans d)
  ·simp only[go_sem,b];exact K H hf
theorem zsp(g:aU C)(h:3<=k){ib:Nat}(i:zN H ib sv X)(l:dF X){c:Nat×Nat}{x:bC}(a:PtR H c x)(b:rG H x)(d:x.r.types.length<=8)(e:x.r.types.Nodup)(f:∀ t∈x.r.types,t.sp∈X.map aQ.name/\(t.rl=sE\/(t.sp,t.rl)∈aF X)):Ok (C k (.f 137) [.ptr ib 0,.ptr c.1 c.2] H) fun r H'=>r=iN 0/\Fm No H H':=by obtain⟨j,rfl⟩:=aT h;rw[(g j).zCy];unfold zCy z5n;have n:=a.tv;have o:=b.ty.len;simp only[go_sem,n,o];unfold z05;rw[dD];refine zcv g om i l a b d e f (fun p m=>?_) bZ 0 H (lEV _) lf (Fm.refl _ _);rw[q0s];exact Ok.ret ⟨rfl,m⟩
theorem zzj(nm n a:Nat):mX nm (.str n a)=.new (.ptr nm 0) (aB 0 [.str n a]):=id rfl
theorem zzk(nm n a:Nat):mX nm (.ptr n a)=.new (.ptr nm 0) (aB 0 [.ptr n a]):=id rfl
attribute [go_sem] zzj zzk
theorem qlb(g:aU C){j:Nat}(K:2<=j){Hb:Hp}{ib:Nat}{sv nv:AV}{X:List aQ}(w:cZ Hb sv X)(x:zN Hb ib sv X)(c:dF X)(s:SS){l:List (Nd×AV)}(z:Rs 5 lH Hb nv l)(m:l.length<=1000)(d:∀ y∈l,(y.1.k=2\/y.1.k=3->(s,y.1.rl)∈aF X)/\(y.1.k=3->nP X s y.1.rl y.1.to≠[])){Q:pS}{q:pH}{qr:AV->pH}(A:∀ H,Fm No Hb H->Ok (q (.bool (l.any fun y=>decide (y.1.k=1))) H) Q):∀(k i:Nat) (u:Bool) (H:Hp),i<=l.length->l.length-i<k->Fm No Hb H->u=((l.take i).any fun y=>decide (y.1.k=1))->Ok (q0p (C j) qr q (.ptr ib 0) (.str s.n s.a) nv (iN (l.length)) k (.bool u) (iN i) H) Q
 |0,i,_,_,_,h,_,_=>om
 |k+1,i,u,H,hi,hk,hf,hu=>by
  show Ok (zjd (C j) _ _ _ _ _ _ (q0p (C j) _ _ _ _ _ _ k) _ _ H) Q;unfold zjd;by_cases b:i<l.length
  ·simp only[go_sem,b];unfold zjc;have N:=z.fm hf;obtain⟨V,W,J,Y,_,t,_⟩:=N.at' i b;unfold lH SS.v at t;have D:=d _ (lEQ b);have o:Fm No H ((aK H (aB 0 [.int .u8 (.ofNat 0),.str 0 0,.str 0 0,.aA,.bool false])).put H.nx (aB 0 [.int .u8 (.ofNat l[i].1.k),.str l[i].1.rl.n l[i].1.rl.a,.str l[i].1.to.n l[i].1.to.a,l[i].2,.bool l[i].1.neg])):=by exact jW
   obtain⟨H1,a⟩:∃ H1,H1=(aK H (aB 0 [.int .u8 (.ofNat 0),.str 0 0,.str 0 0,.aA,.bool false])).put H.nx (aB 0 [.int .u8 (.ofNat l[i].1.k),.str l[i].1.rl.n l[i].1.rl.a,.str l[i].1.to.n l[i].1.to.a,l[i].2,.bool l[i].1.neg]):=⟨_,rfl⟩;rw[<-a]at o;have pb:H1.get H.nx=aB 0 [.int .u8 (.ofNat l[i].1.k),.str l[i].1.rl.n l[i].1.rl.a,.str l[i].1.to.n l[i].1.to.a,l[i].2,.bool l[i].1.neg]:=by rw[a];exact dL _ _ _
   have O:H.nx<H1.nx:=by rw[a];simp only[np,nq];omega
   have e:=(x.fm hf).fm o;have L:((l.take (i+1)).any fun y=>decide (y.1.k=1))=(((l.take i).any fun y=>decide (y.1.k=1))||decide (l[i].1.k=1)):=by rw[lER b,lX5];simp
   have fin:∀ n,Fm No H1 n->Ok (q5w (C j) (q0p (C j) qr q (.ptr ib 0) (.str s.n s.a) nv (iN (l.length)) k) (.bool u) (.ptr H.nx 0) (iN i) n) Q:=fun n B=>by
    unfold q5w;have P:=(B.keep O).trans pb;cases u with
    |true=>unfold zjb;simp(disch:=go_size)only[go_sem,rB,rI,rK,rL,rN,rS,r8];exact qlb g K w x c s z m d A k (i+1) true n om om (hf.trans (o.trans B)) (by rw[L,<-hu];rfl)
    |false=>simp only[go_sem,P];unfold zjb;simp(disch:=go_size)only[go_sem,rB,rI,rK,rL,rN,rS,r8];exact qlb g K w x c s z m d A k (i+1) _ n om om (hf.trans (o.trans B)) (by rw[L,<-hu];rfl)
   by_cases v:l[i].1.k=2
   ·have E:=lO5 v;obtain⟨T,y,_,r,_⟩:=qgz g (k:=j) om e c.al c.sp (D.1 (.inl v));have f:¬ l[i].1.k=3:=om;rw[a]at r;simp(disch:=go_size)only[go_sem,rB,rI,rK,rL,rN,rS,r8,J,t,E,f,r];rw[<-a];exact fin H1 (Fm.refl _ _)
   ·by_cases f:l[i].1.k=3
    ·have F:=lO5 f;have p:=D.1 (.inr f);obtain⟨T,y,_,r,_⟩:=qgz g (k:=j) om e c.al c.sp p;have R:=qsn g (k:=j) om ((w.fm hf).fm o) c.pr.sml e c.al c.sp s l[i].1.rl l[i].1.to p;rw[a]at r;simp(disch:=go_size)only[go_sem,rB,rI,rK,rL,rN,rS,r8,J,t,F,v,r];rw[<-a];refine Ok.ve R ?_;intro tv U M;have G:=M.aX;have I:¬(nP X s l[i].1.rl l[i].1.to).length=0:=fun h=>D.2 f (lIG.1 h);simp only[go_sem,G,I];exact fin U M.fm
    ·simp(disch:=go_size)only[go_sem,rB,rI,rK,rL,rN,rS,r8,J,t,v,f];rw[<-a];exact fin H1 (Fm.refl _ _)
  ·simp only[go_sem,b];have S:i=l.length:=om;rw[S,lIN]at hu;rw[hu];exact A H hf
theorem zz2(d:aU C)(f:3<=k){ib:Nat}(g:cZ H sv X)(h:zN H ib sv X)(i:dF X)(s:SS){l:List (Nd×AV)}(e:Rs 5 lH H nv l)(a:l.length<=1000)(b:∀ y∈l,(y.1.k=2\/y.1.k=3->(s,y.1.rl)∈aF X)/\(y.1.k=3->nP X s y.1.rl y.1.to≠[])):Ok (C k (.f 139) [.ptr ib 0,.str s.n s.a,nv] H) fun r H'=>r=.bB [.bool (l.any fun y=>decide (y.1.k=1)),iN 0]/\Fm No H H':=by obtain⟨j,rfl⟩:=aT f;rw[(d j).zCz];unfold zCz z5m;have c:=e.len;simp only[go_sem,c];unfold z03;rw[dD];refine qlb d om g h i s e a b (fun n m=>?_) bZ 0 false H (lEV _) lf (Fm.refl _ _) rfl;exact Ok.ret ⟨rfl,m⟩
theorem zc9(t:aU C){j:Nat}(A:1<=j){Hb:Hp}{nv:AV}{l:List (Nd×AV)}(u:Rs 5 lH Hb nv l)(o:l.length<=1000){s:SS}{sb:Nat}(v:Hb.get sb=aB 0 [.str s.n s.a])(d:sb<Hb.nx){Q:pS}{q:pL}{qr:pH}(w:∀ i H,l.any (fun y=>gX 3 s y.1)=true->Fm No Hb H->Ok (qr (iN i) H) Q)(B:∀ H,l.any (fun y=>gX 3 s y.1)=false->Fm No Hb H->Ok (q H) Q):∀(k i:Nat) (H:Hp),i<=l.length->l.length-i<k->Fm No Hb H->(l.take i).any (fun y=>gX 3 s y.1)=false->Ok (q0o (C j) qr q nv (.fn 158 [] [.ptr sb 0]) (iN (l.length)) k (iN i) H) Q
 |0,i,_,_,h,_,_=>om
 |k+1,i,H,hi,hk,hf,hn=>by
  show Ok (ziy (C j) _ _ _ _ _ (q0o (C j) _ _ _ _ _ k) _ H) Q;unfold ziy;obtain⟨m,rfl⟩:∃ m,j=m+1:=⟨j-1,om⟩;by_cases a:i<l.length
  ·simp only[go_sem,a];unfold z0p;have D:=u.fm hf;obtain⟨I,J,G,K,_,z,_⟩:=D.at' i a;unfold lH SS.v at z;have e:=(hf.keep d).trans v;have E:=hf.nx;simp only[go_sem,G,z];rw[(t m).zDn];unfold zDn z5c;have x:Fm No H (aK H (aB 0 [.int .u8 (.ofNat l[i].1.k),.str l[i].1.rl.n l[i].1.rl.a,.str l[i].1.to.n l[i].1.to.a,l[i].2,.bool l[i].1.neg])):=by exact kW
   have p:(l.take (i+1)).any (fun y=>gX 3 s y.1)=gX 3 s l[i].1:=by rw[lER a,lX5,hn];simp
   have b:gX 3 s l[i].1=false->Ok (ziw (C (m+1)) (q0o (C (m+1)) qr q nv (.fn 158 [] [.ptr sb 0]) (iN (l.length)) k) (iN i) (aK H (aB 0 [.int .u8 (.ofNat l[i].1.k),.str l[i].1.rl.n l[i].1.rl.a,.str l[i].1.to.n l[i].1.to.a,l[i].2,.bool l[i].1.neg]))) Q:=fun c=>by unfold ziw;simp(disch:=go_size)only[go_sem,rB,rI,rK,rL,rN,rS,r8];exact zc9 t A u o v d w B k (i+1) _ om om (hf.trans x) (by rw[p,c])
   by_cases g:l[i].1.k=3
   ·have f:=lO5 g;by_cases n:l[i].1.rl.n=s.n/\l[i].1.rl.a=s.a
    ·have r:=lO5 n;have c:gX 3 s l[i].1=true:=by unfold gX;rw[lI9 g,lI9 ((o8 _ _).2 n)];rfl
     simp(disch:=go_size)only[go_sem,rB,rI,rK,rL,rN,rS,r8,f,e,r];exact w i _ (lUH.2 ⟨_,lEQ a,c⟩) (hf.trans x)
    ·have c:gX 3 s l[i].1=false:=by unfold gX;rw[lIF (fun h=>n ((o8 _ _).1 h))];simp
     simp(disch:=go_size)only[go_sem,rB,rI,rK,rL,rN,rS,r8,f,e,n];exact b c
   ·have c:gX 3 s l[i].1=false:=by unfold gX;rw[lIF g];simp
    simp(disch:=go_size)only[go_sem,rB,rI,rK,rL,rN,rS,r8,g];exact b c
  ·simp only[go_sem,a];have F:i=l.length:=om;rw[F,lIN]at hn;simp_all
theorem q4i(a:aU C)(o:3<=k){l:List (Nd×AV)}(e:Rs 5 lH H nv l)(b:l.length<=1000){s:SS}(n:H.get sb=aB 0 [.str s.n s.a])(c:sb<H.nx):Ok (C k (.f 157) [nv,.fn 158 [] [.ptr sb 0]] H) fun r H'=>r=.bool (l.any fun y=>gX 3 s y.1)/\Fm No H H':=by
 obtain⟨j,rfl⟩:∃ j,k=j+1+1:=⟨k-2,om⟩;rw[(a (j+1)).zDo];unfold zDo z5b;simp only[go_sem];rw[(a j).zDs];unfold zDs z4y;have d:=e.len;simp only[go_sem,d];unfold z0q;rw[dD];refine Ok.ve (R:=fun r H'=>Fm No H H'/\((l.any (fun y=>gX 3 s y.1)=true/\∃ i,r=iN i)\/(l.any (fun y=>gX 3 s y.1)=false/\r=.int .i64 (.negSucc 0)))) (zc9 a om e b n c (fun i g h f=>Ok.ret ⟨f,.inl ⟨h,i,rfl⟩⟩) (fun g h f=>?_) bZ 0 H (lEV _) lf (Fm.refl _ _) rfl) ?_
 ·unfold zix;exact Ok.ret ⟨f,.inr ⟨h,rfl⟩⟩
 ·rintro r g ⟨m,⟨h,i,rfl⟩|⟨h,rfl⟩⟩
  ·simp only[go_sem,lEV];exact Ok.ret ⟨by rw[h],m⟩
  ·simp only[go_sem];exact Ok.ret ⟨by rw[h],m⟩
theorem qhu{x:bC}(h:rG H x):∃ c0 b c d,x.cs=[c0,b,c,d]/\iK x=[.str x.r.name.n x.r.name.a,x.tv,c0,b,c,d]:=by obtain⟨c0,b,c,d,a⟩:=h.ru.four;exact⟨c0,b,c,d,a,by unfold iK;rw[a];rfl⟩
theorem zsa(c:aU C)(n:iL C)(o:14<=k){x:bC}(g:rG H x)(h:x.r.rule.Rt){s:SS}(p:H.get sb=aB 0 [.str s.n s.a])(a:sb<H.nx):Ok (C k (.f 156) [.agg (iK x),.ptr sb 0] H) fun r H'=>r=.bool (gD x.r.rule 3 s)/\Fm No H H':=by
 obtain⟨j,rfl⟩:=aT o;rw[(c j).zDg];unfold zDg z5h;obtain⟨c0,t,u,v,d,e⟩:=qhu g;rw[e];have f:Fm No H (aK H (aB 0 [.str x.r.name.n x.r.name.a,x.tv,c0,t,u,v])):=by exact kW
 have i:=g.ru.fm f;rw[d]at i;simp(disch:=omega)only[go_sem,seval];refine Ok.ve (qso c n (k:=j) om i h) ?_;rintro _ y ⟨nv,l,rfl,b,m⟩;have q:l.length<=32:=by have:=congrArg List.length m;simp only[lET,qbx]at this;have:=h.sz;omega
 refine Ok.ve (q4i c (k:=j) om (b.rs qce) om (s:=s) ((b.fm.keep (show sb<(aK H _).nx by simp only[np,nq];omega)).trans ((f.keep a).trans p)) (af a (lI7 f.nx b.fm.nx))) ?_;rintro _ z ⟨rfl,w⟩;refine Ok.ret ⟨?_,f.trans (b.fm.trans w)⟩;unfold gD;rw[<-m,lXU];rfl
theorem zcn(m:aU C)(n:iL C){j:Nat}(p:14<=j){Hb:Hp}{g:aQ}(r:SpR Hb g)(e:g.gs.length<=16)(t:∀ x∈g.gs,x.r.rule.Rt){s:SS}{sb:Nat}(u:Hb.get sb=aB 0 [.str s.n s.a])(c:sb<Hb.nx){Q:pS}{q:pL}{qr:pH}(d:∀ i H,g.gs.any (fun x=>gD x.r.rule 3 s)=true->Fm No Hb H->Ok (qr (iN i) H) Q)(z:∀ H,g.gs.any (fun x=>gD x.r.rule 3 s)=false->Fm No Hb H->Ok (q H) Q):∀(k i:Nat) (H:Hp),i<=g.gs.length->g.gs.length-i<k->Fm No Hb H->(g.gs.take i).any (fun x=>gD x.r.rule 3 s)=false->Ok (zas (C j) qr q g.rv (.fn 156 [] [.ptr sb 0]) (iN (g.gs.length)) k (iN i) H) Q
 |0,i,_,_,h,_,_=>om
 |k+1,i,H,hi,hk,hf,hn=>by
  show Ok (zi2 (C j) _ _ _ _ _ (zas (C j) _ _ _ _ _ k) _ H) Q;unfold zi2;by_cases a:i<g.gs.length
  ·simp only[go_sem,a];unfold z0t;have v:=r.fm hf;obtain⟨b,o,A,_,_,_,_,B⟩:=v.at' i a;have f:=lEQ a;simp only[go_sem,A,B];refine Ok.ve (zsa m n p (v.rel _ f) (t _ f) ((hf.keep c).trans u) (af c hf.nx)) ?_;rintro _ E ⟨rfl,w⟩;have l:(g.gs.take (i+1)).any (fun x=>gD x.r.rule 3 s)=gD g.gs[i].r.rule 3 s:=by
    rw[lER a,lX5,hn];simp
   cases y:gD g.gs[i].r.rule 3 s with
   |true=>exact d i _ (lUH.2 ⟨_,f,y⟩) (hf.trans w)
   |false=>unfold z0u;simp(disch:=go_size)only[go_sem,rB,rI,rK,rL,rN,rS,r8];exact zcn m n p r e t u c d z k (i+1) _ om om (hf.trans w) (by rw[l,y])
  ·simp only[go_sem,a];have D:i=g.gs.length:=om;simp_all
theorem zsr(b:aU C)(m:iL C)(o:17<=k)(l:SpR H g)(c:g.gs.length<=16)(n:∀ x∈g.gs,x.r.rule.Rt)(s:SS):Ok (C k (.f 141) [.agg [.str g.name.n g.name.a,g.rv],.str s.n s.a] H) fun r H'=>r=.bool (g.gs.any fun x=>gD x.r.rule 3 s)/\Fm No H H':=by
 obtain⟨j,rfl⟩:∃ j,k=j+1+1+1:=⟨k-3,om⟩;rw[(b (j+1+1)).zDa];unfold zDa z5l;simp(disch:=first|go_size|omega)only[go_sem,seval];have f:Fm No H (aK (aK H (aB 0 [.str g.name.n g.name.a,g.rv])) (aB 0 [.str s.n s.a])):=by exact xE
 rw[(b (j+1)).zDh];unfold zDh z5g;simp only[go_sem];rw[(b j).zDp];unfold zDp z5a;have e:=l.len;simp only[go_sem,e];unfold z0v;rw[dD];refine Ok.ve (R:=fun r H'=>r=.bool (g.gs.any fun x=>gD x.r.rule 3 s)/\Fm No H H') (Ok.ve (R:=fun r H'=>Fm No H H'/\((g.gs.any (fun x=>gD x.r.rule 3 s)=true/\∃ i,r=iN i)\/(g.gs.any (fun x=>gD x.r.rule 3 s)=false/\r=.int .i64 (.negSucc 0)))) (zcn b m (j:=j) om (l.fm f) c n (s:=s) (sb:=H.nx+1) g5 gz (fun i d h a=>Ok.ret ⟨f.trans a,.inl ⟨h,i,rfl⟩⟩) (fun d h a=>?_) bZ 0 _ (lEV _) lf (Fm.refl _ _) rfl) ?_) ?_
 ·unfold zi1;exact Ok.ret ⟨f.trans a,.inr ⟨h,rfl⟩⟩
 ·rintro r d ⟨a,⟨h,i,rfl⟩|⟨h,rfl⟩⟩
  ·simp only[go_sem,lEV];exact Ok.ret ⟨by rw[h],a⟩
  ·simp only[go_sem];exact Ok.ret ⟨by rw[h],a⟩
 ·rintro _ d ⟨rfl,a⟩;exact Ok.ret ⟨rfl,a⟩
structure RlI(H:Hp)(X:List aQ)(g:aQ)(x:bC)(sv:AV)(ib n A0 A1 AR A2:Nat)(q:Nat×Nat):Prop where
 mU:cZ H sv X
 id:zN H ib sv X
 mem:g∈X/\x∈g.gs
 a0:H.get A0=aB 0 [.ptr ib 0]
 a1:H.get A1=aB 0 [.str g.name.n g.name.a,g.rv]
 ar:H.get AR=aB 0 [.ptr q.1 q.2]
 a2:H.get A2=aB 0 [iN n]
 lt:A0<H.nx/\A1<H.nx/\AR<H.nx/\A2<H.nx
 pt:PtR H q x
 nu:bD X g.name x.r.name=n
theorem RlI.fm{x:bC}{ib n a b c d:Nat}{q:Nat×Nat}(h:RlI H X g x sv ib n a b c d q)(f:Fm No H H'):RlI H' X g x sv ib n a b c d q:=by obtain⟨e,i,j,k⟩:=h.lt;have:=f.nx;exact⟨h.mU.fm f,h.id.fm f,h.mem,(f.keep e).trans h.a0,(f.keep i).trans h.a1,(f.keep j).trans h.ar,(f.keep k).trans h.a2,⟨om,om,om,om⟩,h.pt.fm f,h.nu⟩
theorem z81(i:aU C)(l:1<=k){x:bC}{ib n b c d e:Nat}{q:Nat×Nat}(h:RlI H X g x sv ib n b c d e q):C k (.f 135) [.ptr b 0,.ptr c 0,.ptr d 0,.ptr e 0] H=.ok (iN 0) H:=by obtain⟨j,rfl⟩:=aT l;rw[(i j).zCj];unfold zCj z5x;have m:=h.a0;have o:=h.a1;have p:=h.ar;have r:=h.a2;have s:=h.pt.nm;obtain⟨mb,nb,t,iv,u,g1,g2,g3,_⟩:=h.id.ex;have f:=g3.aNJ (iN 0) g.name x.r.name (qkd.2 ⟨g,h.mem.1,x,h.mem.2,rfl,rfl⟩);have a:(List.findIdx (fun q=>decide (q=(g.name,x.r.name))) (aF X))=n:=h.nu;rw[a]at f;simp(disch:=go_size)only[go_sem,seval,m,o,p,r,s,g1,f];rfl
theorem z8z(b:aU C)(f:4<=k){x:bC}{ib n c i d l:Nat}{q:Nat×Nat}(h:RlI H X g x sv ib n c i d l q)(a:dF X):Ok (C k (.f 136) [.ptr c 0,.ptr d 0] H) fun r H'=>r=iN 0/\Fm No H H':=by obtain⟨j,rfl⟩:=aT f;rw[(b j).zCk];unfold zCk z5w;have m:=h.a0;have o:=h.ar;simp only[go_sem,m,o];have e:=a.ty _ h.mem.1 _ h.mem.2;refine Ok.ve (zsp b (k:=j) om h.id a h.pt ((h.mU.sp _ h.mem.1).rel _ h.mem.2) (a.pr.x _ h.mem.1 _ h.mem.2).1 e.1 e.2) ?_;rintro _ s ⟨rfl,p⟩;exact Ok.ret ⟨rfl,p⟩
theorem z8y(o:aU C)(v:4<=k){x:bC}{ib n p s w z c a:Nat}{q:Nat×Nat}(h:RlI H X g x sv ib n p s w z q)(d:dF X){l:List (Nd×AV)}(A:Rs 5 lH H nv l)(b:l.map Prod.fst=x.r.rule.nodes false)(e:H.get c=aB 0 [nv]){u:Bool}(f:H.get a=aB 0 [.bool u])(i:a<H.nx):Ok (C k (.f 138) [.ptr p 0,.ptr s 0,.ptr c 0,.ptr a 0] H) fun r H'=>r=iN 0/\∃ H1,Fm No H H1/\H'=H1.put a (aB 0 [.bool ((x.r.rule.nodes false).any fun y=>decide (y.k=1))]):=by
 obtain⟨j,rfl⟩:=aT v;rw[(o j).zCl];unfold zCl z5v;have D:=h.a0;have E:=h.a1;simp only[go_sem,D,E,e];have F:l.length<=32:=by have:=congrArg List.length b;simp only[lET,qbx]at this;have:=(d.pr.x _ h.mem.1 _ h.mem.2).2.2.1.sz;omega
 refine Ok.ve (zz2 o (k:=j) om h.mU h.id d g.name A om fun y B=>?_) ?_
 ·exact d.nd _ h.mem.1 _ h.mem.2 y.1 (by rw[<-b];exact lIX B)
 rintro _ G ⟨rfl,t⟩;have m:=(t.keep i).trans f;simp only[go_sem,m];refine Ok.ret ⟨rfl,G,t,?_⟩;rw[<-b,lXU];rfl
theorem z8x(s:aU C)(w:iL C)(z:18<=k){x:bC}{ib n A t u B c:Nat}{q:Nat×Nat}(h:RlI H X g x sv ib n A t u B q)(f:dF X)(a:H.get c=aB 0 [.bool ((x.r.rule.nodes false).any fun y=>decide (y.k=1))]):Ok (C k (.f 140) [.ptr c 0,.ptr u 0,.ptr t 0] H) fun r H'=>r=iN 0/\Fm No H H':=by
 obtain⟨j,rfl⟩:=aT z;rw[(s j).zCm];unfold zCm z5u;have E:=h.a1;have i:=h.ar;have F:=h.pt.nm;have l:=h.pt.tv;have d:=h.mU.sp _ h.mem.1;have m:=((d.rel _ h.mem.2).ty).len;have v:=f.us _ h.mem.1 _ h.mem.2;cases e:(x.r.rule.nodes false).any fun y=>decide (y.k=1)with
 |true=>rw[e]at a;have o:¬ x.r.types.length=0:=fun b=>v.1 e (lIG.1 b);simp only[go_sem,a,i,l,m,o];exact Ok.ret ⟨rfl,Fm.refl _ _⟩
 |false=>
  rw[e]at a;by_cases b:0<x.r.types.length
  ·have p:=v.2 e (fun h=>by rw[h]at b;exact absurd b g3);simp(disch:=go_size)only[go_sem,rB,rI,rK,rL,rN,rS,r8,a,i,l,m,b,E,F];refine Ok.iR (zsr s w (k:=j) om d (f.pr.r _ h.mem.1).1 (fun y D=>(f.pr.x _ h.mem.1 y D).2.2.1) x.r.name) ?_;rintro _ I ⟨rfl,G⟩;rw[p];simp only[go_sem];exact Ok.ret ⟨rfl,G⟩
  ·simp only[go_sem,a,i,l,m,b];exact Ok.ret ⟨rfl,Fm.refl _ _⟩
theorem sf2(O:Ev.Call)(qr:pH)(q:pL)(a b:AV)(n:Nat):za1 O qr q a b (n+1)=qp4 O qr q a b (za1 O qr q a b n):=rfl
theorem zr3(f:FuncId)(x y:List AV):wX (.fn f x y)=some [.fn f x y]:=id rfl
attribute [go_sem] zr3
theorem xdx(v:aU C)(w:1<=k){g h i l:FuncId}{n o p q:List AV}(c:H.get b=aB 0 [.fn g [] n,.fn h [] o,.fn i [] p,.fn l [] q]){R1' R2' R3' a:Hp->Prop}(x:Ok (C (k-1) (.f g) n H) fun r H'=>r=iN 0/\R1' H')(g1:∀ H',R1' H'->H'.get b=H.get b)(y:∀ H1,R1' H1->Ok (C (k-1) (.f h) o H1) fun r H'=>r=iN 0/\R2' H')(g2:∀ H',R2' H'->H'.get b=H.get b)(z:∀ H1,R2' H1->Ok (C (k-1) (.f i) p H1) fun r H'=>r=iN 0/\R3' H')(g3:∀ H',R3' H'->H'.get b=H.get b)(A:∀ H1,R3' H1->Ok (C (k-1) (.f l) q H1) fun r H'=>r=iN 0/\a H'):Ok (C k (.f 134) [.sl b 0 4 4 true] H) fun r H'=>r=iN 0/\a H':=by obtain⟨j,rfl⟩:=aT w;rw[(v j).zCn];unfold zCn z5t;simp only[go_sem];unfold z1h;obtain⟨m,B⟩:∃ m,bZ=m+5:=⟨999995,by rw[yR]⟩;rw[dD,B,sf2];unfold qp4;unfold qp3;simp(disch:=omega)only[go_sem,c];refine Ok.ve x ?_;rintro _ H1 ⟨rfl,s⟩;unfold q0u;rw[sf2];unfold qp4;unfold qp3;have d:=(g1 _ s).trans c;simp(disch:=omega)only[go_sem,d];refine Ok.ve (y _ s) ?_;rintro _ E ⟨rfl,t⟩;unfold q0u;rw[sf2];unfold qp4;unfold qp3;have e:=(g2 _ t).trans c;simp(disch:=omega)only[go_sem,e];refine Ok.ve (z _ t) ?_;rintro _ F ⟨rfl,u⟩;unfold q0u;rw[sf2];unfold qp4;unfold qp3;have f:=(g3 _ u).trans c;simp(disch:=omega)only[go_sem,f];refine Ok.ve (A _ u) ?_;rintro _ G ⟨rfl,D⟩;unfold q0u;rw[sf2];unfold qp4;exact Ok.ret ⟨rfl,D⟩
theorem q4h(s:aU C)(P:iL C)(F:20<=k){x:bC}{ib n:Nat}(G:cZ H sv X)(I:zN H ib sv X)(t:dF X)(hn:(dX X)[n]? =some (g.name,x))(p:g∈X/\x∈g.gs):Ok (C k (.f 110) [.ptr ib 0,.agg [.str g.name.n g.name.a,g.rv],iN n] H) fun r H'=>r=iN 0/\Fm No H H':=by
 obtain⟨j,rfl⟩:=aT F;rw[(s j).zBv];unfold zBv z6h;obtain⟨mb,nb,av,iv,z,g1,g2,g3,g4,g5,g6,g7,g8,Z,_⟩:=I.ex;have o:n<(dX X).length:=by
  rcases lOI n (dX X).length with h|h
  ·exact h
  ·simp_all
 have B:(dX X)[n]=(g.name,x):=by simp_all
 have J:=Z n om o;rw[B]at J;obtain⟨b1,o1,e1,e2,_,_,e4⟩:=g4.at' n om;have U:bI (H.get b1) o1=.val (.ptr (z[n]'om).1 (z[n]'om).2):=e4 0 (by rw[qy8];omega);have il:=I.lt;simp(disch:=first|go_size|omega)only[go_sem,seval,g1,e1,U];have V:=t.pr.x _ p.1 _ p.2;generalize m:(((Hp.mk (aK (aK (aK H (aB 0 [.ptr ib 0])) (aB 0 [.str g.name.n g.name.a,g.rv])) (aB 0 [iN n])).t (H.nx+1+1+1+9)).put (H.nx+1+1+1+7) (aB 0 [.bS])).put (H.nx+1+1+1+7) (aB 0 [.ptr (z[n]'om).1 (z[n]'om).2]))=Ha;have w:Fm No H Ha:=by rw[<-m];exact(((((Fm.refl No H).push _).push _).push _).up2 (n:=H.nx+1+1+1+9) om).aH _ _ om |>.aH _ _ om
 have na:Ha.nx=H.nx+12:=by rw[<-m];rfl
 have Q:RlI Ha X g x sv ib n H.nx (H.nx+1) (H.nx+1+1+1+7) (H.nx+1+1) (z[n]'om):=by
  refine⟨G.fm w,I.fm w,p,?_,?_,?_,?_,⟨om,om,om,om⟩,J.fm w,?_⟩
  ·rw[<-m];simp(disch:=first|omega|exact ti rfl|simp only[np,nq];first|done|omega)only[go_sem]
  ·rw[<-m];simp(disch:=first|omega|exact ti rfl|simp only[np,nq];first|done|omega)only[go_sem]
  ·rw[<-m];exact dL _ _ _
  ·rw[<-m];simp(disch:=first|omega|exact ti rfl|simp only[np,nq];first|done|omega)only[go_sem]
  ·obtain⟨y,_,hy⟩:=qgb t.al t.sp (qkd.2 ⟨g,p.1,x,p.2,rfl,rfl⟩);have D:=qr1 t.al (i:=n) (by rw[<-pG,lET];exact o);have F:(aF X)[n]'(by rw[<-pG,lET];exact o)=(g.name,x.r.name):=by
    have R:(aF X)[n]? =some (kq (dX X)[n]):=by rw[<-pG,lO6,gp o];rfl
    rw[gp (by rw[<-pG,lET];exact o),B]at R;exact Option.some.inj R
   rw[F]at D;exact D
 have W:=(J.fm w).ru;obtain⟨c0,c1,c2,c3,hcs,_⟩:=qhu ((G.sp _ p.1).rel _ p.2);have Y:=(((G.sp _ p.1).rel _ p.2).ru).fm w;simp only[go_sem,W];refine Ok.ve (qso s P (k:=j) om Y V.2.2.1) ?_;rintro _ a ⟨nv,l,rfl,E,hl⟩;have n2:=E.fm.nx;obtain⟨c,d⟩:∃ c,c=aK ((aK ((aK a (aB 0 [.aA])).put a.nx (aB 0 [nv])) (aB 0 [.bool false])).put (a.nx+1) (aB 0 [.bool false])) (aB 0 [.fn 135 [] [.ptr H.nx 0,.ptr (H.nx+1) 0,.ptr (H.nx+1+1+1+7) 0,.ptr (H.nx+1+1) 0],.fn 136 [] [.ptr H.nx 0,.ptr (H.nx+1+1+1+7) 0],.fn 138 [] [.ptr H.nx 0,.ptr (H.nx+1) 0,.ptr a.nx 0,.ptr (a.nx+1) 0],.fn 140 [] [.ptr (a.nx+1) 0,.ptr (H.nx+1+1+1+7) 0,.ptr (H.nx+1) 0]]):=⟨_,rfl⟩;have S:Fm No a c:=by rw[d];repeat first|exact Fm.refl _ _|assumption|refine Fm.push ?_ _|refine Fm.aH ?_ _ _ om
 have nf:c.nx=a.nx+3:=by rw[d];rfl
 have K:c.get a.nx=aB 0 [nv]:=by rw[d];simp(disch:=first|go_size|omega)only[go_sem]
 have L:c.get (a.nx+1)=aB 0 [.bool false]:=by rw[d];simp(disch:=first|go_size|omega)only[go_sem]
 have M:c.get (a.nx+1+1)=aB 0 [.fn 135 [] [.ptr H.nx 0,.ptr (H.nx+1) 0,.ptr (H.nx+1+1+1+7) 0,.ptr (H.nx+1+1) 0],.fn 136 [] [.ptr H.nx 0,.ptr (H.nx+1+1+1+7) 0],.fn 138 [] [.ptr H.nx 0,.ptr (H.nx+1) 0,.ptr a.nx 0,.ptr (a.nx+1) 0],.fn 140 [] [.ptr (a.nx+1) 0,.ptr (H.nx+1+1+1+7) 0,.ptr (H.nx+1) 0]]:=by rw[d];simp(disch:=go_size)only[go_sem]
 have u:Fm No Ha c:=E.fm.trans S;have v:=Q.fm u;have N:Rs 5 lH c nv l:=(E.rs qce).fm S;have q:Ok (C j (.f 134) [.sl (a.nx+1+1) 0 4 4 true] c) fun r H'=>r=iN 0/\∃ b,Fm No c b/\Fm No (b.put (a.nx+1) (aB 0 [.bool ((x.r.rule.nodes false).any fun y=>decide (y.k=1))])) H':=by
  refine xdx s (k:=j) om M (R1':=fun H'=>H'=c) (R2':=fun H'=>Fm No c H') (R3':=fun H'=>∃ b,Fm No c b/\H'=b.put (a.nx+1) (aB 0 [.bool ((x.r.rule.nodes false).any fun y=>decide (y.k=1))])) ?_ ?_ ?_ ?_ ?_ ?_ ?_
  ·rw[z81 s om v];exact Ok.ret ⟨rfl,rfl⟩
  ·simp
  ·rintro _ rfl;exact z8z s om v t
  ·intro H' f;exact f.keep om
  ·intro H1 A;exact z8y s om (v.fm A) t (N.fm A) hl ((A.keep om).trans K) ((A.keep om).trans L) (by have:=A.nx;omega) |>.mono fun r H' ⟨e,b,f,h⟩=>⟨e,b,A.trans f,h⟩
  ·rintro _ ⟨b,fm,rfl⟩;rw[dS _ _ _ _ om];exact fm.keep om
  ·rintro _ ⟨b,fm,rfl⟩;have O:RlI (b.put (a.nx+1) (aB 0 [.bool ((x.r.rule.nodes false).any fun y=>decide (y.k=1))])) X g x sv ib n H.nx (H.nx+1) (H.nx+1+1+1+7) (H.nx+1+1) (z[n]'om):=Q.fm ((u.trans fm).aH _ _ om);exact(z8x s P om O t (dL _ _ _)).mono fun r H' ⟨e,f⟩=>⟨e,b,fm,f⟩
 have done:∀ r H',r=AV.int .i64 (.ofNat 0)/\(∃b,Fm No c b/\Fm No (b.put (a.nx+1) (aB 0 [.bool ((x.r.rule.nodes false).any fun y=>decide (y.k=1))])) H')->Ok (.ok r H') fun r H'=>r=iN 0/\Fm No H H':=fun r H' ⟨e,b,f,T⟩=>
  Ok.ret ⟨e,(((w.trans u).trans f).aH (a.nx+1) _ om).trans T⟩
 rcases E.gl.is with⟨h,_⟩|⟨_,_,_,_,_,h,_⟩
 ·subst h;simp(disch:=first|omega|exact ti rfl)only[go_sem,seval];simp(disch:=first|go_size|omega)only[go_sem,seval];rw[<-d];exact Ok.ve q done
 ·subst h;simp(disch:=first|omega|exact ti rfl)only[go_sem,seval];simp(disch:=first|go_size|omega)only[go_sem,seval];rw[<-d];exact Ok.ve q done
theorem zcx{s i:Nat}(b:s<X.length)(a:i<X[s].gs.length):(dX X)[(dR X s).length+i]? =some (X[s].name,X[s].gs[i]):=by obtain⟨Z,h⟩:=zpp b a;rw[h,lIJ g2];simp[lOE (lON a)]
theorem qv7(f:aU C)(g:iL C){j:Nat}(l:20<=j){sv:AV}{X:List aQ}{ib pb:Nat}{Hb:Hp}(m:cZ Hb sv X)(n:zN Hb ib sv X)(c:dF X){s:Nat}(d:s<X.length)(o:Hb.get pb=aB 0 [.str X[s].name.n X[s].name.a,X[s].rv])(b:pb<Hb.nx){Q:pS}{q:pH}{qr:pH}(p:∀ H,Fm No Hb H->Ok (q (iN (((dR X s).length+X[s].gs.length))) H) Q):∀(k i:Nat) (H:Hp),i<=X[s].gs.length->X[s].gs.length-i<k->Fm No Hb H->Ok (qxr (C j) qr q (.ptr ib 0) (.ptr pb 0) (iN (X[s].gs.length)) k (iN (((dR X s).length+i))) (iN i) H) Q
 |0,i,_,_,h,_=>om
 |k+1,i,H,hi,hk,hf=>by
  show Ok (q6t (C j) _ _ _ _ _ (qxr (C j) _ _ _ _ _ k) _ _ H) Q;unfold q6t;have w:=c.pr.len;have r:=zcw X s;by_cases a:i<X[s].gs.length
  ·have t:=(c.pr.r _ (lEQ d)).1;simp only[go_sem,a];unfold zld;have e:=(hf.keep b).trans o;simp only[go_sem,e];refine Ok.ve (q4h f g l (m.fm hf) (n.fm hf) c (zcx d a) ⟨lEQ d,lEQ a⟩) ?_;rintro _ u ⟨rfl,v⟩;unfold zle;unfold zlf;simp(disch:=go_size)only[go_sem,rB,rI,rK,rL,rN,rS,r8];exact qv7 f g l m n c d o b p k (i+1) u om om (hf.trans v)
  ·simp only[go_sem,a];have x:i=X[s].gs.length:=om;simp_all
theorem q3x(f:aU C)(g:iL C){j:Nat}(l:20<=j){sv:AV}{X:List aQ}{ib:Nat}{Hb:Hp}(m:cZ Hb sv X)(n:zN Hb ib sv X)(b:dF X){Q:pS}{q:pL}{qr:pH}(o:∀ H,Fm No Hb H->Ok (q H) Q):∀(k s:Nat) (H:Hp),s<=X.length->X.length-s<k->Fm No Hb H->Ok (q0x (C j) qr q (.ptr ib 0) sv (iN (X.length)) k (iN ((dR X s).length)) (iN s) H) Q
 |0,i,_,_,h,_=>om
 |k+1,s,H,hi,hk,hf=>by
  show Ok (zlg (C j) _ _ _ _ _ (q0x (C j) _ _ _ _ _ k) _ _ H) Q;unfold zlg;have y:=b.pr.n;by_cases a:s<X.length
  ·simp only[go_sem,a];unfold zlc;have c:=m.fm hf;obtain⟨z,A,x,B,_,p,_⟩:=c.rs.at' s a;unfold xG SS.v at p;have d:=c.sp _ (lEQ a);have u:=d.len;have v:=(b.pr.r _ (lEQ a)).1;simp(disch:=first|omega|exact ti rfl)only[go_sem,seval,x,p,u];have e:Fm No H ((aK H (aB 0 [.str 0 0,.aA])).put H.nx (aB 0 [.str X[s].name.n X[s].name.a,X[s].rv])):=by exact jW
   unfold zlh;rw[dD];refine qv7 f g l (c.fm e) ((n.fm hf).fm e) b a (pb:=H.nx) (dL _ _ _) gz (fun r t=>?_) bZ 0 _ (lEV _) lf (Fm.refl _ _);unfold q6s;simp(disch:=go_size)only[go_sem,rB,rI,rK,rL,rN,rS,r8];have w:(dR X s).length+X[s].gs.length=(dR X (s+1)).length:=by unfold dR dX;rw[lER a,lIC,lIE,lEP,lET]
   rw[w];exact q3x f g l m n b o k (s+1) r om om ((hf.trans e).trans t)
  ·simp only[go_sem,a];exact o H hf
theorem qsm(e:aU C)(l:iL C)(s:21<=k)(m:cZ H sv X)(a:dF X):Ok (C k (.f 79) [.agg [sv]] H) fun r H'=>r=iN 0/\Fm No H H':=by
 obtain⟨j,rfl⟩:=aT s;rw[(e j).zBj];unfold zBj z6q;simp(disch:=omega)only[go_sem,seval];have f:Fm No H (aK H (aB 0 [sv])):=by exact kW
 refine Ok.ve (zsq e l (k:=j) om (m.fm f) a.pr) ?_;rintro _ H1 ⟨rfl,g⟩;unfold zla;have u:=g.nx;simp only[np]at u;have n:H1.get H.nx=aB 0 [sv]:=(g.keep gx).trans (jQ _ _);simp only[go_sem,seval,n];have b:=(m.fm f).fm g;refine Ok.ve (zsn e (k:=j) om b a.pr a.al a.sp) ?_;rintro _ v ⟨ib,rfl,p,i⟩;have k2:=(i.keep om).trans n;have c:=b.fm i;obtain⟨mb,nb,z,iv,A,g1,g2,_⟩:=p.ex;have h:=g2.len;have d:=c.rs.len;have x:=a.pr.n;simp only[go_sem,g1,h,k2,d,lOB];unfold zlb;simp only[go_sem,k2,d];unfold z1t;rw[dD];have y:(0:Nat)=(dR X 0).length:=by unfold dR dX;simp
 have o:=q3x e l (j:=j) om c p a (Q:=fun r H'=>r=iN 0/\Fm No H H') (q:=fun H=>za9 (C j) H) (qr:=fun x2 H=>.ok x2 H) (fun w t=>by exact Ok.ret ⟨rfl,((f.trans g).trans i).trans t⟩) bZ 0 v (lEV _) lf (Fm.refl _ _);trivial
theorem qsl(d:aU C)(s:iL C)(t:22<=k)(m:cZ H sv X)(c:dF X)(a b to:SS)(e:(a,b)∈aF X)(l:nP X a b to≠[]):Ok (C k (.f 41) [.agg [sv],.str a.n a.a,.str b.n b.a,.str to.n to.a] H) fun r H'=>∃ tv,r=.bB [tv,iN 0]/\Ac 1 sC H H' tv (nP X a b to):=by
 obtain⟨j,rfl⟩:=aT t;rw[(d j).zBm];unfold zBm z6o;simp(disch:=omega)only[go_sem,seval];have f:Fm No H (aK H (aB 0 [sv])):=by exact kW
 refine Ok.ve (qsm d s (k:=j) om (m.fm f) c) ?_;rintro _ H1 ⟨rfl,i⟩;unfold zk9;have z:=i.nx;have u:H1.get H.nx=aB 0 [sv]:=(i.keep gx).trans (jQ _ _);simp only[go_sem,u];have g:=(m.fm f).fm i;refine Ok.ve (zsn d (k:=j) om g c.pr c.al c.sp) ?_;rintro _ A ⟨ib,rfl,n,o⟩;obtain⟨q,x,_,y,_⟩:=qgz d (k:=j) om n c.al c.sp e;simp only[go_sem,y];refine Ok.ve (qsn d (k:=j) om (g.fm o) c.pr.sml n c.al c.sp a b to e) ?_;intro tv B p;have v:=p.aX;have w:¬(nP X a b to).length=0:=fun h=>l (lIG.1 h);simp only[go_sem,v,w];exact Ok.ret ⟨tv,rfl,p.trans ((f.trans i).trans o)⟩
theorem zqq(p q:SS×SS):kU (fun xs a=>xH p1 ⟨iA⟩ 1 xs a 2 0) (kyP p) (kyP q)=some (decide (p=q)):=q8x p q
theorem iU.aF9{ps:List (SS×SS)}(h:iU H b ps)(z:AV)(x y:SS)(a:(x,y)∈ps):tX ⟨kU fun xs c=>xH p1 ⟨iA⟩ 1 xs c 2 0,some 2⟩ z false H (.map b) (.agg [.str x.n x.a,.str y.n y.a])=.val (iN ((ps.findIdx fun q=>decide (q=(x,y))))):=by have:=h.look (s:=some 2) zqq (fun _=>rfl) z false (x,y);rw[lEZ a]at this;exact this
theorem iU.bDz{ps:List (SS×SS)}(h:iU H b ps)(x y:SS)(a:(x,y)∉ps):∃k,qK ⟨kU fun xs c=>xH p1 ⟨iA⟩ 1 xs c 2 0,some 2⟩ H (.map b) (.agg [.str x.n x.a,.str y.n y.a]) (iN (ps.length))=.ok .undef (H.put b k)/\iU (H.put b k) b (ps++[(x,y)]):=
 h.upd (s:=some 2) zqq (fun _=>rfl) a
structure sF(Hb:Hp)(jK:AV)(H:Hp)(gb N:Nat)(ev:AV)(es:List Edge):Prop where
 blk:H.get gb=aB 0 [iN N,ev]
 lt:gb<Hb.nx
 gl:Gl 3 H ev es.length (es.flatMap Edge.cells)
 fm:Fm (fun c=>c=gb\/In jK c) Hb H
 nw:∀ c,In ev c->In jK c\/Hb.nx<=c
 nin:∀ c,In ev c->gb<c
theorem sF.no{jK a:AV}{es:List Edge}(h:sF Hb jK H gb N a es)(f:Fm No H H'):sF Hb jK H' gb N a es:=
 ⟨(f.keep (af h.lt h.fm.nx)).trans h.blk,h.lt,h.gl.no f,h.fm.then f fun _ _ h=>absurd h id,h.nw,h.nin⟩
theorem sF.base{jK a:AV}{es:List Edge}(h:sF Hb jK H gb N a es)(f:Fm No H H'):sF H' a H' gb N a es:=
 ⟨(f.keep (af h.lt h.fm.nx)).trans h.blk,af h.lt (lI7 h.fm.nx f.nx),h.gl.no f,Fm.refl _ _,fun _ h=>.inl h,h.nin⟩
theorem sF.comp{Hb H H1 g:Hp}{jK i a:AV}{es b:List Edge}(h:sF Hb jK H gb N i es)(f:Fm No H H1)(d:sF H1 i g gb N a b):sF Hb jK g gb N a b:=
 ⟨d.blk,h.lt,d.gl,(h.fm.then f fun _ _ h=>absurd h id).then d.fm fun c j e=>by
  rcases e with e|e
  ·omega
  ·rcases h.nw c e with h|h
   ·exact .inr h
   ·omega,fun c j=>by
  have l:=h.fm.nx;have m:=f.nx;rcases d.nw c j with k|k
  ·exact h.nw c k
  ·exact .inr om,d.nin⟩
structure ToR(X:List aQ)(g:aQ)(x:bC)(y:Nd×AV)(nb mb pb rb yb:Nat)(H:Hp):Prop where
 n:H.get nb=aB 0 [.map mb]
 m:iU H mb (aF X)
 p:H.get pb=aB 0 [.str g.name.n g.name.a,g.rv]
 r:∃ c1 c2 c3 c4 c5,H.get rb=aB 0 [.str x.r.name.n x.r.name.a,c1,c2,c3,c4,c5]
 y:H.get yb=aB 0 (lH y)
theorem z8b(E:aU C)(F:1<=k){jK l:AV}{es:List Edge}(e:sF Hb jK H gb N l es)(G:es.length<=1000000){x:bC}{y:Nd×AV}{nb mb pb rb v:Nat}(i:ToR X g x y nb mb pb rb v H)(f:(g.name,x.r.name)∈aF X){a b:SS}(m:(a,b)∈aF X)(R:(aF X).length<=256):Ok (C k (.f 104) [.str a.n a.a,.str b.n b.a,.ptr gb 0,.ptr nb 0,.ptr pb 0,.ptr rb 0,.ptr v 0] H) fun _ H'=>∃ o,sF Hb jK H' gb N o (es++[⟨bD X g.name x.r.name,bD X a b,y.1.neg⟩]):=by
 obtain⟨j,rfl⟩:=aT F;rw[(E j).zBl];unfold zBl z6p;have z:=e.blk;have I:=i.n;have J:=i.p;obtain⟨U,V,W,Y,Z,O⟩:=i.r;have A:=i.y;have K:=i.m.aF9 (iN 0) g.name x.r.name f;have L:=i.m.aF9 (iN 0) a b m;have S:(List.findIdx (fun q=>decide (q=(g.name,x.r.name))) (aF X))=bD X g.name x.r.name:=rfl;have T:(List.findIdx (fun q=>decide (q=(a,b))) (aF X))=bD X a b:=rfl;have p:tX ⟨kU fun xs n=>xH p1 ⟨iA⟩ 1 xs n 2 0,some 2⟩ (iN 0) false ⟨H.t,H.nx+21⟩ (.map mb) (.agg [.str g.name.n g.name.a,.str x.r.name.n x.r.name.a])=.val (iN ((bD X g.name x.r.name))):=K;have r:tX ⟨kU fun xs n=>xH p1 ⟨iA⟩ 1 xs n 2 0,some 2⟩ (iN 0) false ⟨H.t,H.nx+21⟩ (.map mb) (.agg [.str a.n a.a,.str b.n b.a])=.val (iN ((bD X a b))):=L;unfold lH SS.v at A;simp(disch:=go_size)only[go_sem,seval,z,I,J,O,A,p,r];have s:=af e.lt e.fm.nx;have t:Fm No H ((Hp.mk H.t (H.nx+21)).put (H.nx+17) (aB 0 [iN ((bD X g.name x.r.name)),iN ((bD X a b)),.bool y.1.neg])):=fm;obtain⟨P,B,g2,_,D,Q⟩:=(e.gl.no t).append (k:=1) (w:=24) (x:=Edge.cells ⟨bD X g.name x.r.name,bD X a b,y.1.neg⟩) om rfl om om;simp only[nq]at B g2 Q;refine Ok.tT B ?_;have u:¬ In l gb:=fun h=>by have:=e.nin gb h;omega
 have k2:P.get gb=aB 0 [iN N,l]:=(D.get gb (show gb<H.nx+21 by omega) u).trans ((t.keep s).trans z);simp only[go_sem,seval,k2];have M:=e.fm.nx;refine Ok.ret ⟨.sl (H.nx+21) 0 (es.length+1) (es.length+1) false,dL _ _ _,e.lt,?_,?_,?_,?_⟩
 ·rw[lEP,lIC,lIE];refine g2.keep (lEO _) fun c d _=>?_;obtain⟨_,_,_,_,d⟩:=d;injection d with d;rw[dS _ _ _ _ om]
 ·refine((e.fm.then t fun _ _ h=>absurd h id).then D fun c d h=>?_).put _ _ fun _=>.inl rfl;rcases e.nw c h with h|h
  ·exact .inr h
  ·omega
 ·rintro c ⟨_,_,_,_,d⟩;injection d with d;omega
 ·rintro c ⟨_,_,_,_,d⟩;injection d with d;omega
def eE(X:List aQ)(n:Nat)(neg:Bool)(p:SS×SS):Edge:=⟨n,bD X p.1 p.2,neg⟩
def toF(gb nb pb rb yb:Nat):AV:=.fn 104 [] [.ptr gb 0,.ptr nb 0,.ptr pb 0,.ptr rb 0,.ptr yb 0]
theorem q7u(l:List jX):(zW l).length<=l.length:=by unfold zW;rw[lET];exact lU2 _ _
theorem qzm(o:aU C){j:Nat}(r:1<=j){Hb:Hp}{jK tv:AV}{gb N nb mb pb rb I:Nat}{X:List aQ}{g:aQ}{x:bC}{y:Nd×AV}(s:∀ H,Fm (fun c=>c=gb\/In jK c) Hb H->ToR X g x y nb mb pb rb I H)(t:∀ H,Fm (fun c=>c=gb\/In jK c) Hb H->Rs 2 tC H tv x.r.types)(f:x.r.types.length<=8)(a:(g.name,x.r.name)∈aF X)(u:(aF X).length<=256)(d:∀ p∈zW x.r.types,p∈aF X){E:List Edge}(J:E.length<=900000){Q:pS}{q:pL}(v:∀ H e,sF Hb jK H gb N e (E++(zW x.r.types).map (eE X (bD X g.name x.r.name) y.1.neg))->Ok (q H) Q):∀(k i:Nat) (H:Hp) (e:AV),i<=x.r.types.length->x.r.types.length-i<k->sF Hb jK H gb N e (E++(zW (x.r.types.take i)).map (eE X (bD X g.name x.r.name) y.1.neg)) -> Ok (qx2 (C j) q (toF gb nb pb rb I) tv (iN (x.r.types.length)) k (iN i) H) Q
 |0,i,_,_,_,h,_=>om
 |k+1,i,H,e,hi,hk,hG=>by
  show Ok (q68 (C j) _ _ _ _ (qx2 (C j) _ _ _ _ k) _ H) Q;unfold q68;by_cases b:i<x.r.types.length
  ·simp only[go_sem,b];unfold zl9;obtain⟨M,O,K,P,_,D,_⟩:=(t H hG.fm).at' i b;unfold tC SS.v at D;have m:=zb2 b;have w:Fm No H ((aK H (aB 0 [.str 0 0,.str 0 0])).put H.nx (aB 0 [.str x.r.types[i].sp.n x.r.types[i].sp.a,.str x.r.types[i].rl.n x.r.types[i].rl.a])):=by exact jW
   have z:=q7u (x.r.types.take i);rw[lI6]at z;by_cases n:x.r.types[i].rl.n=0/\x.r.types[i].rl.a=0
   ·have A:=lO5 n;rw[lEZ ((o8 _ _).2 n),lIM]at m;simp(disch:=first|omega|exact ti rfl)only[go_sem,seval,K,D,A];unfold qx3;simp(disch:=go_size)only[go_sem,rB,rI,rK,rL,rN,rS,r8];exact qzm o r s t f a u d J v k (i+1) _ e om om (by rw[m];exact hG.no w)
   ·have l:¬ x.r.types[i].rl=sE:=fun h=>n ((o8 _ _).1 h);rw[lEU l]at m;have B:(x.r.types[i].sp,x.r.types[i].rl)∈aF X:=d _ (by
     unfold zW;rw[lIB];exact⟨x.r.types[i],by rw[lIV];exact⟨lEQ b,by simpa using l⟩,rfl⟩)
    simp(disch:=first|omega|exact ti rfl)only[go_sem,seval,K,D,n];refine Ok.ve (z8b o r (hG.no w) (by rw[lEP,lET];omega) (s _ (hG.no w).fm) a B u) ?_;rintro _ R ⟨F,G⟩;unfold qx3;simp(disch:=go_size)only[go_sem,rB,rI,rK,rL,rN,rS,r8];refine qzm o r s t f a u d J v k (i+1) _ F om om ?_;rw[m,lID,<-lI5];exact G
  ·simp only[go_sem,b];have L:i=x.r.types.length:=om;rw[L,lIN]at hG;exact v H e hG
theorem zdf(o:aU C){j:Nat}(p:1<=j){Hb:Hp}{jK tv:AV}{gb N nb mb pb rb f:Nat}{X:List aQ}{g:aQ}{x:bC}{y:Nd×AV}(t:∀ H,Fm (fun c=>c=gb\/In jK c) Hb H->ToR X g x y nb mb pb rb f H){ts:List SS}(u:∀ H,Fm (fun c=>c=gb\/In jK c) Hb H->Rs 1 sC H tv ts)(l:ts.length<=100)(a:(g.name,x.r.name)∈aF X)(v:(aF X).length<=256)(d:∀ s∈ts,(s,y.1.to)∈aF X){E:List Edge}(z:E.length<=900000){Q:pS}{q:pL}(w:∀ H e,sF Hb jK H gb N e (E++(ts.map fun s=>(s,y.1.to)).map (eE X (bD X g.name x.r.name) y.1.neg))->Ok (q H) Q):∀(k i:Nat) (H:Hp) (e:AV),i<=ts.length->ts.length-i<k->sF Hb jK H gb N e (E++((ts.take i).map fun s=>(s,y.1.to)).map (eE X (bD X g.name x.r.name) y.1.neg)) -> Ok (qx1 (C j) q (.ptr f 0) (toF gb nb pb rb f) tv (iN (ts.length)) k (iN i) H) Q
 |0,i,_,_,_,h,_=>om
 |k+1,i,H,e,hi,hk,hG=>by
  show Ok (q67 (C j) _ _ _ _ _ (qx1 (C j) _ _ _ _ _ k) _ H) Q;unfold q67;by_cases b:i<ts.length
  ·simp only[go_sem,b];unfold zbl;obtain⟨G,I,D,J,F⟩:=(u H hG.fm).at1 (g:=SS.v) (fun _=>rfl) b;have r:=t H hG.fm;have A:=r.y;simp only[go_sem,D,F,A];refine Ok.ve (z8b o p hG (by rw[lEP,lET,lET,lI6];omega) r a (d ts[i] (lEQ b)) v) ?_;rintro _ K ⟨m,n⟩;unfold zl8;simp(disch:=go_size)only[go_sem,rB,rI,rK,rL,rN,rS,r8];refine zdf o p t u l a v d z w k (i+1) _ m om om ?_;rw[lER b,lID,lID,<-lI5];exact n
  ·simp only[go_sem,b];have B:i=ts.length:=om;rw[B,lIN]at hG;exact w H e hG
def ndF(X:List aQ)(g:aQ)(x:bC)(y:Nd):List Edge:=(zR X g.name x y).map (eE X (bD X g.name x.r.name) y.neg)
structure NdR(X:List aQ)(g:aQ)(x:bC)(sv nv:AV)(l:List (Nd×AV))(xb nb mb pb rb:Nat)(H:Hp):Prop where
 mU:cZ H sv X
 x1:H.get xb=aB 0 [sv]
 n:H.get nb=aB 0 [.map mb]
 m:iU H mb (aF X)
 p:H.get pb=aB 0 [.str g.name.n g.name.a,g.rv]
 r:∃ c2 c3 c4 c5,H.get rb=aB 0 [.str x.r.name.n x.r.name.a,x.tv,c2,c3,c4,c5]
 nd:Rs 5 lH H nv l
theorem z9p(b:xI X){a:SS}{x:bC}(c:x.r.types.length<=100)(y:Nd):(zR X a x y).length<=100:=by
 unfold zR;split
 ·have:=q7u x.r.types;omega
 split
 ·simp
 split
 ·rw[lET];exact qqy b _ _ _
 ·simp
theorem z9q(a:xI X){x:bC}(b:x.r.types.length<=100)(y:Nd):(ndF X g x y).length<=100:=by unfold ndF;rw[lET];exact z9p a b y
theorem zdk(J:aU C)(hN:iL C){j:Nat}(hj:22<=j){Hb:Hp}{jK sv nv:AV}{gb N K nb mb pb rb:Nat}{X:List aQ}(A:dF X){g:aQ}{x:bC}(t:g∈X/\x∈g.gs){l:List (Nd×AV)}(L:∀ H,Fm (fun c=>c=gb\/In jK c) Hb H->NdR X g x sv nv l K nb mb pb rb H)(M:K<Hb.nx/\nb<Hb.nx/\mb<Hb.nx/\pb<Hb.nx/\rb<Hb.nx)(hll:l.length<=32)(O:l.map Prod.fst=x.r.rule.nodes false)(P:∀ y∈l,∀p∈zR X g.name x y.1,p∈aF X){E:List Edge}(hE:E.length<=800000){Q:pS}{q:pL}(hq:∀ H o,sF Hb jK H gb N o (E++l.flatMap fun y=>ndF X g x y.1)->Ok (q H) Q):∀(k i:Nat) (H:Hp) (o:AV),i<=l.length->l.length-i<k->sF Hb jK H gb N o (E++(l.take i).flatMap fun y=>ndF X g x y.1) -> Ok (qky (C j) q (.ptr K 0) (.ptr nb 0) (.ptr gb 0) (.ptr pb 0) (.ptr rb 0) nv (iN (l.length)) k (iN i) H) Q
 |0,i,_,_,_,h,_=>om
 |k+1,i,H,o,hi,hk,hG=>by
  show Ok (q69 (C j) _ _ _ _ _ _ _ _ (qky (C j) _ _ _ _ _ _ _ _ k) _ H) Q;unfold q69;obtain⟨t1,t2,t3,t4,t5⟩:=M;by_cases n:i<l.length
  ·simp only[go_sem,n];unfold zbk;have r:=L H hG.fm;obtain⟨b1,o1,e1,e2,_,W,_⟩:=r.nd.at' i n;unfold lH SS.v at W;have S:=A.pr.sml;have htx:=(A.pr.x _ t.1 _ t.2).1;have m:(g.name,x.r.name)∈aF X:=qkd.2 ⟨g,t.1,x,t.2,rfl,rfl⟩;have jL:(aF X).length<=256:=by have:=A.pr.len;rw[<-pG,lET];exact this
   have D:Fm No H ((aK H (aB 0 [.int .u8 (.ofNat 0),.str 0 0,.str 0 0,.aA,.bool false])).put H.nx (aB 0 [.int .u8 (.ofNat l[i].1.k),.str l[i].1.rl.n l[i].1.rl.a,.str l[i].1.to.n l[i].1.to.a,l[i].2,.bool l[i].1.neg])):=by exact jW
   obtain⟨H1,d⟩:∃ H1,H1=(aK H (aB 0 [.int .u8 (.ofNat 0),.str 0 0,.str 0 0,.aA,.bool false])).put H.nx (aB 0 [.int .u8 (.ofNat l[i].1.k),.str l[i].1.rl.n l[i].1.rl.a,.str l[i].1.to.n l[i].1.to.a,l[i].2,.bool l[i].1.neg]):=⟨_,rfl⟩;rw[<-d]at D;have kb:H1.get H.nx=aB 0 (lH l[i]):=by rw[d];exact dL _ _ _
   have n1:H1.nx=H.nx+1:=by rw[d];rfl
   have e:=hG.no D;have nx0:=hG.fm.nx;have T:(E++(l.take i).flatMap fun y=>ndF X g x y.1).length<=900000:=by
    have h1:=qb4 (fun y:Nd×AV=>ndF X g x y.1) 100 (l.take i) fun y _=>z9q S om _;rw[lEP];have h2:(l.take i).length<=32:=by rw[lI6];omega
    omega
   have next:∀ H' f,sF Hb jK H' gb N f ((E++(l.take i).flatMap fun y=>ndF X g x y.1)++ndF X g x l[i].1)->Ok (qhl (C j) (qky (C j) q (.ptr K 0) (.ptr nb 0) (.ptr gb 0) (.ptr pb 0) (.ptr rb 0) nv (iN (l.length)) k) (iN i) H') Q:=fun H' f h=>by unfold qhl;simp(disch:=go_size)only[go_sem,rB,rI,rK,rL,rN,rS,r8];refine zdk J hN hj A t L ⟨t1,t2,t3,t4,t5⟩ hll O P hE hq k (i+1) H' f om om ?_;rw[lER n,lIC,lIE,<-lI5];exact h
   have qL:∀ c,In o c->c<H.nx:=fun c R=>hG.gl.lt R;have gbl:=hG.lt;have z:∀ w,Fm No H1 w->∀ H',Fm (fun c=>c=gb\/In o c) w H'->ToR X g x l[i] nb mb pb rb H.nx H':=fun w f2 H' B=>by
    have ft:Fm (fun c=>c=gb\/In jK c) Hb H':=((e.fm).then f2 fun _ _ h=>absurd h id).then B fun c R a=>by
     rcases a with a|a
     ·omega
     ·rcases hG.nw c a with h|h
      ·exact .inr h
      ·omega
    have Z:=L H' ft;refine⟨Z.n,Z.m,Z.p,?_,?_⟩
    ·obtain⟨c2,c3,c4,c5,h⟩:=Z.r;exact⟨_,_,_,_,_,h⟩
    ·have:=f2.nx;refine(B.get H.nx om fun a=>?_).trans ((f2.keep om).trans kb);rcases a with a|a
     ·omega
     ·have:=qL _ a;omega
   have r1:=L H1 e.fm;have u:=P _ (lEQ n);have b:ndF X g x l[i].1=(zR X g.name x l[i].1).map (eE X (bD X g.name x.r.name) l[i].1.neg):=rfl;unfold zR at u b;by_cases G:l[i].1.k=1
   ·have q1t:=lO5 G;rw[lEZ G]at u b;obtain⟨c2,c3,c4,c5,hrb⟩:=r.r;have rr:=(D.keep (show rb<H.nx by omega)).trans hrb;rw[d]at rr;have hty:=((r.mU.sp _ t.1).rel _ t.2).ty;have hl:=hty.len;simp(disch:=go_size)only[go_sem,rB,rI,rK,rL,rN,rS,r8,e1,W,q1t,rr,hl];unfold zmb;rw[dD,<-d];have v:=e.base (Fm.refl No H1);refine qzm J om (N:=N) (Hb:=H1) (jK:=o) (y:=l[i]) (z H1 (Fm.refl _ _)) (fun H' B=>?_) htx m jL u T (fun H' f h=>?_) bZ 0 H1 o (lEV _) lf ?_
    ·have ft:Fm (fun c=>c=gb\/In jK c) Hb H':=(e.fm).then B fun c R a=>by
      rcases a with a|a
      ·omega
      ·rcases hG.nw c a with h|h
       ·exact .inr h
       ·omega
     exact(((L H' ft).mU.sp _ t.1).rel _ t.2).ty
    ·refine next H' f ?_
     rw[b];exact e.comp (Fm.refl _ _) h
    ·rw[lX1];simpa [zW] using v
   ·rw[lEU G]at u b;by_cases Y:l[i].1.k=2
    ·have q2t:=lO5 Y;rw[lEZ Y]at u b;have U:=(D.keep (show pb<H.nx by omega)).trans r.p;rw[d]at U;simp(disch:=go_size)only[go_sem,rB,rI,rK,rL,rN,rS,r8,e1,W,G,q2t,U];rw[<-d];have v:=e.base (Fm.refl No H1);refine Ok.ve (z8b J om v om (z H1 (Fm.refl _ _) H1 (Fm.refl _ _)) m (u _ lIH) jL) ?_;rintro _ H3 ⟨ev3,hG3⟩;refine next H3 ev3 ?_
     rw[b];exact e.comp (Fm.refl _ _) hG3
    ·rw[lEU Y]at u b;by_cases I:l[i].1.k=3
     ·have q3t:=lO5 I;rw[lEZ I]at u b;have U:=(D.keep (show pb<H.nx by omega)).trans r.p;have rx:=(D.keep (show K<H.nx by omega)).trans r.x1;rw[d]at U rx;simp(disch:=go_size)only[go_sem,rB,rI,rK,rL,rN,rS,r8,e1,W,G,Y,q3t,U,rx];rw[<-d];have V:=A.nd _ t.1 _ t.2 l[i].1 (by rw[<-O];exact lIX (lEQ n));refine Ok.ve (qsl J hN (k:=j) om r1.mU A g.name l[i].1.rl l[i].1.to (V.1 (.inr I)) (V.2 I)) ?_;rintro _ w ⟨tv,rfl,F⟩;have hl:=F.aX;simp only[go_sem,hl];unfold zma;rw[dD];have v:=e.base F.fm;have htl:=qqy S g.name l[i].1.rl l[i].1.to;refine zdf J om (N:=N) (Hb:=w) (jK:=o) (y:=l[i]) (z w F.fm) (fun H' B=>(F.rs qq6).dJ B fun c R a=>?_) htl m jL (fun s a=>u _ (lIX a)) T (fun H' f h=>?_) bZ 0 w o (lEV _) lf ?_
      ·have:=F.nw c R;rcases a with a|a
       ·omega
       ·have:=qL c a;omega
      ·refine next H' f ?_
       rw[b];exact e.comp F.fm h
      ·simp_all
     ·rw[lEU I]at b;simp(disch:=go_size)only[go_sem,rB,rI,rK,rL,rN,rS,r8,e1,W,G,Y,I];rw[<-d];refine next H1 o ?_
      simp_all
  ·simp only[go_sem,n];have he:i=l.length:=om;rw[he,lIN]at hG;exact hq H o hG
theorem dF.tg(c:dF X){a b to s:SS}(h:s∈nP X a b to):(s,to)∈aF X:=by
 unfold nP at h;cases f:qY X a b with
 |none=>rw[f]at h;cases h
 |some x=>rw[f]at h;unfold tgL at h;rw[lIB]at h;obtain⟨t,e,rfl⟩:=h;rw[lIV]at e;have d:=e.2;unfold tgP at d;rw[lI0,qlj c.al c.sp]at d;simp_all
theorem dF.ndt(c:dF X){x:bC}(b:g∈X/\x∈g.gs){y:Nd}(e:y∈x.r.rule.nodes false):∀ p∈zR X g.name x y,p∈aF X:=by
 intro p a;unfold zR at a;have f:=c.nd _ b.1 _ b.2 y e;split at a
 ·unfold zW at a;rw[lIB]at a;obtain⟨t,d,rfl⟩:=a;rw[lIV]at d;rcases((c.ty _ b.1 _ b.2).2 t d.1).2 with h|h
  ·simp[h]at d
  ·exact h
 split at a
 ·simp_all
 split at a
 ·rw[lIB]at a;obtain⟨s,i,rfl⟩:=a;exact c.tg i
 ·cases a
theorem qej(c:PrX X)(a b to:SS):(nP X a b to).length<=8:=by
 unfold nP;cases h:qY X a b with
 |none=>simp
 |some g=>refine lI7 (qyr X to _) ?_;obtain⟨p,d,e,_,_⟩:=qgw h;exact(c.x p d g e).1
theorem zyd(a:PrX X){x:bC}(b:x.r.types.length<=8)(y:Nd):(ndF X g x y).length<=8:=by
 unfold ndF zR;rw[lET];split
 ·have:=q7u x.r.types;omega
 split
 ·simp
 split
 ·rw[lET];exact qej a _ _ _
 ·simp
def relE(X:List aQ)(g:aQ)(x:bC):List Edge:=(x.r.rule.nodes false).flatMap (ndF X g x)
theorem zcr(b:PrX X){x:bC}(a:g∈X/\x∈g.gs):(relE X g x).length<=256:=by unfold relE;have c:=qb4 (ndF X g x) 8 (x.r.rule.nodes false) fun y _=>zyd b (b.x _ a.1 _ a.2).1 y;have d:=qbx x.r.rule false;have e:=(b.x _ a.1 _ a.2).2.2.1.sz;omega
def goE(X:List aQ)(l:List aQ):List Edge:=l.flatMap fun g=>g.gs.flatMap (relE X g)
structure RlR(X:List aQ)(sv:AV)(xb nb mb:Nat)(H:Hp):Prop where
 mU:cZ H sv X
 x1:H.get xb=aB 0 [sv]
 n:H.get nb=aB 0 [.map mb]
 m:iU H mb (aF X)
theorem zdh(D:aU C)(F:iL C){j:Nat}(hj:22<=j){Hb:Hp}{jK sv:AV}{gb N G nb mb pb:Nat}{X:List aQ}(m:dF X){g:aQ}(f:g∈X)(I:∀ H,Fm (fun c=>c=gb\/In jK c) Hb H->RlR X sv G nb mb H/\H.get pb=aB 0 [.str g.name.n g.name.a,g.rv])(o:G<Hb.nx/\nb<Hb.nx/\mb<Hb.nx/\pb<Hb.nx){E:List Edge}(hE:E.length<=100000){Q:pS}{q:pL}(hq:∀ H e,sF Hb jK H gb N e (E++g.gs.flatMap (relE X g))->Ok (q H) Q):∀(k i:Nat) (H:Hp) (e:AV),i<=g.gs.length->g.gs.length-i<k->sF Hb jK H gb N e (E++(g.gs.take i).flatMap (relE X g)) -> Ok (qqh (C j) q (.ptr G 0) (.ptr nb 0) (.ptr gb 0) (.ptr pb 0) g.rv (iN (g.gs.length)) k (iN i) H) Q
 |0,i,_,_,_,h,_=>om
 |k+1,i,H,e,hi,hk,hG=>by
  show Ok (q7a (C j) _ _ _ _ _ _ _ (qqh (C j) _ _ _ _ _ _ _ k) _ H) Q;unfold q7a;obtain⟨t1,t2,t3,t4⟩:=o;by_cases b:i<g.gs.length
  ·simp only[go_sem,b];unfold zbj;obtain⟨r,rp⟩:=I H hG.fm;have p:=r.mU.sp _ f;obtain⟨b1,o1,e1,e2,_,_,_,e6⟩:=p.at' i b;have n:=lEQ b;have s:=p.rel _ n;obtain⟨c0,T,U,V,W,Y⟩:=qhu s;have t:=m.pr.x _ f _ n;rw[Y]at e6;have h16:=(m.pr.r _ f).1;obtain⟨H1,d⟩:∃ H1,H1=(aK H (aB 0 [.str 0 0,.aA,.int .u8 (.ofNat 0),.str 0 0,.str 0 0,.aA])).put H.nx (aB 0 [.str g.gs[i].r.name.n g.gs[i].r.name.a,g.gs[i].tv,c0,T,U,V]):=⟨_,rfl⟩;have w:Fm No H H1:=by rw[d];exact jW
   have kb:H1.get H.nx=aB 0 [.str g.gs[i].r.name.n g.gs[i].r.name.a,g.gs[i].tv,c0,T,U,V]:=by rw[d];exact dL _ _ _
   have n1:H1.nx=H.nx+1:=by rw[d];rfl
   have jV:=s.ru.fm w;rw[W]at jV;have O:=qso D F (k:=j) om jV t.2.2.1;simp(disch:=go_size)only[go_sem,rB,rI,rK,rL,rN,rS,r8,e1,e6];rw[<-d];refine Ok.ve O ?_;rintro _ H2 ⟨nv,l,rfl,z,A⟩;have L:=z.aX;simp only[go_sem,L];unfold zmc;rw[dD];have u:=z.fm;have n2:=u.nx;have nx0:=hG.fm.nx;have gbl:=hG.lt;have qL:∀ c,In e c->c<H.nx:=fun c v=>hG.gl.lt v;have M:l.length<=32:=by have:=congrArg List.length A;simp only[lET,qbx]at this;have:=t.2.2.1.sz;omega
   have P:(E++(g.gs.take i).flatMap (relE X g)).length<=800000:=by
    have h1:=qb4 (relE X g) 256 (g.gs.take i) fun x n=>zcr m.pr ⟨f,lUG n⟩;rw[lEP];have h2:(g.gs.take i).length<=16:=by rw[lI6];omega
    omega
   have R:=hG.base (w.trans u);refine zdk D F hj (N:=N) (Hb:=H2) (jK:=e) (sv:=sv) (mb:=mb) m (x:=g.gs[i]) ⟨f,n⟩ (l:=l) (fun H' J=>?_) ⟨om,om,om,om,om⟩ M A (fun y hy=>m.ndt ⟨f,n⟩ (by rw[<-A];exact lIX hy)) P (fun H' K h=>?_) bZ 0 H2 e (lEV _) lf (by simpa using R)
   ·have ft:Fm (fun c=>c=gb\/In jK c) Hb H':=(hG.fm.then (w.trans u) fun _ _ h=>absurd h id).then J fun c v a=>by
     rcases a with a|a
     ·exact .inl a
     ·rcases hG.nw c a with h|h
      ·exact .inr h
      ·omega
    obtain⟨B,Z⟩:=I H' ft;refine⟨B.mU,B.x1,B.n,B.m,Z,⟨c0,T,U,V,?_⟩,(z.rs qce).dJ J fun c v a=>?_⟩
    ·refine(J.get H.nx om fun a=>?_).trans ((u.keep om).trans kb);rcases a with a|a
     ·omega
     ·have:=qL _ a;omega
    ·have:=z.nw c v;rcases a with a|a
     ·omega
     ·have:=qL c a;omega
   ·unfold q66;simp(disch:=go_size)only[go_sem,rB,rI,rK,rL,rN,rS,r8];refine zdh D F hj m f I ⟨t1,t2,t3,t4⟩ hE hq k (i+1) H' K om om ?_;have S:relE X g g.gs[i]=l.flatMap fun y=>ndF X g g.gs[i] y.1:=by
     unfold relE;rw[<-A,lXI]
    rw[lER b,lIC,lIE,<-lI5,S];exact hG.comp (w.trans u) h
  ·simp only[go_sem,b];have he:i=g.gs.length:=om;rw[he,lIN]at hG;exact hq H e hG
theorem zdj(b:PrX X)(i:Nat):(goE X (X.take i)).length<=65536:=by
 unfold goE;have f:=qb4 (fun g:aQ=>g.gs.flatMap (relE X g)) 4096 (X.take i) fun g c=>by have a:=lUG c;have e:=qb4 (relE X g) 256 g.gs fun x d=>zcr b ⟨a,d⟩;have:=(b.r g a).1;omega
 have e:(X.take i).length<=16:=by rw[lI6];have:=b.n;omega
 omega
theorem zdg(u:aU C)(v:iL C){j:Nat}(w:22<=j){Hb:Hp}{jK sv:AV}{gb N l nb mb:Nat}{X:List aQ}(f:dF X)(m:∀ H,Fm (fun c=>c=gb\/In jK c) Hb H->RlR X sv l nb mb H)(g:l<Hb.nx/\nb<Hb.nx/\mb<Hb.nx){Q:pS}{q:pL}(x:∀ H e,sF Hb jK H gb N e (goE X X)->Ok (q H) Q):∀(k s:Nat) (H:Hp) (e:AV),s<=X.length->X.length-s<k->sF Hb jK H gb N e (goE X (X.take s)) -> Ok (qkz (C j) q (.ptr l 0) (.ptr nb 0) (.ptr gb 0) sv (iN (X.length)) k (iN s) H) Q
 |0,i,_,_,_,h,_=>om
 |k+1,s,H,e,hi,hk,hG=>by
  show Ok (q7b (C j) _ _ _ _ _ _ (qkz (C j) _ _ _ _ _ _ k) _ H) Q;unfold q7b;obtain⟨L,M,O⟩:=g;have R:=f.pr.n;by_cases a:s<X.length
  ·simp only[go_sem,a];unfold zbi;have r:=m H hG.fm;obtain⟨T,U,P,V,_,A,_⟩:=r.mU.rs.at' s a;unfold xG SS.v at A;have o:=lEQ a;have B:=(r.mU.sp _ o).len;have D:=(f.pr.r _ o).1;obtain⟨H1,d⟩:∃ H1,H1=(aK H (aB 0 [.str 0 0,.aA])).put H.nx (aB 0 [.str X[s].name.n X[s].name.a,X[s].rv]):=⟨_,rfl⟩;have p:Fm No H H1:=by rw[d];exact jW
   have F:H1.get H.nx=aB 0 [.str X[s].name.n X[s].name.a,X[s].rv]:=by rw[d];exact dL _ _ _
   have S:H1.nx=H.nx+1:=by rw[d];rfl
   simp(disch:=first|omega|exact ti rfl)only[go_sem,seval,P,A,B];rw[<-d];unfold zmd;rw[dD];have G:=hG.fm.nx;have I:=hG.lt;have qL:∀ c,In e c->c<H.nx:=fun c y=>hG.gl.lt y;have t:=hG.base p;refine zdh u v w (N:=N) (Hb:=H1) (jK:=e) (sv:=sv) (mb:=mb) f o (fun H' z=>?_) ⟨om,om,om,om⟩ (E:=goE X (X.take s)) (by have:=zdj f.pr s;omega) (fun H' n h=>?_) bZ 0 H1 e (lEV _) lf (by simpa using t)
   ·have J:Fm (fun c=>c=gb\/In jK c) Hb H':=(hG.fm.then p fun _ _ h=>absurd h id).then z fun c y b=>by
     rcases b with b|b
     ·omega
     ·rcases hG.nw c b with h|h
      ·exact .inr h
      ·omega
    refine⟨m H' J,(z.get H.nx om fun b=>?_).trans F⟩;rcases b with b|b
    ·omega
    ·have:=qL _ b;omega
   ·unfold qx4;simp(disch:=go_size)only[go_sem,rB,rI,rK,rL,rN,rS,r8];refine zdg u v w f m ⟨L,M,O⟩ x k (s+1) H' n om om ?_;unfold goE at h ⊢;rw[lER a,lIC,lIE];exact hG.comp p h
  ·simp only[go_sem,a];have K:s=X.length:=om;rw[K,lIN]at hG;exact x H e hG
end Go.Di
end
section
namespace Go.Di
open Go.Ev
variable {i k m n:Nat} {ms:List Nat}
def kT(n:Nat)(e:T3):Nat:=(e.f*n+e.t)*2+e.s
theorem zrh{e:T3}(h:e∈ent n ms i k):e.f=i/\e.t=k/\e.s<2/\0<ms.getD (i*n+k) 0:=by
 rcases lEY.1 h with h|h
 ·split at h
  ·rw[lI3]at h;subst h;refine⟨rfl,rfl,Nat.zero_lt_two,?_⟩;omega
  ·cases h
 ·split at h
  ·rename_i a;rw[lI3]at h;subst h;exact⟨rfl,rfl,Nat.one_lt_two,om⟩
  ·cases h
theorem xd3(n:Nat)(ms:List Nat)(i k:Nat):(ent n ms i k).Pairwise (fun a b=>kT n a<kT n b):=by unfold ent;split<;>split<;>simp[kT]
theorem q3v{n:Nat}{ms:List Nat}{i:Nat}{e:T3}:∀{k:Nat},e∈eR n ms i k->e.f=i/\e.t<k/\e.s<2/\0<ms.getD (i*n+e.t) 0
 |0,h=>by cases h
 |k+1,h=>by
  rcases lEY.1 h with h|h
  ·obtain⟨a,b,c,d⟩:=q3v h;omega
  ·obtain⟨a,b,c,d⟩:=zrh h;simp_all
theorem xd8(n:Nat)(ms:List Nat)(i:Nat):∀ k,(eR n ms i k).Pairwise (fun a b=>kT n a<kT n b)
 |0=>List.Pairwise.nil
 |k+1=>by refine lOL.2 ⟨xd8 n ms i k,xd3 n ms i k,fun a c b d=>?_⟩;obtain⟨e,h,j,_⟩:=q3v c;obtain⟨f,g,l,_⟩:=zrh d;unfold kT;rw[e,f,g];omega
theorem qv5{n:Nat}{ms:List Nat}{e:T3}:∀{i:Nat},e∈eM n ms i->e.f<i/\e.t<n/\e.s<2/\0<ms.getD (e.f*n+e.t) 0
 |0,h=>by cases h
 |i+1,h=>by
  rcases lEY.1 h with h|h
  ·obtain⟨a,b,c,d⟩:=qv5 h;omega
  ·obtain⟨a,b,c,d⟩:=q3v h;simp_all
theorem xea(n:Nat)(ms:List Nat):∀ i,(eM n ms i).Pairwise (fun a b=>kT n a<kT n b)
 |0=>List.Pairwise.nil
 |i+1=>by refine lOL.2 ⟨xea n ms i,xd8 n ms i n,fun a c b d=>?_⟩;obtain⟨f,h,j,_⟩:=qv5 c;obtain⟨g,k,l,_⟩:=q3v d;have e:(a.f+1)*n<=i*n:=lO9 n f;rw[lOS,lUB]at e;unfold kT;rw[g];omega
theorem zr1{a b:Int}(h:a<b):jD a b= -1:=by unfold jD;rw[lEZ h]
theorem q82(a:Int):jD a a=0:=by unfold jD;rw[lEU (Int.lt_irrefl a),lEU (Int.lt_irrefl a)]
theorem xdq{a b:T3}(i:a.t<n)(j:b.t<n)(k:a.s<2)(sb:b.s<2)(h:kT n a<kT n b):uJ (toE a) (toE b)<0:=by
 unfold kT at h;rcases lUW a.f b.f with c|c|c
 ·show orI [jD (.ofNat a.f) (.ofNat b.f),_,_]<0;rw[zr1 (by simp only[lIA];omega)];exact Int.negSucc_lt_zero 0
 ·have f:a.f*n=b.f*n:=by rw[c]
  rcases lUW a.t b.t with d|d|d
  ·show orI [jD (.ofNat a.f) (.ofNat b.f),jD (.ofNat a.t) (.ofNat b.t),_]<0;rw[c,q82,zr1 (a:=.ofNat a.t) (by simp only[lIA];omega)];exact Int.negSucc_lt_zero 0
  ·have e:a.s=0/\b.s=1:=om;show orI [jD (.ofNat a.f) (.ofNat b.f),jD (.ofNat a.t) (.ofNat b.t),jD (sgn (decide (a.s=1))) (sgn (decide (b.s=1)))]<0;rw[c,d,q82,q82,e.1,e.2];decide
  ·omega
 ·have g:(b.f+1)*n<=a.f*n:=lO9 n c;rw[lOS,lUB]at g;omega
theorem zdx(n:Nat)(ms:List Nat):qdy n (qcr n ms):=by
 refine⟨fun e b=>?_,fun i a=>?_⟩
 ·obtain⟨x,d,rfl⟩:=lIB.1 b;obtain⟨f,g,_⟩:=qv5 d;exact⟨f,g⟩
 ·unfold qcr at a ⊢;rw[lET]at a;rw[lUT,lUT];have c:=xea n ms n;have:=lO2.1 c i (i+1) om a (lU6 i);obtain⟨_,h,j,_⟩:=qv5 (lEQ (show i<(eM n ms n).length by omega));obtain⟨_,k,l,_⟩:=qv5 (lEQ a);exact xdq h k j l this
theorem z96{n i j a b:Nat}(d:j<n)(c:b<n)(h:i*n+j=a*n+b):i=a/\j=b:=by
 have e:(i*n+j) / n=i:=by rw[lXS,Nat.mul_add_div om,Nat.div_eq_of_lt d,lO7]
 have f:(a*n+b) / n=a:=by rw[lXS,Nat.mul_add_div om,Nat.div_eq_of_lt c,lO7]
 simp_all
def ltE(x y:Edge):Bool:=decide (uJ x y<0)
theorem qr4(cs:List Nat)(a c v:Nat)(b:c<cs.length):(cs.set a v).getD c 0=if a=c then v else cs.getD c 0:=by
 rw[lES,lES,lXA];by_cases h:a=c
 ·simp_all
 ·simp_all
theorem zxy(n:Nat)(ms:List Nat)(f t:Nat)(s:Bool):(kP n ms f t s).length=ms.length:=by
 unfold kP;generalize (if s=true then 2 else 1)=d;by_cases a:ms.getD (f*n+t) 0 / d%2=0
 ·simp_all
 ·rw[lEU a]
theorem zxz(l:ms.length=n*n){f t:Nat}(s:Bool)(c:i<n)(a:k<n)(g:t<n)(m:ms.getD (i*n+k) 0<=3):(kP n ms f t s).getD (i*n+k) 0<=3/\((kP n ms f t s).getD (i*n+k) 0%2=1↔ms.getD (i*n+k) 0%2=1\/(f=i/\t=k/\s=false))/\(1<(kP n ms f t s).getD (i*n+k) 0↔1<ms.getD (i*n+k) 0\/(f=i/\t=k/\s=true)):=by
 have o:=zqv c a;by_cases e:f=i/\t=k
 ·obtain⟨rfl,rfl⟩:=e;unfold kP;generalize j:ms.getD (f*n+t) 0=v at *;cases s
  ·simp only[lUE,lX7];by_cases h:v / 1%2=0
   ·rw[lEZ h,qr4 _ _ _ _ om,lEZ rfl];refine⟨om,?_,?_⟩
    ·simp;omega
    ·simp;omega
   ·simp_all
  ·simp only[lU8];by_cases h:v / 2%2=0
   ·rw[lEZ h,qr4 _ _ _ _ om,lEZ rfl];refine⟨om,?_,?_⟩
    ·simp
    ·simp
   ·rw[lEU h,j];refine⟨om,?_,?_⟩
    ·simp
    ·simp;omega
 ·have:(kP n ms f t s).getD (i*n+k) 0=ms.getD (i*n+k) 0:=by
   unfold kP;generalize (if s=true then 2 else 1)=d;by_cases b:ms.getD (f*n+t) 0 / d%2=0
   ·rw[lEZ b,qr4 _ _ _ _ om,lEU fun h=>e (z96 g a h)]
   ·rw[lEU b]
  omega
theorem qrb{n i k:Nat}(a:i<n)(b:k<n):∀(ts:List T3) (ms:List Nat),ms.length=n*n->(∀e∈ts,e.f<n/\e.t<n)->ms.getD (i*n+k) 0<=3 -> ((qJ n ms ts).getD (i*n+k) 0%2=1↔ms.getD (i*n+k) 0%2=1\/∃ e∈ts,e.f=i/\e.t=k/\decide (e.s=1)=false)/\(1<(qJ n ms ts).getD (i*n+k) 0↔1<ms.getD (i*n+k) 0\/∃ e∈ts,e.f=i/\e.t=k/\decide (e.s=1)=true)
 | [],ms,_,_,_=>by simp[qJ]
 |e::l,ms,hl,hT,h3=>by obtain⟨d,g,h⟩:=zxz hl (f:=e.f) (t:=e.t) (decide (e.s=1)) a b (hT e lIH).2 h3;obtain⟨j,m⟩:=qrb a b l (kP n ms e.f e.t (decide (e.s=1))) (by rw[zxy,hl]) (fun x c=>hT x (lIS _ c)) d;show((qJ n (kP n ms e.f e.t (decide (e.s=1))) l).getD _ 0%2=1↔_)/\_;rw[j,g];show _/\(1<(qJ n (kP n ms e.f e.t (decide (e.s=1))) l).getD _ 0↔_);rw[m,h];simp only[lI8,exists_eq_or_imp,or_assoc,and_self]
def bn(b:Bool):Nat:=if b then 1 else 0
theorem xem{a b:Bool}(h:bn a=bn b):a=b:=by cases a<;>cases b<;>first|rfl|(simp[bn]at h)
theorem z2s(b:Bool):sgn b=(bn b:Int):=by cases b<;>rfl
def oU(x y:Edge):Prop:=x.f<y.f\/(x.f=y.f/\(x.t<y.t\/(x.t=y.t/\bn x.s<bn y.s)))
theorem zqb(x y:Edge):ltE x y=true↔oU x y:=by unfold ltE uJ oU;rw[z2s,z2s];simp only[orI,jD,lIA,lO8];omega
theorem q8k(x y:Edge):ltE x y=false↔¬ oU x y:=by rw[<-zqb];cases ltE x y<;>simp
theorem oU.tri{x y:Edge}(g:¬ oU x y)(h:¬ oU y x):x=y:=by unfold oU at g h;obtain⟨a,b,c⟩:=x;obtain⟨d,e,f⟩:=y;simp only at g h;have i:a=d:=om;have j:b=e:=om;have k:bn c=bn f:=om;subst i;subst j;rw[xem k]
theorem oU.irr(x:Edge):¬ oU x x:=by unfold oU;omega
theorem oU.trans{x y z:Edge}:oU x y->oU y z->oU x z:=by unfold oU;omega
abbrev Asc(l:List Edge):Prop:=l.Pairwise oU
theorem Asc.nodup{l:List Edge}(h:Asc l):l.Nodup:=List.Pairwise.imp (fun{a b} (h:oU a b) (e:a=b)=>oU.irr b (e▸h)) h
theorem Asc.uniq:∀{l a:List Edge},Asc l->Asc a->l.Perm a->l=a
 | [],a,_,_,hp=>by rw[List.nil_perm.1 hp]
 |x::l,[],_,_,hp=>by have:=hp.length_eq;simp at this
 |x::l,y::a,h,b,hp=>by
  have h:=lUO.1 h;have b:=lUO.1 b;have c:x=y:=by
   have d:x∈y::a:=hp.mem_iff.1 (lI8.2 (Or.inl rfl));have f:y∈x::l:=hp.mem_iff.2 (lI8.2 (Or.inl rfl));rcases lI8.1 d with e|d
   ·exact e
   ·rcases lI8.1 f with e|f
    ·exact e.symm
    ·exact absurd ((h.1 y f).trans (b.1 x d)) (oU.irr _)
  subst c;rw[Asc.uniq h.2 b.2 ((List.perm_cons x).1 hp)]
theorem qzy{x y:Edge}:uJ x y<0↔oU x y:=by rw[<-zqb];unfold ltE;simp
theorem qdy.asc{es:List Edge}(h:qdy n es):Asc es:=by
 refine lO2.2 ?_;intro i j c b a;obtain⟨k,rfl⟩:∃ k,j=i+1+k:=⟨j-i-1,om⟩;clear a
 induction k with
 |zero=>exact qzy.1 (h.ord i b)
 |succ k ih=>exact(ih om).trans (qzy.1 (h.ord (i+1+k) om))
theorem Asc.ok{es:List Edge}(h:Asc es)(a:∀ e∈es,e.f<n/\e.t<n):qdy n es:=
 ⟨a,fun i b=>qzy.2 (lO2.1 h i (i+1) om b om)⟩
def aGR(n:Nat)(ms:List Nat)(f t:Nat)(s:Bool):Prop:=if s then 1<ms.getD (f*n+t) 0 else ms.getD (f*n+t) 0%2=1
theorem qsa{e:T3}:e∈ent n ms i k↔e.f=i/\e.t=k/\((e.s=0/\ms.getD (i*n+k) 0%2=1)\/(e.s=1/\1<ms.getD (i*n+k) 0)):=by
 obtain⟨f,t,s⟩:=e;unfold ent;rw[lEY];constructor
 ·rintro (h|h)
  ·simp_all
  ·simp_all
 ·rintro ⟨rfl,rfl,⟨a,b⟩|⟨a,b⟩⟩
  ·simp_all
  ·simp_all
theorem z3j{n:Nat}{ms:List Nat}{i:Nat}{e:T3}:∀{k:Nat},e∈eR n ms i k↔e.t<k/\e∈ent n ms i e.t
 |0=>by constructor;(intro h;cases h);(intro h;omega)
 |k+1=>by
  show e∈eR n ms i k++ent n ms i k↔_;rw[lEY,z3j];constructor
  ·rintro (⟨b,a⟩|h)
   ·exact⟨om,a⟩
   ·have c:=(qsa.1 h).2.1;simp_all
  ·rintro ⟨b,a⟩;by_cases h:e.t<k
   ·simp_all
   ·have:e.t=k:=om;simp_all
theorem zdz{n:Nat}{ms:List Nat}{e:T3}:∀{m:Nat},e∈eM n ms m↔e.f<m/\e.t<n/\e∈ent n ms e.f e.t
 |0=>by constructor;(intro h;cases h);(intro h;omega)
 |m+1=>by
  show e∈eM n ms m++eR n ms m n↔_;rw[lEY,zdz,z3j];constructor
  ·rintro (⟨b,a,c⟩|⟨b,a⟩)
   ·exact⟨om,a,c⟩
   ·have d:=(qsa.1 a).1;simp_all
  ·rintro ⟨b,a,c⟩;by_cases h:e.f<m
   ·simp_all
   ·have:e.f=m:=om;simp_all
theorem q8z{e:Edge}:e∈qcr n ms↔e.f<n/\e.t<n/\aGR n ms e.f e.t e.s:=by
 unfold qcr aGR;rw[lIB];constructor
 ·rintro ⟨t,d,rfl⟩;obtain⟨a,b,c⟩:=zdz.1 d;refine⟨a,b,?_⟩;rcases(qsa.1 c).2.2 with⟨h4,h5⟩|⟨h4,h5⟩
  ·show(if decide (t.s=1)=true then _ else _);rw[h4,lEU g4];exact h5
  ·show(if decide (t.s=1)=true then _ else _);rw[h4,lEZ g4];exact h5
 ·rintro ⟨a,b,c⟩;obtain⟨f,t,s⟩:=e;cases s
  ·exact⟨⟨f,t,0⟩,zdz.2 ⟨a,b,qsa.2 ⟨rfl,rfl,.inl ⟨rfl,by simpa using c⟩⟩⟩,rfl⟩
  ·exact⟨⟨f,t,1⟩,zdz.2 ⟨a,b,qsa.2 ⟨rfl,rfl,.inr ⟨rfl,by simpa using c⟩⟩⟩,rfl⟩
theorem zfv{ts:List T3}(l:∀ e∈ts,e.f<n/\e.t<n){e:Edge}:e∈qcr n (qJ n (List.replicate (n*n) 0) ts)↔e∈ts.map toE:=by
 rw[q8z,lIB];have m:∀ x,(List.replicate (n*n) 0).getD x 0=0:=fun x=>by rw[lES,List.getElem?_replicate];split<;>rfl
 constructor
 ·rintro ⟨h,j,d⟩;obtain⟨g1,g2⟩:=qrb h j ts _ (lUA) l (by rw[m];omega);rw[m]at g1 g2;unfold aGR at d;obtain⟨f,t,s⟩:=e;cases s
  ·simp only[lUE,lX7]at d;rw[g1]at d;rcases d with d|⟨x,g,a,b,c⟩
   ·omega
   ·exact⟨x,g,by unfold toE;rw[a,b,c]⟩
  ·simp only[lU8]at d;rw[g2]at d;rcases d with d|⟨x,g,a,b,c⟩
   ·omega
   ·exact⟨x,g,by unfold toE;rw[a,b,c]⟩
 ·rintro ⟨x,g,rfl⟩;obtain⟨h,j⟩:=l x g;obtain⟨g1,g2⟩:=qrb (i:=x.f) (k:=x.t) h j ts _ (lUA) l (by rw[m];omega);refine⟨h,j,?_⟩;show if decide (x.s=1)=true then _ else _
  cases o:decide (x.s=1)
  ·rw[lEU g3];exact g1.2 (.inr ⟨x,g,rfl,rfl,o⟩)
  ·rw[lEZ rfl];exact g2.2 (.inr ⟨x,g,rfl,rfl,o⟩)
def qlh(S:List Edge)(i:Nat):Bool:=decide (i=0)|| !decide (S[i]? =S[i-1]?)
def nE(S:List Edge)(m:Nat):List Edge:=(List.range m).filterMap fun i=>if qlh S i then S[i]? else none
def j5(S:List Edge):List Edge:=nE S S.length
theorem qzu(S:List Edge)(h:m<S.length):nE S (m+1)=nE S m++if qlh S m then[S[m]]else[]:=by unfold nE;rw[lX4,List.filterMap_append];congr 1;rw[List.filterMap_cons,List.filterMap_nil,gp h];cases qlh S m<;>rfl
theorem zru{S:List Edge}{x:Edge}:x∈j5 S↔x∈S:=by
 unfold j5 nE;rw[List.mem_filterMap];constructor
 ·rintro ⟨i,g,h⟩;split at h
  ·exact lIK h
  ·cases h
 ·intro e;have a:S.findIdx (fun y=>decide (y=x))<S.length:=by rw[List.findIdx_lt_length];exact⟨x,e,g3⟩
  have c:=List.findIdx_getElem (w:=a);refine⟨S.findIdx fun y=>decide (y=x),lIY.2 a,?_⟩;have d:S[S.findIdx fun y=>decide (y=x)]=x:=by simpa using c
  have f:qlh S (S.findIdx fun y=>decide (y=x))=true:=by
   unfold qlh;rw[lUC];by_cases j:(S.findIdx fun y=>decide (y=x))=0
   ·simp_all
   ·right;rw[lOC,lOG];intro h;have b:=List.not_of_lt_findIdx (xs:=S) (p:=fun y=>decide (y=x)) (i:=(S.findIdx fun y=>decide (y=x))-1) om;rw[gp a,gp om,d]at h;injection h with h;rw[<-h]at b;simp at b
  simp_all
theorem xam{S:List Edge}(l:S.Pairwise fun x y=>¬ oU y x):Asc (j5 S):=by
 unfold j5 nE;show List.Pairwise oU _;rw[List.pairwise_filterMap];refine List.Pairwise.imp_of_mem ?_ List.pairwise_lt_range;intro i j q r k x d y f;have a:j<S.length:=lIY.1 r;have b:i<S.length:=lIY.1 q;split at f
 ·rename_i c;split at d
  ·rw[gp b]at d;rw[gp a]at f;injection d with d;injection f with f;subst d f;have h:=lO2.1 l;have m:=h i j b a k;by_cases g:oU S[i] S[j]
   ·exact g
   ·exfalso;have e:=oU.tri g m;have n:=h (j-1) j om a om;have o:¬ oU S[j-1] S[j]:=by
     rw[<-e];by_cases s:i=j-1
     ·simp_all
     ·exact h i (j-1) b om om
    have p:=oU.tri o n;unfold qlh at c;rw[lUC,lOC,lOG,gp a,gp om,p]at c;rcases c with c|c
    ·simp at c;omega
    ·exact c rfl
  ·cases d
 ·cases f
theorem Asc.ext{l a:List Edge}(h:Asc l)(b:Asc a)(c:∀ x,x∈l↔x∈a):l=a:=
 Asc.uniq h b ((List.perm_ext_iff_of_nodup h.nodup b.nodup).2 c)
def sortE(S:List Edge):List Edge:=S.mergeSort fun x y=> !ltE y x
theorem zxc(S:List Edge):(sortE S).Pairwise fun x y=>¬ oU y x:=by
 have h:=List.pairwise_mergeSort (le:=fun x y=> !ltE y x) (fun a b c=>by
  simp only[lOC,q8k];unfold oU;omega) (fun a b=>by
  simp only[lUC,lOC,q8k];unfold oU;omega) S
 refine List.Pairwise.imp ?_ h;intro a b h;rwa [lOC,q8k]at h
theorem q1s{S:List Edge}{x:Edge}:x∈sortE S↔x∈S:=(List.mergeSort_perm _ _).mem_iff
theorem q1u(S:List Edge):(sortE S).length=S.length:=List.length_mergeSort _
theorem q8d{ts:List T3}(a:∀ e∈ts,e.f<n/\e.t<n):qcr n (qJ n (List.replicate (n*n) 0) ts)=j5 (sortE (ts.map toE)):=
 Asc.ext (zdx n _).asc (xam (zxc _)) fun x=>by rw[zfv a,zru,q1s]
end Go.Di
end
section
namespace Go.Di
open Go.Ev
variable {C:Nat->Ev.Call}
abbrev mQ(S:List Edge):List AV:=S.flatMap Edge.cells
theorem cells3(e:Edge):e.cells.length=3:=rfl
theorem qfd(S:List Edge):(mQ S).length=S.length*3:=by
 induction S with
 |nil=>rfl
 |cons a S ih=>unfold mQ at *;rw[lIQ,lEP,ih,cells3,lEX];omega
theorem q30(q:Nat)(A Z:List AV)(S:List Edge){i:Nat}(h:i<S.length):iF (aB q (A++mQ S++Z)) (A.length+i*3) 3=some S[i].cells:=by have a:=qfd S;rw[qbv,lEZ (by simp only[lEP];omega),lI5,<-lXE,List.drop_left' rfl,lO4 om,lUX (by rw[lIZ];omega),qr5 cells3 S i h]
theorem xaq(A Z:List AV)(e:Edge):∀(S:List Edge) (i:Nat),i<S.length->aY (A++mQ S++Z) (A.length+i*3) e.cells=A++mQ (S.set i e)++Z:=by
 have b:∀(S:List Edge) (i:Nat),i<S.length->aY (mQ S++Z) (i*3) e.cells=mQ (S.set i e)++Z:=by
  intro S
  induction S with
  |nil=>intro i h;simp at h
  |cons a S ih=>
   intro i h;cases i with
   |zero=>simp[aY,mQ,Edge.cells]
   |succ i=>have:=ih i (by simpa using h);unfold mQ at *;rw[lXN,lIQ,lIQ,lI5,lI5,<-this];unfold aY;rw[show(i+1)*3=a.cells.length+i*3 by rw[cells3];omega,lOU,lI5,lI5,lI5,lIP,lOV]
 intro S i h;rw[lI5,lI5,<-b S i h];unfold aY;rw[lOU,lIP,lOV];simp
theorem qoh(neg:Bool)(x y:Edge):jR neg (kU (eqFields [(p1,⟨ql7⟩,0),(p1,⟨ql7⟩,1),(p1,⟨xQ⟩,2)]) (.agg x.cells) (.agg y.cells))=.val (.bool (bif neg then !decide (x=y)else decide (x=y))):=by
 have e:kU (eqFields [(p1,⟨ql7⟩,0),(p1,⟨ql7⟩,1),(p1,⟨xQ⟩,2)]) (.agg x.cells) (.agg y.cells)=some (decide (x=y)):=by
  show andThen (some (sK (.ofNat x.f) (.ofNat y.f))) (andThen (some (sK (.ofNat x.t) (.ofNat y.t))) (andThen (some (x.s==y.s)) (some true)))=_;obtain⟨a,b,c⟩:=x;obtain⟨d,e,f⟩:=y;simp only[qes,zc4];by_cases g:a=d
  ·by_cases h:b=e
   ·cases c<;>cases f<;>simp[andThen,g,h]
   ·simp[andThen,g,h]
  ·simp[andThen,g]
 rw[e];rfl
theorem zr6(n m i:Nat)(h:i<=n)(a:n<=m):bounds n m (some (iN i)) none none=some ⟨i,n,m⟩:=by show(match(bif Nat.ble i n then some i else none)with|none=>none|some l=>some (Bd.mk l n m))=_;rw[ble_eq,lI9 h];rfl
theorem zcc(b o n i:Nat)(e:Bool)(h:i<n):lC 3 (.sl b o n n e) (some (iN i)) none none=.val (.sl b (o+i*3) (n-i) (n-i) e):=by show(match bounds n n (some (iN i)) none none with|some bd=>jF b o 3 bd e|none=>R0.bad)=_;rw[zr6 _ _ _ om (lEO _)];unfold jF;simp only[beq_eq];rw[lIF om];rfl
theorem zxd(b o n i:Nat)(e:Bool)(h:i<=n)(a:0<n):lC 3 (.sl b o n n e) none (some (iN i)) none=.val (.sl b o i n e):=by show(match bounds n n none (some (iN i)) none with|some bd=>jF b o 3 bd e|none=>R0.bad)=_;rw[q35 _ _ _ h];unfold jF;simp only[beq_eq];rw[lIF om,lOZ];rfl
structure CpO(H:Hp)(b q:Nat)(A:List AV)(l:List Edge)(w:AV)(e:Bool)(H':Hp):Prop where
 is:∃ m Z,w=.sl b A.length l.length m e/\l.length<=m/\0<m/\H'.get b=aB q (A++mQ l++Z)
 fm:Fm (· =b) H H'
 nx:H'.nx=H.nx
theorem q3w{O:Ev.Call}{H0:Hp}{b q k0:Nat}{A:List AV}{S:List Edge}{e:Bool}(L:b<H0.nx)(y:0<k0/\k0<S.length)(M:S.length<900000){Q:pS}{qe:pH}(K:∀ H f,f.length=S.length->H.get b=aB q (A++mQ f++[])->f.take (j5 S).length=j5 S->(j5 S).length<S.length->0<(j5 S).length->Fm (· =b) H0 H->H.nx=H0.nx->Ok (qe (iN ((j5 S).length)) H) Q):∀(k k2:Nat) (H:Hp) (f:List Edge),1<=k2->k0+k2<=S.length->S.length-(k0+k2)<k->f.length=S.length->H.get b=aB q (A++mQ f++[])->(∀p (h:p<S.length) (N:p<f.length),k0+k2-1<=p->f[p]=S[p]) -> f.take (nE S (k0+k2)).length=nE S (k0+k2)->(nE S (k0+k2)).length<k0+k2->0<(nE S (k0+k2)).length->Fm (· =b) H0 H->H.nx=H0.nx -> Ok (qp6 O qe (.sl b A.length S.length S.length e) (.sl b (A.length+k0*3) (S.length-k0) (S.length-k0) e) k (iN ((nE S (k0+k2)).length)) (iN k2) H) Q
 |0,k2,_,_,_,_,h,_,_,_,_,_,_,_,_=>om
 |k+1,k2,H,f,h1,h2,h3,I,J,hp,ht,hl,h0,hf,hx=>by
  show Ok (q6b O _ _ _ (qp6 O _ _ _ k) _ _ H) Q;unfold q6b;obtain⟨F,G⟩:=y;by_cases o:k0+k2<S.length
  ·have j:k2<S.length-k0:=om;have m:k2-1<S.length-k0:=om;unfold zkh;have r:=q30 q A [] f (i:=k0+k2) om;have s:=q30 q A [] f (i:=k0+k2-1) om;rw[hp (k0+k2) o om om]at r;rw[hp (k0+k2-1) om om om]at s;rw[show A.length+(k0+k2)*3=A.length+k0*3+k2*3 by omega]at r;rw[show A.length+(k0+k2-1)*3=A.length+k0*3+(k2-1)*3 by omega]at s;rw[lIM]at r s;have t:H.get b=aB q (A++mQ f):=by rw[J,lIM]
   have d:=qzu S o;have next:∀(H':Hp) (g:List Edge) (z:Nat),z=(nE S (k0+k2+1)).length->g.length=S.length->H'.get b=aB q (A++mQ g++[])->(∀p (h:p<S.length) (N:p<g.length),k0+(k2+1)-1<=p->g[p]=S[p]) ->
     g.take (nE S (k0+(k2+1))).length=nE S (k0+(k2+1))->(nE S (k0+(k2+1))).length<k0+(k2+1)->0<(nE S (k0+(k2+1))).length->Fm (· =b) H0 H'->H'.nx=H0.nx ->
     Ok (qxm O (qp6 O qe (.sl b A.length S.length S.length e) (.sl b (A.length+k0*3) (S.length-k0) (S.length-k0) e) k) (iN z) (iN k2) H') Q:=fun H' g z B P R T U V W X Y=>by
    subst B;unfold qxm;simp(disch:=go_size)only[go_sem,rB,rI,rK,rL,rN,rS,r8];exact q3w L ⟨F,G⟩ M K k (k2+1) H' g om om om P R T U V W X Y
   have u:qlh S (k0+k2)= !decide (S[k0+k2]=S[k0+k2-1]):=by unfold qlh;rw[lIF (show ¬k0+k2=0 by omega),Bool.false_or,gp o,gp om];simp
   by_cases x:S[k0+k2]=S[k0+k2-1]
   ·have C:=lO5 x;rw[u,lI9 x]at d;rw[show nE S (k0+k2)++(if(!true)=true then[S[k0+k2]]else[])=nE S (k0+k2)by simp]at d;simp(disch:=go_size)only[go_sem,rB,rI,rK,rL,rN,rS,r8,j,m,t,r,s,qoh,C];exact next H f _ (by rw[d]) I J (fun p a b c=>hp p a b om) (by rw[<-lIP,d];exact ht) (by rw[<-lIP,d];omega) (by rw[<-lIP,d];exact h0) hf hx
   ·rw[u,lIF x]at d;rw[show nE S (k0+k2)++(if(!false)=true then[S[k0+k2]]else[])=nE S (k0+k2)++[S[k0+k2]]by simp]at d;have D:(nE S (k0+k2)).length<S.length:=om;have v:=lO5 (show A.length+(nE S (k0+k2)).length*3+S[k0+k2].cells.length<=(A++mQ f).length by
     have:=qfd f;rw[lEP,cells3];omega)
    have n:=xaq A [] S[k0+k2] f (nE S (k0+k2)).length om;rw[lIM,lIM]at n;have w:S[k0+k2].cells.length=3:=rfl;simp(disch:=go_size)only[go_sem,rB,rI,rK,rL,rN,rS,r8,j,m,t,r,s,qoh,x,D,zb6,w];rw[w]at v;simp(disch:=go_size)only[go_sem,rB,rI,rK,rL,rN,rS,r8,v,n];have E:(f.set (nE S (k0+k2)).length S[k0+k2]).length=S.length:=by rw[lO1,I]
    have l:(nE S (k0+k2+1)).length=(nE S (k0+k2)).length+1:=by rw[d];simp
    refine next _ (f.set (nE S (k0+k2)).length S[k0+k2]) _ l.symm E ?_ (fun p a b c=>?_) ?_ ?_ ?_ (hf.put _ _ fun _=>rfl) hx
    ·rw[lIM];exact dL _ _ _
    ·rw[List.getElem_set_ne om];exact hp p a om om
    ·rw[<-lIP,l,d];rw[lER om,List.take_set_of_le (lEO _),ht,List.getElem_set_self]
    ·rw[<-lIP,l];omega
    ·rw[<-lIP,l];omega
  ·have Z:k0+k2=S.length:=om;have j:¬ k2<S.length-k0:=om;simp only[go_sem,j];rw[Z]at ht hl h0 ⊢;exact K H f I J ht hl h0 hf hx
theorem qzv{S:List Edge}:∀{m:Nat},m<=S.length->(∀i,i<m->qlh S i=true)->nE S m=S.take m
 |0,_,_=>rfl
 |m+1,h,hk=>by rw[qzu S h,qzv om fun i a=>hk i om,hk m om,lER h];rfl
theorem zd2{O:Ev.Call}{H0:Hp}{b q:Nat}{A:List AV}{S:List Edge}{e:Bool}(F:b<H0.nx)(G:S.length<900000)(u:H0.get b=aB q (A++mQ S++[])){Q:pS}{qe:pL}{qr:pH}(I:∀ w H,CpO H0 b q A (j5 S) w e H->Ok (qr w H) Q)(J:j5 S=S->Ok (qe H0) Q):∀(k i:Nat),0<i->i<=S.length->S.length-i<k->(∀p,p<i->qlh S p=true)->Ok (za6 O qr qe (.sl b A.length S.length S.length e) k (iN i) H0) Q
 |0,i,_,_,h,_=>om
 |k+1,i,h0,hi,hk,hp=>by
  show Ok (zki O _ _ _ (za6 O _ _ _ k) _ H0) Q;unfold zki;by_cases a:i<S.length
  ·have c:i-1<S.length:=om;unfold zkg;have y:=q30 q A [] S a;have z:=q30 q A [] S c;rw[lIM]at y z;have m:H0.get b=aB q (A++mQ S):=by rw[u,lIM]
   have l:qlh S i= !decide (S[i]=S[i-1]):=by unfold qlh;rw[lIF (show ¬i=0 by omega),Bool.false_or,gp a,gp c];simp
   by_cases t:S[i]=S[i-1]
   ·have B:=lO5 t;have C:=zcc b A.length S.length i e a;rw[lI9 t]at l;have d:=qzu S a;rw[l]at d;have o:=qzv (lON a) hp;have r:nE S (i+1)=S.take i:=by rw[d,o];simp
    have D:(nE S (i+1)).length=i:=by rw[r,lI6];omega
    simp(disch:=go_size)only[go_sem,rB,rI,rK,rL,rN,rS,r8,a,c,m,y,z,qoh,B,C];unfold zkj;rw[dD];have K:=q3w (O:=O) (Q:=Q) (e:=e) (qe:=fun L H=>qxn O qr (.sl b A.length S.length S.length e) L H) F (k0:=i) (S:=S) (A:=A) (q:=q) ⟨h0,a⟩ G (fun H g Y v M N P f R=>by
     unfold qxn;have T:=zcc b A.length S.length (j5 S).length e N;have U:=zxd b A.length S.length (j5 S).length e om om;have V:¬ S.length-(j5 S).length=0:=om;have E:qh1 [iN 0,iN 0,.bool false] H (.sl b (A.length+(j5 S).length*3) (S.length-(j5 S).length) (S.length-(j5 S).length) e)=.ok .undef (H.put b (aB q (A++mQ (j5 S)++aZ [iN 0,iN 0,.bool false] (S.length-(j5 S).length)))):=by
      show(bif Nat.beq (S.length-(j5 S).length) 0 then _ else storeAt H b (A.length+(j5 S).length*3) (aZ [iN 0,iN 0,.bool false] (S.length-(j5 S).length)) .undef)=_;rw[beq_eq,lIF V,lOZ];have s:∀ n,(aZ [AV.int .i64 (.ofNat 0),iN 0,.bool false] n).length=n*3:=fun n=>by
       induction n with
       |zero=>rfl
       |succ n ih=>show(_++aZ _ n).length=_;rw[lEP,ih];simp;omega
      have W:=qfd g;have X:=qfd (j5 S);have j:mQ g=mQ (j5 S)++mQ (g.drop (j5 S).length):=by
       rw[<-lIC];congr 1
       conv=>lhs;rw[<-lU9 (j5 S).length g,M]
      rw[qb5 H b _ _ _ q _ v (by rw[lEP,lEP,s,lIT];omega)];congr 3;unfold aY;rw[j,lIM,<-lI5,List.take_left' (by rw[lEP];omega),s];rw[lO0 (by rw[lEP,lEP,qfd,qfd,lIZ];omega),lIM]
     simp(disch:=go_size)only[go_sem,rB,rI,rK,rL,rN,rS,r8,T,E,U];exact I _ _ ⟨⟨S.length,_,rfl,om,om,dL _ _ _⟩,f.put _ _ fun _=>rfl,R⟩) bZ 1 H0 S (lEO _) om lf rfl u (fun _ _ _ _=>rfl) (by rw[D,r]) om om (Fm.refl _ _) rfl
    simp_all
   ·rw[lIF t]at l;simp(disch:=go_size)only[go_sem,rB,rI,rK,rL,rN,rS,r8,a,c,m,y,z,qoh,t];unfold z1m;simp(disch:=go_size)only[go_sem,rB,rI,rK,rL,rN,rS,r8];refine zd2 F G u I J k (i+1) om om om fun p x=>?_;by_cases Z:p=i
    ·simp_all
    ·exact hp p om
  ·simp only[go_sem,a];refine J ?_;have:=qzv (lEO S.length) fun p x=>hp p om;rw[lIN]at this;exact this
theorem zgm(c:aU C){k:Nat}(d:1<=k){H:Hp}{b q:Nat}{A:List AV}{S:List Edge}{e:Bool}(f:b<H.nx)(g:S.length<900000)(i:0<S.length)(a:H.get b=aB q (A++mQ S++[])):Ok (C k (.f 125) [.sl b A.length S.length S.length e] H) fun w H'=>CpO H b q A (j5 S) w e H':=by
 obtain⟨j,rfl⟩:=aT d;rw[(c j).zCb];unfold zCb z6e;have same:j5 S=S->CpO H b q A (j5 S) (.sl b A.length S.length S.length e) e H:=fun h=>by rw[h];exact⟨⟨S.length,[],rfl,lEO _,i,a⟩,Fm.refl _ _,rfl⟩
 have k0:qlh S 0=true:=rfl;by_cases h:S.length<2
 ·simp only[go_sem,h];refine Ok.ret (same ?_);have:=qzv (S:=S) (lEO S.length) fun p l=>by
   obtain rfl:p=0:=om;exact k0
  rw[lIN]at this;exact this
 ·simp only[go_sem,h];unfold zkf z1o;rw[dD];refine zd2 f g a (fun w H' h=>Ok.ret h) (fun h=>?_) bZ 1 om om lf (fun p l=>by
   obtain rfl:p=0:=om;exact k0)
  exact Ok.ret (same h)
end Go.Di
end
