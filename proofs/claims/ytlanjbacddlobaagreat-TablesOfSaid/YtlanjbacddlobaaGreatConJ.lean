/-
 For TablesOf: functions in direct style, their contracts, and the plain mathematics, part 10 of 10. No conditions beyond those that each theorem states.
-/
import Derived.Test.YtlanjbacddlobaaGreatConA
import Derived.Test.YtlanjbacddlobaaGreatConI
import Derived.Test.YtlanjbacddlobaaGreatConF
import Derived.Test.YtlanjbacddlobaaGreatEv4
import Derived.Test.YtlanjbacddlobaaGreatConC
import Derived.ChangeArms
import Derived.DataReads
set_option linter.unusedSimpArgs false
set_option linter.unusedVariables false
open Nat renaming reduceAdd->rB,reduceMul->rI,reduceSub->rK,reduceLeDiff->rL,reduceEqDiff->rN,reduceShiftRight->rS,reduceAnd->r8
noncomputable section
namespace Go.Di
open Go.Ev
variable {C:Nat->Ev.Call} {tg:SS->SS->List SS} {X:List aQ}
variable {H H':Hp} {S:Nat->Prop} {b k:Nat}
structure fC where
 p:SS×bC
 n:Nat
 st:Nat
 tv:AV
 nv:AV
 es:List TE
def mG(e:fC):List AV:=[e.p.1.v,e.p.2.r.name.v,iN (e.n),iN (e.st),e.tv,e.nv]
theorem zok(e:fC):(mG e).length=6:=rfl
def fC.B(e:fC)(b:Nat):Prop:=In e.tv b\/In e.nv b\/∃ x∈e.es,In x.sp b\/In x.av b
structure fC.Ok(X:List aQ)(H:Hp)(e:fC):Prop where
 ty:Gl 2 H e.tv e.p.2.r.types.length (e.p.2.r.types.flatMap tC)
 nd:TbR (nP X e.p.1) H e.nv e.es e.p.2.r.rule.fo.flat
theorem fC.Ok.dJ{e:fC}(h:e.Ok X H)(f:Fm S H H')(c:∀ b,e.B b->¬ S b):e.Ok X H':=
 ⟨h.ty.fm f fun b a=>c b (.inl a),⟨h.nd.gl.fm f fun b a=>c b (.inr (.inl a)),h.nd.is,fun x d=>(h.nd.ok x d).dJ f fun b a=>c b (.inr (.inr ⟨x,d,a⟩))⟩⟩
theorem fC.Ok.lt{e:fC}(h:e.Ok X H)(a:e.B b):b<H.nx:=by
 rcases a with a|a|⟨x,c,a⟩
 ·exact h.ty.lt a
 ·exact h.nd.gl.lt a
 ·exact(h.nd.ok x c).lt a
theorem qj3:∀(f:Fo) (p c:Nat),∀t∈f.dP p c,t.args.length<=f.size
 | .nil,_,_,t,h=>by cases h
 | .cons k rl to a r,p,c,t,h=>by
  have:=Fo.eO a;simp only[Fo.size];rcases lI8.1 h with rfl|h
  ·show(a.ixs _).length<=_;rw[Fo.rC];omega
  rcases lEY.1 h with h|h
  ·have:=qj3 a _ _ t h;omega
  ·have:=qj3 r _ _ t h;omega
theorem zoh(A B:List TE)(e a:TE)(j:Nat)(x:AV)(h:aY (uT e) j [x]=uT a)(c:j<6):aY ((A++e::B).flatMap uT) (A.length*6+j) [x]=(A++a::B).flatMap uT:=by rw[lIC,lIQ,lIC,lIQ,<-h];have b:=te6 A;have d:=qdq e;generalize A.flatMap uT=D at *;generalize uT e=F at *;unfold aY;rw[<-b,lOU,lUX om,lIP,lOV,lO4 g2];simp
def SpP(tg:SS->SS->List SS)(e:TE)(H:Hp)(v:AV):Prop:=(e.t.k=3/\Gl 1 H v (tg e.t.rl e.t.to).length ((tg e.t.rl e.t.to).flatMap sC))\/(e.t.k≠3/\v=.aA)
theorem SpP.dJ{e:TE}{v:AV}(h:SpP tg e H v)(f:Fm S H H')(a:∀ b,In v b->¬ S b):SpP tg e H' v:=h.imp (fun h=>⟨h.1,h.2.fm f a⟩) id
theorem SpP.cells{e:TE}{v:AV}(h:SpP tg e H v):wX v=some [v]:=by
 rcases h with h|h
 ·exact h.2.cells
 ·rw[h.2];rfl
theorem zgo(a:aU C)(c:1<=k){e:TE}(h:SpP tg e H e.sp)(g:(tg e.t.rl e.t.to).length<=100):Ok (C k (.f 87) [e.sp] H) fun r H'=>SpP tg e H' r/\Fm No H H'/\∀ b,In r b->H.nx<=b:=by
 rcases h with h|h
 ·exact(zsw a c h.2.sr om).mono fun r H' d=>⟨.inl ⟨h.1,d.1⟩,d.2⟩
 ·rw[h.2];obtain⟨j,rfl⟩:=aT c;rw[(a j).zHv];unfold zHv z4a;have i:jR false (qQ .aA .aA)=.val (.bool true):=rfl;exact Ok.ret ⟨.inr ⟨h.1,rfl⟩,Fm.refl _ _,fun b f=>absurd f (notNil b)⟩
theorem zs1(g:aU C)(i:1<=k){e:TE}{v:AV}(h:SpP tg e H v):∃ w,C k (.f 86) [v] H=.ok w H/\SpP tg e H w/\(∀b,In w b->In v b)/\dA w=aD w:=by
 rcases h with h|h
 ·obtain⟨w,c,d,a,f⟩:=q4k g i h.2;exact⟨w,c,.inl ⟨h.1,d⟩,a,f⟩
 ·obtain⟨w,c,d,a,f⟩:=q4k g i (Gl.nil 1 H);rw[h.2];refine⟨w,c,.inr ⟨h.1,?_⟩,a,f⟩;rcases d.is with h|⟨b,o,e,q,L,rfl,_⟩
  ·exact h.1
  ·exact absurd (a b ⟨_,_,_,_,rfl⟩) (notNil b)
theorem qsc(r:aU C){j:Nat}(hj:2<=j){H00 H0:Hp}{s:Nat}{w c0 c1 c2 c3 tv:AV}{es:List TE}(ha:H0.get s=aB 0 [c0,c1,c2,c3,tv,w])(t:s<H0.nx)(u:¬ In w s)(F:H00.nx<=H0.nx)(v:∀ e∈es,e.Ok tg H0/\(∀b,In e.sp b\/In e.av b->¬ In w b)/\e.t.args.length<=100/\(tg e.t.rl e.t.to).length<=100)(hn:es.length<=100){q:pL}{Q:pS}(hq:∀(a:List TE) (H:Hp),Fm (In w) H0 H->Gl 6 H w es.length (a.flatMap uT)->a.map TE.t=es.map TE.t->(∀e∈a,(e.Ok tg H/\dA e.sp=aD e.sp/\dA e.av=aD e.av)/\∀ b,In e.sp b\/In e.av b->H00.nx<=b/\¬ In w b)->Ok (q H) Q):∀(k i:Nat) (a:List TE) (H:Hp),i<=es.length->es.length-i<k->Fm (In w) H0 H->Gl 6 H w es.length ((a++es.drop i).flatMap uT)->a.map TE.t=(es.take i).map TE.t->(∀e∈a,(e.Ok tg H/\dA e.sp=aD e.sp/\dA e.av=aD e.av)/\∀ b,In e.sp b\/In e.av b->H00.nx<=b/\¬ In w b) -> Ok (qkj (C j) q (.ptr s 0) (iN (es.length)) k (iN i) H) Q
 |0,i,_,_,_,h,_,_,_,_=>om
 |k+1,i,a,H,hi,hk,hf,hg,hm,hok=>by
  show Ok (q43 (C j) _ _ _ (qkj (C j) _ _ _ k) _ H) Q;unfold q43;by_cases d:i<es.length
  ·simp only[go_sem,d];unfold q41;have m:a.length=i:=by
    have:=congrArg List.length hm;rw[lET,lET,lI6]at this;omega
   have a1:=(hf.get s t u).trans ha;have G:es.drop i=es[i]::es.drop (i+1):=lIU d;rw[G]at hg;have I:(a++es[i]::es.drop (i+1)).length=es.length:=g2;have J:(a++es[i]::es.drop (i+1))[i]'om=es[i]:=by simp[List.getElem_append_right,m]
   have x:=hg;rw[<-I]at x;obtain⟨b,o,R,e2,e3,_,S⟩:=(x.rs qdq).at' i om;rw[J]at S;have r3:bI (H.get b) (o+3)=.val es[i].sp:=S 3 (by rw[qdq];omega);have r4:bI (H.get b) (o+4)=.val es[i].av:=S 4 (by rw[qdq];omega);obtain⟨h1,h2,h3,h4⟩:=v _ (lEQ d);simp only[go_sem,a1,R,r3,r4];have o1:=h1.dJ hf h2;have y:=qP (Gl.flat h1.gl) 63;refine Ok.iR (zgo r (k:=j) om o1.sp h4) ?_;rintro s1 H1 ⟨p1,f,K⟩;have f:Fm No H H1:=f;have K:∀ b,In s1 b->H.nx<=b:=K;have x1:=f.nx;have k1:=f.keep e2;have z:bI (H1.get b) (o+4)=.val es[i].av:=by rw[k1];exact r4
   simp only[go_sem,z,y];obtain⟨g,T,p2,U,V⟩:=zs1 r (k:=j) om p1;refine Ok.tT T ?_;simp only[go_sem,z,y];refine Ok.iR (zsy r (k:=j) om (n:=es[i].t.args.length) (o1.gl.no f).sr om) ?_;rintro v1 H2 ⟨q1,B,n2⟩;simp only[go_sem];obtain⟨p,W,X,Y,Z⟩:=qz1 r (k:=j) om q1;refine Ok.tT W ?_;obtain⟨b5,o5,H3,D,e5,g5,f5,n5⟩:=((hg.no f).no B).set1 d (j:=3) om g;rw[R]at D;injection D with D;injection D with ea eb;subst ea eb;have L:=qjq (H:=H2) (b:=b) (o:=o+3) p2.cells;simp only[go_sem];refine Ok.tT (L.trans e5) ?_;have A:=zoh a (es.drop (i+1)) es[i] ⟨es[i].t,es[i].av,g⟩ 3 g rfl om;rw[m]at A;rw[A]at g5;obtain⟨b6,o6,H4,E,e6,g6,f6,n6⟩:=g5.set1 d (j:=4) om p;rw[R]at E;injection E with E;injection E with ea eb;subst ea eb;have M:=qjq (H:=H3) (b:=b) (o:=o+4) X.cells;simp only[go_sem];refine Ok.tT (M.trans e6) ?_;have A:=zoh a (es.drop (i+1)) ⟨es[i].t,es[i].av,g⟩ ⟨es[i].t,p,g⟩ 4 p rfl om;rw[m]at A;rw[A]at g6;unfold q42;simp(disch:=go_size)only[go_sem,rB,rI,rK,rL,rN,rS,r8];have x0:=hf.nx;have N:Fm (In w) H2 H4:=f5.then f6 fun _ _ h=>h;have O:∀ b,In w b->b<H.nx:=fun b c=>hg.lt c;have i2:∀ b,In g b->H.nx<=b:=fun b c=>K b (U b c);have P:∀ b,In p b->H1.nx<=b:=fun b c=>n2 b (Z b c);refine qsc r hj ha t u F v hn hq k (i+1) (a++[⟨es[i].t,p,g⟩]) H4 om om (((hf.then f fun _ _ h=>absurd h id).then B fun _ _ h=>absurd h id).then N fun _ _ h=>h) (by simpa using g6) ?_ fun e l=>?_
   ·rw[lID,hm,lER d,lID];rfl
   ·rcases lEY.1 l with l|l
    ·obtain⟨u1,u2⟩:=hok e l;exact⟨⟨((u1.1.fm f).fm B).dJ N fun b c=>(u2 b c).2,u1.2⟩,u2⟩
    ·obtain rfl:=lI3.1 l;have ub:∀ b,In g b\/In p b->H00.nx<=b/\¬ In w b:=fun b c=>by
      have:H.nx<=b:=by
       rcases c with c|c
       ·exact i2 b c
       ·have:=P b c;omega
      exact⟨om,fun h=>by have:=O b h;omega⟩
     refine⟨⟨TE.Ok.dJ ?_ N fun b c=>(ub b c).2,V,Y.trans X.aX.symm⟩,ub⟩;exact⟨X,SpP.dJ p2 B fun _ _ h=>h⟩
  ·simp only[go_sem,d];have l:i=es.length:=om;subst l;rw[lXJ,lIM]at hg;rw[lIN]at hm;exact hq a H hf hg hm hok
theorem xb8(a b c d e f x:AV):aY [a,b,c,d,e,f] 4 [x]=[a,b,c,d,x,f]:=id rfl
theorem zrw(m:aU C)(hk:4<=k){e:fC}(h:e.Ok X H)(hV:dF X)(i:(e.p.2.r.types).length<=8)(J:e.p.2.r.rule.Rt):Ok (C k (.f 46) [.agg (mG e)] H) fun r H'=>∃ g:fC,r=.agg (mG g)/\g.p=e.p/\g.n=e.n/\g.st=e.st/\g.Ok X H'/\(∀b,g.B b->H.nx<=b)/\(∀x∈g.es,(∀b,In x.sp b\/In x.av b->¬ In g.nv b)/\dA x.sp=aD x.sp/\dA x.av=aD x.av)/\(dA g.tv=aD g.tv/\dA g.nv=aD g.nv)/\Fm No H H':=by
 obtain⟨j,rfl⟩:=aT hk;rw[(m j).zHk];obtain⟨p,n,q,tv,N,es⟩:=e;unfold zHk z4k mG SS.v;have Y:=h.ty.cells;have Z:=h.nd.gl.cells;obtain⟨u,f⟩:=h;simp only at u f i J Y Z;have hels:es.length<=32:=by have:=congrArg List.length f.is;rw[lET,Fo.gP]at this;rw[this];exact J.ok1.flat.sz
 simp(disch:=first|go_size|omega)only[go_sem,seval,Y,Z];generalize I:aK (aK H (aB 0 [.str p.1.n p.1.a,.str p.2.r.name.n p.2.r.name.a,iN n,iN q,tv,N])) (aB 0 [.str 0 0,.str 0 0,iN 0,iN 0,.aA,.aA])=HA;have fA:Fm No H HA:=by rw[<-I];exact xE
 have nA:HA.nx=H.nx+2:=by rw[<-I];rfl
 have k0:HA.get H.nx=aB 0 [.str p.1.n p.1.a,.str p.2.r.name.n p.2.r.name.a,iN n,iN q,tv,N]:=by rw[<-I];simp(disch:=first|go_size|omega)only[go_sem,seval]
 have l0:HA.get (H.nx+1)=aB 0 [.str 0 0,.str 0 0,iN 0,iN 0,.aA,.aA]:=by rw[<-I];simp(disch:=go_size)only[go_sem,seval]
 refine Ok.ve (q4j m (k:=j) om (u.no fA).sr om) ?_;rintro t1 H1 ⟨p1,D,n1⟩;obtain⟨v,O,E,P,Q⟩:=zz9 m (k:=j) om p1;have x1:=D.nx;have k1:=(D.keep (show H.nx<HA.nx by omega)).trans k0;have l1:=(D.keep (show H.nx+1<HA.nx by omega)).trans l0;have s1:=fun(H:Hp) (b o:Nat)=>qjq (H:=H) (b:=b) (o:=o) E.cells;simp only[go_sem,seval,O,s1,k1,xb8];have f2:Fm No H (H1.put H.nx (aB 0 [.str p.1.n p.1.a,.str p.2.r.name.n p.2.r.name.a,iN n,iN q,v,N])):=(fA.trans D).aH _ _ (lEO _);have l:∀ b,In v b->H.nx+2<=b/\b<H1.nx:=fun b a=>by have:=n1 b (P b a);exact⟨om,E.lt a⟩
 refine Ok.ve (zsx m (k:=j) om (f.gl.no f2).sr om) ?_;rintro w1 F ⟨p3,w,n3⟩;obtain⟨y,R,G,S,T⟩:=zsz m (k:=j) om p3;have x3:H1.nx<=F.nx:=w.nx;have k3:=(w.keep (show H.nx<H1.nx by omega)).trans (dL _ _ _);have l3:=(w.keep (show H.nx+1<H1.nx by omega)).trans ((dS _ _ _ _ om).trans l1);have s2:=fun(H:Hp) (b o:Nat)=>qjq (H:=H) (b:=b) (o:=o) G.cells;have lw:=G.aX;simp only[go_sem,seval,R,s2,k3,xb7,lw];unfold q44;rw[dD];have d:∀ b,In y b->H1.nx<=b:=fun b a=>n3 b (S b a);generalize U:F.put H.nx (aB 0 [.str p.1.n p.1.a,.str p.2.r.name.n p.2.r.name.a,iN n,iN q,v,y])=H4;have A:Fm (fun b=>b=H.nx) F H4:=by rw[<-U];exact(Fm.refl _ _).put _ _ fun _=>rfl
 have u1:Fm (fun b=>b=H.nx) H1 H4:=((show Fm (fun b=>b=H.nx) H1 _ from(Fm.refl _ _).put _ _ fun _=>rfl).then w fun _ _ h=>absurd h id).then A fun _ _ h=>h;have f4:Fm No H H4:=(f2.trans w).then A fun c hc h=>om;have x4:H4.nx=F.nx:=by rw[<-U];rfl
 have k4:H4.get H.nx=aB 0 [.str p.1.n p.1.a,.str p.2.r.name.n p.2.r.name.a,iN n,iN q,v,y]:=by rw[<-U];exact dL _ _ _
 have l4:=(A.get (H.nx+1) om om).trans l3;have p5:Gl 6 H4 y es.length (es.flatMap uT):=G.fm A fun b a h=>by have:=d b a;omega
 have t5:=E.fm u1 fun b a h=>by have:=l b a;omega
 refine qsc m (j:=j) om (H00:=HA) (H0:=H4) (tg:=nP X p.1) k4 om (fun h=>by have:=d _ h;omega) om (fun e s=>⟨(f.ok e s).fm f4,fun b a h=>by have:=(f.ok e s).lt a;have:=d b h;omega,?_,?_⟩) om (fun V K z g5 W t=>?_) bZ 0 [] H4 (lEV _) lf (Fm.refl _ _) (by simpa using p5) rfl fun e s=>by cases s
 ·have:=qj3 _ 0 0 e.t (by rw[<-f.is];exact lIX s);have:=J.ok1.flat.sz;omega
 ·have:=qej hV.pr p.1 e.t.rl e.t.to;omega
 ·unfold qwj;have k5:=(z.get H.nx om fun h=>by have:=d _ h;omega).trans k4;have l5:=(z.get (H.nx+1) om fun h=>by have:=d _ h;omega).trans l4;simp only[go_sem,seval,k5,l5,E.cells,G.cells];have f6:Fm No H K:=f4.then z fun c hc h=>by have:=d c h;omega
  have L:∀ B:bX,Fm (fun b=>b=H.nx+1) K (K.put (H.nx+1) B):=fun B=>(Fm.refl _ _).put _ _ fun _=>rfl;refine Ok.ret ⟨⟨p,n,q,v,y,V⟩,rfl,rfl,rfl,rfl,⟨?_,⟨?_,W.trans f.is,fun x i=>?_⟩⟩,fun b a=>?_,fun x i=>⟨fun b a=>((t x i).2 b a).2,(t x i).1.2⟩,⟨Q,T⟩,f6.aH _ _ om⟩
  ·exact(t5.fm z fun b a h=>by have:=l b a;have:=d b h;omega).fm (L _) fun b a h=>by have:=l b a;omega
  ·have M:V.length=es.length:=by have:=congrArg List.length W;simpa using this
   rw[M];exact g5.fm (L _) fun b a h=>by have:=d b a;omega
  ·exact(t x i).1.1.dJ (L _) fun b a h=>by have:=(t x i).2 b a;omega
  ·rcases a with a|a|⟨x,i,a⟩
   ·have:=l b a;omega
   ·have:=d b a;omega
   ·have:=((t x i).2 b a).1;omega
end Go.Di
end
noncomputable section
namespace Go.Di
open Go.Ev Go.Di.T Go.Sort
variable {C:Nat->Ev.Call} {LA LO:LP} {L:List (List Nat)} {X:List aQ} {o:List Nat}
variable {H H' Hb:Hp} {cs:List AV} {g:aQ} {i j k mb most pb sb tb:Nat} {sv:AV}
theorem z8d(d:aU C)(e:iL C)(f:23<=k){sv rv:AV}{a:SS}(g:H.get sb=aB 0 [sv])(h:H.get pb=aB 0 [.str a.n a.a,rv])(i:cZ H sv X)(l:dF X)(rl to:SS)(b:(a,rl)∈aF X)(c:nP X a rl to≠[]):Ok (C k (.f 40) [.str rl.n rl.a,.str to.n to.a,.ptr sb 0,.ptr pb 0] H) fun r H'=>Ac 1 sC H H' r (nP X a rl to):=by obtain⟨j,rfl⟩:=aT f;rw[(d j).zHi];unfold zHi z4m;simp only[go_sem,seval,g,h];refine Ok.ve (qsl d e (k:=j) om i l a rl to b c) ?_;rintro _ H1 ⟨tv,rfl,m⟩;exact Ok.ret m
structure TfI(X:List aQ)(o:List Nat)(Hb H:Hp)(tb mb most:Nat)(lv:AV)(l:List fC)(qs:List (SS×SS)):Prop where
 fm:Fm No Hb H
 t:H.get tb=aB 0 [.bool true,lv,.map mb,iN most]
 m:iU H mb qs
 od:Hb.nx<=mb/\mb<tb/\tb<H.nx
 gl:Gl 6 H lv l.length (l.flatMap mG)
 ln:∀ b,In lv b->tb<b
 ok:∀ e∈l,e.Ok X H/\∀ b,e.B b->b≠tb/\b≠mb/\¬ In lv b
 n:∀ i (h:i<l.length),l[i].n=i/\l[i].st=o.getD i 0
theorem TfI.no{lv:AV}{l:List fC}{a:List (SS×SS)}(h:TfI X o Hb H tb mb most lv l a)(f:Fm No H H'):TfI X o Hb H' tb mb most lv l a:=by obtain⟨c,d,g⟩:=h.od;have:=f.nx;exact⟨h.fm.trans f,(f.keep g).trans h.t,h.m.eq (f.keep om),⟨c,d,om⟩,h.gl.no f,h.ln,fun e b=>⟨(h.ok e b).1.dJ f fun _ _ h=>h,(h.ok e b).2⟩,h.n⟩
theorem xbz(hC:aU C)(hN:iL C)(hj:24<=j){sv lv:AV}{sb pb rb fb tb mb most i A:Nat}{l:List fC}{qs:List (SS×SS)}{x:bC}{R S U V c2 c3 c4 c5:AV}{g6:pH}{Q:pS}(hX:cZ Hb sv X)(hV:dF X)(hs:Hb.get sb=aB 0 [sv])(hsl:sb<Hb.nx)(hg:g∈X)(hx:x∈g.gs)(p:TfI X o Hb H tb mb most lv l qs)(W:H.get pb=aB 0 [.str g.name.n g.name.a,g.rv])(u:tb<pb/\pb<H.nx)(hpv:¬ In lv pb)(hr:H.get rb=aB 0 [.str x.r.name.n x.r.name.a,x.tv,c2,c3,c4,c5])(G:rb<H.nx)(hf:H.get fb=aB 0 [R,S,U,V])(hfb:fb<H.nx)(I:eD (fun _=>True) H x.r.rule.fo.flat [R,S,U,V])(hst:A=o.getD l.length 0)(hm2:l.length<300)(hi:i<300)(hq:∀(H':Hp) (J:AV) (e:fC),e.p=(g.name,x)->TfI X o Hb H' tb mb most J (l++[e]) qs->H'.get pb=H.get pb->pb<H'.nx->¬ In J pb->Ok (g6 (iN ((i+1))) H') Q):Ok (q5f (C j) g6 (.ptr sb 0) (.ptr tb 0) (.ptr pb 0) (.ptr rb 0) (.ptr fb 0) (iN A) (iN i) H) Q:=by
 rw[qtz];unfold qmy;obtain⟨o1,o2,o3⟩:=p.od;have hX1:=hX.fm p.fm;have hsp:=hX1.sp _ hg;have r:=hsp.rel _ hx;obtain⟨p1,p2,hrt,p4⟩:=hV.pr.x g hg _ hx;have ht:=p.t;have hl:=p.gl.aX;have D:=qP (Gl.flat p.gl) 63;have K:=qP r.tf 63;have hfd:oD 64 (.agg [R,S,U,V]) (.agg [R,S,U,V])=true:=qgc _ (by have:=I.flat;simp only[Tr,this];rfl);simp only[go_sem,ht,W,hr,hf,hl,D,K];have fU:Fm No H ⟨H.t,H.nx+27⟩:=fm;refine Ok.iR (q4j hC (k:=j) om (n:=x.r.types.length) (l:=x.r.types.flatMap tC) ((r.ty.fm fU).sr qfx r.tc) om) ?_;rintro F H1 ⟨q1,f1,n1⟩;have q:Fm No H H1:=fU.trans f1;have x1:H.nx+27<=H1.nx:=f1.nx;have ht1:=(q.keep o3).trans ht;have hp1:=(q.keep u.2).trans W;have hr1:=(q.keep G).trans hr;have hf1:=(q.keep hfb).trans hf;simp only[go_sem,seval,ht1,hp1,hr1,hf1,D,K,hfd];have hok:=hrt.ok1.flat;refine Ok.iR (zod hC hN (k:=j) (tg:=nP X g.name) om (I.fm q) hok fun rl to H' B f'=>?_) ?_
 ·obtain⟨t,B,O,rfl,rfl⟩:=B;have E:=q.trans f';have L:=Fo.qW (fun k rl to=>(k=2\/k=3->(g.name,rl)∈aF X)/\(k=3->nP X g.name rl to≠[])) _ 0 0 (Fo.oH _ _ (Ru.wY _ x.r.rule false fun y Y=>hV.nd g hg x hx y Y)) t B;exact z8d hC hN (k:=j-1) om ((p.fm.trans E).keep hsl |>.trans hs) ((E.keep u.2).trans W) (hX.fm (p.fm.trans E)) hV t.rl t.to (L.1 (.inr O)) (L.2 O)
 rintro w z ⟨es,q2,f2,hwf,P⟩;have Z:=q.trans f2;have M:=(Z.keep o3).trans ht;have hp2:=(Z.keep u.2).trans W;have hr2:=(Z.keep G).trans hr;have c1:=q1.cells;have c2:=q2.gl.cells;simp only[go_sem,seval,M,hp2,hr2,D,c1,c2];have x2:=f2.nx;have u3:Fm (fun c=>c=H.nx+22) z (z.put (H.nx+22) (aB 0 (mG ⟨(g.name,x),l.length,A,F,w,es⟩))):=(Fm.refl _ _).put _ _ fun _=>rfl;have xC:Fm No H (z.put (H.nx+22) (aB 0 (mG ⟨(g.name,x),l.length,A,F,w,es⟩))):=Z.aH _ _ om;obtain⟨H4,e4,g4,_,f4,n4⟩:=(p.gl.no xC).append (k:=1) (w:=96) (x:=mG ⟨(g.name,x),l.length,A,F,w,es⟩) om rfl om om;refine Ok.tT e4 ?_;have N:∀ c,c<=tb->¬ In lv c:=fun c hc h=>by have:=p.ln c h;omega
 have ht4:=(f4.get tb (by have:=xC.nx;omega) (N tb (lEO _))).trans ((u3.get tb om om).trans M);simp only[nq]at e4 g4 n4;have aGI:∀ a b c d y:AV,aY [a,b,c,d] 1 [y]=[a,y,c,d]:=fun _ _ _ _ _=>rfl;simp only[go_sem,seval,ht4,aGI];rw[q0j];unfold qww;simp(disch:=go_size)only[go_sem,rB,rI,rK,rL,rN,rS,r8];have u5:Fm (fun c=>c=tb) H4 (H4.put tb (aB 0 [.bool true,.sl z.nx 0 (l.length+1) (l.length+1) false,.map mb,iN most])):=(Fm.refl _ _).put _ _ fun _=>rfl;have u4:Fm (fun c=>c=tb\/In lv c) H _:=((xC.mono (T:=fun c=>c=tb\/In lv c) fun _ _ h=>absurd h id).then f4 fun _ _ h=>.inr h).then u5 fun _ _ h=>.inl h;have s:∀ b,In (.sl z.nx 0 (l.length+1) (l.length+1) false) b->b=z.nx:=fun b f=>by obtain⟨_,_,_,_,f⟩:=f;simp_all
 have hmn:∀ c,c<tb->¬(c=tb\/In lv c):=fun c hc h=>by
  rcases h with h|h
  ·omega
  ·exact N c om h
 have v:∀ b,fC.B ⟨(g.name,x),l.length,A,F,w,es⟩ b->H.nx+27<=b/\b<z.nx:=fun b f=>by
  rcases f with f|f|⟨y,Y,f⟩
  ·have h1:=n1 b f;have h2:=q1.lt f;exact⟨h1,om⟩
  ·have:=P b (.inl f);have:=q2.gl.lt f;omega
  ·have:=P b (.inr ⟨y,Y,f⟩);have:=(q2.ok y Y).lt f;omega
 have he:fC.Ok X z ⟨(g.name,x),l.length,A,F,w,es⟩:=⟨q1.no f2,q2⟩;have bC3:=u4.get pb u.2 fun h=>by simp_all
 refine hq _ (.sl z.nx 0 (l.length+1) (l.length+1) false) ⟨(g.name,x),l.length,A,F,w,es⟩ rfl ⟨?_,dL _ _ _,p.m.eq (u4.get mb om (hmn mb o2)),⟨o1,o2,by simp only[nq];omega⟩,?_,fun b f=>by have:=s b f;omega,fun e he'=>?_,fun m hm=>?_⟩ bC3 (by simp only[nq];omega) fun h=>by have:=s _ h;omega
 ·exact p.fm.then u4 fun c hc h=>by
   rcases h with h|h
   ·omega
   ·have:=p.ln c h;omega
 ·rw[lEP,lIC,lIE];exact g4.fm u5 fun b f h=>by have:=s b f;omega
 ·rcases lEY.1 he' with h|h
  ·obtain⟨v1,v2⟩:=p.ok e h;exact⟨v1.dJ u4 fun b f h=>by
    have:=v2 b f;rcases h with h|h
    ·omega
    ·exact this.2.2 h,fun b f=>⟨(v2 b f).1,(v2 b f).2.1,fun h=>by have:=s b h;have:=v1.lt f;omega⟩⟩
  ·obtain rfl:=lI3.1 h;refine⟨((he.dJ u3 fun b f h=>?_).dJ f4 fun b f h=>?_).dJ u5 fun b f h=>?_,fun b f=>?_⟩
   ·have:=v b f;omega
   ·have:=v b f;have:=p.gl.lt h;omega
   ·have:=v b f;omega
   ·have:=v b f;exact⟨om,om,fun h=>by have:=s b h;omega⟩
 ·by_cases h:m<l.length
  ·rw[lXH h];exact p.n m h
  ·have:m=l.length:=by simp at hm;omega
   simp_all
theorem xby(L:aU C)(hN:iL C)(hj:24<=j){sv zv lv:AV}{sb M pb tb mb most i:Nat}{l:List fC}{w:List (SS×SS)}{g6:pH}{Q:pS}(hX:cZ Hb sv X)(N:dF X)(O:vG Hb zv X o)(hs:Hb.get sb=aB 0 [sv])(P:sb<Hb.nx)(hz:Hb.get M=aB 0 [zv])(R:M<Hb.nx)(F:g∈X)(G:i<g.gs.length)(m:TfI X o Hb H tb mb most lv l w)(hp:H.get pb=aB 0 [.str g.name.n g.name.a,g.rv])(q:tb<pb/\pb<H.nx)(S:¬ In lv pb)(T:w.length=l.length)(hn:bD X g.name g.gs[i].r.name=l.length)(hin:(g.name,g.gs[i].r.name)∈aF X)(x:(g.name,g.gs[i].r.name)∉w)(U:l.length<300)(hq:∀(H':Hp) (n:AV) (e:fC),e.p=(g.name,g.gs[i])->TfI X o Hb H' tb mb most n (l++[e]) (w++[(g.name,g.gs[i].r.name)])->H'.get pb=aB 0 [.str g.name.n g.name.a,g.rv]->pb<H'.nx->¬ In n pb->Ok (g6 (iN ((i+1))) H') Q):Ok (q5d (C j) g6 (.ptr sb 0) (.ptr M 0) (.ptr tb 0) (.ptr pb 0) g.rv (iN i) H) Q:=by
 rw[qtv];unfold qmu;obtain⟨o1,o2,o3⟩:=m.od;have bZq:=(N.pr.r g F).1;have z:=(hX.fm m.fm).sp _ F;obtain⟨b1,o1',e1,e2,_,_,_,e6⟩:=z.at' i G;have p:=z.rel _ (lEQ G);obtain⟨c0,c1,c2,c3,hcs,hrc⟩:=qhu p;have jV:=p.ru;rw[hcs]at jV;rw[hrc]at e6;obtain⟨_,_,B,_⟩:=N.pr.x g F _ (lEQ G);simp(disch:=go_size)only[go_sem,seval,e1,e6];generalize s:(aK H (aB 0 [.str 0 0,.aA,.int .u8 (.ofNat 0),.str 0 0,.str 0 0,.aA])).put H.nx (aB 0 [.str g.gs[i].r.name.n g.gs[i].r.name.a,g.gs[i].tv,c0,c1,c2,c3])=H1;have f1:Fm No H H1:=by rw[<-s];exact jW
 have n1:H1.nx=H.nx+1:=by rw[<-s];rfl
 have r1:H1.get H.nx=aB 0 [.str g.gs[i].r.name.n g.gs[i].r.name.a,g.gs[i].tv,c0,c1,c2,c3]:=by rw[<-s];exact dL _ _ _
 rw[qtw];unfold qmv;simp(disch:=first|omega|exact ti rfl)only[go_sem,seval,r1];refine Ok.ve (zsv L hN (k:=j) om (f:=g.gs[i].r.rule.fo) (jV.fo.fm f1) B.ok1) ?_;rintro _ v ⟨ds,rfl,D,f2⟩;have x2:=f2.nx;obtain⟨kd,rl,to,a,av,ca,hfe,rfl,_,_,_⟩:=D.one (by rw[Fo.jC];exact B.ok1.one);simp(disch:=first|omega|exact ti rfl)only[go_sem,seval];generalize t:(aK v (aB 0 [.int .u8 (.ofNat 0),.str 0 0,.str 0 0,.aA])).put v.nx (aB 0 [.int .u8 (.ofNat kd),.str rl.n rl.a,.str to.n to.a,av])=H3;have f3:Fm No v H3:=by rw[<-t];exact jW
 have n3:H3.nx=v.nx+1:=by rw[<-t];rfl
 have d3:H3.get v.nx=aB 0 [.int .u8 (.ofNat kd),.str rl.n rl.a,.str to.n to.a,av]:=by rw[<-t];exact dL _ _ _
 rw[qtx];unfold qmw;have r:=f2.trans f3;have J:=f1.trans r;have z3:=((m.fm.trans J).keep R).trans hz;have p3:=(J.keep q.2).trans hp;have r3:=(r.keep (show H.nx<H1.nx by omega)).trans r1;simp(disch:=go_size)only[go_sem,seval,z3,p3,r3];refine Ok.ve (xbr L (k:=j) om (O.fm (m.fm.trans J)) g.name g.gs[i].r.name) ?_;rintro _ K ⟨E,hr4⟩;rcases hr4 with⟨_,rfl⟩|⟨h,_⟩
 rotate_left
 ·trivial
 rw[hn,qty];unfold qmx;have A:=J.trans E;have f34:=r.trans E;have d:=m.no A;have t4:=d.t;have p4:=(A.keep q.2).trans hp;have r4:=(f34.keep (show H.nx<H1.nx by omega)).trans r1;have hl:=m.gl.aX;have hv:=qP (Gl.flat m.gl) 63;obtain⟨kk,eu,mu⟩:=d.m.put g.name g.gs[i].r.name x;rw[T]at eu;simp only[go_sem,seval,t4,p4,r4,hl,hv,eu];have u:Fm (fun c=>c=mb) K (K.put mb kk):=(Fm.refl _ _).put _ _ fun _=>rfl;have x4:H3.nx<=K.nx:=E.nx;have hI5:TfI X o Hb (K.put mb kk) tb mb most lv l (w++[(g.name,g.gs[i].r.name)]):=⟨d.fm.then u fun c hc h=>om,(dS _ _ _ _ om).trans t4,mu,⟨o1,o2,by simp only[nq];omega⟩,d.gl.fm u fun b I h=>by have:=m.ln b I;omega,m.ln,fun e y=>⟨(d.ok e y).1.dJ u fun b I h=>((d.ok e y).2 b I).2.1 h,(d.ok e y).2⟩,m.n⟩;refine xbz L hN hj hX N hs P F (lEQ G) hI5 ((u.get pb om om).trans p4) ⟨q.1,by simp only[nq];omega⟩ S ((u.get H.nx om om).trans r4) (by simp only[nq];omega) ((u.get v.nx om om).trans ((E.keep om).trans d3)) (by simp only[nq];omega) (((D.fm (f3.trans E)).dJ u fun b I h=>om).mono fun _ _ _=>trivial) rfl U om fun H' n e y V W Y Z=>hq H' n e y V (W.trans ((u.get pb om om).trans p4)) Y Z
structure oQ(X:List aQ)(o:List Nat)(H:Hp)(t:AV)(most:Nat)(l:List fC):Prop where
 ex:∃ tb mb lv,t=.ptr tb 0/\tb<H.nx/\mb<H.nx/\H.get tb=aB 0 [.bool true,lv,.map mb,iN most]/\iU H mb (aF X)/\Gl 6 H lv l.length (l.flatMap mG)
 ok:∀ e∈l,e.Ok X H
 p:l.map fC.p=dX X
 n:∀ i (h:i<l.length),l[i].n=i/\l[i].st=o.getD i 0
theorem oQ.fm{t:AV}{l:List fC}(h:oQ X o H t most l)(f:Fm No H H'):oQ X o H' t most l:=by obtain⟨tb,mb,lv,b,c,d,g,i,j⟩:=h.ex;have:=f.nx;exact⟨⟨tb,mb,lv,b,om,om,(f.keep c).trans g,i.eq (f.keep d),j.no f⟩,fun e a=>(h.ok e a).dJ f fun _ _ h=>h,h.p,h.n⟩
theorem z2o(J:aU C)(K:iL C){j:Nat}(L:24<=j){Hb:Hp}{sv M:AV}{sb w pb tb mb most s:Nat}(N:cZ Hb sv X)(g:dF X)(m:vG Hb M X o)(O:Hb.get sb=aB 0 [sv])(n:sb<Hb.nx)(P:Hb.get w=aB 0 [M])(p:w<Hb.nx)(c:s<X.length)(r:tb<pb){q:pL}{Q:pS}(R:∀(H:Hp) (lv:AV) (l:List fC),l.map fC.p=dR X s++X[s].gs.map (fun x=>(X[s].name,x))->TfI X o Hb H tb mb most lv l ((l.map fC.p).map kq)->Ok (q H) Q):∀(k i:Nat) (H:Hp) (lv:AV) (l:List fC),i<=X[s].gs.length->X[s].gs.length-i<k->l.map fC.p=dR X s++(X[s].gs.take i).map (fun x=>(X[s].name,x))->TfI X o Hb H tb mb most lv l ((l.map fC.p).map kq)->H.get pb=aB 0 [.str X[s].name.n X[s].name.a,X[s].rv]->pb<H.nx->¬ In lv pb -> Ok (q0h (C j) q (.ptr sb 0) (.ptr w 0) (.ptr tb 0) (.ptr pb 0) X[s].rv (iN (X[s].gs.length)) k (iN i) H) Q
 |0,i,_,_,_,_,h,_,_,_,_,_=>om
 |k+1,i,H,lv,l,hi,hk,hlp,hI,hp,hpl,hpn=>by
  show Ok (zic (C j) _ _ _ _ _ _ _ (q0h (C j) _ _ _ _ _ _ _ k) _ H) Q;unfold zic;by_cases b:i<X[s].gs.length
  ·simp only[go_sem,b];have E:l.length=(dR X s).length+i:=by
    have:=congrArg List.length hlp;simp only[lET,lEP,lI6]at this;omega
   have F:=zcx c b;obtain⟨t,u⟩:=lI2.1 F;obtain⟨_,S,_⟩:=g.at t;rw[u,<-E]at S;have T:=g.pr.len;have G:(X[s].name,X[s].gs[i].r.name)∈aF X:=by rw[<-pG];exact lIX (f:=kq) (a:=(X[s].name,X[s].gs[i])) (by rw[<-u];exact lEQ t)
   have d:=qy9 g.al c b;rw[<-hlp]at d;refine xby J K L N g m O n P p (lEQ c) b hI hp ⟨r,hpl⟩ hpn g3 S G d om fun H' y e v z A B D=>?_;have I:(l++[e]).map fC.p=dR X s++(X[s].gs.take (i+1)).map (fun x=>(X[s].name,x)):=by rw[lID,hlp,lER b,lID,lI5,lOD,v,lOD]
   refine z2o J K L N g m O n P p c r R k (i+1) H' y (l++[e]) om om I ?_ A B D;rw[lID,lID,lOD,v];exact z
  ·simp only[go_sem,b];have v:i=X[s].gs.length:=om;subst v;rw[lIN]at hlp;exact R H lv l hlp hI
theorem z2p(r:aU C)(t:iL C){j:Nat}(u:24<=j){Hb:Hp}{sv v:AV}{sb g tb mb most:Nat}(i:cZ Hb sv X)(f:dF X)(c:vG Hb v X o)(w:Hb.get sb=aB 0 [sv])(d:sb<Hb.nx)(x:Hb.get g=aB 0 [v])(e:g<Hb.nx){q:pL}{Q:pS}(y:∀(H:Hp) (lv:AV) (l:List fC),l.map fC.p=dX X->TfI X o Hb H tb mb most lv l ((l.map fC.p).map kq)->Ok (q H) Q):∀(k s:Nat) (H:Hp) (lv:AV) (l:List fC),s<=X.length->X.length-s<k->l.map fC.p=dR X s->TfI X o Hb H tb mb most lv l ((l.map fC.p).map kq) -> Ok (q0i (C j) q (.ptr sb 0) (.ptr g 0) (.ptr tb 0) sv (iN (X.length)) k (iN s) H) Q
 |0,s,_,_,_,_,h,_,_=>om
 |k+1,s,H,lv,l,hi,hk,hlp,hI=>by
  show Ok (zid (C j) _ _ _ _ _ _ (q0i (C j) _ _ _ _ _ _ k) _ H) Q;unfold zid;obtain⟨O,P,J⟩:=hI.od;have M:=f.pr.n;by_cases a:s<X.length
  ·simp only[go_sem,a];rw[qts];unfold qmr;have z:=i.fm hI.fm;obtain⟨R,K,L,S,_,A,_⟩:=z.rs.at' s a;unfold xG SS.v at A;have E:=(z.sp _ (lEQ a)).len;have F:=(f.pr.r _ (lEQ a)).1;simp(disch:=first|omega|exact ti rfl)only[go_sem,seval,L,A];generalize b:(aK H (aB 0 [.str 0 0,.aA])).put H.nx (aB 0 [.str X[s].name.n X[s].name.a,X[s].rv])=H1;have G:Fm No H H1:=by rw[<-b];exact jW
   have N:H1.nx=H.nx+1:=by rw[<-b];rfl
   have p1:H1.get H.nx=aB 0 [.str X[s].name.n X[s].name.a,X[s].rv]:=by rw[<-b];exact dL _ _ _
   rw[qtt];unfold qms;simp(disch:=go_size)only[go_sem,rB,rI,rK,rL,rN,rS,r8,p1,E];rw[qtu];unfold qmt zie;rw[dD];refine z2o r t u i f c w d x e a (pb:=H.nx) J (fun B m D n p=>?_) bZ 0 H1 lv l (lEV _) lf (by rw[lX1,List.map_nil,lIM];exact hlp) (hI.no G) p1 om fun h=>by have:=hI.gl.lt h;omega
   rw[q0k];unfold qwx;simp(disch:=go_size)only[go_sem,rB,rI,rK,rL,rN,rS,r8];refine z2p r t u i f c w d x e y k (s+1) B m D om om ?_ p;rw[n];unfold dR dX;rw[lER a,lIC,lIE]
  ·simp only[go_sem,a];have I:s=X.length:=om;refine y H lv l ?_ hI;rw[hlp,I];unfold dR;rw[lIN]
theorem xet(q:aU C)(I:iL C)(Q:qwg C)(R:uZ C)(S:tJ C)(T:uI LA LO C)(U:1004<=k)(J:cZ H sv X)(h:kK L X):Ok (C k (.f 6) [.agg [sv]] H) fun r H'=>∃ t o l,r=.bB [t,iN 0]/\nG X o/\oQ X o H' t (mnA X o) l/\Fm No H H':=by
 obtain⟨j,rfl⟩:=aT U;rw[(q j).zGv];unfold zGv z4w;have M:=h.val;simp(disch:=go_size)only[go_sem,seval];have x:Fm No H (aK H (aB 0 [sv])):=by exact kW
 refine Ok.ve (xeu q I Q R S T (k:=j) om (J.fm x) h) ?_;rintro _ H1 ⟨E,o,rfl,gz,F,d,u⟩;have Y:=u.nx;simp only[np]at Y;have Z:=(u.keep (show H.nx<(aK H (aB 0 [sv])).nx by simp only[np,nq];omega)).trans (jQ _ _);rw[qo3];unfold qij;simp(disch:=first|omega|exact ti rfl)only[go_sem,seval];rw[qtp];unfold qmo;generalize f:(aK H1 (aB 0 [.aA])).put H1.nx (aB 0 [E])=Hb;have s:Fm No H1 Hb:=by rw[<-f];exact jW
 have nb:Hb.nx=H1.nx+1:=by rw[<-f];rfl
 have N:Hb.get H1.nx=aB 0 [E]:=by rw[<-f];exact dL _ _ _
 have sb:=(s.keep (show H.nx<H1.nx by omega)).trans Z;have z:o.length=(aF X).length:=d.fit.1;have A:((aF X).zip o).length=(aF X).length:=by rw[List.length_zip];omega
 have B:=qcp L;have hln:=h.len;have m:vG Hb E X o:=by
  refine⟨?_,F,z,om,fun y V=>?_⟩
  ·rw[<-A]at gz;exact(gz.rs zos).fm s
  ·obtain⟨i,w,rfl⟩:=lOO V;have:=d.lt i om;rw[show o.getD i 0=o[i]by simp[lES,w]]at this;omega
 have fm:Fm No Hb (aK Hb (.map [] 0)):=by exact kW
 have zm:=(fm.keep (show H1.nx<Hb.nx by omega)).trans N;simp(disch:=go_size)only[go_sem,seval,zm];refine Ok.ve (zs4 q (k:=j) om (m.fm fm)) ?_;rintro _ p ⟨rfl,G⟩;have x2:=G.nx;simp only[np]at x2;have m2:=(G.keep (show Hb.nx<(aK Hb (.map [] 0)).nx by(go_size))).trans (jQ _ _);have cm:∀ b,wX (.map b)=some [.map b]:=fun _=>rfl;simp only[go_sem,seval,cm];generalize g:aK p (aB 0 [.bool true,.aA,.map Hb.nx,iN ((mnA X o))])=H3;have O:Fm No p H3:=by rw[<-g];exact kW
 have n3:H3.nx=p.nx+1:=by rw[<-g];rfl
 have t3:H3.get p.nx=aB 0 [.bool true,.aA,.map Hb.nx,iN ((mnA X o))]:=by rw[<-g];exact jQ _ _
 have c:=(fm.trans G).trans O;have s3:=(c.keep (show H.nx<Hb.nx by omega)).trans sb;have n:=(J.fm x).fm (u.trans s);have D:=(n.fm c).rs.len;rw[qtq];unfold qmp;simp(disch:=go_size)only[go_sem,seval,s3,D];rw[qtr];unfold qmq zif;rw[dD];have P:=M.pr.n;refine z2p q I (j:=j) om n M m sb om N om (mb:=Hb.nx) (tb:=p.nx) (most:=mnA X o) (fun H4 lv l K a=>?_) bZ 0 H3 .aA [] (lEV _) lf (by unfold dR dX;simp) ⟨c,t3,lJ.nil _ _ ((O.keep om).trans m2),⟨lEO _,om,om⟩,Gl.nil 6 H3,fun b W=>absurd W (notNil b),(fun e v=>by cases v),(fun i w=>by cases w)⟩;rw[q0m];obtain⟨o1,o2,o3⟩:=a.od;have B:=a.m;rw[K,pG]at B;exact Ok.ret ⟨_,o,l,rfl,d,⟨⟨_,_,lv,rfl,o3,om,a.t,B,a.gl⟩,fun e v=>(a.ok e v).1,K,a.n⟩,((x.trans u).trans s).trans a.fm⟩
structure CpE(X:List aQ)(H H':Hp)(e0 e:fC):Prop where
 p:e.p=e0.p
 n:e.n=e0.n
 st:e.st=e0.st
 ok:e.Ok X H'
 nw:∀ b,e.B b->H.nx<=b
 sep:∀ x∈e.es,(∀b,In x.sp b\/In x.av b->¬ In e.nv b)/\dA x.sp=aD x.sp/\dA x.av=aD x.av
 cap:dA e.tv=aD e.tv/\dA e.nv=aD e.nv
def taZ:List AV:=[.str 0 0,.str 0 0,iN 0,iN 0,.aA,.aA]
theorem zpo(b p:Nat):jR false (qg3 (.ptr b p) .bS)=.val (.bool false):=id rfl
theorem oQ.at'{t:AV}{l:List fC}(h:oQ X o H t most l)(b:dF X)(a:i<l.length):l[i].Ok X H/\l[i].p.2.r.types.length<=8/\l[i].p.2.r.rule.Rt:=by
 refine⟨h.ok _ (lEQ a),?_⟩;have c:l[i].p∈dX X:=by rw[<-h.p];exact lIX (lEQ a)
 obtain⟨g,d,e,_⟩:=qdr.1 (show(l[i].p.1,l[i].p.2)∈dX X from c);have:=b.pr.x g d _ e;simp_all
theorem zzw(a:aU C)(b:1<=k){t:AV}{l:List fC}(h:oQ X o H t most l):C k (.f 10) [t] H=.ok (iN (l.length)) H:=by obtain⟨j,rfl⟩:=aT b;rw[(a j).zGw];obtain⟨tb,mb,lv,rfl,_,_,d,_,e⟩:=h.ex;unfold zGw z4v;have c:=e.aX;unfold zh2;simp only[go_sem,d,c]
theorem zgj(a:aU C)(b:1<=k){t:AV}{l:List fC}(h:oQ X o H t most l):C k (.f 11) [t] H=.ok (iN most) H:=by obtain⟨j,rfl⟩:=aT b;rw[(a j).zGx];obtain⟨tb,mb,lv,rfl,_,_,c,_,d⟩:=h.ex;unfold zGx z4u;unfold zh1;simp only[go_sem,c]
theorem q3a(m:aU C)(n:4<=j){d:fC}(o:d.Ok X H)(p:dF X)(q:d.p.2.r.types.length<=8)(r:d.p.2.r.rule.Rt){Q:pS}(s:∀(e:fC) (H':Hp),Fm No H H'->CpE X H H' d e->Q (.bB [.agg (mG e),iN 0]) H'):Ok (ve (C j (.f 46) [.agg (mG d)] (aK H (aB 0 [.str 0 0,.str 0 0,iN 0,iN 0,.aA,.aA]))) fun a H'=>ve (qdc 6 H' (.ptr H.nx 0) a) fun _ H'=>cO (eT (d9 (rV (dB 6 H' (.ptr H.nx 0))) (d9 (some (iN 0)) (some [])))) H') Q:=by
 have i:Fm No H (aK H (aB 0 [.str 0 0,.str 0 0,iN 0,iN 0,.aA,.aA])):=by exact kW
 refine Ok.ve (zrw m (k:=j) n (o.dJ i fun _ _ h=>h) p q r) ?_;rintro _ y ⟨e,rfl,p1,t,u,v,g,w,x,l⟩;simp only[np]at g;have k2:=(l.keep (show H.nx<(aK H (aB 0 [.str 0 0,.str 0 0,iN 0,iN 0,.aA,.aA])).nx by simp only[np,nq];omega)).trans (jQ _ _);unfold mG;simp only[go_sem,seval,k2];refine Ok.ret (s e _ ((i.trans l).aH _ _ (lEO _)) ⟨p1,t,u,v.dJ (S:=fun c=>c=H.nx) ((Fm.refl _ _).put _ _ fun _=>rfl) fun b f h=>?_,fun b f=>?_,w,x⟩)
 ·have:=g b f;omega
 ·have:=g b f;omega
theorem zsj(n:aU C)(v:6<=k){t:AV}{l:List fC}(h:oQ X o H t most l)(q:dF X)(G:l.length<300)(x:Int){Q:pS}(w:∀(i:Nat) (d:i<l.length) (e:fC) (H':Hp),x=Int.ofNat i->Fm No H H'->CpE X H H' l[i] e->Q (.bB [.agg (mG e),iN 0]) H')(y:(x<0\/Int.ofNat l.length<=x)->∀ H',Fm No H H'->Q (.bB [.agg taZ,iN 4]) H'):Ok (C k (.f 12) [t,.int .i64 x] H) Q:=by
 obtain⟨j,rfl⟩:=aT v;rw[(n j).zGy];obtain⟨tb,mb,lv,rfl,I,J,g,K,u⟩:=h.ex;unfold zGy z4t;have r:=u.aX;have c:∀ H',Fm No H H'->(x<0\/Int.ofNat l.length<=x)->Ok (cO (eT (d9 (some (.agg taZ)) (d9 (some (iN 4)) (some [])))) H') Q:=fun H' f z=>Ok.ret (y z H' f);cases x with
 |negSucc i=>have m:fO (lS .lss).f (.int .i64 (.negSucc i)) (iN 0)=.val (.bool true):=rfl;simp(disch:=go_size)only[go_sem,rB,rI,rK,rL,rN,rS,r8,zpo,g,m];exact c _ fm (.inl (Int.negSucc_lt_zero i))
 |ofNat i=>
  have s:¬ i<0:=om;by_cases d:i<l.length
  ·have a:¬ l.length<=i:=om;simp(disch:=go_size)only[go_sem,rB,rI,rK,rL,rN,rS,r8,zpo,g,r,s,a];unfold zh0;obtain⟨B,D,E⟩:=h.at' q d;obtain⟨b,p,m,L,_,F,_⟩:=(u.rs zok).at' i d;simp(disch:=go_size)only[go_sem,rB,rI,rK,rL,rN,rS,r8,g,m];rw[F];exact q3a n om B q D E fun e H' f A=>w i d e H' rfl f A
  ·have a:=lO5 (show l.length<=i by omega);simp(disch:=go_size)only[go_sem,rB,rI,rK,rL,rN,rS,r8,zpo,g,r,s,a];exact c _ fm (.inr (by simp only[lIA];omega))
theorem qoj(u:aU C)(w:6<=k){t:AV}{l:List fC}(h:oQ X o H t most l)(v:dF X)(K:l.length<300)(a b:SS){Q:pS}(x:∀(i:bD X a b<l.length) (e:fC) (H':Hp),(a,b)∈aF X->Fm No H H'->CpE X H H' l[bD X a b] e->Q (.bB [.agg (mG e),iN 0]) H')(y:(a,b)∉aF X->∀ H',Fm No H H'->Q (.bB [.agg taZ,iN 6]) H'):Ok (C k (.f 13) [t,.str a.n a.a,.str b.n b.a] H) Q:=by
 obtain⟨j,rfl⟩:=aT w;rw[(u j).zGz];obtain⟨tb,mb,lv,rfl,L,B,s,D,E⟩:=h.ex;unfold zGz z4s;have A:Fm No H (aK H (aB 0 [.str 0 0,.str 0 0,iN 0,iN 0,.aA,.aA])):=by exact kW
 have g:iU (aK H (aB 0 [.str 0 0,.str 0 0,iN 0,iN 0,.aA,.aA])) mb (aF X):=D.eq (A.keep B);unfold q5b;by_cases d:(a,b)∈aF X
 ·have i:bD X a b<l.length:=by
   have:=qrp d;have n:=congrArg List.length h.p;rw[lET,<-show((dX X).map kq).length=(dX X).length from lET ..,pG]at n;omega
  have m:=g.find (iN 0) a b d;rw[show(aF X).findIdx (fun q=>decide (q=(a,b)))=bD X a b from rfl]at m;obtain⟨F,n,G⟩:=h.at' v i;obtain⟨c,p,I,M,_,J,_⟩:=(E.rs zok).at' _ i;simp(disch:=first|omega|exact ti rfl|simp only[np,nq];first|done|omega)only[go_sem,seval,s,m];unfold q5c;simp(disch:=first|omega|exact ti rfl|simp only[np,nq];first|done|omega)only[go_sem,seval,s,I];rw[J];exact q3a u om F v n G fun e H' f z=>x i e H' d f z
 ·have m:=g.miss (iN 0) a b d;have r:∀ H',Fm No H H'->Ok (cO (eT (d9 (some (.agg taZ)) (d9 (some (iN 6)) (some [])))) H') Q:=fun H' f=>Ok.ret (y d H' f);simp(disch:=first|omega|exact ti rfl|simp only[np,nq];first|done|omega)only[go_sem,seval,s,m];exact r _ fm
theorem zsi(p:aU C)(u:7<=k){t:AV}{l:List fC}(h:oQ X o H t most l)(v:dF X)(w:l.length<300)(a b:SS):Ok (C k (.f 15) [t,.str a.n a.a,.str b.n b.a] H) fun r H'=>r=.bool (decide ((a,b)∈aF X))/\Fm No H H':=by
 obtain⟨j,rfl⟩:=aT u;rw[(p j).zHb];refine Ok.ve (R:=fun r H'=>Fm No H H'/\∃ cs,cs.length=6/\r=.bB [.agg cs,iN ((if(a,b)∈aF X then 0 else 6))]) (qoj p om h v w a b (fun y e H' c f _=>⟨f,mG e,rfl,by rw[lEZ c]⟩) fun c H' f=>⟨f,taZ,rfl,by rw[lEU c]⟩) ?_;rintro _ H1 ⟨s,cs,x,rfl⟩;obtain⟨c0,d,g,i,m,n,rfl⟩:∃ c0 d g i m n,cs=[c0,d,g,i,m,n]:=by
  match cs,x with
  | [c0,d,g,i,m,n],_=>exact⟨c0,d,g,i,m,n,rfl⟩
 have q:∀ B,Fm No H ((aK H1 (aB 0 taZ)).put H1.nx B):=fun B=>(s.push _).aH _ _ s.nx;by_cases c:(a,b)∈aF X
 ·rw[lEZ c];simp(disch:=omega)only[go_sem,seval];exact Ok.ret ⟨by rw[lI9 c],q _⟩
 ·rw[lEU c];simp(disch:=omega)only[go_sem,seval];exact Ok.ret ⟨by rw[lIF c],q _⟩
theorem q3f{O:Ev.Call}{H:Hp}{v w:AV}{l:List Nat}(b:Gl 1 H v l.length (aI l))(c:Gl 1 H w l.length (aI l))(g:l.length<=1000){qr:pH}{q:pL}{Q:pS}(d:Ok (q H) Q):∀(k i:Nat),l.length-i<k->i<=l.length->Ok (qs7 O qr q v w k (iN i) H) Q
 |0,i,h,_=>om
 |k+1,i,h,hi=>by
  show Ok (zha O _ _ _ _ (qs7 O _ _ _ _ k) _ H) Q;unfold zha;have e:=b.aX;by_cases a:i<l.length
  ·have f:(aI l)[i]? =some (iN (l[i])):=by simp[aI,a]
   obtain⟨p,r,j,_,_,m⟩:=b.at f;obtain⟨s,t,n,_,_,o⟩:=c.at f;simp only[go_sem,e,a];unfold zg7;simp only[go_sem,j,m,n,o];unfold zg8;simp(disch:=go_size)only[go_sem,rB,rI,rK,rL,rN,rS,r8];exact q3f b c g d k (i+1) om om
  ·simp only[go_sem,e,a];exact d
theorem z94(d:aU C)(e:1<=k){v w:AV}{l:List Nat}(a:Gl 1 H v l.length (aI l))(b:Gl 1 H w l.length (aI l))(f:l.length<=1000)(g:dA v=aD v):Ok (C k (.f 23) [v,w] H) fun r H'=>r=.bool true/\H'=H:=by obtain⟨j,rfl⟩:=aT e;rw[(d j).zHm];unfold zHm z4i;have c:=a.aX;have h:=b.aX;have i:=g.trans c;simp only[go_sem,c,h,i];unfold q40 zhb;rw[dD];refine q3f a b f ?_ bZ 0 lf (lEV _);exact Ok.ret ⟨rfl,rfl⟩
theorem q1i{O:Ev.Call}{H:Hp}{v w:AV}{l:List SS}(b:Gl 1 H v l.length (l.flatMap sC))(e:Gl 1 H w l.length (l.flatMap sC))(j:l.length<=1000){qr:pH}{q:pL}{Q:pS}(f:Ok (q H) Q):∀(k i:Nat),l.length-i<k->i<=l.length->Ok (qs6 O qr q v w k (iN i) H) Q
 |0,i,h,_=>om
 |k+1,i,h,hi=>by
  show Ok (zg5 O _ _ _ _ (qs6 O _ _ _ _ k) _ H) Q;unfold zg5;have g:=b.aX;by_cases a:i<l.length
  ·obtain⟨m,n,o,_,_,_,c⟩:=(b.rs qq6).at' i a;obtain⟨p,r,s,_,_,_,d⟩:=(e.rs qq6).at' i a;have c:bI (H.get m) n=.val (.str l[i].n l[i].a):=c 0 (by simp[sC]);have d:bI (H.get p) r=.val (.str l[i].n l[i].a):=d 0 (by simp[sC]);simp only[go_sem,g,a];unfold zg2;simp only[go_sem,o,c,s,d];unfold zg3;simp(disch:=go_size)only[go_sem,rB,rI,rK,rL,rN,rS,r8];exact q1i b e j f k (i+1) om om
  ·simp only[go_sem,g,a];exact f
theorem z8f(d:aU C)(e:1<=k){v w:AV}{l:List SS}(a:Gl 1 H v l.length (l.flatMap sC))(b:Gl 1 H w l.length (l.flatMap sC))(f:l.length<=1000)(g:dA v=aD v):Ok (C k (.f 24) [v,w] H) fun r H'=>r=.bool true/\H'=H:=by obtain⟨j,rfl⟩:=aT e;rw[(d j).zHn];unfold zHn z4h;have c:=a.aX;have h:=b.aX;have i:=g.trans c;simp only[go_sem,c,h,i];unfold q4y zg6;rw[dD];refine q1i a b f ?_ bZ 0 lf (lEV _);exact Ok.ret ⟨rfl,rfl⟩
theorem zec(d:aU C)(e:9<=k){f:Fo}(g:eD (fun _=>True) H f cs)(c:f.zV):Ok (C k (.f 20) [.agg cs] H) fun r H'=>∃ ds,r=.agg ds/\eD (fun b=>H.nx<=b) H' f.flat ds/\Fm No H H':=by obtain⟨j,rfl⟩:=aT e;have h:=c.dp;have i:=c.sz;have l:=c.rt;obtain⟨kd,rl,to,a,t,ca,rfl,rfl,g1,g2,g3⟩:=g.one c.one;simp only[Fo.depth,Fo.size]at h i;refine(q3n d (zq0 d a) (j:=j) om g1 g3 l.2.1 om).mono ?_;rintro _ H1 ⟨m,n,rfl,o,p,q,s⟩;exact⟨_,rfl,⟨m,n,[],rfl,o,p,q,rfl⟩,s⟩
theorem zso(l:aU C)(t:15<=k)(u:cZ H sv X)(m:kK L X)(b:nG X o){Q:pS}{q:pH}(v:∀(ob:Nat) (H':Hp),Gl 1 H' (.sl ob 0 (aF X).length (aF X).length true) (aF X).length (aI o)->Fm No H H'->Ok (q (.bB [.sl ob 0 (aF X).length (aF X).length true,.bool true]) H') Q):Ok (ve (C k (.f 9) [.agg [sv]] H) fun a H=>ve (C k (.f 8) [a] H) q) Q:=by
 have n:=m.val;have I:=qcp L;have w:=m.len;refine Ok.ve (zxo l (k:=k) t u n.ofW) ?_;rintro J H1 ⟨mb,p,_,z⟩;generalize j:qJ (aF X).length (List.replicate ((aF X).length*(aF X).length) 0) (tsG X (aF X).length)=ms at *;refine Ok.ve (qy3 l (k:=k) om p om) ?_;rintro r A ⟨B,D⟩;have c:qcr (aF X).length ms=esG X:=by rw[<-j];exact n.same
 have f:∀ y∈ms,y<=3:=p.ok.le;rcases D with⟨ob,s,rfl,g2,E,h,F⟩|⟨_,i⟩
 ·have x:s=o:=by
   have g:Fit (aF X).length (esG X) s:=by rw[<-c];exact(qzq h.len f).1 F
   refine zyz g (fun S d y e=>h.lst S d.1 ?_ y e) b.fit b.lst;rw[<-c]at d;exact(qzq d.1 f).2 d
  subst x;exact v ob A ⟨by rw[lM,h.len];omega,.inr ⟨ob,0,true,0,_,rfl,g2,lEV _,rfl,.inl rfl,E⟩⟩ (z.trans B)
 ·refine absurd (i o b.fit.1 ((qzq b.fit.1 f).2 (by rw[c];exact b.fit))) ?_;rintro ⟨y,e,G⟩;have:=b.lt y e;omega
theorem xew(d:aU C)(m:16<=k)(g:cZ H sv X)(i:kK L X)(c:nG X o)(a b:SS)(n:(a,b)∈aF X):Ok (C k (.f 47) [.agg [sv],.str a.n a.a,.str b.n b.a] H) fun r H'=>r=iN ((o.getD (bD X a b) 0))/\Fm No H H':=by
 obtain⟨j,rfl⟩:=aT m;rw[(d j).zHl];unfold zHl z4j;have f:Fm No H (aK H (aB 0 [sv])):=by exact kW
 have p:o.length=(aF X).length:=c.fit.1;simp(disch:=omega)only[go_sem,seval];refine zso d (k:=j) om (g.fm f) i c fun ob H1 g1 e=>?_;have q:=(e.keep (show H.nx<(aK H (aB 0 [sv])).nx by simp only[np,nq];omega)).trans (jQ _ _);simp only[go_sem,q];refine Ok.ve (qkf d (k:=j) om ((g.fm f).fm e) i.val.pr.sml a b) ?_;rintro r x ⟨l,t⟩;rcases t with⟨u,rfl⟩|⟨h,_⟩
 rotate_left
 ·trivial
 have s:(aI o)[bD X a b]? =some (iN ((o.getD (bD X a b) 0))):=by simp[aI,lES,show bD X a b<o.length by omega]
 obtain⟨y,z,v,_,_,w⟩:=(g1.no l).at s;simp only[go_sem,v,w];exact Ok.ret ⟨rfl,(f.trans e).trans l⟩
end Go.Di
end
noncomputable section
namespace Go.Di
open Go.Ev Go.Di.T Go.Sort
variable {C:Nat->Ev.Call} {tg:SS->SS->List SS} {LA LO:LP} {L:List (List Nat)} {X:List aQ} {o:List Nat}
variable {H H':Hp} {j k:Nat} {qr:pH} {sv:AV}
def aKM(C:Nat->Ev.Call)(f:Fo):Prop:=
 ∀(j:Nat),f.depth<=j->∀(H0 H:Hp) (ab bb n i:Nat) (c0 c1 c2 d0 d1 d2 av bv:AV) (pre rest pre' aBq:List AV) (qr:pH) (q:pL) (Q:pS) (k:Nat),n-i<k->n=i+f.len->n<=1000->f.size<=1000->H0.get ab=aB 0 [c0,c1,c2,av]->ab<H0.nx->H0.get bb=aB 0 [d0,d1,d2,bv]->bb<H0.nx ->
  Gl 4 H0 av n (pre++rest)->pre.length=i*4->eD (fun _=>True) H0 f rest->Gl 4 H0 bv n (pre'++aBq)->pre'.length=i*4->eD (fun _=>True) H0 f aBq->Fm No H0 H->(∀H',Fm No H0 H'->Ok (q H') Q) ->
  Ok (qop (C j) qr q (.ptr ab 0) (.ptr bb 0) k (iN i) H) Q
theorem zcg(h:aU C){a:Fo}(i:aKM C a)(k:a.depth<=j){kd:Nat}{rl to:SS}{c d:AV}{ca cb:List AV}(e:Gl 4 H c a.len ca)(l:eD (fun _=>True) H a ca)(f:Gl 4 H d a.len cb)(m:eD (fun _=>True) H a cb)(g:a.size<=1000):Ok (C (j+1) (.f 19) [.agg [.int .u8 (.ofNat kd),.str rl.n rl.a,.str to.n to.a,c],.agg [.int .u8 (.ofNat kd),.str rl.n rl.a,.str to.n to.a,d]] H) fun r H'=>r=.bool true/\Fm No H H':=by
 rw[(h j).zHf];unfold zHf z4o;have o:=e.aX;have p:=f.aX;have q:=e.cells;have s:=f.cells;simp(disch:=first|go_size|omega)only[go_sem,seval,o,p,q,s,and_self,decide_true,lX8,lX0];unfold q45 zhh;rw[dD];have b:Fm No H (aK (aK H (aB 0 [.int .u8 (.ofNat kd),.str rl.n rl.a,.str to.n to.a,c])) (aB 0 [.int .u8 (.ofNat kd),.str rl.n rl.a,.str to.n to.a,d])):=by exact xE
 have t:=Fo.eO a;refine i j k _ _ H.nx (H.nx+1) a.len 0 (.int .u8 (.ofNat kd)) (.str rl.n rl.a) (.str to.n to.a) (.int .u8 (.ofNat kd)) (.str rl.n rl.a) (.str to.n to.a) c d [] ca [] cb _ _ _ bZ lf om (lI7 (Fo.eO a) g) g ?_ gz ?_ gz (e.no b) rfl (l.fm b) (f.no b) rfl (m.fm b) (Fm.refl _ _) fun H' n=>?_
 ·simp(disch:=first|go_size|omega)only[go_sem,seval]
 ·exact jQ _ _
 ·unfold q9k;exact Ok.ret ⟨rfl,b.trans n⟩
theorem zxk(W:aU C):∀ f:Fo,aKM C f:=by
 intro f
 induction f with
 |nil=>intro j L H0 H M N n i c0 O P R S T U V pre s e z qr q Q k Y A t u w d B h o D E x l F c G;obtain⟨k,rfl⟩:∃ m,k=m+1:=⟨k-1,om⟩;show Ok (qz7 (C j) _ _ _ _ (qop (C j) _ _ _ _ k) _ H) Q;unfold qz7;simp only[Fo.len]at A;have g:¬ i<n:=om;have v:=(c.keep d).trans w;have y:=o.aX;simp only[go_sem,v,y,g];exact G H c
 |cons k1 r1 t1 a r iha ihr=>
  intro j L H0 H M N n i c0 O P R S T U V pre s e z qr q Q k Y A t u w d B h o D E x l F c G;obtain⟨k,rfl⟩:∃ m,k=m+1:=⟨k-1,om⟩;show Ok (qz7 (C j) _ _ _ _ (qop (C j) _ _ _ _ k) _ H) Q;unfold qz7;simp only[Fo.len]at A;simp only[Fo.depth]at L;have g:i<n:=om;have v:=(c.keep d).trans w;have X:=(c.keep h).trans B;have y:=o.aX;obtain⟨_,b,p,Z,ca,cr,e1,e2,e3,e4,_,e5,g1,g2,g3,g4,_⟩:=(o.no c).rule D (E.fm c);obtain⟨_,b',p',I,cb,J,i1,i2,i3,i4,_,i5,v1,v2,v3,v4,_⟩:=(x.no c).rule l (F.fm c);simp only[go_sem,v,y,g];unfold q46;simp only[go_sem,v,X,e1,e4,i1,i4];obtain⟨j,rfl⟩:∃ m,j=m+1:=⟨j-1,om⟩;simp only[Fo.size]at u;refine Ok.iR (zcg W iha (j:=j) om g1 g3 v1 v3 om) ?_;rintro _ H2 ⟨rfl,f2⟩;unfold zhg;simp(disch:=go_size)only[go_sem,rB,rI,rK,rL,rN,rS,r8];refine ihr (j+1) om H0 H2 M N n (i+1) c0 O P R S T U V (pre++[.int .u8 (.ofNat k1),r1.v,t1.v,Z]) cr (e++[.int .u8 (.ofNat k1),r1.v,t1.v,I]) J qr q Q k om om t om w d B h (by rw[e5]at o;simpa using o) (by simp[D];omega) ?_ (by rw[i5]at x;simpa using x) (by simp[l];omega) ?_ (c.trans f2) G
  ·obtain⟨_,_,K,x1,_,_,_,x5⟩:=E;simp_all
  ·obtain⟨_,_,K,x1,_,_,_,x5⟩:=F;simp_all
theorem zz1(c:aU C)(d:9<=k){f:Fo}{cs ds:List AV}(e:eD (fun _=>True) H f cs)(g:eD (fun _=>True) H f ds)(b:f.zV):Ok (C k (.f 19) [.agg cs,.agg ds] H) fun r H'=>r=.bool true/\Fm No H H':=by obtain⟨j,rfl⟩:=aT d;have h:=b.dp;have i:=b.sz;obtain⟨kd,rl,to,a,s,ca,rfl,rfl,g1,_,g3⟩:=e.one b.one;obtain⟨l,m,n,t,u,cb,o,rfl,p,_,q⟩:=g.one b.one;injection o with h1 h2 h3 h4 _;subst h1 h2 h3 h4;simp only[Fo.depth,Fo.size]at h i;exact zcg c (zxk c a) (j:=j) om g1 g3 p q om
theorem zzv(n:aU C)(J:iL C)(K:17<=k){v:AV}{es:List TE}{f:Fo}(q:TbR tg H v es f)(e:f.zV)(s:f.pI)(L:aEi tg f):Ok (C k (.f 17) [v] H) fun r H'=>∃ cs,r=.bB [.agg cs,iN 0]/\eD (fun _=>True) H' f cs/\Fm No H H':=by
 obtain⟨j,rfl⟩:=aT K;rw[(n j).zHd];unfold zHd z4q;have E:Fm No H (aK H (aB 0 [.int .u8 (.ofNat 0),.str 0 0,.str 0 0,.aA])):=by exact kW
 refine Ok.ve (q4g n J (k:=j) om (q.fm E) e s L) ?_;rintro _ H1 ⟨rfl,o⟩;simp only[go_sem];have g:=E.trans o;have t:=q.fm g;have M:=e.dp;have N:=e.sz;have F:=e.rt;have w:es.length=f.size:=by have:=congrArg List.length q.is;rwa [lET,Fo.gP]at this
 have d:=e.one;obtain⟨kd,rl,to,a,rfl⟩:∃ kd rl to a,f=.cons kd rl to a .nil:=by
  cases f with
  |nil=>cases d
  |cons k rl to a r=>
   cases r with
   |nil=>exact⟨_,_,_,_,rfl⟩
   |cons _ _ _ _ _=>simp[Fo.len]at d
 simp only[Fo.depth,Fo.size]at M N w;obtain⟨i,rfl⟩:∃ i,j=i+1:=⟨j-1,om⟩;have x:kd<4->a=.nil:=fun S=>by
  rcases F.1 with h|h|h|h|h|h
  ·exact h.2.2.2
  ·exact h.2.2.2
  ·exact h.2.2.2
  ·omega
  ·omega
  ·omega
 refine Ok.ve (q7x n (zoj n a) (j:=i) om t om (kd:=kd) (p:=0) (c:=0) (rl:=rl) (to:=to) (pre:=[]) (post:=[]) g3 rfl F.2.1 x) ?_;rintro _ z ⟨cs,rfl,I,A⟩;have y:=I;obtain⟨D,l,m,V,Q,ca,R,rfl,g1,g2,g3⟩:=I.one rfl;have k2:=(A.keep (show H.nx<H1.nx by have:=o.nx;simp only[np]at this;omega)).trans ((o.keep gx).trans (jQ _ _));have U:=A.nx;have O:=o.nx;simp only[np]at O;have P:=g1.cells;simp(disch:=first|omega|exact ti rfl)only[go_sem,seval,k2,P];have G:Fm No z ((aK z (aB 0 [.int .u8 (.ofNat 0),.str 0 0,.str 0 0,.aA])).put z.nx (aB 0 [.int .u8 (.ofNat D),.str l.n l.a,.str m.n m.a,Q])):=by exact jW
 have u:∀(H':Hp) (B:bX),Fm (fun c=>c=H.nx) H' (H'.put H.nx B):=fun H' B=>(Fm.refl _ _).put _ _ fun _=>rfl;exact Ok.ret ⟨_,rfl,((y.fm G).dJ (u _ _) fun b T h=>om).mono fun _ _ _=>trivial,((g.trans A).trans G).aH _ _ (lEO _)⟩
structure SmI(X:List aQ)(H:Hp)(e:fC)(ab sb xb rb:Nat)(sv nv c2 c3 c4 c5:AV)(ln:List NE):Prop where
 a:H.get ab=aB 0 [.str e.p.1.n e.p.1.a,.str e.p.2.r.name.n e.p.2.r.name.a,iN (e.n),iN (e.st),e.tv,e.nv]
 s:H.get sb=aB 0 [sv]
 x:H.get xb=aB 0 [.str e.p.1.n e.p.1.a,.str e.p.2.r.name.n e.p.2.r.name.a]
 r:H.get rb=aB 0 [.str e.p.2.r.name.n e.p.2.r.name.a,e.p.2.tv,c2,c3,c4,c5]
 lt:ab<H.nx/\sb<H.nx/\xb<H.nx/\rb<H.nx
 mU:cZ H sv X
 ok:e.Ok X H
 ty:Rs 2 tC H e.p.2.tv e.p.2.r.types
 nd:Gl 5 H nv ln.length (ln.flatMap kV)
 ar:∀ y∈ln,y.Ar (fun _=>True) H
theorem SmI.fm{e:fC}{a sb b rb:Nat}{sv c d g i j:AV}{k:List NE}(h:SmI X H e a sb b rb sv c d g i j k)(f:Fm No H H'):SmI X H' e a sb b rb sv c d g i j k:=by obtain⟨m,n,o,p⟩:=h.lt;have:=f.nx;exact⟨(f.keep m).trans h.a,(f.keep n).trans h.s,(f.keep o).trans h.x,(f.keep p).trans h.r,om,h.mU.fm f,h.ok.dJ f fun _ _ h=>h,h.ty.fm f,h.nd.no f,fun y l=>(h.ar y l).fm f (fun _ _ _ h=>h) fun _ _ _=>trivial⟩
structure TbK(X:List aQ)(o:List Nat)(e:fC)(ln:List NE):Prop where
 at':(dX X)[e.n]? =some e.p
 st:e.st=o.getD e.n 0
 ks:ln.map NE.key=e.p.2.r.rule.fo.flat.iI 0
 ct:dA e.tv=aD e.tv/\dA e.nv=aD e.nv
 ce:∀ x∈e.es,dA x.sp=aD x.sp/\dA x.av=aD x.av
theorem zxi(E:aU C)(F:16<=j){e:fC}{l sb m rb:Nat}{sv n G I J K:AV}{p:List NE}(h:SmI X H e l sb m rb sv n G I J K p)(y:kK L X)(q:nG X o)(b:TbK X o e p){Q:pS}(M:∀ H',Fm No H H'->Ok (qwt (C j) (.ptr l 0) (.ptr sb 0) (.ptr m 0) (.ptr rb 0) n (.bool false) H') Q):Ok (qws (C j) (iN (e.n)) (.ptr l 0) (.ptr sb 0) (.ptr m 0) (.ptr rb 0) n H) Q:=by
 rw[qow];unfold qia;have N:=y.val;have O:=h.a;have P:=h.s;have R:=h.x;have S:=h.r;have r:=h.ok.nd.gl.aX;have z:=h.nd.aX;have A:=b.ct.2.trans r;have B:=h.ok.ty.aX;have T:=b.ct.1.trans B;have U:=h.ty.len;have V:=qP (Gl.flat h.ok.nd.gl) 63;have W:=qP (Gl.flat h.ok.ty) 63;simp only[go_sem,seval,O,P,R,S,and_self,decide_true,lX8,lX0];obtain⟨d,g⟩:=lI2.1 b.at';obtain⟨_,D,_⟩:=N.at d;rw[g]at D;have s:(e.p.1,e.p.2.r.name)∈aF X:=by rw[<-pG];exact lIX (f:=kq) (a:=e.p) (by rw[<-g];exact lEQ d)
 refine Ok.iR (xew E (k:=j) F h.mU y q e.p.1 e.p.2.r.name s) ?_;rintro _ H1 ⟨rfl,i⟩;have i:Fm No H H1:=i;have c:=h.fm i;have t:=c.a;have u:=c.s;have v:=c.x;have w:=c.r;have z:=c.nd.aX;have x:e.es.length=p.length:=by have Y:=congrArg List.length h.ok.nd.is;have Z:=congrArg List.length b.ks;rw[lET,Fo.gP]at Y;rw[lET,Fo.gQ]at Z;omega
 rw[x]at r A;rw[D,<-b.st];simp only[go_sem,seval,t,u,v,w,r,z,A,B,T,U,V,W,and_self,decide_true,lX8,lX0,ne_eq,not_true_eq_false,decide_false];exact M H1 i
theorem qrv(c:Option Nat):fO (lS .neq).f (xJ c) (xJ c)=.val (.bool false):=by
 cases c with
 |none=>rfl
 |some c=>unfold xJ;simp[go_sem]
theorem z8o(t:aU C)(u:1<=j){v w b:AV}{y:TE}{z:NE}{d a c i:Nat}{l:List SS}(e:aG 5 v (iN i)=.val (.ptr a c))(I:a<H.nx)(f:bI (H.get a) c=.val (.int .u8 (.ofNat z.k)))(h:bI (H.get a) (c+1)=.val (.str z.rl.n z.rl.a))(k:bI (H.get a) (c+2)=.val (.str z.to.n z.to.a))(m:bI (H.get a) (c+3)=.val z.av)(n:H.get d=aB 0 [.int .u8 (.ofNat z.k),.str z.rl.n z.rl.a,.str z.to.n z.to.a,y.sp,y.av,xJ y.t.leaf])(D:d<H.nx)(x:Gl 1 H y.av z.args.length (aI z.args))(gz:Gl 1 H z.av z.args.length (aI z.args))(A:Gl 1 H y.sp l.length (l.flatMap sC))(E:Gl 1 H b l.length (l.flatMap sC))(B:dA y.sp=aD y.sp/\dA y.av=aD y.av)(F:l.length<=1000)(o:z.args.length<=1000){g:AV->pH}{Q:pS}(G:Ok (q9n (C j) qr g w (iN i) (.bool false) H) Q):Ok (qot (C j) qr g v w (iN i) (.ptr d 0) (xJ y.t.leaf) b H) Q:=by
 rw[qtn];unfold qmm;have p:=qP (Gl.flat x) 63;have q:=qP (Gl.flat gz) 63;have r:=qP (Gl.flat A) 63;have s:oD 64 (xJ y.t.leaf) (xJ y.t.leaf)=true:=by cases y.t.leaf<;>exact zrg _ _
 simp only[go_sem,e,f,h,k,m,n,qrv,p,q,r,s,and_self,decide_true,lX8,lX0,ne_eq,not_true_eq_false,decide_false];refine Ok.iR (z94 t u x gz o B.2) ?_;rintro _ _ ⟨rfl,rfl⟩;simp only[go_sem,e,f,h,k,m,n,qrv,p,q,r,s,and_self,decide_true,lX8,lX0,ne_eq,not_true_eq_false,decide_false];refine Ok.iR (z8f t u A E F B.1) ?_;rintro _ _ ⟨rfl,rfl⟩;simp only[go_sem,e,f,h,k,m,n,qrv,p,q,r,s,and_self,decide_true,lX8,lX0,ne_eq,not_true_eq_false,decide_false];exact G
theorem zo1(T:aU C){j:Nat}(hj:3<=j){Hb:Hp}{e:fC}{B sb w rb:Nat}{sv s c2 c3 c4 c5:AV}{a:List NE}(h:SmI X Hb e B sb w rb sv s c2 c3 c4 c5 a)(U:dF X)(K:e.p.2.r.rule.Rt)(x:TbK X o e a){qr:pH}{q:pL}{Q:pS}(hq:∀ H',Fm No Hb H'->Ok (q H') Q):∀(k i:Nat) (H:Hp),i<=a.length->a.length-i<k->Fm No Hb H -> Ok (qlt (C j) qr q (.ptr B 0) (.ptr sb 0) (.ptr w 0) s k (iN ((gT ((a.take i).map NE.key)))) (iN i) H) Q
 |0,i,_,_,h,_=>om
 |k+1,i,H,hi,hk1,hf=>by
  show Ok (zhy (C j) _ _ _ _ _ _ (qlt (C j) _ _ _ _ _ _ k) _ _ H) Q;unfold zhy;have L:=h.fm hf;have e2:=L.nd.aX;have hln:a.length<=32:=by have:=congrArg List.length x.ks;rw[lET,Fo.gQ]at this;rw[this];exact K.ok1.flat.sz
  have hes:e.es.length=a.length:=by have q1:=congrArg List.length h.ok.nd.is;have q2:=congrArg List.length x.ks;rw[lET,Fo.gP]at q1;rw[lET,Fo.gQ]at q2;omega
  by_cases d:i<a.length
  ·simp(disch:=go_size)only[go_sem,rB,rI,rK,rL,rN,rS,r8,e2,d];rw[qkl];unfold qh6;rw[qtj];unfold qmi;have ha:=L.a;obtain⟨hkl,b,p,y,⟨I,_⟩,c,hok,i1,i2,O⟩:=L.ok.nd.node K.ok1.flat.rt (i:=i) om;have D:a[i].key=(e.p.2.r.rule.fo.flat.iI 0)[i]:=by
    have:(a.map NE.key)[i]'(by simpa using d)=(e.p.2.r.rule.fo.flat.iI 0)[i]:=by simp only[x.ks]
    simp_all
   rw[<-D]at c O;have V:a[i].key=(a[i].k,a[i].rl,a[i].to,a[i].args):=rfl;rw[V]at c O;rw[<-x.ks,<-List.map_take]at c O;simp(disch:=go_size)only[go_sem,rB,rI,rK,rL,rN,rS,r8,ha,i1,O];obtain⟨lf,u⟩:∃ lf,lf=(if a[i].k<4 then some (gT (List.map NE.key (List.take i a)))else none):=⟨_,rfl⟩;rw[<-u]at c ⊢;have E:y.t.leaf=lf:=by rw[c]
   generalize v:(aK H (aB 0 [.int .u8 (.ofNat 0),.str 0 0,.str 0 0,.aA,.aA,iN 0])).put H.nx (aB 0 [.int .u8 (.ofNat a[i].k),.str a[i].rl.n a[i].rl.a,.str a[i].to.n a[i].to.a,y.sp,y.av,xJ lf])=H1;have W:Fm No H H1:=by rw[<-v];exact fm
   have n1:H1.nx=H.nx+1:=by rw[<-v];rfl
   have y1:H1.get H.nx=aB 0 [.int .u8 (.ofNat a[i].k),.str a[i].rl.n a[i].rl.a,.str a[i].to.n a[i].to.a,y.sp,y.av,xJ lf]:=by rw[<-v];exact dL _ _ _
   have F:=L.fm W;have r:=hok.fm W;obtain⟨P,R,J,m2,_,_,S⟩:=(F.nd.rs qe6).at' i d;have M:bI (H1.get P) R=.val (.int .u8 (.ofNat a[i].k)):=S 0 (by rw[qe6];omega);have r1:bI (H1.get P) (R+1)=.val (.str a[i].rl.n a[i].rl.a):=S 1 (by rw[qe6];omega);have r2:bI (H1.get P) (R+2)=.val (.str a[i].to.n a[i].to.a):=S 2 (by rw[qe6];omega);have r3:bI (H1.get P) (R+3)=.val a[i].av:=S 3 (by rw[qe6];omega);have hcn:gT ((a.take i).map NE.key)<=1000:=lI7 List.countP_le_length g2;have G:gT ((a.take (i+1)).map NE.key)=gT ((a.take i).map NE.key)+if a[i].k<4 then 1 else 0:=by rw[lER d,lID,qoi];show _+gT [a[i].key]=_;rw[qet];show _+(0+if a[i].k<4 then 1 else 0)=_;omega
   have Y:(e.p.2.r.rule.fo.flat).size<=32:=K.ok1.flat.sz;have hal:a[i].args.length<=32:=by
    have hm:y.t∈e.p.2.r.rule.fo.flat.dP 0 0:=by rw[<-h.ok.nd.is];exact lIX I
    have:=qj3 _ 0 0 y.t hm;rw[c]at this;exact lI7 this Y
   have fin:∀ H',Fm No Hb H'->Ok (q9n (C j) qr (qlt (C j) qr q (.ptr B 0) (.ptr sb 0) (.ptr w 0) s k) (iN ((gT ((a.take (i+1)).map NE.key)))) (iN i) (.bool false) H') Q:=fun H' g=>by rw[q0e];unfold qwq;rw[q0f];unfold qwr;simp(disch:=go_size)only[go_sem,rB,rI,rK,rL,rN,rS,r8];exact zo1 T hj h U K x hq k (i+1) H' om om g
   have Z:=x.ce y I
   -- the f part, at any spaces
   have f:∀(H':Hp) (t:AV) (l:List SS),Fm No H1 H'->Gl 1 H' y.sp l.length (l.flatMap sC)->Gl 1 H' t l.length (l.flatMap sC)->l.length<=1000->Ok (qot (C j) qr (qlt (C j) qr q (.ptr B 0) (.ptr sb 0) (.ptr w 0) s k) s (iN ((gT ((a.take (i+1)).map NE.key)))) (iN i) (.ptr H.nx 0) (xJ lf) t H') Q:=fun H' t l g gs gw hl=>by rw[<-E];have N:=g.keep m2;have ga:=(r.fm g).gl;rw[c]at ga;refine z8o T om (z:=a[i]) J (af m2 g.nx) (by rw[N];exact M) (by rw[N];exact r1) (by rw[N];exact r2) (by rw[N];exact r3) ((g.keep om).trans (by rw[E];exact y1)) (by have:=g.nx;omega) ga (((F.ar _ (lEQ d)).gl).no g) gs gw Z hl om (fin H' ((hf.trans W).trans g))
   have m:Ok (qwp (C j) qr (qlt (C j) qr q (.ptr B 0) (.ptr sb 0) (.ptr w 0) s k) (.ptr sb 0) (.ptr w 0) s (iN ((gT ((a.take (i+1)).map NE.key)))) (iN i) (.ptr H.nx 0) (xJ lf) .aA H1) Q:=by
    rw[qtm];unfold qml;have n:=r.sp;rw[c]at n;simp only at n;by_cases h3:a[i].k=3
    ·have h3t:=lO5 h3;have s1:=F.s;have x1:=F.x;simp(disch:=go_size)only[go_sem,rB,rI,rK,rL,rN,rS,r8,J,M,h3t];rw[qkm];unfold qh7;simp(disch:=go_size)only[go_sem,rB,rI,rK,rL,rN,rS,r8,s1,x1,J,r1,r2];refine Ok.iR (qwf T (k:=j) hj F.mU U.pr.sml e.p.1 a[i].rl a[i].to) ?_;intro tv H2 hA;simp(disch:=go_size)only[go_sem,rB,rI,rK,rL,rN,rS,r8];rcases n with⟨_,hg⟩|⟨h,_⟩
     ·exact f H2 tv _ hA.fm (hg.no hA.fm) hA.gl (by have:=qej U.pr e.p.1 a[i].rl a[i].to;omega)
     ·omega
    ·simp(disch:=go_size)only[go_sem,rB,rI,rK,rL,rN,rS,r8,J,M,h3];rw[qkm];unfold qh7;rcases n with⟨h,_⟩|⟨_,hg⟩
     ·omega
     ·exact f H1 .aA [] (Fm.refl _ _) (by rw[hg];exact Gl.nil 1 _) (Gl.nil 1 _) g3
   rw[qtk];unfold qmj;simp(disch:=go_size)only[go_sem,rB,rI,rK,rL,rN,rS,r8,J,M];rw[qtl];unfold qmk;by_cases A:a[i].k<4
   ·have h4t:=lO5 A;rw[G,u,lEZ A,lEZ A]at m;simp(disch:=go_size)only[go_sem,rB,rI,rK,rL,rN,rS,r8,h4t];exact m
   ·rw[G,u,lEU A,lEU A]at m;simp(disch:=go_size)only[go_sem,rB,rI,rK,rL,rN,rS,r8,A];exact m
  ·simp(disch:=go_size)only[go_sem,rB,rI,rK,rL,rN,rS,r8,e2,d];rw[qkl];unfold qh6;exact hq H hf
theorem zy1(t:jX):jR true (kU (eqFields [(p1,⟨iA⟩,0),(p1,⟨iA⟩,1)]) (.agg [.str t.sp.n t.sp.a,.str t.rl.n t.rl.a]) (.agg [.str t.sp.n t.sp.a,.str t.rl.n t.rl.a]))=.val (.bool false):=by show jR true (eqPr (.agg (pC (t.sp,t.rl))) (.agg (pC (t.sp,t.rl))))=_;rw[q8x,lI9 rfl];rfl
theorem q14{O:Ev.Call}{H:Hp}{e:fC}{d sb l rb:Nat}{sv m n o p r:AV}{s:List NE}(h:SmI X H e d sb l rb sv m n o p r s)(b:e.p.2.r.types.length<=8){qr:pH}{q:pL}{Q:pS}(t:Ok (q H) Q):∀(k i:Nat),i<=e.p.2.r.types.length->e.p.2.r.types.length-i<k->Ok (qh5 O qr q (.ptr d 0) (.ptr rb 0) k (iN i) H) Q
 |0,i,_,h=>om
 |k+1,i,hi,hk=>by
  show Ok (qwu O _ _ _ _ (qh5 O _ _ _ _ k) _ H) Q;unfold qwu;have u:=h.a;have c:=h.r;have f:=h.ty.len;by_cases a:i<e.p.2.r.types.length
  ·simp only[go_sem,c,f,a];rw[qhb];unfold qid;rw[qoz];unfold qie;obtain⟨x,y,v,_,_,g,_⟩:=h.ty.at' i a;obtain⟨z,A,w,_,_,j,_⟩:=(h.ok.ty.rs qfx).at' i a;unfold tC SS.v at g j;simp only[go_sem,u,c,v,g,w,j,zy1];rw[qo0];unfold qif;rw[qo1];unfold qig;simp(disch:=go_size)only[go_sem,rB,rI,rK,rL,rN,rS,r8];exact q14 h b t k (i+1) om om
  ·simp only[go_sem,c,f,a];rw[qhb];trivial
theorem z8n(i:aU C)(hk:18<=k){e:fC}(J:cZ H sv X)(hI:kK L X)(K:nG X o)(M:e.Ok X H)(u:(dX X)[e.n]? =some e.p)(hs:e.st=o.getD e.n 0)(ct:dA e.tv=aD e.tv/\dA e.nv=aD e.nv)(ce:∀ x∈e.es,dA x.sp=aD x.sp/\dA x.av=aD x.av):Ok (C k (.f 14) [.agg (mG e),.agg [sv],iN (e.n)] H) fun r H'=>r=.bool true/\Fm No H H':=by
 obtain⟨j,rfl⟩:=aT hk;rw[(i j).zHa];unfold zHa z4r mG SS.v;have s:=hI.val;have w:=M.ty.cells;have z:=M.nd.gl.cells;obtain⟨m,uX⟩:=lI2.1 u;obtain⟨G,oM,g,v,c,T⟩:=s.at m;rw[uX]at G oM c T;obtain⟨U,_,n,_⟩:=s.pr.x g v _ c;simp(disch:=go_size)only[go_sem,seval,w,z];generalize d:aK (aK H (aB 0 [.str e.p.1.n e.p.1.a,.str e.p.2.r.name.n e.p.2.r.name.a,iN (e.n),iN (e.st),e.tv,e.nv])) (aB 0 [sv])=H0;have O:Fm No H H0:=by rw[<-d];exact fm
 have n0:H0.nx=H.nx+2:=by rw[<-d];rfl
 have a0:H0.get H.nx=aB 0 [.str e.p.1.n e.p.1.a,.str e.p.2.r.name.n e.p.2.r.name.a,iN (e.n),iN (e.st),e.tv,e.nv]:=by rw[<-d];simp(disch:=first|go_size|omega)only[go_sem,seval]
 have s0:H0.get (H.nx+1)=aB 0 [sv]:=by rw[<-d];simp(disch:=go_size)only[go_sem,seval]
 refine Ok.ve (zeg i (k:=j) om (J.fm O) s.pr.sml) ?_;intro av H1 hA;have I:=hA.fm;have n1:=I.nx;have A:e.n<(aF X).length:=by rw[<-pG,lET];exact m
 obtain⟨b,p,i1,_,_,V,_⟩:=(hA.rs qjx).at' e.n A;have P:(aF X)[e.n]=(e.p.1,e.p.2.r.name):=by rw[qe1 m A,uX]
 rw[P]at V;unfold pC SS.v at V;simp(disch:=go_size)only[go_sem,seval,i1,V];generalize q:(aK H1 (aB 0 [.str 0 0,.str 0 0])).put H1.nx (aB 0 [.str e.p.1.n e.p.1.a,.str e.p.2.r.name.n e.p.2.r.name.a])=H2;have Q:Fm No H1 H2:=by rw[<-q];repeat first|exact Fm.refl _ _|assumption|refine Fm.push ?_ _|refine Fm.aH ?_ _ _ om
 have n2:H2.nx=H1.nx+1:=by rw[<-q];rfl
 have x2:H2.get H1.nx=aB 0 [.str e.p.1.n e.p.1.a,.str e.p.2.r.name.n e.p.2.r.name.a]:=by rw[<-q];exact dL _ _ _
 have s2:=((I.trans Q).keep (show H.nx+1<H0.nx by omega)).trans s0;have B:=((J.fm O).fm I).fm Q;rw[qou];unfold qh8;simp(disch:=go_size)only[go_sem,seval,s2,x2];have hn16:=s.pr.n;refine Ok.ve (qsr i (k:=j) om B om (fun g v=>by have:=(s.pr.r g v).1;omega) e.p.1 e.p.2.r.name) ?_;rintro r t ⟨W,Y⟩;unfold q9a at Y;rw[G]at Y;subst Y;have n3:=W.nx;obtain⟨c0,w,z,Z,hcs,hrc⟩:=qhu ((J.sp g v).rel _ c);rw[hrc];simp(disch:=first|omega|exact ti rfl)only[go_sem,seval];generalize rD:(aK t (aB 0 [.str 0 0,.aA,.int .u8 (.ofNat 0),.str 0 0,.str 0 0,.aA])).put t.nx (aB 0 [.str e.p.2.r.name.n e.p.2.r.name.a,e.p.2.tv,c0,w,z,Z])=H4;have f4:Fm No t H4:=by rw[<-rD];exact jW
 have n4:H4.nx=t.nx+1:=by rw[<-rD];rfl
 have r4:H4.get t.nx=aB 0 [.str e.p.2.r.name.n e.p.2.r.name.a,e.p.2.tv,c0,w,z,Z]:=by rw[<-rD];exact dL _ _ _
 have D:=(B.fm W).fm f4;have E:=(D.sp g v).rel _ c;have jV:=E.ru;rw[hcs]at jV;rw[qov];unfold qh9;simp(disch:=go_size)only[go_sem,seval,r4];refine Ok.ve (zec i (k:=j) om (f:=e.p.2.r.rule.fo) jV.fo n.ok1) ?_;rintro _ H5 ⟨ds,rfl,hfo,f5⟩;have R:=n.ok1.flat;have hd8:=R.dp;have bD0:=R.sz;refine Ok.ve (zz5 i (k:=j) (f:=e.p.2.r.rule.fo.flat) om R.one om hfo) ?_;rintro nv H6 ⟨ln,g6,k6,a6,f6,_⟩;have a:=f5.trans f6;have l:=(W.trans f4).trans a;have F:=(I.trans Q).trans l;have fA:=O.trans F;have n6:=a.nx;have S:SmI X H6 e H.nx (H.nx+1) H1.nx t.nx sv nv c0 w z Z ln:=⟨(F.keep om).trans a0,(l.keep om).trans s2,(l.keep om).trans x2,(a.keep om).trans r4,om,D.fm a,M.dJ fA fun _ _ h=>h,E.ty.fm a,g6,fun y hy=>(a6 y hy).fm (Fm.refl No H6) (fun _ _ _ h=>h) fun _ _ _=>trivial⟩;have hK:TbK X o e ln:=⟨u,hs,k6,ct,ce⟩;refine zxi i om S hI K hK fun H7 N=>?_;rw[qox];unfold qib;rw[qoy];unfold qic qwv;rw[dD];refine q14 (S.fm N) U ?_ bZ 0 (lEV _) lf;rw[qo2];unfold qih zhz;rw[dD];have hln:ln.length<=32:=by have:=congrArg List.length k6;rw[lET,Fo.gQ]at this;omega
 refine zo1 i om (S.fm N) s n hK (fun H8 f8=>?_) bZ 0 H7 (lEV _) lf (Fm.refl _ _);rw[q0g];exact Ok.ret ⟨rfl,(fA.trans N).trans f8⟩
end Go.Di
end
noncomputable section
namespace Go.Di
open Go.Ev Go.Di.T Go.Sort
variable {C:Nat->Ev.Call} {LA LO:LP} {L:List (List Nat)} {X:List aQ} {o:List Nat}
variable {H H' H0 H1:Hp} {i j k most pb sb:Nat} {qr:pH} {sv:AV}
def Sh(z:Nat)(H:Hp)(v:AV):Prop:=∃ n l,n<=1000/\Gl z H v n l
theorem z8l(L:List AV)(p:Nat)(x:AV)(h:p+1<=L.length):(aY L p [x]).length=L.length:=by unfold aY;simp only[lEP,lI6,lIZ,List.length_singleton];omega
theorem Sh.wr{z p b:Nat}{u x:AV}(h:Sh z H u)(c:storeAt H b p [x] .undef=.ok .undef H'):Sh z H' u:=by
 obtain⟨n,l,f,d⟩:=h;rw[qve]at c;cases a:xZ (H.get b) p [x]with
 |none=>rw[a]at c;cases c
 |some blk=>
  rw[a]at c;injection c with _ c;subst c;rcases d.is with⟨rfl,v⟩|⟨g,i,e,q,L,rfl,k,w,m,o,r⟩
  ·exact⟨n,l,f,⟨d.len,.inl ⟨rfl,v⟩⟩⟩
  ·by_cases s:g=b
   ·subst s;rw[k,qgi]at a;split at a
    ·rename_i j;injection a with a;subst a;have t:=z8l L p x j;refine⟨n,(aY L p [x]).drop i,f,⟨?_,.inr ⟨g,i,e,q,aY L p [x],rfl,dL _ _ _,om,rfl,o,r⟩⟩⟩;rw[lIZ,t,<-lIZ,m,d.len]
    ·cases a
   ·exact⟨n,l,f,⟨d.len,.inr ⟨g,i,e,q,L,rfl,(dS _ _ _ _ s).trans k,w,m,o,r⟩⟩⟩
structure Ysh(W:Nat->Prop)(B H:Hp)(yb:Nat)(c0 c1 c2 c3 tv nv:AV)(fs:List TE):Prop where
 fm:Fm W B H
 y:H.get yb=aB 0 [c0,c1,c2,c3,tv,nv]
 yl:yb<H.nx
 wy:¬ W yb
 nn:Gl 6 H nv fs.length (fs.flatMap uT)
 fl:fs.length<=1000
 sh:∀ x∈fs,Sh 1 H x.sp/\Sh 1 H x.av
 tw:Sh 2 H tv
 nw:∀ b,(In nv b\/In tv b\/∃ x∈fs,In x.sp b\/In x.av b)->W b
 sep:∀ x∈fs,∀b,In x.sp b\/In x.av b->¬ In nv b
theorem Ysh.wr{W:Nat->Prop}{B H H':Hp}{d b p:Nat}{c0 j k l tv e v x:AV}{m:List TE}(h:Ysh W B H d c0 j k l tv e m)(g:storeAt H b p [x] .undef=.ok .undef H')(f:Fm (In v) H H')(i:∀ b,In v b->W b/\¬ In e b):Ysh W B H' d c0 j k l tv e m:=
 ⟨h.fm.then f fun c n a=>(i c a).1,(f.get d h.yl fun a=>h.wy (i d a).1).trans h.y,af h.yl f.nx,h.wy,h.nn.fm f fun c n a=>(i c a).2 n,h.fl,fun x o=>⟨(h.sh x o).1.wr g,(h.sh x o).2.wr g⟩,h.tw.wr g,h.nw,h.sep⟩
theorem aOM{O:Ev.Call}{W:Nat->Prop}{B:Hp}{f k:Nat}{c0 t u v tv w:AV}{e:List TE}(d:k<e.length){q:pL}{Q:pS}(x:∀ H,Ysh W B H f c0 t u v tv w e->Ok (q H) Q):∀(m i:Nat) (H:Hp),1001-i<m->Ysh W B H f c0 t u v tv w e->Ok (qil O q (.ptr f 0) (iN k) m (iN i) H) Q
 |0,i,_,h,_=>om
 |m+1,i,H,hm,hY=>by
  show Ok (qw6 O _ _ _ (qil O _ _ _ m) _ H) Q;unfold qw6;have g:=hY.y;obtain⟨b,p,r,_,_,_,C⟩:=(hY.nn.rs qdq).at' k d;have o:bI (H.get b) (p+4)=.val e[k].av:=C 4 (by rw[qdq];omega);obtain⟨n,l,G,A⟩:=(hY.sh _ (lEQ d)).2;have z:=A.aX;by_cases a:i<n
  ·simp only[go_sem,g,r,o,z,a];rw[qhg];unfold qfp;rw[qpt];unfold qi9;obtain⟨I,J,D,E,s,_,F,_⟩:=A.set1 a (j:=0) om (iN 77);rw[lO7]at s;simp only[go_sem,g,r,o,E,s];rw[qpu];unfold qja;simp(disch:=go_size)only[go_sem,rB,rI,rK,rL,rN,rS,r8];exact aOM d x m (i+1) D om (hY.wr s F fun c y=>⟨hY.nw c (.inr (.inr ⟨_,lEQ d,.inr y⟩)),hY.sep _ (lEQ d) c (.inr y)⟩)
  ·simp only[go_sem,g,r,o,z,a];rw[qhg];unfold qfp;exact x H hY
theorem aKR{O:Ev.Call}{W:Nat->Prop}{B:Hp}{f k:Nat}{c0 t u v tv w:AV}{e:List TE}(d:k<e.length){q:pL}{Q:pS}(x:∀ H,Ysh W B H f c0 t u v tv w e->Ok (q H) Q):∀(m i:Nat) (H:Hp),1001-i<m->Ysh W B H f c0 t u v tv w e->Ok (qim O q (.ptr f 0) (iN k) m (iN i) H) Q
 |0,i,_,h,_=>om
 |m+1,i,H,hm,hY=>by
  show Ok (qw7 O _ _ _ (qim O _ _ _ m) _ H) Q;unfold qw7;have g:=hY.y;obtain⟨b,p,r,_,_,_,C⟩:=(hY.nn.rs qdq).at' k d;have o:bI (H.get b) (p+3)=.val e[k].sp:=C 3 (by rw[qdq];omega);obtain⟨n,l,G,A⟩:=(hY.sh _ (lEQ d)).1;have z:=A.aX;by_cases a:i<n
  ·simp only[go_sem,g,r,o,z,a];rw[qhh];unfold qfq;rw[qpw];unfold qjc;obtain⟨I,J,D,E,s,_,F,_⟩:=A.set1 a (j:=0) om (.str 7 28258992578979939);rw[lO7]at s;simp only[go_sem,g,r,o,E,s];rw[qpx];unfold qjd;simp(disch:=go_size)only[go_sem,rB,rI,rK,rL,rN,rS,r8];exact aKR d x m (i+1) D om (hY.wr s F fun c y=>⟨hY.nw c (.inr (.inr ⟨_,lEQ d,.inl y⟩)),hY.sep _ (lEQ d) c (.inl y)⟩)
  ·simp only[go_sem,g,r,o,z,a];rw[qhh];unfold qfq;exact x H hY
theorem w79{O:Ev.Call}{W:Nat->Prop}{B:Hp}{e:Nat}{c0 t u v tv w:AV}(f:¬ W e)(a:∀ b,In tv b->W b){q:pL}{Q:pS}(o:∀ H,Fm W B H->Ok (q H) Q):∀(m i:Nat) (H:Hp),1001-i<m->Fm W B H->H.get e=aB 0 [c0,t,u,v,tv,w]->e<H.nx->Sh 2 H tv->Ok (qo6 O q (.ptr e 0) m (iN i) H) Q
 |0,i,_,h,_,_,_,_=>om
 |m+1,i,H,hm,hf,hy,hyl,hsh=>by
  show Ok (q5o O _ _ (qo6 O _ _ m) _ H) Q;unfold q5o;obtain⟨n,l,x,r⟩:=hsh;have p:=r.aX;by_cases d:i<n
  ·simp only[go_sem,hy,p,d];rw[qkn];unfold qin;rw[qt3];unfold qm1;obtain⟨C,D,y,z,s,A,k,_⟩:=r.set1 d (j:=0) om (.str 7 28258992578979939);rw[lO7]at s;simp only[go_sem,hy,z,s];rw[qt4];unfold qm2;simp(disch:=go_size)only[go_sem,rB,rI,rK,rL,rN,rS,r8];exact w79 f a o m (i+1) y om (hf.then k fun c _ g=>a c g) ((k.get e hyl fun g=>f (a e g)).trans hy) (af hyl k.nx) ⟨n,_,x,A⟩
  ·simp only[go_sem,hy,p,d];rw[qkn];unfold qin;exact o H hf
theorem w94{O:Ev.Call}{W:Nat->Prop}{B:Hp}{n:Nat}{c0 E F G tv v:AV}{q:pL}{Q:pS}(I:∀(H:Hp) (a:List TE),Ysh W B H n c0 E F G tv v a->Ok (q H) Q):∀(m k:Nat) (H:Hp) (a:List TE),a.length-k<m->k<=a.length->Ysh W B H n c0 E F G tv v a->Ok (qo5 O q (.ptr n 0) m (iN k) H) Q
 |0,k,_,_,h,_,_=>om
 |m+1,k,H,a,hm,hk,hY=>by
  show Ok (q5n O _ _ (qo5 O _ _ m) _ H) Q;unfold q5n;have l:=hY.y;have J:=hY.nn.aX;have N:=hY.fl;by_cases e:k<a.length
  ·simp only[go_sem,l,J,e];rw[qhf];unfold qfo;rw[qps];unfold qi8 qw9;rw[dD];refine aOM e (fun M w=>?_) bZ 0 H lf hY;rw[qpv];unfold qjb qxa;rw[dD];refine aKR e (fun S d=>?_) bZ 0 M lf w;rw[qpy];unfold qje;have o:=d.y;obtain⟨T,U,P,R,r,C,D,_⟩:=d.nn.set1 e (j:=0) om (.int .u8 (.ofNat 77));rw[lO7]at r;have A:a=a.take k++a[k]::a.drop (k+1):=by rw[<-lIU e,lU9]
   have K:=zoh (a.take k) (a.drop (k+1)) a[k] ⟨⟨77,a[k].t.rl,a[k].t.to,a[k].t.args,a[k].t.leaf⟩,a[k].av,a[k].sp⟩ 0 (.int .u8 (.ofNat 77)) rfl om;rw[<-A,lI6,lOE om]at K;rw[K]at C;simp only[go_sem,o,R,r];rw[qt1];unfold qmz;simp(disch:=go_size)only[go_sem,rB,rI,rK,rL,rN,rS,r8];generalize u:a.take k++⟨⟨77,a[k].t.rl,a[k].t.to,a[k].t.args,a[k].t.leaf⟩,a[k].av,a[k].sp⟩::a.drop (k+1)=gs at C;have p:gs.length=a.length:=by rw[<-u];simp;omega
   have i:∀ x∈gs,∃y∈a,x.sp=y.sp/\x.av=y.av:=fun x f=>by
    rw[<-u]at f;rcases lEY.1 f with f|f
    ·exact⟨x,lUG f,rfl,rfl⟩
    rcases lI8.1 f with rfl|f
    ·exact⟨_,lEQ e,rfl,rfl⟩
    ·exact⟨x,lXV f,rfl,rfl⟩
   have L:∀ b,In v b->W b:=fun b g=>d.nw b (.inl g);refine w94 I m (k+1) P gs om om ⟨d.fm.then D fun c _ z=>L c z,(D.get n d.yl fun z=>d.wy (L n z)).trans o,af d.yl D.nx,d.wy,by rw[p];exact C,by rw[p];exact d.fl,fun x f=>?_,d.tw.wr r,fun b g=>?_,fun x f b g=>?_⟩
   ·obtain⟨y,l,s,t⟩:=i x f;rw[s,t];exact⟨(d.sh y l).1.wr r,(d.sh y l).2.wr r⟩
   ·rcases g with g|g|⟨x,f,g⟩
    ·exact d.nw b (.inl g)
    ·exact d.nw b (.inr (.inl g))
    ·obtain⟨y,l,s,t⟩:=i x f;rw[s,t]at g;exact d.nw b (.inr (.inr ⟨y,l,g⟩))
   ·obtain⟨y,l,s,t⟩:=i x f;rw[s,t]at g;exact d.sep y l b g
  ·simp only[go_sem,l,J,e];rw[qhf];unfold qfo;exact I H a hY
structure LwT(X:List aQ)(o:List Nat)(H:Hp)(sb:Nat)(sv t av:AV)(most:Nat)(l:List fC):Prop where
 s:H.get sb=aB 0 [sv]
 sl:sb<H.nx
 mU:cZ H sv X
 tab:oQ X o H t most l
 al:Rs 2 pC H av (aF X)
theorem LwT.fm{sv t a:AV}{l:List fC}(h:LwT X o H sb sv t a most l)(f:Fm No H H'):LwT X o H' sb sv t a most l:=
 ⟨(f.keep h.sl).trans h.s,af h.sl f.nx,h.mU.fm f,h.tab.fm f,h.al.fm f⟩
structure AtI(X:List aQ)(o:List Nat)(i:Nat)(e0:fC)(a b:SS):Prop where
 n:e0.n=i
 st:e0.st=o.getD i 0
 at':(dX X)[i]? =some e0.p
 pr:e0.p.1=a/\e0.p.2.r.name=b
theorem CpE.same(l:aU C)(m:18<=k){j e:fC}{a b:SS}(h:CpE X H0 H1 j e)(f:Fm No H1 H)(c:AtI X o i j a b)(n:cZ H sv X)(p:kK L X)(d:nG X o):Ok (C k (.f 14) [.agg (mG e),.agg [sv],iN i] H) fun r H'=>r=.bool true/\Fm No H H':=by
 have g:e.n=i:=h.n.trans c.n;rw[<-g];refine z8n l m n p d (h.ok.dJ f fun _ _ h=>h) ?_ ?_ h.cap fun x q=>(h.sep x q).2
 ·rw[g,h.p];exact c.at'
 ·rw[g,h.st];exact c.st
theorem z8s(K:aU C)(Y:20<=j){sb z most i:Nat}{sv t v:AV}{l:List fC}(h:LwT X o H sb sv t v most l)(L:dF X)(M:Fm No H H1)(Z:i<l.length)(N:l.length<300){a b:SS}(hA:AtI X o i l[i] a b)(q:(aF X)[i]? =some (a,b))(O:bD X a b=i){g:pH}{Q:pS}(A:∀(d:Hp) (m:fC),CpE X H1 d l[i] m->Fm No H1 d->d.get (H1.nx+15)=aB 0 (mG m)->H1.nx+15<d.nx->(∀c,m.B c->c≠H1.nx+15)->Ok (qna (C j) qr g (.ptr sb 0) t v (iN i) (.ptr z 0) (iN 0) (.ptr (H1.nx+15) 0) (iN 0) d) Q):Ok (qw2 (C j) qr g (.ptr sb 0) t v (iN i) (.ptr z 0) (iN 0) H1) Q:=by subst O;rw[qpk];unfold qi0;have E:=h.fm M;obtain⟨x,V⟩:=lI2.1 q;obtain⟨G,I,W,i2,_,_,y⟩:=E.al.at' _ x;rw[V]at y;have T:bI (H1.get G) I=.val (.str a.n a.a):=y 0 (by simp[pC]);have U:bI (H1.get G) (I+1)=.val (.str b.n b.a):=y 1 (by simp[pC]);simp only[go_sem,W,T,U];have F:Fm No H1 ⟨H1.t,H1.nx+18⟩:=fm;have w:(a,b)∈aF X:=lIK q;refine Ok.iR (R:=fun r H'=>Fm No ⟨H1.t,H1.nx+18⟩ H'/\∃ m,r=.bB [.agg (mG m),iN 0]/\CpE X ⟨H1.t,H1.nx+18⟩ H' l[bD X a b] m) (qoj K (k:=j) om ((E.tab).fm F) L N a b (fun P e H' _ f n=>⟨f,e,rfl,n⟩) fun S=>absurd w S) ?_;rintro _ d ⟨J,m,rfl,n⟩;have x2:H1.nx+18<=d.nx:=J.nx;unfold mG at A ⊢;simp only[go_sem,seval];have u:∀ B D:bX,Fm (fun c=>c=H1.nx+15) d ((d.put (H1.nx+15) B).put (H1.nx+15) D):=fun B D=>(show Fm (fun c=>c=H1.nx+15) d _ from(Fm.refl _ _).put _ _ fun _=>rfl).put _ _ fun _=>rfl;have p:∀ c,m.B c->H1.nx+18<=c:=n.nw;refine A _ m ⟨n.p,n.n,n.st,n.ok.dJ (u _ _) fun c s h=>by have:=p c s;omega,fun c s=>by have:=p c s;omega,n.sep,n.cap⟩ (((F.trans J).aH _ _ om).aH _ _ om) (dL _ _ _) (by simp only[nq];omega) fun c s=>by have:=p c s;omega
theorem z8t(s:aU C)(hN:iL C)(hj:20<=j){H c:Hp}{sb u v most i:Nat}{sv t B:AV}{l:List fC}(h:LwT X o H sb sv t B most l)(D:kK L X)(n:nG X o)(f2:Fm No H c)(hi:i<l.length)(hl:l.length<300){a b:SS}{w W:fC}{H1 p E:Hp}(F:AtI X o i l[i] a b)(q:(aF X)[i]? =some (a,b))(oM:bD X a b=i)(x:CpE X H1 p l[i] w)(g1:Fm No p c)(h2:CpE X E c l[i] W)(G:c.get u=aB 0 (mG w))(I:u<c.nx)(J:c.get v=aB 0 (mG W))(K:v<c.nx){g:pH}{Q:pS}(hq:∀ y:Hp,Fm No c y->Ok (qnb (C j) qr g (.ptr sb 0) t B (iN i) (.ptr u 0) (.ptr v 0) (.bool false) y) Q):Ok (qna (C j) qr g (.ptr sb 0) t B (iN i) (.ptr u 0) (iN 0) (.ptr v 0) (iN 0) c) Q:=by
 rw[qpl];unfold qi1;have M:=D.val;have m:=h.fm f2;have hs:=m.s;obtain⟨R,uX⟩:=lI2.1 q;obtain⟨z,A,i1,i2,_,_,S⟩:=m.al.at' _ R;rw[uX]at S;have Y:bI (c.get z) A=.val (.str a.n a.a):=S 0 (by simp[pC]);have Z:bI (c.get z) (A+1)=.val (.str b.n b.a):=S 1 (by simp[pC]);unfold mG SS.v at G J;simp only[go_sem,seval,i1,Y,Z,G,J,hs];refine Ok.iR (x.same s (k:=j) om g1 F m.mU D n) ?_;rintro _ y ⟨rfl,e⟩;have e:Fm No c y:=e;have w3:=(e.keep K).trans J;have s3:=(m.fm e).s;simp only[go_sem,seval,w3,s3];refine Ok.iR (h2.same s (k:=j) om e F (m.fm e).mU D n) ?_;rintro _ H4 ⟨rfl,f4⟩;have d:=e.trans f4;have N:bI (H4.get z) A=.val (.str a.n a.a):=by rw[d.keep i2];exact Y
 have O:bI (H4.get z) (A+1)=.val (.str b.n b.a):=by rw[d.keep i2];exact Z
 simp only[go_sem,i1,N,O];have P:(a,b)∈aF X:=lIK q;refine Ok.iR (zsi s (k:=j) om (m.fm d).tab M hl a b) ?_;rintro _ H5 ⟨rfl,f5⟩;rw[lI9 P];have f:=d.trans f5;have y5:=(f.keep I).trans G;simp only[go_sem,y5];obtain⟨_,_,r⟩:=h.tab.at' M hi;obtain⟨g0,T,U,V⟩:=qdr.1 (show(w.p.1,w.p.2)∈dX X by rw[x.p];exact lIK F.at');have hT:=M.aPn T U;rw[V]at hT;rw[<-x.p]at r;refine Ok.iR (q4g s hN (k:=j) om (((x.ok.dJ g1 fun _ _ h=>h).dJ f fun _ _ h=>h).nd) r.ok1.flat (Fo.rF _) hT) ?_;rintro _ H6 ⟨rfl,f6⟩;simp only[go_sem];exact hq H6 (f.trans f6)
theorem z8u(E:aU C)(hN:iL C)(hj:20<=j){H x:Hp}{sb F Y most i:Nat}{sv t Z:AV}{l:List fC}(h:LwT X o H sb sv t Z most l)(hI:kK L X)(f2:Fm No H x)(hi:i<l.length){a b:SS}{c:fC}{H1 y:Hp}{ws:List AV}(z:AtI X o i l[i] a b)(I:(aF X)[i]? =some (a,b))(oM:bD X a b=i)(h1:CpE X H1 y l[i] c)(g1:Fm No y x)(hy:x.get F=aB 0 (mG c))(hyl:F<x.nx){g:pH}{Q:pS}(hq:∀ e:Hp,Fm No x e->Ok (qnc (C j) qr g (.ptr sb 0) t (iN i) (.ptr F 0) (.ptr Y 0) (.bool false) e) Q):Ok (qnb (C j) qr g (.ptr sb 0) t Z (iN i) (.ptr F 0) (.ptr Y 0) (.bool false) x) Q:=by
 rw[qpm];unfold qi2;rw[qpn];unfold qi3;have A:=hI.val;have hh:=h.fm f2;obtain⟨_,_,d⟩:=h.tab.at' A hi;have p:c.p=l[i].p:=h1.p;obtain⟨g0,s,u,N⟩:=qdr.1 (show(c.p.1,c.p.2)∈dX X by rw[p];exact lIK z.at');have hT:=A.aPn s u;rw[N]at hT;rw[<-p]at d;simp only[go_sem,hy];refine Ok.ve (zzv E hN (k:=j) om ((h1.ok.dJ g1 fun _ _ h=>h).nd) d.ok1.flat (Fo.rF _) hT) ?_;rintro _ e ⟨cs,rfl,v,f3⟩;obtain⟨kd,rl,to,a',n,ca,hfe,rfl,_,_,_⟩:=v.one d.ok1.flat.one;simp(disch:=go_size)only[go_sem,rB,rI,rK,rL,rN,rS,r8];generalize W:(aK e (aB 0 [.int .u8 (.ofNat 0),.str 0 0,.str 0 0,.aA])).put e.nx (aB 0 [.int .u8 (.ofNat kd),.str rl.n rl.a,.str to.n to.a,n])=H4;have f4:Fm No e H4:=by rw[<-W];exact jW
 have n4:H4.nx=e.nx+1:=by rw[<-W];rfl
 have k4:H4.get e.nx=aB 0 [.int .u8 (.ofNat kd),.str rl.n rl.a,.str to.n to.a,n]:=by rw[<-W];exact dL _ _ _
 rw[qpo];unfold qi4;have q:=f3.trans f4;have G:=hh.fm q;have s4:=G.s;obtain⟨O,uX⟩:=lI2.1 I;obtain⟨b1,o1,i1,i2,_,_,P⟩:=G.al.at' _ O;rw[uX]at P;have r0:bI (H4.get b1) o1=.val (.str a.n a.a):=P 0 (by simp[pC]);have r1:bI (H4.get b1) (o1+1)=.val (.str b.n b.a):=P 1 (by simp[pC]);simp(disch:=go_size)only[go_sem,rB,rI,rK,rL,rN,rS,r8,i1,r0,r1,s4];have fU:Fm No H4 ⟨H4.t,H4.nx+18⟩:=by(repeat(first|exact Fm.refl _ _|assumption|refine Fm.push ?_ _|refine Fm.up2 ?_ (by go_size)|refine Fm.aH ?_ _ _ (by go_size)))
 have hn16:=A.pr.n;refine Ok.iR (qsr E (k:=j) om (G.mU.fm fU) om (fun g hg=>by have:=(A.pr.r g hg).1;omega) a b) ?_;rintro r R ⟨f5,S⟩;have x5:H4.nx+18<=R.nx:=f5.nx;have J:i<(dX X).length:=(lI2.1 z.at').1;have B:=(A.at J).1;rw[(lI2.1 z.at').2,z.pr.1,z.pr.2,<-p]at B;unfold q9a at S;rw[B]at S;subst S;obtain⟨c0,c1,c2,c3,T,U⟩:=qhu ((G.mU.sp g0 s).rel _ u);rw[U];simp(disch:=go_size)only[go_sem,rB,rI,rK,rL,rN,rS,r8];generalize w:(R.put (H4.nx+15) (aB 0 [.str 0 0,.aA,.int .u8 (.ofNat 0),.str 0 0,.str 0 0,.aA])).put (H4.nx+15) (aB 0 [.str c.p.2.r.name.n c.p.2.r.name.a,c.p.2.tv,c0,c1,c2,c3])=H6;have m:Fm No H4 H6:=by rw[<-w];exact((fU.trans f5).aH _ _ om).aH _ _ om
 have n6:H6.nx=R.nx:=by rw[<-w];rfl
 have k6:H6.get (H4.nx+15)=aB 0 [.str c.p.2.r.name.n c.p.2.r.name.a,c.p.2.tv,c0,c1,c2,c3]:=by rw[<-w];exact dL _ _ _
 have r6:=(m.keep (show e.nx<H4.nx by omega)).trans k4;have K:=f4.trans m;have jV:=((((hh.fm q).fm m).mU.sp g0 s).rel _ u).ru;rw[T]at jV;rw[qpp];unfold qi5;have M:oD 64 (.agg [.int .u8 (.ofNat kd),.str rl.n rl.a,.str to.n to.a,n]) (.agg [.int .u8 (.ofNat kd),.str rl.n rl.a,.str to.n to.a,n])=true:=qgc _ (by have:=v.flat;simp only[Tr,this];rfl);simp(disch:=go_size)only[go_sem,rB,rI,rK,rL,rN,rS,r8,k6,r6];refine Ok.iR (zec E (k:=j) om (f:=c.p.2.r.rule.fo) jV.fo d.ok1) ?_;rintro _ H7 ⟨ds,rfl,V,D⟩;have D:Fm No H6 H7:=D;have r7:=(D.keep (show e.nx<H6.nx by omega)).trans r6;simp only[go_sem,seval,r7,M];refine Ok.iR (zz1 E (k:=j) om (v.fm (K.trans D)) (V.mono fun _ _ _=>trivial) d.ok1.flat) ?_;rintro _ H8 ⟨rfl,f8⟩;simp only[go_sem];exact hq H8 (((q.trans m).trans D).trans f8)
theorem TE.Ok.sh{tg:SS->SS->List SS}{x:TE}(h:x.Ok tg H)(a:x.t.args.length<=1000)(b:(tg x.t.rl x.t.to).length<=1000):Sh 1 H x.sp/\Sh 1 H x.av:=by
 refine⟨?_,_,_,a,h.gl⟩;rcases h.sp with h|h
 ·exact⟨_,_,b,h.2⟩
 ·rw[h.2];exact⟨0,[],om,Gl.nil 1 H⟩
theorem z8v(W:aU C)(hj:20<=j){H s:Hp}{sb z u most i:Nat}{sv t av:AV}{l:List fC}(h:LwT X o H sb sv t av most l)(Y:kK L X)(N:nG X o)(f3:Fm No H s)(hi:i<l.length)(hl:l.length<300){a b:SS}{m e2:fC}{A:Hp}(hA:AtI X o i l[i] a b)(J:CpE X H A l[i] m)(g1:Fm No A s)(Z:s.get z=aB 0 (mG m))(O:z<s.nx)(B:¬ m.B z)(hw:s.get u=aB 0 (mG e2))(D:u<s.nx)(P:¬ m.B u)(hwH:H.nx<=u){g:pH}{Q:pS}(hq:∀ K:Hp,Fm No H K->Ok (g (iN ((i+1))) K) Q):Ok (qnc (C j) qr g (.ptr sb 0) t (iN i) (.ptr z 0) (.ptr u 0) (.bool false) s) Q:=by
 rw[qpq];unfold qi6;rw[qpr];unfold qi7 q5q;rw[dD];have S:=Y.val;obtain⟨_,V,G⟩:=h.tab.at' S hi;have T:m.p=l[i].p:=J.p;rw[<-T]at G V;have v:m.Ok X s:=J.ok.dJ g1 fun _ _ h=>h;have bD0:=G.ok1.flat.sz;have hels:m.es.length<=32:=by have:=congrArg List.length v.nd.is;rw[lET,Fo.gP]at this;omega
 unfold mG SS.v at Z hw;have hY:Ysh m.B s s z _ _ _ _ m.tv m.nv m.es:=⟨Fm.refl _ _,Z,O,B,v.nd.gl,om,fun x n=>(v.nd.ok x n).sh (by
  have:=qj3 _ 0 0 x.t (by rw[<-v.nd.is];exact lIX n);omega) (by have:=qej S.pr m.p.1 x.t.rl x.t.to;omega),⟨_,_,om,v.ty⟩,fun b p=>by
  rcases p with p|p|p
  ·exact .inr (.inl p)
  ·exact .inl p
  ·exact .inr (.inr p),fun x n=>(J.sep x n).1⟩
 refine w94 (fun K fs w=>?_) bZ 0 s m.es lf (lEV _) hY;rw[qt2];unfold qm0 q5s;rw[dD];refine w79 B (fun b p=>.inl p) (fun y M=>?_) bZ 0 K lf w.fm w.y w.yl w.tw;have E:Fm No H y:=f3.then M fun c q p=>by have:=J.nw c p;omega
 have w5:=(M.get u D P).trans hw;have h5:=h.fm E;rw[qt5];refine Ok.ve (R:=fun r H'=>Fm No y H'/\∃ d,r=.bB [.agg (mG d),iN 0]/\CpE X y H' l[i] d) (zsj W (k:=j) om h5.tab S hl (Int.ofNat i) (fun i' hi' e H' n f q=>⟨f,e,rfl,by
  have:i'=i:=by injection n with n;exact n.symm
  subst this;exact q⟩) fun n=>by
   rcases n with n|n
   ·trivial
   ·simp only[lIA]at n;omega) ?_
 rintro _ H6 ⟨f6,d,rfl,q⟩;have w6:=(f6.keep (show u<y.nx by have:=M.nx;omega)).trans w5;unfold mG SS.v;simp(disch:=go_size)only[go_sem,rB,rI,rK,rL,rN,rS,r8,w6];have wb5:u<y.nx:=af D M.nx;generalize I:H6.put u (aB 0 [.str d.p.1.n d.p.1.a,.str d.p.2.r.name.n d.p.2.r.name.a,iN (d.n),iN (d.st),d.tv,d.nv])=H7;have u7:Fm (fun c=>c=u) H6 H7:=by rw[<-I];exact(Fm.refl _ _).put _ _ fun _=>rfl
 have w7:H7.get u=aB 0 [.str d.p.1.n d.p.1.a,.str d.p.2.r.name.n d.p.2.r.name.a,iN (d.n),iN (d.st),d.tv,d.nv]:=by rw[<-I];exact dL _ _ _
 have F:Fm No H H7:=(E.trans f6).then u7 fun c q h=>om;have U:CpE X y H7 l[i] d:=⟨q.p,q.n,q.st,q.ok.dJ u7 fun c p h=>by have:=q.nw c p;omega,q.nw,q.sep,q.cap⟩;have h7:=h.fm F;have s7:=h7.s;rw[qt6];unfold qm3;simp(disch:=go_size)only[go_sem,rB,rI,rK,rL,rN,rS,r8,w7,s7];refine Ok.ve (U.same W (k:=j) om (Fm.refl _ _) hA h7.mU Y N) ?_;rintro _ H8 ⟨rfl,f8⟩;rw[qt7];unfold qm4;rw[qt8];unfold qm5;simp(disch:=go_size)only[go_sem,rB,rI,rK,rL,rN,rS,r8];exact hq H8 (F.trans f8)
theorem oQ.atI{t:AV}{l:List fC}(h:oQ X o H t most l)(e:dF X)(b:i<l.length):AtI X o i l[i] l[i].p.1 l[i].p.2.r.name/\(aF X)[i]? =some (l[i].p.1,l[i].p.2.r.name)/\bD X l[i].p.1 l[i].p.2.r.name=i:=by
 have a:(dX X)[i]? =some l[i].p:=by rw[<-h.p,lO6,gp b];rfl
 obtain⟨c,f⟩:=lI2.1 a;have d:=(e.at c).2.1;rw[f]at d;refine⟨⟨(h.n i b).1,(h.n i b).2,a,rfl,rfl⟩,?_,d⟩;rw[<-pG,lO6,a];rfl
theorem z8r(s:aU C)(P:iL C)(z:20<=j){sv t S:AV}{l:List fC}(h:LwT X o H sb sv t S most l)(A:kK L X)(u:nG X o)(v:i<l.length)(B:l.length<300){g:pH}{Q:pS}(V:∀ G:Hp,Fm No H G->Ok (g (iN ((i+1))) G) Q):Ok (qw1 (C j) qr g (.ptr sb 0) t S (iN i) H) Q:=by
 rw[qpj];have J:=A.val;obtain⟨D,p,N⟩:=h.tab.atI J v;refine Ok.ve (R:=fun r H'=>Fm No H H'/\∃ e,r=.bB [.agg (mG e),iN 0]/\CpE X H H' l[i] e) (zsj s (k:=j) om h.tab J B (Int.ofNat i) (fun W Y e H' d f E=>⟨f,e,rfl,by
  have:W=i:=by injection d with d;exact d.symm
  subst this;exact E⟩) fun d=>by
   rcases d with d|d
   ·trivial
   ·simp only[lIA]at d;omega) ?_
 rintro _ H1 ⟨O,a,rfl,b⟩;have x1:=O.nx;unfold mG SS.v;simp(disch:=first|omega|exact ti rfl)only[go_sem,seval];generalize q:(aK H1 (aB 0 [.str 0 0,.str 0 0,iN 0,iN 0,.aA,.aA])).put H1.nx (aB 0 [.str a.p.1.n a.p.1.a,.str a.p.2.r.name.n a.p.2.r.name.a,iN (a.n),iN (a.st),a.tv,a.nv])=H2;have y:Fm No H1 H2:=by rw[<-q];exact jW
 have n2:H2.nx=H1.nx+1:=by rw[<-q];rfl
 have K:H2.get H1.nx=aB 0 (mG a):=by rw[<-q];exact dL _ _ _
 have U:∀ c,a.B c->c<H1.nx:=fun c E=>b.ok.lt E;refine z8s s z h J (O.trans y) v B D p N fun H3 e2 F n T w Z=>?_;have M:=(O.trans y).trans n;refine z8t s P z h A u M v B D p N b (y.trans n) F ((n.keep om).trans K) om T w fun G m=>?_;have x4:=m.nx;refine z8u s P z h A (M.trans m) v D p N b ((y.trans n).trans m) ((m.keep om).trans ((n.keep om).trans K)) om (ws:=[]) fun H5 x=>?_;have x5:=x.nx;exact z8v s z h A u ((M.trans m).trans x) v B D b (((y.trans n).trans m).trans x) (((m.trans x).keep om).trans ((n.keep om).trans K)) om (fun I=>by have:=U _ I;omega) (((m.trans x).keep w).trans T) om (fun I=>by have:=U _ I;omega) om V
theorem zqo(e:aU C)(f:iL C){j:Nat}(g:20<=j){Hb:Hp}{sb most:Nat}{sv t m:AV}{l:List fC}(h:LwT X o Hb sb sv t m most l)(n:kK L X)(c:nG X o)(p:l.length<300){qr:pH}{q:pL}{Q:pS}(r:∀ H,Fm No Hb H->Ok (q H) Q):∀(k i:Nat) (H:Hp),i<=l.length->l.length-i<k->Fm No Hb H->Ok (qo7 (C j) qr q (.ptr sb 0) t m k (iN i) H) Q
 |0,i,_,_,h,_=>om
 |k+1,i,H,hi,hk,hf=>by
  show Ok (q5p (C j) _ _ _ _ _ (qo7 (C j) _ _ _ _ _ k) _ H) Q;unfold q5p;have s:=h.fm hf;have a:=s.al.len;have d:(aF X).length=l.length:=by have:=congrArg List.length h.tab.p;rw[lET]at this;rw[<-pG,lET,this]
  rw[d]at a;by_cases b:i<l.length
  ·simp only[go_sem,a,b];rw[qhe];unfold qfn;exact z8r e f g s n c b p fun u v=>zqo e f g h n c p r k (i+1) u om om (hf.trans v)
  ·simp only[go_sem,a,b];rw[qhe];unfold qfn;exact r H hf
theorem zya{a b:SS}(h:bD X a b<(aF X).length):(a,b)∈aF X:=by unfold bD at h;simp_all
theorem xdn(i:aU C)(Y:20<=j)(b:∀ k H,1<=k->C k (.f 4) [] H=.ok (.bool true) H){sv t M:AV}{l:List fC}{p q:SS}(h:LwT X o H sb sv t M most l)(J:kK L X)(w:nG X o)(x:l.length<300)(y:H.get pb=aB 0 [.str p.n p.a,.str q.n q.a])(s:pb<H.nx):Ok (q5j (C j) (.ptr pb 0) (.ptr sb 0) t H) fun r _=>r=.bool true:=by
 rw[qub];unfold qm7;have m:=J.val;simp(disch:=first|omega|exact ti rfl|simp only[np,nq];first|done|omega)only[go_sem,seval,y];by_cases c:(p,q)∈aF X
 ·have N:bD X p q<l.length:=by
   have:=qrp c;have d:=congrArg List.length h.tab.p;rw[lET,<-show((dX X).map kq).length=(dX X).length from lET ..,pG]at d;omega
  refine Ok.ve (R:=fun r H'=>Fm No H H'/\∃ e,r=.bB [.agg (mG e),iN 0]/\CpE X H H' l[bD X p q] e) (qoj i (k:=j) om h.tab m x p q (fun z e H' _ f A=>⟨f,e,rfl,A⟩) fun K=>absurd c K) ?_;rintro _ H1 ⟨F,e,rfl,A⟩;unfold mG SS.v;simp(disch:=first|omega|exact ti rfl)only[go_sem,seval];generalize a:(aK H1 (aB 0 [.str 0 0,.str 0 0,iN 0,iN 0,.aA,.aA])).put H1.nx (aB 0 [.str e.p.1.n e.p.1.a,.str e.p.2.r.name.n e.p.2.r.name.a,iN (e.n),iN (e.st),e.tv,e.nv])=H2;have u:Fm No H1 H2:=by rw[<-a];exact jW
  have O:H2.nx=H1.nx+1:=by rw[<-a];rfl
  have B:H2.get H1.nx=aB 0 [.str e.p.1.n e.p.1.a,.str e.p.2.r.name.n e.p.2.r.name.a,iN (e.n),iN (e.st),e.tv,e.nv]:=by rw[<-a];exact dL _ _ _
  have n:=F.trans u;have d:=h.fm n;have D:=d.s;have v:=(n.keep s).trans y;rw[qkp];unfold qip;simp(disch:=first|omega|exact ti rfl|simp only[np,nq];first|done|omega)only[go_sem,seval,D,v];refine Ok.ve (qkf i (k:=j) om d.mU m.pr.sml p q) ?_;rintro r T ⟨g,G⟩;rcases G with⟨_,rfl⟩|⟨K,_⟩
  rotate_left
  ·trivial
  have E:=(g.keep (show H1.nx<H2.nx by omega)).trans B;have P:=(d.fm g).s;rw[qkq];unfold qiq;have Z:¬ bD X p q<0:=om;rw[quc];unfold qnd;simp only[go_sem,seval,E,P];obtain⟨U,_,_⟩:=h.tab.atI m N;refine Ok.ve (A.same i (k:=j) om (u.trans g) U (d.fm g).mU J w) ?_;rintro _ V ⟨rfl,W⟩;simp(disch:=first|omega|exact ti rfl|simp only[np,nq];first|done|omega)only[go_sem,seval,b j _ om];exact Ok.ret rfl
 ·refine Ok.ve (R:=fun r H'=>Fm No H H'/\r=.bB [.agg taZ,iN 6]) (qoj i (k:=j) om h.tab m x p q (fun z e H' h _ _=>absurd h c) fun _ H' f=>⟨f,rfl⟩) ?_;rintro _ H1 ⟨F,rfl⟩;unfold taZ;simp(disch:=first|omega|exact ti rfl|simp only[np,nq];first|done|omega)only[go_sem,seval];generalize a:(aK H1 (aB 0 [.str 0 0,.str 0 0,iN 0,iN 0,.aA,.aA])).put H1.nx (aB 0 [.str 0 0,.str 0 0,iN 0,iN 0,.aA,.aA])=H2;have u:Fm No H1 H2:=by rw[<-a];exact jW
  have O:H2.nx=H1.nx+1:=by rw[<-a];rfl
  have B:H2.get H1.nx=aB 0 [.str 0 0,.str 0 0,iN 0,iN 0,.aA,.aA]:=by rw[<-a];exact dL _ _ _
  have n:=F.trans u;have d:=h.fm n;have D:=d.s;have v:=(n.keep s).trans y;rw[qkp];unfold qip;simp(disch:=first|omega|exact ti rfl|simp only[np,nq];first|done|omega)only[go_sem,seval,D,v];refine Ok.ve (qkf i (k:=j) om d.mU m.pr.sml p q) ?_;rintro r T ⟨g,G⟩;rcases G with⟨I,_⟩|⟨_,rfl⟩
  ·exact absurd (zya I) c
  have E:=(g.keep (show H1.nx<H2.nx by omega)).trans B;have Q:=(g.keep (by have:=n.nx;omega)).trans v;rw[qkq];unfold qiq;have S:fO (lS .lss).f (.int .i64 (.negSucc 0)) (iN 0)=.val (.bool true):=rfl;simp(disch:=first|omega|exact ti rfl|simp only[np,nq];first|done|omega)only[go_sem,seval,S,E,Q];refine Ok.ve (zsi i (k:=j) om (d.fm g).tab m x p q) ?_;rintro _ V ⟨rfl,W⟩;rw[lIF c];simp only[go_sem,b j _ om];exact Ok.ret rfl
theorem xdm(w:aU C)(D:20<=j)(c:∀ k H,1<=k->C k (.f 4) [] H=.ok (.bool true) H){sv t y:AV}{l:List fC}{p q:SS}(x:Int)(h:LwT X o H sb sv t y most l)(z:kK L X)(m:nG X o)(A:l.length<300)(E:H.get pb=aB 0 [.str p.n p.a,.str q.n q.a])(d:pb<H.nx):Ok (qo8 (C j) (.int .i64 x) (.ptr pb 0) (.ptr sb 0) t y H) fun r _=>r=.bool true:=by
 rw[qt9];have F:=z.val;have n:(aF X).length=l.length:=by have:=congrArg List.length h.tab.p;rw[lET]at this;rw[<-pG,lET,this]
 have fin:∀ H',Fm No H H'->Ok (q5i (C j) (.ptr pb 0) (.ptr sb 0) t (.bool false) H') fun r _=>r=.bool true:=fun H' f=>by rw[qua];unfold qm6;exact xdn w D c (h.fm f) z m A ((f.keep d).trans E) (af d f.nx)
 have a:=h.al.len;rw[n]at a;refine Ok.ve (R:=fun r H'=>Fm No H H'/\∃ cs,(((∃i,i<l.length/\x=Int.ofNat i)/\r=.bB [cs,iN 0])\/((x<0\/Int.ofNat l.length<=x)/\r=.bB [cs,iN 4]))) (zsj w (k:=j) om h.tab F A x (fun i B e H' b f _=>⟨f,_,.inl ⟨⟨i,B,b⟩,rfl⟩⟩) fun b H' f=>⟨f,_,.inr ⟨b,rfl⟩⟩) ?_;rintro _ H1 ⟨v,cs,⟨⟨i,B,rfl⟩,rfl⟩|⟨b,rfl⟩⟩
 ·simp only[go_sem];rw[qko];unfold qio;have s:¬ i<0:=om;have u:¬ l.length<=i:=om;have g:jR true (xQ (.bool false) (.bool false))=.val (.bool false):=rfl;simp only[go_sem,a,s,u,g];exact fin H1 v
 ·simp only[go_sem];rw[qko];unfold qio;have g:jR true (xQ (.bool true) (.bool true))=.val (.bool false):=rfl;cases x with
  |negSucc i=>have G:fO (lS .lss).f (.int .i64 (.negSucc i)) (iN 0)=.val (.bool true):=rfl;simp only[go_sem,a,g,G];exact fin H1 v
  |ofNat i=>
   have s:¬ i<0:=om;have u:=lO5 (show l.length<=i by
    rcases b with b|b
    ·trivial
    ·simp only[lIA]at b;omega)
   simp only[go_sem,a,s,u,g];exact fin H1 v
theorem zyn(n a:Nat):aA2 (.str n a)=.val (iN n):=id rfl
attribute [go_sem] zyn
theorem zyh(h:i<o.length):mnS o (i+1)=max (mnS o i) (o.getD i 0+1):=by unfold mnS;rw[lER h,lID];unfold iH;simp_all
theorem zdb{O:Ev.Call}{H:Hp}{f:AV}(d:Gl 1 H f o.length (aI o))(c:∀ x∈o,x<13)(e:o.length<13){q:pH}{Q:pS}(j:Ok (q (iN ((mnS o o.length))) H) Q):∀(k i:Nat),i<=o.length->o.length-i<k->Ok (qik O q f k (iN ((mnS o i))) (iN i) H) Q
 |0,i,_,h=>om
 |k+1,i,hi,hk=>by
  show Ok (qw5 O _ _ (qik O _ _ k) _ _ H) Q;unfold qw5;have g:=d.aX;by_cases a:i<o.length
  ·have l:(aI o)[i]? =some (iN ((o.getD i 0))):=by simp[aI,lES,a]
   obtain⟨b,p,n,_,_,r⟩:=d.at l;have m:o.getD i 0<13:=c _ (qdf a);simp only[go_sem,g,a];rw[qhd];unfold qfm;rw[qpd];unfold qiv;simp(disch:=go_size)only[go_sem,rB,rI,rK,rL,rN,rS,r8,n,r];rw[<-zyh a,qpe];unfold qiw;simp(disch:=go_size)only[go_sem,rB,rI,rK,rL,rN,rS,r8];exact zdb d c e j k (i+1) om om
  ·simp only[go_sem,g,a];rw[qhd];unfold qfm;simp only[go_sem];have s:i=o.length:=om;simp_all
theorem z9z(e:aU C)(u:iL C)(i:20<=j)(a:∀ k H,1<=k->C k (.f 4) [] H=.ok (.bool true) H){sv t m:AV}{l:List fC}{p q:SS}(x:Int)(h:LwT X o H sb sv t m (mnA X o) l)(n:kK L X)(b:nG X o)(s:l.length<300)(v:H.get pb=aB 0 [.str p.n p.a,.str q.n q.a])(c:pb<H.nx):Ok (qm9 (C j) (.int .i64 x) (.ptr pb 0) (.ptr sb 0) t (iN 0) m (iN ((mnA X o))) H) fun r _=>r=.bool true:=by
 rw[qpf];unfold qix;have g:(aF X).length=l.length:=by have:=congrArg List.length h.tab.p;rw[lET]at this;rw[<-pG,lET,this]
 have d:=h.al.len;rw[g]at d;have w:=zzw e (k:=j) om h.tab;have y:=zgj e (k:=j) om h.tab;simp only[go_sem,w,y,d];rw[qpg];unfold qiy;rw[qph];unfold qiz q5t;rw[dD];simp only[go_sem];exact zqo e u i h n b s (fun z f=>xdm e i a x (h.fm f) n b s ((f.keep c).trans v) (af c f.nx)) bZ 0 H (lEV _) lf (Fm.refl _ _)
theorem q87(h:aU C)(F:iL C)(O:qwg C)(P:uZ C)(Q:tJ C)(R:uI LA LO C)(hk:1100<=k)(a:∀ k H,1<=k->C k (.f 4) [] H=.ok (.bool true) H){v:AV}{L:List (List Nat)}(S:iE H v L)(x:Int)(p q:SS):Ok (zGt (C k) (.agg [v]) (.int .i64 x) (.agg [.str p.n p.a,.str q.n q.a]) H) fun r _=>r=.bool true:=by
 unfold zGt z4x;have V:Fm No H (aK (aK H (aB 0 [v])) (aB 0 [.str p.n p.a,.str q.n q.a])):=by exact xE
 have e:∀ H,Ok (qm8 (C k) (.int .i64 x) (.ptr H.nx 0) (.ptr (H.nx+1) 0) (.bool true) (aK (aK H (aB 0 [v])) (aB 0 [.str p.n p.a,.str q.n q.a]))) fun r _=>r=.bool true:=fun H=>by rw[qhc];unfold qfl;simp only[go_sem,a k _ om];exact Ok.ret rfl
 have m:Ok (qm8 (C k) (.int .i64 x) (.ptr H.nx 0) (.ptr (H.nx+1) 0) (.bool false) (aK (aK H (aB 0 [v])) (aB 0 [.str p.n p.a,.str q.n q.a]))) fun r _=>r=.bool true:=by
  rw[qhc];unfold qfl;rw[qo9];unfold qir;simp(disch:=first|go_size|omega)only[go_sem,seval];refine Ok.ve (xe7 h (k:=k) om (S.fm V)) ?_;rintro _ H1 ⟨sv,X,rfl,hX,B,J⟩;have n:kK L X:=⟨B⟩;have W:=n.val;have hm:=qcp L;have Y:=n.len;have Z:=J.nx;simp only[np]at Z;have k1:H1.get (H.nx+1)=aB 0 [.str p.n p.a,.str q.n q.a]:=(J.keep gz).trans g5;simp(disch:=first|omega|exact ti rfl)only[go_sem,seval];generalize g:(aK H1 (aB 0 [.aA])).put H1.nx (aB 0 [sv])=H2;have G:Fm No H1 H2:=by rw[<-g];exact jW
  have n2:H2.nx=H1.nx+1:=by rw[<-g];rfl
  have u:H2.get H1.nx=aB 0 [sv]:=by rw[<-g];exact dL _ _ _
  have k2:=(G.keep (show H.nx+1<H1.nx by omega)).trans k1;have b:=hX.fm G;rw[qpa];unfold qis;simp(disch:=go_size)only[go_sem,rB,rI,rK,rL,rN,rS,r8,u];refine Ok.ve (xet h F O P Q R (k:=k) om b n) ?_;rintro _ H3 ⟨t,o,l,rfl,d,K,D⟩;have s3:=(D.keep (show H1.nx<H2.nx by omega)).trans u;rw[qpb];unfold qit;simp only[go_sem,s3];refine Ok.ve (zeg h (k:=k) om (b.fm D) W.pr.sml) ?_;intro av H4 M;have I:=M.fm;have f:=D.trans I;have s4:=(f.keep (show H1.nx<H2.nx by omega)).trans u;simp only[go_sem,s4];refine zso h (k:=k) om (b.fm f) n d fun ob T g5 w=>?_;have c:=f.trans w;have s:o.length=(aF X).length:=d.fit.1;simp only[go_sem];rw[qpc];unfold qiu qw8;rw[dD];have hll:l.length=(aF X).length:=by have:=congrArg List.length K.p;rw[lET]at this;rw[<-pG,lET,this]
  have z:∀ y∈o,y<13:=fun y U=>by obtain⟨i,hi,rfl⟩:=lOO U;have:=d.lt i om;rw[show o.getD i 0=o[i]by simp[lES,hi]]at this;omega
  have x5:=c.nx;refine zdb (o:=o) (by rw[s];exact g5) z om ?_ bZ 0 (lEV _) lf;have A:LwT X o T H1.nx sv t av (mnA X o) l:=⟨(c.keep om).trans u,om,b.fm c,K.fm (I.trans w),(M.rs qjx).fm w⟩;have:=z9z h F (j:=k) om a (p:=p) (q:=q) x A n d om (pb:=H.nx+1) ((c.keep om).trans k2) om;rw[show mnS o o.length=mnA X o by rw[s];rfl];exact this
 by_cases E:20<p.n
 ·simp(disch:=go_size)only[go_sem,rB,rI,rK,rL,rN,rS,r8,E];exact e _
 ·by_cases N:20<q.n
  ·simp(disch:=go_size)only[go_sem,rB,rI,rK,rL,rN,rS,r8,E,N];exact e _
  ·simp(disch:=go_size)only[go_sem,rB,rI,rK,rL,rN,rS,r8,E,N];exact m
end Go.Di
end
noncomputable section
namespace Go.Di
open Go.Ev
def egO(e:Edge):Eg:=⟨.ofNat e.f,.ofNat e.t,e.s⟩
theorem xar(es:List Edge):(es.map egO).flatMap egV=mQ es:=by
 induction es with
 |nil=>rfl
 |cons a l ih=>rw[lUJ,lIQ,ih];rfl
theorem zrl:∀ es:List Edge,qsb (mQ es)=some (es.map egO)
 | []=>rfl
 |a::l=>by show qsb (iN (a.f)::iN (a.t):: .bool a.s::mQ l)=_;rw[qsb,zrl l];rfl
theorem xed(x y:Edge):jS (egO x) (egO y)=uJ x y:=by unfold jS uJ or3 egO zU sgn cI;simp only[orI,jD];by_cases h:jD (.ofNat x.f) (.ofNat y.f)=0<;>by_cases a:jD (.ofNat x.t) (.ofNat y.t)=0<;>unfold jD at h a<;>simp only[h,a,lU8,lX7]<;>(try split)<;>simp_all
theorem zox(es:List Edge):qlv (es.map egO)=(sortE es).map egO:=
 (List.map_mergeSort fun a _ b _=>by show(!decide (uJ b a<0))=_;rw[xed]).symm
theorem q72(f c:FuncId)(e:Ext){H:Hp}{v:AV}{es:List Edge}(h:Gl 3 H v es.length (mQ es))(w:es.length<=1000000):∃r,qgm f c e f [v,.fn c [] []] H=some r/\Ok r fun r H'=>r=.bB []/\Gl 3 H' v es.length (mQ (sortE es))/\Fm (In v) H H':=by
 have d:∀ n:Nat,Nat.beq n n=true:=fun n=>lY3 n;rcases h.is with⟨rfl,p⟩|⟨b,o,x,q,L,rfl,g,s,i,t,u⟩
 ·have:es=[]:=lIG.1 p;subst this;refine⟨.ok (.bB []) H,?_,?_⟩
  ·unfold qgm;simp only[d,lII]
  ·have j:sortE []=[]:=by simp[sortE]
   rw[j];exact Ok.ret ⟨rfl,h,Fm.refl _ _⟩
 ·have k:o+es.length*3=L.length:=by
   have:=congrArg List.length i;rw[lIZ,qfd]at this;omega
  have a:(mQ (sortE es)).length=es.length*3:=by rw[qfd,q1u]
  have m:q1v H b o es.length=some (.ok (.bB []) (H.put b (aB q (aY L o (mQ (sortE es)))))):=by
   unfold q1v;rw[g,qbv,lEZ om,i,lIW (by rw[qfd];omega)];simp only[zrl,zox,xar];rw[qb5 H b o _ _ q L g om];have:Nat.blt es.length 4611686018427387904=true:=by rw[Nat.blt_eq];omega
   simp only[this,lII]
  refine⟨_,by unfold qgm;simp only[d,lII];exact m,Ok.ret ⟨rfl,⟨by rw[a],.inr ⟨b,o,x,q,aY L o (mQ (sortE es)),rfl,dL _ _ _,?_,?_,t,u⟩⟩,(Fm.refl _ _).put b _ fun _=>⟨_,_,_,_,rfl⟩⟩⟩
  ·rw[qey _ _ _ om];exact s
  ·unfold aY;rw[List.drop_of_length_le (l:=L) om,lIM,lO4 (by rw[lI6];omega),List.drop_of_length_le (by rw[lI6];omega),lOX]
def qsv(l:List AV):bX:=.cells (eF l.length) l.length (cellsOf l) true 0
theorem q2g(l:List AV)(o:Nat):bI (qsv l) o=match l[o]? with|some v=>.val v|none=>.bad:=by
 show(bif Nat.blt o l.length then R0.val ((dW _ o).f (cellsOf l))else .bad)=_;rw[blt_eq];by_cases h:o<l.length
 ·rw[lI9 h,qcs _ _ (af h (qbz _))];simp[h]
 ·rw[lIF h];simp[lXG h]
theorem qj8(b:Nat):Hp.empty.get b=.dead:=by show(bif Nat.blt b 2097152 then(dW HD b).f (same bX.dead HD)else bX.dead)=bX.dead;rw[qgu];cases Nat.blt b 2097152<;>rfl
theorem add_add(a:Addr)(x y:Nat):(a.add x).add y=a.add (x+y):=by
 unfold Addr.add;by_cases b:x=0
 ·subst b;simp
 ·by_cases c:y=0
  ·subst c;simp
  ·simp[b,c,lIP]
theorem zea{a:Addr}(h:a.spot=none)(x:Nat):a.add x=⟨a.block,a.off+x,none⟩:=by
 obtain⟨c,d,e⟩:=a;cases h;unfold Addr.add;by_cases b:x=0
 ·subst b;simp
 ·simp[b]
theorem qwa{w:World}{a:Addr}{v:Value}(h:w.cell? (a.add 0)=some v):a.spot=none/\a.block<w.heap.size:=by
 have h:w.cell? a=some v:=h;unfold World.cell? at h;rcases hx:w.heap[a.block]? with _|o
 ·rw[hx]at h;cases h
 ·refine⟨?_,(lOY.1 hx).1⟩;rw[hx]at h;cases o with
  |cells c e z=>
   rcases hs:a.spot with _|s
   ·rfl
   ·rw[hs]at h;cases h
  |_=>cases h
structure Ro where
 l:List AV
 (b o:Nat)
def q8a(ks:List Ro):Hp:=ks.foldl (fun H k=>aK H (qsv k.l)) Hp.empty
def wJ(ks:List Ro):Im:=fun b=>(ks[b]?).map fun k=>⟨k.b,k.o,0,0⟩
theorem q2a:∀(ks:List Ro) (H:Hp),(∀b,H.nx<=b->H.get b=.dead) -> (ks.foldl (fun H k=>aK H (qsv k.l)) H).nx=H.nx+ks.length/\∀ b,(ks.foldl (fun H k=>aK H (qsv k.l)) H).get b=if b<H.nx then H.get b else match ks[b-H.nx]? with|some k=>qsv k.l|none=>.dead
 | [],H,h=>⟨rfl,fun b=>by
  by_cases a:b<H.nx
  ·rw[lEZ a];rfl
  ·rw[lEU a];exact h b om⟩
 |k::ks,H,h=>by
  obtain⟨e,f⟩:=q2a ks (aK H (qsv k.l)) (fun b a=>by have:H.nx+1<=b:=a;rw[qgv,lEU om];exact h b om);have d:(aK H (qsv k.l)).nx=H.nx+1:=rfl;rw[List.foldl_cons];refine⟨by rw[e,d,lEX];omega,fun b=>?_⟩;rw[f,d,qgv];by_cases a:b<H.nx
  ·rw[lEZ om,lEU om,lEZ a]
  ·by_cases c:b=H.nx
   ·subst c;rw[lEZ (lU6 _),lEZ rfl,lEU (lOB _),lUV];rfl
   ·rw[lEU om,lEU a,show b-H.nx=(b-(H.nx+1))+1 by omega,lU3]
theorem qcy(ks:List Ro):(q8a ks).nx=ks.length/\∀ b,(q8a ks).get b=match ks[b]? with|some k=>qsv k.l|none=>.dead:=by obtain⟨a,c⟩:=q2a ks Hp.empty fun b _=>qj8 b;refine⟨by show(ks.foldl _ Hp.empty).nx=_;rw[a];exact lEW _,fun b=>?_⟩;show(ks.foldl _ Hp.empty).get b=_;rw[c,lEU (show ¬b<Hp.empty.nx from lUD b)];rfl
theorem xe2{w:World}{ks:List Ro}(h:∀ i (e:i<ks.length),ks[i].b<w.heap.size/\∀ j (n:j<ks[i].l.length),∃V,w.cell? ⟨ks[i].b,ks[i].o+j,none⟩=some V/\aR (wJ ks) ks[i].l[j] V/\V.oneCell=true):HR (wJ ks) (q8a ks) w/\∀ b,((q8a ks).get b).wr=false:=by
 have f:∀ b,((q8a ks).get b).wr=false:=fun b=>by rw[(qcy ks).2];split<;>rfl
 refine⟨⟨qL,fun b _=>?_,fun b m _ o d=>?_,fun b c m p _ _ h=>?_,fun b h=>?_,fun b h _=>?_⟩,f⟩
 ·rw[(qcy ks).2];by_cases a:b<ks.length
  ·rw[gp a];refine⟨⟨ks[b].b,ks[b].o,0,0⟩,by unfold wJ;rw[gp a];rfl,⟨qbz _,rfl⟩,fun i e=>?_,fun h=>by cases h⟩;obtain⟨V,g,k,l⟩:=(h b a).2 i e;refine⟨V,g,?_,l,fun h=>by cases h⟩;rw[qcs _ _ (af e (qbz _))];simpa [e] using k
  ·rw[lUM om];trivial
 ·unfold wJ at d;by_cases a:b<ks.length
  ·rw[gp a]at d;cases d;exact(h b a).1
  ·rw[lUM om]at d;cases d
 ·rw[f b]at h;cases h
 ·rw[(qcy ks).1]at h;unfold wJ;rw[lUM h];rfl
 ·rw[(qcy ks).1]at h;rw[(qcy ks).2,lUM h]
structure Inr(w:World)(v:Value)(k:Nat)(x:AV)(l:List Nat)(r:Ro):Prop where
 one:v.oneCell=true
 rep:∀ ι:Im,ι k=some ⟨r.b,r.o,0,0⟩->aR ι x v
 lt:∀ y∈l,y<256
 eq:r.l=uQ l
 len:aD x=.val (.int .i64 (.ofNat l.length))
 at':∀ j,j<l.length->aG 1 x (.int .i64 (.ofNat j))=.val (.ptr k j)
 cell:∀ j (h:j<l.length),w.cell? ⟨r.b,r.o+j,none⟩=some (.int .u8 (.ofNat l[j]))
 low:r.b<w.heap.size
theorem inner{H:Type}{enc:TypeId×Value->H}{P:Program}{w:World}{o:Nat}{e u:TypeId}{cs:List Value}{x:DataW H×List MemPlace}(N:P.underlying e=some (.slice u))(O:P.underlying u=some (.int .u8))(t:P.cellsOf u=1){z:Nat}(p:z<w.heap.size)(h:DataW.trod enc P w 0 (fun _=>true) true o e cs=some x)(k:Nat):∃ v y l r,cs=[v]/\Inr w v k y l r:=by
 rcases DataW.trod_slice N h with⟨S,_⟩|⟨a,len,B,C,K,n,_,q,_,_,T,_,L,D,_⟩
 ·exact⟨_,.aA,[],⟨[],z,0⟩,S,rfl,fun _ _=>by simp only[aR],g3,rfl,rfl,fun j b=>by simp at b,fun j b=>by simp at b,p⟩
 ·have c:∀ i,i<len->∃ y:Nat,y<256/\w.cell? (a.add i)=some (.int .u8 (.ofNat y)):=by
   intro i m;have I:=D i m;rw[gp om,t,Option.bind_eq_some_iff]at I;obtain⟨U,V,W⟩:=I;obtain⟨y,X,_,E⟩:=DataW.trod_int O W;have J:=(World.cells?_some V).2.2 0 om;rw[X]at J;simp only[Lit.wf,lI0,lO8]at E;have Y:0<=y/\y<=255:=⟨E.1,E.2⟩;refine⟨y.toNat,om,?_⟩;have A:(a.add (i*1)).add 0=a.add i:=by rw[add_add,lI1];rfl
   rw[<-A,J];show some (Value.int .u8 y)=_;congr 2;show y=((y.toNat:Nat):Int);omega
  rcases lXL len with F|F
  ·subst F;exact⟨_,.sle,[],⟨[],z,0⟩,q,rfl,fun _ _=>by simp only[aR];exact⟨_,_,rfl⟩,g3,rfl,rfl,fun j b=>by simp at b,fun j b=>by simp at b,p⟩
  ·obtain⟨Z,_,G⟩:=c 0 F;obtain⟨d,s⟩:=qwa G;obtain⟨g,M⟩:∃ g:Nat->Nat,∀i,i<len->g i<256/\w.cell? ⟨a.block,a.off+i,none⟩=some (.int .u8 (.ofNat (g i))):=by
    refine⟨fun i=>if h:i<len then Classical.choose (c i h)else 0,fun i m=>?_⟩;simp only[m,dif_pos];rw[<-zea d];exact lIR (c i m)
   refine⟨_,.sl k 0 len B true,(List.range len).map g,⟨uQ ((List.range len).map g),a.block,a.off⟩,q,rfl,fun ι Q=>?_,fun y R=>?_,rfl,by rw[lET,lXC];rfl,fun j b=>?_,fun j b=>?_,s⟩
   ·simp only[aR];refine⟨T,_,Q,?_⟩;obtain⟨ab,ao,az⟩:=a;cases d;rfl
   ·obtain⟨i,m,rfl⟩:=lIB.1 R;exact(M i (lIY.1 m)).1
   ·have f:j<len:=by simpa using b
    rw[uY _ _ _ _ _ _ _ _ f,lEW,lI1]
   ·have f:j<len:=by simpa using b
    rw[(M j f).2];simp
theorem xd2{Hd:Type}{enc:TypeId×Value->Hd}{P:Program}{w:World}{I:Nat}{t e u:TypeId}{v:Value}{x:DataW Hd×List MemPlace}(ht:P.underlying t=some (.slice e))(N:P.underlying e=some (.slice u))(hu:P.underlying u=some (.int .u8))(O:P.cellsOf e=1)(Q:P.cellsOf u=1)(h:DataW.trod enc P w 0 (fun _=>true) true I t [v]=some x):∃ι H a L,HR ι H w/\aR ι a v/\iE H a L/\∀ b,(H.get b).wr=false:=by
 have f:∀ b,(Hp.empty.get b).wr=false:=fun b=>by rw[qj8];rfl
 rcases DataW.trod_slice ht h with⟨h0,_⟩|⟨a,len,Z,elems,rest,n,_,hcs,_,_,S,_,hlen,hel,_⟩
 ·cases h0;exact⟨_,_,.aA,[],HR.empty,by simp only[aR],⟨rfl,⟨[],⟨rfl,fun i c=>by simp at c⟩,rfl,fun i c=>by simp at c⟩,g3⟩,f⟩
 ·cases hcs;rcases lXL len with F|F
  ·subst F;exact⟨_,_,.sle,[],HR.empty,by simp only[aR];exact⟨_,_,rfl⟩,⟨rfl,⟨[],⟨rfl,fun i c=>by simp at c⟩,rfl,fun i c=>by simp at c⟩,g3⟩,f⟩
  ·have o:∀ i,i<len->∃ k T,w.cells? 0 (a.add i) 1=some k/\DataW.trod enc P w 0 (fun _=>true) true n e k=some T:=by
    intro i c;have G:=hel i c;rw[gp om,O,Option.bind_eq_some_iff,lI1]at G;obtain⟨k,d,h3⟩:=G;exact⟨k,_,d,h3⟩
   have c0:∃ U,w.cell? (a.add 0)=some U:=by obtain⟨k,T,d,_⟩:=o 0 F;have J:=(World.cells?_some d).2.2 0 om;have hl1:=(World.cells?_some d).2.1;rw[add_add]at J;rw[J,gp om];exact⟨_,rfl⟩
   obtain⟨U,hv0⟩:=c0;obtain⟨p,A⟩:=qwa hv0;have s:∀ i,i<len->∃ q:Value×AV×List Nat×Ro,w.cell? ⟨a.block,a.off+i,none⟩=some q.1/\Inr w q.1 (i+1) q.2.1 q.2.2.1 q.2.2.2:=by intro i c;obtain⟨k,T,d,h3⟩:=o i c;obtain⟨vv,y,l,r,rfl,hI⟩:=inner N hu Q A h3 (i+1);have J:=(World.cells?_some d).2.2 0 om;rw[add_add,zea p]at J;exact⟨⟨vv,y,l,r⟩,J,hI⟩
   obtain⟨g,M⟩:∃ g:Nat->Value×AV×List Nat×Ro,∀i,i<len->w.cell? ⟨a.block,a.off+i,none⟩=some (g i).1/\Inr w (g i).1 (i+1) (g i).2.1 (g i).2.2.1 (g i).2.2.2:=by refine⟨fun i=>if h:i<len then Classical.choose (s i h)else⟨U,.undef,[],⟨[],0,0⟩⟩,fun i c=>?_⟩;simp only[c,dif_pos];exact lIR (s i c)
   let ws:List AV:=(List.range len).map fun i=>(g i).2.1
   let L:List (List Nat):=(List.range len).map fun i=>(g i).2.2.1
   let ks:List Ro:=⟨ws,a.block,a.off⟩::(List.range len).map fun i=>(g i).2.2.2
   have V:ks.length=len+1:=by simp[ks]
   have D:∀ i,i<len->ks[i+1]? =some (g i).2.2.2:=fun i c=>by simp[ks,c]
   have W:∀ i,i<len->wJ ks (i+1)=some ⟨(g i).2.2.2.b,(g i).2.2.2.o,0,0⟩:=fun i c=>by unfold wJ;rw[D i c];rfl
   have E:ws.length=len:=by simp[ws]
   have X:L.length=len:=by simp[L]
   obtain⟨hHR,hwr⟩:=xe2 (w:=w) (ks:=ks) (fun i c=>by
    cases i with
    |zero=>
     refine⟨A,fun j B=>?_⟩;have m:j<len:=by rw[<-E];exact B
     obtain⟨G,d⟩:=M j m;refine⟨_,G,?_,d.one⟩;show aR (wJ ks) ws[j] _;have:ws[j]=(g j).2.1:=by simp[ws]
     rw[this];exact d.rep _ (W j m)
    |succ i=>
     have C:i<len:=om;obtain⟨G,d⟩:=M i C;have Y:ks[i+1]=(g i).2.2.2:=by have:=D i C;rw[gp c]at this;exact Option.some.inj this
     rw[Y];refine⟨d.low,fun j B=>?_⟩;have m:j<(g i).2.2.1.length:=by have:=B;rw[d.eq]at this;simpa [uQ] using this
     refine⟨_,d.cell j m,?_,rfl⟩;have N:(g i).2.2.2.l[j]=.int .u8 (.ofNat ((g i).2.2.1[j])):=by
      have:∀(z:List AV) (F:z=uQ (g i).2.2.1) (R:j<z.length),z[j]=.int .u8 (.ofNat ((g i).2.2.1[j])):=fun z F R=>by subst F;simp[uQ]
      exact this _ d.eq B
     rw[N];simp only[aR])
   have hnx:(q8a ks).nx=len+1:=by rw[(qcy ks).1,V]
   refine⟨wJ ks,q8a ks,.sl 0 0 len Z true,L,hHR,?_,⟨rfl,⟨ws,⟨by rw[E];rfl,fun i c=>?_⟩,by rw[E,X],fun i c C=>?_⟩,fun l S y hy=>?_⟩,hwr⟩
   ·simp only[aR];refine⟨S,⟨a.block,a.off,0,0⟩,rfl,?_⟩;obtain⟨ab,ao,az⟩:=a;cases p;rfl
   ·refine⟨0,0+i*1,uY _ _ _ _ _ _ _ _ om,om,?_⟩;rw[(qcy ks).2];show bI (qsv ws) _=_;rw[q2g,lEW,lI1,gp c]
   ·have K:i<len:=om;obtain⟨G,d⟩:=M i K;have e1:ws[i]=(g i).2.1:=by simp[ws]
    have e2:L[i]=(g i).2.2.1:=by simp[L]
    rw[e1,e2];refine⟨by rw[d.len];simp[uQ],fun j B=>?_⟩;have m:j<(g i).2.2.1.length:=by simpa [uQ] using B
    refine⟨i+1,j,d.at' j m,om,?_⟩;rw[(qcy ks).2,D i K];show bI (qsv (g i).2.2.2.l) j=_;rw[q2g,d.eq,gp B]
   ·obtain⟨i,c,rfl⟩:=lIB.1 S;exact(M i (lIY.1 c)).2.lt y hy
end Go.Di
end
