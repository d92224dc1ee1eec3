/-
 For ReachesGoals: functions in direct style, their contracts, and the plain mathematics, part 10 of 11. No conditions beyond those that each theorem states.
-/
import Derived.Test.YtnojgpkbpnimhaaGreatConA
import Derived.Test.YtnojgpkbpnimhaaGreatConI
import Derived.Test.YtnojgpkbpnimhaaGreatConD
import Derived.Test.YtnojgpkbpnimhaaGreatConE
set_option linter.unusedSimpArgs false
set_option linter.unusedVariables false
open Nat renaming reduceAdd->rB,reduceMul->rI,reduceSub->rK,reduceLeDiff->rL,reduceEqDiff->rN,reduceShiftRight->rS,reduceAnd->r6
section
namespace Go.Di
open Go.Ev Go.Di.T Go.Sort
variable {X:List aQ} {T:List Tu}
variable {H H' H0:Hp} {U:List G3} {b i m n z:Nat}
def tg0(g:G3)(k:Nat)(t:Tu):List G3:=if k=1/\goT t=g/\t.z≠sE then[suT t]else[]
theorem zij(g:G3)(n:Nd)(t:Tu):∀{l:List SS},l.Nodup->l.flatMap (tg1 g n t)=if n.k=3/\goT t=(g.1,n.rl)/\t.z=sE/\t.x∈l then[((t.x,t.y),n.to)]else[]
 | [],_=>g3
 |s::l,h=>by
  rw[lAC]at h;rw[uA,zij g n t h.2];unfold tg1;by_cases e:t.x=s
  ·simp_all
  ·simp_all
theorem z7a(g:G3)(n:Nd)(t:Tu)(h:(iZ X g.1.1 n.rl n.to).Nodup):tg0 g n.k t++(iZ X g.1.1 n.rl n.to).flatMap (tg1 g n t)=yR X g n.k n.rl n.to t:=by
 rw[zij g n t h];unfold tg0 yR;by_cases c:n.k=1/\goT t=g/\t.z≠sE
 ·simp_all
 ·rw[pg c,pg c];rfl
theorem z2j(g:G3)(k:Nat)(rl to:SS)(t:Tu):(yR X g k rl to t).length<=1:=by
 unfold yR;split
 ·simp
 ·split
  ·simp
  ·simp
theorem q3n(g:G3)(k:Nat)(rl to:SS):∀ T:List Tu,(T.flatMap (yR X g k rl to)).length<=T.length
 | []=>lu _
 |t::T=>by have a:=z2j (X:=X) g k rl to t;have b:=q3n g k rl to T;rw[uA,lL,pq];omega
theorem aN4{O:Ev.Call}{H0:Hp}{w1 o p tv sv av ov gv:AV}{a:List (Nd×AV)}{i:Nat}(J:i<a.length){g:G3}{d wb:Nat}(K:Rs 5 kR H0 o a)(V:Rs 1 sC H0 p (iZ X g.1.1 a[i].1.rl a[i].1.to))(L:H0.get d=aB 0 (gC g))(W:H0.get wb=aB 0 [sv,tv,av,ov,gv])(B:d<H0.nx/\wb<H0.nx)(Y:Rs 6 Tu.cells H0 tv T)(dn:∀ b,In o b->b<H0.nx)(Z:∀ b,In p b->b<H0.nx)(r:∀ b,In w1 b->¬ In o b/\¬ In p b/\b≠d/\b≠wb/\¬ In tv b)(v:(iZ X g.1.1 a[i].1.rl a[i].1.to).Nodup)(hl:(iZ X g.1.1 a[i].1.rl a[i].1.to).length<=1000)(M:T.length<=20){acc:List G3}(N:acc.length<=900000)(x:i<=1000000){Q:pL}{q:pD}(hq:∀ w H,lW 3 gC (In w1) H0 H w (acc++T.flatMap (yR X g a[i].1.k a[i].1.rl a[i].1.to))->Ok (q w H) Q):∀(k m:Nat) (w:AV) (H:Hp),m<=T.length->T.length-m<k->lW 3 gC (In w1) H0 H w (acc++(T.take m).flatMap (yR X g a[i].1.k a[i].1.rl a[i].1.to)) -> Ok (qcn O q (.ptr wb 0) (.ptr d 0) o (iN i) p k w (iN m) H) Q
 |0,m,_,_,_,h,_=>om
 |k+1,m,w,H,hm,hk,ha=>by
  show Ok (q0h O _ _ _ _ _ _ (qcn O _ _ _ _ _ _ k) _ _ H) Q;unfold q0h;have y:=ha.fm;have hnx:=y.nx;have c:=(y.get wb B.2 fun h=>(r wb h).2.2.2.1 rfl).trans W;have P:=K.dP y fun b j h=>(r b h).1 j;have z:=Y.dP y fun b j h=>(r b h).2.2.2.2 j;have e0:=z.len;by_cases n:m<T.length
  ·simp only[go_sem,c,e0,n];rw[kE qe0];unfold qe0;obtain⟨b1,o1,E,d2,_,d3,d4⟩:=P.at' i J;have C:bX (H.get b1) o1=.val (uN (a[i].1.k)):=d4 0 (by rw[r9];omega);obtain⟨b2,o2,F,c2,A⟩:=z.oZ n;have R:Fm No H ((aI H (aB 0 [zS,zS,zS,zS,zS,zS])).put H.nx (aB 0 T[m].cells)):=by exact kP
   have hfT:=q3n (X:=X) g a[i].1.k a[i].1.rl a[i].1.to (T.take m);have htk:(T.take m).length<=T.length:=by rw[qx];exact uy _ _
   -- the targets, then the next U
   have next:∀(f:AV) (e:Hp),lW 3 gC (In w1) H0 e f (acc++(T.take m).flatMap (yR X g a[i].1.k a[i].1.rl a[i].1.to)++tg0 g a[i].1.k T[m])->(a[i].1.k=3->e.get H.nx=aB 0 T[m].cells/\H.nx<e.nx/\¬ In f H.nx) ->
     Ok (kA qdu O (qcn O q (.ptr wb 0) (.ptr d 0) o (iN i) p k) (.ptr d 0) f o (iN i) p (iN m) (.ptr H.nx 0) e) Q:=fun f e s h3=>by
    rw[kE qdu];unfold qdu q0j;rw[dD];have D:=s.fm;have n2:=D.nx;have hz:(tg0 g a[i].1.k T[m]).length<=1:=by unfold tg0;split<;>simp
    refine aMw J (t:=T[m]) (K.dP D fun b j h=>(r b h).1 j) (V.dP D fun b j h=>(r b h).2.1 j) ((D.get d B.1 fun h=>(r d h).2.2.1 rfl).trans L) h3 om (fun b j=>?_) hl (acc:=acc++(T.take m).flatMap (yR X g a[i].1.k a[i].1.rl a[i].1.to)++tg0 g a[i].1.k T[m]) (by simp only[lL];omega) x (fun w3 H3 h4=>?_) bZ 0 f e (gp _) lf (by simpa using (⟨s.gl,Fm.refl _ _,fun _ k=>.inl k⟩:lW 3 gC (In f) e e f _)) g3
    ·rcases s.nw b j with h|h
     ·simp_all
     ·exact⟨fun h=>by have:=dn b h;omega,fun h=>by have:=Z b h;omega,om⟩
    ·unfold qgd;refine aT ?_;refine aN4 J K V L W B Y dn Z r v hl M N x hq k (m+1) w3 H3 om om ?_;have h5:=s.comp h4;rw[qw,z7a g a[i].1 T[m] v]at h5;rw[lh n,qy,ry,<-qw];exact h5
   have l:=(y.get d B.1 fun h=>(r d h).2.2.1 rfl).trans L;have q1:=aDB (goT T[m]) g;have eg:gC g=[.str g.1.1.n g.1.1.a,.str g.1.2.n g.1.2.a,.str g.2.n g.2.a]:=rfl;have et:T[m].cells=[.str T[m].a.n T[m].a.a,.str T[m].b.n T[m].b.a,.str T[m].c.n T[m].c.a,.str T[m].x.n T[m].x.a,.str T[m].y.n T[m].y.a,.str T[m].z.n T[m].z.a]:=rfl;have eq:gC (goT T[m])=[.str T[m].a.n T[m].a.a,.str T[m].b.n T[m].b.a,.str T[m].c.n T[m].c.a]:=rfl;rw[eg,eq]at q1;rw[eg]at l;rw[et]at A R next
   have no:tg0 g a[i].1.k T[m]=[]->Ok (kA qdu O (qcn O q (.ptr wb 0) (.ptr d 0) o (iN i) p k) (.ptr d 0) w o (iN i) p (iN m) (.ptr H.nx 0) _) Q:=fun h=>next w _ (by rw[h,uf];exact ha.no R) fun _=>⟨dN _ _ _,gx,fun h=>by have:=ha.gl.lt h;omega⟩
   by_cases u:a[i].1.k=1
   ·by_cases G:goT T[m]=g
    ·rw[qc G]at q1;by_cases I:T[m].z.n=0/\T[m].z.a=0
     ·have S:=qc I;simp(disch:=first|omega|exact ti rfl)only[go_sem,seval,c,F,A,E,C,u,l,q1,qec,S];exact no (pg fun h=>h.2.2 ((ssE _).1 I))
     ·have S:=ql I;simp(disch:=go_size)only[go_sem,seval,c,F,A,E,C,u,l,q1,qec,S];refine Ok.ve ((ha.no (R.push (aB 0 (gC (suT T[m]))))).add (suT T[m]) 48 rfl (by rw[lL];omega) (by rw[lL];omega)) ?_;intro f e s;refine next f e ?_ fun h=>om
      unfold tg0;rw[qj ⟨u,G,fun h=>I ((ssE _).2 h)⟩];exact s
    ·rw[ql G]at q1;simp(disch:=first|omega|exact ti rfl)only[go_sem,seval,c,F,A,E,C,u,l,q1,qec];exact no (pg fun h=>G h.2.1)
   ·refine siG c F A E C u ?_;exact no (pg fun h=>u h.1)
  ·simp only[go_sem,c,e0,n];rw[tq om]at ha;exact hq w H ha
theorem q3m(g:G3)(k:Nat)(rl to:SS)(h:T.length<=20):(rfN X T g k rl to).length<=21:=by
 unfold rfN;have:=q3n (X:=X) g k rl to T;rw[lL];split
 ·rw[lAN];omega
 ·rw[uo];omega
def nlF(X:List aQ)(T:List Tu)(g:G3)(nl:List (Nd×AV)):List G3:=nl.flatMap fun y=>rfN X T g y.1.k y.1.rl y.1.to
theorem zkh(g:G3)(h:T.length<=20):∀ a:List (Nd×AV),(nlF X T g a).length<=21*a.length
 | []=>lu _
 |y::a=>by have b:=q3m (X:=X) g y.1.k y.1.rl y.1.to h;have c:=zkh g h a;unfold nlF at *;rw[uA,lL,pq];omega
theorem aLP{j:Nat}(I:3<=j){H0:Hp}{t tv sv av ov gv:AV}{c:List (Nd×AV)}{g:G3}{n wb:Nat}(J:bY H0 sv X)(D:sD X)(u:Rs 5 kR H0 t c)(E:H0.get n=aB 0 (gC g))(K:H0.get wb=aB 0 [sv,tv,av,ov,gv])(A:n<H0.nx/\wb<H0.nx)(L:Rs 6 Tu.cells H0 tv T)(dn:∀ b,In t b->b<H0.nx)(M:∀ b,In tv b->b<H0.nx)(v:∀ a b:SS,(iZ X g.1.1 a b).Nodup)(f:T.length<=20)(F:c.length<=1000){Q:pL}{q:pD}(N:∀ w H,Ac 3 gC H0 H w (nlF X T g c)->Ok (q w H) Q):∀(k i:Nat) (w:AV) (H:Hp),i<=c.length->c.length-i<k->Ac 3 gC H0 H w (nlF X T g (c.take i)) -> Ok (uO (C j) q (.ptr wb 0) (.ptr n 0) t k w (iN i) H) Q
 |0,i,_,_,_,h,_=>om
 |k+1,i,w,H,hi,hk,ha=>by
  show Ok (q0i (C j) _ _ _ _ (uO (C j) _ _ _ _ k) _ _ H) Q;unfold q0i;have O:=ha.fm;have P:=u.len;by_cases d:i<c.length
  ·simp only[go_sem,P,d];rw[kE qez];unfold qez;obtain⟨b1,o1,d1,d2,_,d3,d4⟩:=(u.fm O).at' i d;have R:bX (H.get b1) o1=.val (uN (c[i].1.k)):=d4 0 (by rw[r9];omega);have r1:bX (H.get b1) (o1+1)=.val (.str c[i].1.rl.n c[i].1.rl.a):=d4 1 (by rw[r9];omega);have x:=(O.keep A.1).trans E;have S:gC g=[.str g.1.1.n g.1.1.a,.str g.1.2.n g.1.2.a,.str g.2.n g.2.a]:=rfl;have hln:=zkh (X:=X) g f (c.take i);have htk:(c.take i).length<=c.length:=by rw[qx];exact uy _ _
   have next:∀(l:AV) (e:Hp),Ac 3 gC H0 e l (nlF X T g (c.take i)++if c[i].1.k=2 then[(g.1,c[i].1.rl)]else[]) ->
     Ok (kA qdm (C j) (uO (C j) q (.ptr wb 0) (.ptr n 0) t k) (.ptr wb 0) (.ptr n 0) l t (iN i) e) Q:=fun l e o=>by
    rw[kE qdm];unfold qdm;have r:=o.fm;have n2:=r.nx;have g2:=(r.keep A.1).trans E;have y:=(r.keep A.2).trans K;obtain⟨B,p1,x1,x2,_,x3,x4⟩:=(u.fm r).at' i d;have U:bX (e.get B) (p1+1)=.val (.str c[i].1.rl.n c[i].1.rl.a):=x4 1 (by rw[r9];omega);have V:bX (e.get B) (p1+2)=.val (.str c[i].1.to.n c[i].1.to.a):=x4 2 (by rw[r9];omega);rw[S]at g2;simp only[go_sem,seval,y,g2,x1,U,V];refine Ok.iD (qsz I (J.fm r) D g.1.1 c[i].1.rl c[i].1.to) ?_;rintro xv z s;replace s:Ac 1 sC e z xv (iZ X g.1.1 c[i].1.rl c[i].1.to):=s;have m:=s.fm;have n3:=m.nx;have z1:bX (z.get B) (p1+1)=.val (.str c[i].1.rl.n c[i].1.rl.a):=by rw[m.keep x2];exact U
    have z2:bX (z.get B) (p1+2)=.val (.str c[i].1.to.n c[i].1.to.a):=by rw[m.keep x2];exact V
    have W:=(m.keep (show n<e.nx by omega)).trans g2;have Y:=(m.keep (show wb<e.nx by omega)).trans y;simp only[go_sem,z1,z2,W,Y];unfold q0k;rw[dD];have Z:=r.trans m;have h3:=o.no m;have tl:=qji D g.1.1 c[i].1.rl c[i].1.to;refine aN4 d (H0:=z) (w1:=l) (u.fm Z) (s.rs qlp) W Y ⟨om,om⟩ (L.fm Z) (fun b p=>by have:=dn b p;omega) (fun b p=>s.gl.lt p) (fun b p=>?_) (v _ _) om f (acc:=nlF X T g (c.take i)++if c[i].1.k=2 then[(g.1,c[i].1.rl)]else[]) ?_ om (fun w3 H4 h4=>?_) bZ 0 l z (gp _) lf (by simpa using h3.start)
    ·have p1:=o.nw b p;have p2:=o.gl.lt p;exact⟨fun h=>by have:=dn b h;omega,fun h=>by have:=s.nw b h;omega,om,om,fun h=>by have:=M b h;omega⟩
    ·rw[lL];split<;>simp<;>omega
    ·unfold vN;refine aT ?_;refine aLP I J D u E K A L dn M v f F N k (i+1) w3 H4 om om ?_;have h5:=h3.fin h4;unfold nlF at h5 ⊢;rw[lh d,qy,ry];unfold rfN;rw[<-qw];exact h5
   by_cases G:c[i].1.k=2
   ·rw[S]at x;simp only[go_sem,seval,d1,R,r1,G,x];refine Ok.iD ((ha.no (((Fm.refl No H).up 12).aG (H.nx+9) (aB 0 (gC (g.1,c[i].1.rl))) om)).add (g.1,c[i].1.rl) 48 rfl om om) ?_;intro l e o;simp only[go_sem];exact next l e (by rw[qj G];exact o)
   ·simp only[go_sem,d1,R,G];simp_all
  ·simp only[go_sem,P,d];rw[tq om]at ha;exact N w H ha
def nJ(X:List aQ)(T:List Tu)(g:G3):List G3:=match lF X g.1.1 g.2 with
 |none=>[]
 |some x=>(x.r.rule.nodes false).flatMap fun y=>rfN X T g y.k y.rl y.to
structure WdR(X:List aQ)(T:List Tu)(H:Hp)(ws:List AV):Prop where
 ex:∃ sv tv av ov gv,ws=[sv,tv,av,ov,gv]/\bY H sv X/\Rs 6 Tu.cells H tv T/\∀ b,In tv b->b<H.nx
theorem WdR.fm{ws:List AV}(h:WdR X T H ws)(f:Fm No H H'):WdR X T H' ws:=by obtain⟨sv,tv,c,ov,d,e,g,i,j⟩:=h.ex;exact⟨sv,tv,c,ov,d,e,g.fm f,i.fm f,fun b a=>ku (j b a) f.nx⟩
theorem qu8{k:Nat}(hk:20<=k){ws:List AV}(hW:WdR X T H ws)(t:dB X)(E:T.length<=20){g:G3}(F:(g.1.1,g.2)∈aF X)(G:∀ a b:SS,(iZ X g.1.1 a b).Nodup):Ok (C k (.f 11) [.agg ws,.agg (gC g)] H) fun r H'=>Ac 3 gC H H' r (nJ X T g):=by
 obtain⟨j,rfl⟩:=aP hk;rw[lk (znu ..)];unfold zIi zyr;obtain⟨sv,tv,Y,ov,Z,rfl,R,hT,hd⟩:=hW.ex;have V:gC g=[.str g.1.1.n g.1.1.a,.str g.1.2.n g.1.2.a,.str g.2.n g.2.a]:=rfl;have K:=t.pr.sml;have L:Fm No H (aI (aI H (aB 0 [sv,tv,Y,ov,Z])) (aB 0 (gC g))):=by(repeat refine Fm.push ?_ _);exact Fm.refl _ _
 rw[V]at L ⊢;refine aT ?_;refine Ok.ve (qll (k:=j) om (R.fm L) (by have:=K.n;omega) (fun p I=>by have:=K.r p I;omega) g.1.1 g.2) ?_;rintro _ H1 ⟨v,i⟩;obtain⟨x,y,_⟩:=qda t.al t.sp F;unfold qz3 at i;rw[y]at i;subst i;have iE:=L.trans v;have n1:=v.nx;simp only[np]at n1;have M:=qp3 R y;obtain⟨p,I,S,_,_⟩:=qci y;have n:=(t.pr.x p I x S).2.2.1;have d:=M.ru;obtain⟨c0,z,A,B,q⟩:=d.four;have N:gP x=[.str x.r.name.n x.r.name.a,x.tv,c0,z,A,B]:=by unfold gP;rw[q];rfl
 rw[N];have W:Fm No H ((aI H1 (aB 0 [zS,.aA,uN 0,zS,zS,.aA])).put H1.nx (aB 0 [.str x.r.name.n x.r.name.a,x.tv,c0,z,A,B])):=(iE.push _).aG _ _ om;have O:Fm No H1 ((aI H1 (aB 0 [zS,.aA,uN 0,zS,zS,.aA])).put H1.nx (aB 0 [.str x.r.name.n x.r.name.a,x.tv,c0,z,A,B])):=by exact kP
 have Q:∀ x,¬In AV.aA x:=fun x h=>by obtain⟨_,_,_,_,h⟩:=h;cases h
 have q1:=n.dp;have q2:=n.sz;refine aT ?_;refine Ok.ve (qvf x.r.rule j om .aA false _ (l:=[]) (P:=fun _=>True) (cs:=[c0,z,A,B]) (Gl.nil 5 _) ?_ (fun b _=>Q b) g2) ?_
 ·rw[q]at d;exact d.fm W
 rintro w s ⟨l,D,U⟩;have o:l.map Prod.fst=x.r.rule.nodes false:=by simpa using U
 have hln:l.length=x.r.rule.size:=by have:=congrArg List.length o;simpa [qby] using this
 have f:Fm No H1 s:=O.then D.fm fun c _ h=>absurd h (Q c);have u:Fm No H s:=W.then D.fm fun c _ h=>absurd h (Q c);have n2:=f.nx;have k0:s.get H.nx=aB 0 [sv,tv,Y,ov,Z]:=((v.trans f).keep g1).trans g6;have k1:s.get (H.nx+1)=aB 0 (gC g):=((v.trans f).keep gz).trans (by rw[V];simp(disch:=go_size)only[go_sem,seval]);unfold q0l;rw[dD];refine aLP (j:=j) om (R.fm u) K (D.gl.rs r9) k1 k0 ⟨om,om⟩ (hT.fm u) (fun b m=>D.gl.lt m) (fun b m=>by have:=hd b m;have:=u.nx;omega) G E om (fun w3 H3 J=>?_) bZ 0 .aA s (gp _) lf (Ac.nil 3 _ (Fm.refl _ _));have e:nJ X T g=nlF X T g l:=by unfold nJ nlF;rw[y];simp only;rw[<-o,lAK]
 rw[e];exact Ok.ret ⟨J.gl,u.trans J.fm,fun b m=>by have:=J.nw b m;omega⟩
def jY(l r:List G3):List G3:=r.foldl (fun l x=>if x∈l then l else l++[x]) l
theorem qzy(l:List G3){r:List G3}(h:m<r.length):jY l (r.take (m+1))=if r[m]∈jY l (r.take m)then jY l (r.take m)else jY l (r.take m)++[r[m]]:=by unfold jY;rw[lh h,List.foldl_append];rfl
def tbF(R:G3->List G3):Nat->Nat->List G3->List G3
 |0,_,l=>l
 |n+1,i,l=>if h:i<l.length then tbF R n (i+1) (jY l (R l[i]))else l
structure xE(U l:List G3):Prop where
 nd:l.Nodup
 sub:∀ x∈l,x∈U
theorem xE.add{U:List G3}:∀{r l:List G3},xE U l->(∀x∈r,x∈U)->xE U (jY l r)
 | [],_,h,_=>h
 |x::r,l,h,hr=>by
  refine xE.add (r:=r) (l:=if x∈l then l else l++[x]) ?_ fun y c=>hr y (uk _ c);split
  ·exact h
  ·rename_i g;refine⟨yw.2 ⟨h.nd,g3,fun a d b f e=>?_⟩,fun y c=>?_⟩
   ·simp_all
   ·rcases qi.1 c with c|c
    ·exact h.sub y c
    ·simp_all
theorem xE.len{U l:List G3}(h:xE U l):l.length<=U.length:=z3d h.nd h.sub
theorem z6w{j:Nat}(t:1<=j){H1:Hp}{w1 rv:AV}{l a U:List G3}(u:Rs 3 gC H1 rv a)(v:∀ b,In w1 b->¬ In rv b)(y:xE U l)(e:∀ x∈a,x∈U)(F:U.length<=1000)(n:a.length<=100000){Q:pL}{q:pD}(z:∀ w H,lW 3 gC (In w1) H1 H w (jY l a)->Ok (q w H) Q):∀(k m:Nat) (w:AV) (H:Hp),m<=a.length->a.length-m<k->lW 3 gC (In w1) H1 H w (jY l (a.take m)) -> Ok (qnu (C j) q rv k w (iN m) H) Q
 |0,m,_,_,_,h,_=>om
 |k+1,m,w,H,hm,hk,ha=>by
  show Ok (q0m (C j) _ _ (qnu (C j) _ _ k) _ _ H) Q;unfold q0m;have K:=ha.fm;have f:=u.dP K fun b G h=>v b h G;have A:=f.len;by_cases c:m<a.length
  ·simp only[go_sem,A,c];unfold zck;obtain⟨b,o,D,N,_,E,_⟩:=f.at' m c;have B:List.take 3 (gC a[m])=gC a[m]:=rfl;have p:xE U (jY l (a.take m)):=y.add fun x I=>e x (oz I);have L:=p.len;have next:∀(g:AV) (d:Hp),lW 3 gC (In w1) H1 d g (jY l (a.take (m+1)))->Ok (vN (C j) (qnu (C j) q rv k) g (iN m) d) Q:=fun g d J=>by
    unfold vN;refine aT ?_;exact z6w t u v y e F n z k (m+1) g d om om J
   rw[qzy l c]at next
   simp only[go_sem,D,E,vP,B];refine Ok.ve (z6y t (ha.gl.rs vP) om a[m]) ?_;rintro _ d ⟨r,⟨s,i,rfl⟩|⟨s,rfl⟩⟩
   ·rw[qj s]at next
    exact next w d (ha.no r)
   ·rw[pg s]at next
    have M:fD (d.get b) o 3=some (gC a[m]):=by rw[r.keep N];exact E
    refine jD D M vP B ?_;refine Ok.ve ((ha.no (r.push (aB 0 (gC a[m])))).add a[m] 48 rfl om om) ?_;omega
  ·simp only[go_sem,A,c];rw[tq om]at ha;exact z w H ha
structure Stk(X:List aQ)(U:List G3)(R:G3->List G3):Prop where
 dc:∀ g∈U,(g.1.1,g.2)∈aF X
 cl:∀ g∈U,∀r∈R g,r∈U
 n:U.length<=500
theorem zsx{x:bB}{g:G3}(b:dB X)(c:lF X g.1.1 g.2=some x):(x.r.rule.nodes false).length<=32:=by obtain⟨p,d,a,_,_⟩:=qci c;have:=((b.pr.x p d x a).2.2.1).sz;rw[qby];exact this
theorem qjp(a:dB X)(b:T.length<=20)(g:G3):(nJ X T g).length<=672:=by
 unfold nJ;cases h:lF X g.1.1 g.2 with
 |none=>simp
 |some x=>
  have d:=zsx a h;have c:∀ l:List Nd,(l.flatMap fun y=>rfN X T g y.k y.rl y.to).length<=21*l.length:=fun l=>by
   induction l with
   |nil=>exact lu _
   |cons y l ih=>have:=q3m (X:=X) g y.k y.rl y.to b;rw[uA,lL,pq];omega
  have:=c (x.r.rule.nodes false);simp only;omega
theorem q4q:∀(r l:List G3),l.length<=(jY l r).length
 | [],_=>lu _
 |x::r,l=>by
  have:=q4q r (if x∈l then l else l++[x]);refine rq ?_ this;split
  ·simp
  ·simp
theorem aM6{j:Nat}(y:20<=j){H0:Hp}{ws:List AV}{wb:Nat}{U f:List G3}(z:WdR X T H0 ws)(g:H0.get wb=aB 0 ws)(A:wb<H0.nx)(t:dB X)(u:T.length<=20)(m:∀ a b c:SS,(iZ X a b c).Nodup)(n:Stk X U (nJ X T)){Q:pL}{q:AV->pD}(F:∀ w c H,Ac 3 gC H0 H w f->Ok (q w (iN c) H) Q):∀(k i:Nat) (l:List G3) (w:AV) (c:Nat) (H:Hp),i<=l.length->U.length-i<k->xE U l->c<=672*i->tbF (nJ X T) k i l=f->Ac 3 gC H0 H w l -> Ok (qwc (C j) q (.ptr wb 0) k w (iN c) (iN i) H) Q
 |0,i,_,_,_,_,_,h,_,_,_,_=>om
 |k+1,i,l,w,c,H,hi,hk,hl,hc,hr,ha=>by
  show Ok (zcl (C j) _ _ (qwc (C j) _ _ k) _ _ _ H) Q;unfold zcl;have L:=hl.len;have M:=n.n;have B:=ha.bM;have v:=ha.fm;unfold tbF at hr;by_cases d:i<l.length
  ·rw[dif_pos d]at hr;simp only[go_sem,B,d];unfold zcj;have x:=hl.sub _ (lg d);obtain⟨b,o,S,V,W,E,_⟩:=(ha.rs vP).at' i d;have D:List.take 3 (gC l[i])=gC l[i]:=rfl;have w1:=(v.keep A).trans g;have p:=z.fm v;have nx:=v.nx;obtain⟨sv,tv,Y,ov,Z,rfl,_⟩:=p.ex;simp only[go_sem,seval,w1,S,E,vP,D];refine Ok.iD (qu8 y p t u (n.dc _ x) fun a b=>m _ a b) ?_;rintro rv s e;replace e:Ac 3 gC H s rv (nJ X T l[i]):=e;have r:=e.fm;have N:fD (s.get b) o 3=some (gC l[i]):=by rw[r.keep V];exact E
   have O:=(r.keep (show wb<H.nx by omega)).trans w1;have P:=e.bM;have R:=qjp (X:=X) t u l[i];refine nI O N vP D P ?_;unfold zcm;rw[dD];refine z6w (j:=j) om (H1:=s) (w1:=w) (e.rs vP) (fun b G h=>?_) hl (n.cl _ x) om om (fun I J K=>?_) bZ 0 w s (gp _) lf (by simpa [jY] using (ha.no r).start)
   ·have:=ha.gl.lt G;have:=e.nw b h;omega
   ·unfold zci;refine aT ?_;exact aM6 y z g A t u m n F k (i+1) (jY l (nJ X T l[i])) I _ J (by have:=q4q (nJ X T l[i]) l;omega) om (hl.add (n.cl _ x)) om hr ((ha.no r).fin K)
  ·rw[dif_neg d]at hr;subst hr;simp only[go_sem,B,d];simp_all
theorem Ac.new1{α:Type}{f:α->List AV}(x:α)(a:(f x).length=z):Ac z f H0 (aI H0 (aB 0 (f x))) (.sl H0.nx 0 1 1 true) [x]:=
 ⟨⟨by simp[a],.inr ⟨H0.nx,0,true,0,f x,rfl,jG _ _,gp _,g3,.inl rfl,gx⟩⟩,(Fm.refl _ _).push _,fun b c=>by obtain⟨_,_,_,_,h⟩:=c;cases h;exact lu _⟩
theorem xE.one{g:G3}(h:g∈U):xE U [g]:=⟨g3,fun x a=>by rw[qf]at a;rw[a];exact h⟩
def aCQ(R:G3->List G3)(g:G3):List G3:=tbF R bZ 0 [g]
theorem qx7{k:Nat}(m:21<=k){ws:List AV}{g:G3}(h:WdR X T H ws)(n:dB X)(o:T.length<=20)(d:∀ a b c:SS,(iZ X a b c).Nodup)(i:Stk X U (nJ X T))(p:g∈U):Ok (C k (.f 7) [.agg ws,.agg (gC g)] H) fun r H'=>∃ w c,r=.bA [w,c]/\Ac 3 gC H H' w (aCQ (nJ X T) g):=by
 obtain⟨j,rfl⟩:=aP m;rw[lk (znx ..)];unfold zIf zyu;obtain⟨sv,tv,t,ov,u,rfl,_⟩:=h.ex;have l:gC g=[.str g.1.1.n g.1.1.a,.str g.1.2.n g.1.2.a,.str g.2.n g.2.a]:=rfl;rw[l];refine aT ?_;unfold zu7;rw[dD];have f:Fm No H (aI (aI H (aB 0 [sv,tv,t,ov,u])) (aB 0 (gC g))):=by exact qO
 have s:=i.n;refine aM6 (j:=j) om (h.fm f) (wb:=H.nx) (by rw[l];simp(disch:=first|go_size|omega)only[go_sem,seval]) g1 n o d i (fun w c H1 e=>?_) bZ 0 [g] _ 0 _ (gp _) lf (xE.one p) (gp _) rfl (Ac.new1 g rfl);have v:=f.nx;exact Ok.ret ⟨w,_,rfl,e.gl,f.trans e.fm,fun b q=>by have:=e.nw b q;omega⟩
def sF(g:G3):AV:=.agg (gC g)
abbrev mW:AV->AV->Option Bool:=dQ (eqFields [((pA 2),⟨dQ (eqFields [(p1,⟨bL⟩,0),(p1,⟨bL⟩,1)])⟩,0),(p1,⟨bL⟩,2)])
theorem qpt(p q:G3):mW (sF p) (sF q)=some (decide (p=q)):=aDB p q
def vS(T:List Tu)(g:G3):List Tu:=T.filter fun t=>decide (goT t=g)
theorem zln(T:List Tu)(t:Tu)(g:G3):vS (T++[t]) g=vS T g++if goT t=g then[t]else[]:=by unfold vS;congr 1;by_cases h:goT t=g<;>simp[h]
structure MB(H0 H:Hp)(b:Nat)(T:List Tu)(es:List gD)(gs:List G3):Prop where
 get:H.get b=.map es es.length
 key:es.map gD.key=gs.map sF
 born:∀(i:Nat) (e:gD),es[i]? =some e->e.born=i
 mem:∀ t∈T,goT t∈gs
 nd:gs.Nodup
 val:∀(i:Nat) (e:gD) (g:G3),es[i]? =some e->gs[i]? =some g->Gl 6 H e.val (vS T g).length ((vS T g).flatMap Tu.cells)
 nw:∀(i:Nat) (e:gD) (c:Nat),es[i]? =some e->In e.val c->H0.nx<=c
 dj:∀(i j:Nat) (e e':gD) (c:Nat),i≠j->es[i]? =some e->es[j]? =some e'->In e.val c->¬ In e'.val c
theorem MB.len{es:List gD}{a:List G3}(h:MB H0 H b T es a):es.length=a.length:=by have:=congrArg List.length h.key;simpa using this
theorem MB.fm{es:List gD}{d:List G3}(h:MB H0 H b T es d)(f:Fm No H H')(j:b<H.nx):MB H0 H' b T es d:=
 ⟨(f.keep j).trans h.get,h.key,h.born,h.mem,h.nd,fun i e g a c=>(h.val i e g a c).no f,h.nw,h.dj⟩
theorem MB.no{es:List gD}{d:List G3}(h:MB H0 H b T es d){e:gD}{g:G3}(f:es[i]? =some e)(j:d[i]? =some g){c:Nat}(k:In e.val c):c≠b:=fun l=>by
 subst l;obtain⟨_,_,_,_,a⟩:=k;rcases(h.val i e g f j).is with⟨h1,_⟩|⟨b',o,x,q,L,h1,h2,_⟩
 ·simp_all
 ·rw[h1]at a;injection a with a;have:=h.get;rw[<-a,h2]at this;cases this
theorem z6r(g:G3):sameKey (sF g) (sF g)=true:=by
 obtain⟨⟨a,b⟩,c⟩:=g;show qxx [.str a.n a.a,.str b.n b.a,.str c.n c.a] [.str a.n a.a,.str b.n b.a,.str c.n c.a]=true;have q:∀ s:SS,eqS s.n s.a s.n s.a=true:=fun s=>by simp[eqS]
 simp[qxx,zjd,q]
theorem MB.entry{es:List gD}{d:List G3}(h:MB H0 H b T es d)(A:b<H.nx)(g:G3):∃s u n e k,qj1 ⟨mW,some 3⟩ .aA H (.map b) (.agg (gC g))=.ok (.bA [e.val,iN n]) (H.put b k)/\MB H0 (H.put b k) b T s u/\s[n]? =some e/\u[n]? =some g:=by
 have S:=h.len;obtain⟨g1,g2⟩:=qeo qpt g es d 0 h.key;by_cases z:g∈d
 ·obtain⟨e,y,x2⟩:=g2 z;have I:=h.born _ _ y;have v:=(qp.1 y).1;have J:d[d.findIdx fun q=>decide (q=g)]? =some g:=by
   rw[lq om];congr 1;have:=lEF (p:=fun q=>decide (q=g)) (xs:=d) (w:=om);simp_all
  have O:e.key=sF g:=by have:=congrArg (fun l=>l[d.findIdx fun q=>decide (q=g)]?) h.key;simp_all
  have P:es.set (d.findIdx fun q=>decide (q=g)) ⟨sF g,e.val,e.born⟩=es:=by rw[<-O];have:es[d.findIdx fun q=>decide (q=g)]=e:=(qp.1 y).2;subst this;exact List.set_getElem_self v
  refine⟨es,d,_,e,.map es es.length,?_,?_,y,J⟩
  ·show qj1 ⟨mW,some 3⟩ .aA H (.map b) (sF g)=_;have K:qp2 ⟨mW,some 3⟩ (sF g) es=some (some ⟨0+d.findIdx (fun q=>decide (q=g)),e⟩):=x2;unfold qj1;simp only[h.get,K,O,z6r,uB,qg,I];simp_all
  ·exact⟨dN _ _ _,h.key,h.born,h.mem,h.nd,fun i e g a c=>(h.val i e g a c).fm ((Fm.refl (· =b) H).put b _ fun _=>rfl) fun x B=>h.no a c B,h.nw,h.dj⟩
 ·have K:qp2 ⟨mW,some 3⟩ (sF g) es=some none:=g1 z;have L:vS T g=[]:=List.filter_eq_nil_iff.2 fun t C=>by
   simp only[yc];intro e;exact z (by rw[<-e];exact h.mem t C)
  have V:∀ x,¬In AV.aA x:=fun x h=>by obtain⟨_,_,_,_,h⟩:=h;cases h
  have sp:∀(i:Nat) (e:gD),(es++[⟨sF g,.aA,es.length⟩])[i]? =some e->(es[i]? =some e/\i<es.length)\/(i=es.length/\e=⟨sF g,.aA,es.length⟩):=fun i e m=>by
   by_cases v:i<es.length
   ·rw[uj v]at m;exact .inl ⟨m,v⟩
   ·have M:=(qp.1 m).1;have:i=es.length:=by simp at M;omega
    simp_all
  refine⟨es++[⟨sF g,.aA,es.length⟩],d++[g],es.length,⟨sF g,.aA,es.length⟩,.map (es++[⟨sF g,.aA,es.length⟩]) (es.length+1),?_,⟨?_,?_,fun i e m=>?_,fun t C=>bz _ (h.mem t C),?_,fun i e Q m o=>?_,fun i e c m D=>?_,fun i j e N c E m F D G=>?_⟩,?_,?_⟩
  ·show qj1 ⟨mW,some 3⟩ .aA H (.map b) (sF g)=_;unfold qj1;simp only[h.get,K]
  ·rw[dN,lL];rfl
  ·rw[ui,ui,h.key];rfl
  ·rcases sp i e m with⟨f,_⟩|⟨f,r⟩
   ·exact h.born i e f
   ·rw[r,f]
  ·exact yw.2 ⟨h.nd,g3,fun a R b A e=>by rw[qf]at A;exact z (by rw[<-A,<-e];exact R)⟩
  ·rcases sp i e m with⟨f,r⟩|⟨f,r⟩
   ·rw[uj om]at o;exact(h.val i e Q f o).fm ((Fm.refl (· =b) H).put b _ fun _=>rfl) fun x B=>h.no f o B
   ·subst f;rw[S,uh (lu _),og]at o;cases o;rw[r,L];exact Gl.nil 6 _
  ·rcases sp i e m with⟨f,_⟩|⟨_,r⟩
   ·exact h.nw i e c f D
   ·simp_all
  ·rcases sp i e m with⟨f,_⟩|⟨_,r⟩
   ·rcases sp j N F with⟨U,_⟩|⟨_,W⟩
    ·exact h.dj i j e N c E f U D G
    ·simp_all
   ·simp_all
  ·simp
  ·simp_all
theorem q7a:∀(es:List gD) (i n:Nat) (e:gD),(∀(k:Nat) (x:gD),es[k]? =some x->x.born=i+k)->es[n]? =some e->qxj (i+n) es i=some ⟨i+n,e⟩
 | [],_,_,_,_,h=>by cases h
 |x::es,i,n,e,hb,h=>by
  have c:=hb 0 x rfl;show(bif Nat.beq x.born (i+n)then some ⟨i,x⟩else qxj (i+n) es (i+1))=_;cases n with
  |zero=>simp_all
  |succ n=>
   have a:Nat.beq x.born (i+(n+1))=false:=by rw[lAE];intro k;have:=rf k;omega
   rw[a];have:=q7a es (i+1) n e (fun k y b=>by rw[hb (k+1) y b];omega) h;rw[show i+1+n=i+(n+1)by omega]at this;exact this
theorem MB.store{H0 H s:Hp}{es:List gD}{w:List G3}(h:MB H0 H b T es w)(U:b<H.nx)(V:b<H0.nx){e:gD}{t:Tu}(p:es[n]? =some e)(z:w[n]? =some (goT t)){v:AV}(W:Gl 6 s v (vS (T++[t]) (goT t)).length ((vS (T++[t]) (goT t)).flatMap Tu.cells))(f:Fm (In e.val) H s)(C:∀ c,In v c->In e.val c\/H.nx<=c)(hH:H0.nx<=H.nx):∃k G,qhu s (.map b) (iN n) v=.ok .undef (s.put b k)/\MB H0 (s.put b k) b (T++[t]) G w:=by
 have gb:s.get b=.map es es.length:=(f.get b U fun l=>h.no p z l rfl).trans h.get;have Y:=q7a es 0 n e (fun k x r=>by rw[h.born k x r];omega) p;rw[qg]at Y;have I:=(qp.1 p).1;have M:∀{i:Nat} {x:gD} {g:G3} {c:Nat},es[i]? =some x->w[i]? =some g->In x.val c->c<H.nx:=fun a d l=>(h.val _ _ _ a d).lt l;have A:∀{i:Nat} {x:gD},es[i]? =some x->∃ g,w[i]? =some g:=fun a=>by have:=(qp.1 a).1;exact⟨_,lq (by rw[<-h.len];exact this)⟩
 have vb:∀ c,In v c->c≠b:=fun c l E=>by
  subst E;rcases C c l with k|k
  ·exact h.no p z k rfl
  ·omega
 have sp:∀{i:Nat} {x:gD},(es.set n ⟨e.key,v,e.born⟩)[i]? =some x->(i≠n/\es[i]? =some x)\/(i=n/\x=⟨e.key,v,e.born⟩):=fun{i x} a=>by
  rw[lE4]at a;split at a
  ·simp_all
  ·rename_i k;exact .inl ⟨fun e=>k e.symm,a⟩
 refine⟨.map (es.set n ⟨e.key,v,e.born⟩) es.length,es.set n ⟨e.key,v,e.born⟩,?_,⟨?_,?_,fun i x r=>?_,fun u X=>?_,h.nd,fun i x g r m=>?_,fun i x c r l=>?_,fun i j x y c F r K l o=>?_⟩⟩
 ·unfold qhu;simp_all
 ·rw[dN,vw]
 ·rw[lEA,<-h.key];have:(es.map gD.key)[n]? =some e.key:=by rw[xy,p];rfl
  have N:n<(es.map gD.key).length:=by rw[pz];exact I
  rw[show e.key=(es.map gD.key)[n]from(Option.some.inj ((lq N).symm.trans this)).symm];exact List.set_getElem_self N
 ·rcases sp r with⟨_,k⟩|⟨rfl,rfl⟩
  ·exact h.born i x k
  ·have:=h.born _ e p;exact this
 ·rcases qi.1 X with k|k
  ·exact h.mem u k
  ·rw[qf]at k;subst k;exact uz z
 ·rcases sp r with⟨B,k⟩|⟨rfl,rfl⟩
  ·have J:goT t≠g:=fun L=>by
    obtain⟨O,P⟩:=qp.1 m;obtain⟨Q,R⟩:=qp.1 z;rcases Nat.lt_or_gt_of_ne B with q|q
    ·exact yf.1 h.nd i n O Q q (by rw[P,R,L])
    ·exact yf.1 h.nd n i Q O q (by rw[P,R,L])
   have Z:vS (T++[t]) g=vS T g:=by rw[zln,pg J,uf]
   rw[Z];refine((h.val i x g k m).fm f fun c l o=>h.dj i n x e c B k p l o).fm ((Fm.refl (· =b) s).put b _ fun _=>rfl) fun c l=>h.no k m l
  ·rw[z]at m;cases m;exact W.fm ((Fm.refl (· =b) s).put b _ fun _=>rfl) fun c l=>vb c l
 ·rcases sp r with⟨_,k⟩|⟨rfl,rfl⟩
  ·exact h.nw i x c k l
  ·rcases C c l with k|k
   ·exact h.nw _ _ c p k
   ·omega
 ·rcases sp r with⟨S,k⟩|⟨S,rfl⟩
  ·rcases sp K with⟨D,k2⟩|⟨D,rfl⟩
   ·exact h.dj i j x y c F k k2 l o
   ·obtain⟨g,m⟩:=A k;rcases C c o with k3|k3
    ·exact h.dj i n x e c S k p l k3
    ·have:=M k m l;omega
  ·rcases sp K with⟨D,k2⟩|⟨D,rfl⟩
   ·obtain⟨g,m⟩:=A k2;rcases C c l with k3|k3
    ·exact h.dj n j e y c (fun e=>D e.symm) p k2 k3 o
    ·have:=M k2 m o;omega
   ·omega
end Go.Di
end
section
namespace Go.Di
open Go.Ev
variable {tg:SS->SS->List SS} {X:List aQ}
variable {H H' H1:Hp} {N b j n z:Nat} {S:Nat->Prop} {O:Ev.Call} {cs l:List AV}
theorem zii{fv:AV}{e:NE}{H1 H f:Hp}{es:List TE}{n i c:Nat}{lf:Option Nat}{g:AV->pD}{Q:pL}(y:es.length=i)(z:i<n)(R:n<=32)(p:Gl 1 H1 e.av e.args.length (aJ e.args))(M:N<=H1.nx)(A:∀ b,In e.av b->N<=b)(O:∀ H:Hp,e.k=3->Fm No H1 H->Ok (wY (C j) fv [.str e.rl.n e.rl.a,.str e.to.n e.to.a] H) fun r H'=>Ac 1 sC H H' r (tg e.rl e.to))(k:∀ e∈es,e.Ok tg H/\∀ b,In e.sp b\/In e.av b->b≠H1.nx/\N<=b)(S:H1.nx<H.nx)(w:Fm No H1 f)(T:H.nx<f.nx)(g2:∀ b,b<H.nx->b≠H1.nx->f.get b=H.get b)(I:f.get H.nx=aB 0 [uN e.k,.str e.rl.n e.rl.a,.str e.to.n e.to.a,e.av,.bool e.ng])(J:f.get H1.nx=aB 0 (yQ (es++[⟨⟨e.k,e.rl,e.to,e.args,lf⟩,e.av,.aA⟩]) n))(ih:∀(sp:AV) (l:Hp),Fm No H1 l->H1.nx<l.nx->l.get H1.nx=aB 0 (yQ (es++[⟨⟨e.k,e.rl,e.to,e.args,lf⟩,e.av,sp⟩]) n)->(∀x∈es++[⟨⟨e.k,e.rl,e.to,e.args,lf⟩,e.av,sp⟩],x.Ok tg l/\∀ b,In x.sp b\/In x.av b->b≠H1.nx/\N<=b)->Ok (g (iN c) (iN ((i+1))) l) Q):Ok (qkd (C j) g fv (.sl H1.nx 0 n n true) (iN c) (iN i) (.ptr H.nx 0) (iN i) f) Q:=by
 unfold qkd;have q:=yt (show i*6+3+1<=n*6 by omega);have B:∀ e:TE,(yQ (es++[e]) n).length=n*6:=fun e=>q25 (by simp;omega);have s:∀ e∈es,e.Ok tg f:=fun e d=>by have o:=k e d;have k2:∀ b,In e.sp b\/In e.av b->f.get b=H.get b:=fun b a=>g2 b (o.1.lt a) (o.2 b a).1;exact⟨o.1.gl.keep om fun b a _=>k2 b (.inr a),o.1.sp.imp (fun h=>⟨h.1,h.2.keep om fun b a _=>k2 b (.inl a)⟩) id⟩
 have t:=p.no w;have u:∀ b,In e.av b->b≠H1.nx/\N<=b:=fun b a=>⟨by have:=p.lt a;omega,A b a⟩;by_cases v:e.k=3
 ·have D:=yt v;simp only[go_sem,I,D];refine Ok.ve (O f v w) ?_;intro tv l m;have P:=(m.fm.keep (show H1.nx<f.nx by omega)).trans J;have E:=m.gl.cells;have F:=fun(H:Hp) (b o:Nat)=>qjj (H:=H) (b:=b) (o:=o) E;have K:=zik (es:=es) (n:=n) (j:=3) ⟨⟨e.k,e.rl,e.to,e.args,lf⟩,e.av,.aA⟩ ⟨⟨e.k,e.rl,e.to,e.args,lf⟩,e.av,tv⟩ tv rfl om;rw[y]at K;simp only[go_sem,z,F,P,B,K,q,mg];have U:=m.fm.nx;have L:Fm (fun b=>b=H1.nx) l (l.put H1.nx (aB 0 (yQ (es++[⟨⟨e.k,e.rl,e.to,e.args,lf⟩,e.av,tv⟩]) n))):=(Fm.refl _ _).put _ _ fun _=>rfl;have G:∀ b,In tv b->b≠H1.nx/\N<=b:=fun b a=>by have:=m.nw b a;omega
  unfold qid;refine aT ?_;refine ih tv _ ((w.trans m.fm).aG _ _ om) (show H1.nx<l.nx by omega) (dN _ _ _) fun x d=>?_;rcases qi.1 d with d|d
  ·exact⟨((s x d).fm m.fm).dP L fun b a=>((k x d).2 b a).1,(k x d).2⟩
  ·obtain rfl:=qf.1 d;have ob:∀ b,In tv b\/In e.av b->b≠H1.nx/\N<=b:=fun b a=>a.elim (G b) (u b);refine⟨TE.Ok.dP ?_ L fun b a=>(ob b a).1,ob⟩;exact⟨t.no m.fm,.inl ⟨v,m.gl⟩⟩
 ·simp only[go_sem,I,v];unfold qid;refine aT ?_;refine ih .aA f w om J fun x d=>?_;rcases qi.1 d with d|d
  ·exact⟨s x d,(k x d).2⟩
  ·obtain rfl:=qf.1 d;refine⟨?_,fun b a=>a.elim (fun h=>absurd h (notNil b)) (u b)⟩;exact⟨t,.inr ⟨v,rfl⟩⟩
theorem zih{s fv:AV}{e:NE}{es:List TE}{n i c t u:Nat}{g:AV->pD}{Q:pL}(h:es.length=i)(k:i<n)(D:n<=32)(o:Gl 1 H1 e.av e.args.length (aJ e.args))(A:c<=1000)(E:Fm No H1 H)(F:H1.nx<H.nx)(v:H.get H1.nx=aB 0 (yQ es n))(w:aH 5 s (iN i)=.val (.ptr t u))(p:fD (H.get t) u 5=some (neC e))(fin:∀(lf:Option Nat) (f:Hp),lf=(if e.k<4 then some c else none)->Fm No H1 f->H.nx<f.nx->(∀b,b<H.nx->b≠H1.nx->f.get b=H.get b)->f.get H.nx=aB 0 [uN e.k,.str e.rl.n e.rl.a,.str e.to.n e.to.a,e.av,.bool e.ng]->f.get H1.nx=aB 0 (yQ (es++[⟨⟨e.k,e.rl,e.to,e.args,lf⟩,e.av,.aA⟩]) n) -> Ok (qkd O g fv (.sl H1.nx 0 n n true) (iN ((c+if e.k<4 then 1 else 0))) (iN i) (.ptr H.nx 0) (iN i) f) Q):Ok (qs8 O g fv (.sl H1.nx 0 n n true) (iN c) s (iN i) H) Q:=by
 unfold qs8;have x:=o.cells;unfold neC SS.v at p;have y:=q25 (es:=es) (n:=n) om;have a:=z2a (es:=es) (n:=n) om ⟨⟨e.k,e.rl,e.to,e.args,none⟩,e.av,.aA⟩;rw[h]at a;unfold pE SS.v qyz at a;have l:=yt (show i*6+6<=n*6 by omega);have q:=yt (show i*6+5+1<=n*6 by omega);have r:∀ e:TE,(yQ (es++[e]) n).length=n*6:=fun e=>q25 (by simp;omega);by_cases m:e.k<4
 ·have d:=yt (show e.k<=3 by omega);have z:=zik (es:=es) (n:=n) (j:=5) ⟨⟨e.k,e.rl,e.to,e.args,none⟩,e.av,.aA⟩ ⟨⟨e.k,e.rl,e.to,e.args,some c⟩,e.av,.aA⟩ (iN c) rfl om;rw[h]at z;simp(disch:=go_size)only[go_sem,rB,rI,rK,rL,rN,rS,r6,k,w,p,x,v,y,a,l,mg,d,r,z,q];rw[qj m,qj m]at fin;refine fin (some c) _ rfl ?_ ?_ ?_ ?_ ?_
  ·repeat first|exact Fm.refl _ _|assumption|refine Fm.push ?_ _|refine Fm.aG ?_ _ _ om
  ·simp only[np,nq];omega
  ·intro b B C;simp(disch:=omega)only[go_sem,seval]
  ·simp(disch:=omega)only[go_sem,seval]
  ·exact dN _ _ _
 ·have d:¬ e.k<=3:=om;simp(disch:=go_size)only[go_sem,rB,rI,rK,rL,rN,rS,r6,k,w,p,x,v,y,a,l,mg,d];rw[pg m,pg m]at fin;refine fin none _ rfl ?_ ?_ ?_ ?_ ?_
  ·repeat first|exact Fm.refl _ _|assumption|refine Fm.push ?_ _|refine Fm.aG ?_ _ _ om
  ·simp only[np,nq];omega
  ·intro b B C;simp(disch:=omega)only[go_sem,seval]
  ·simp(disch:=omega)only[go_sem,seval]
  ·exact dN _ _ _
theorem qov{j N:Nat}{w fv:AV}{a:List NE}{H1:Hp}(x:Gl 5 H1 w a.length (a.flatMap neC))(l:N<=H1.nx)(o:∀ e∈a,e.Ar (fun c=>N<=c) H1)(p:a.length<=32)(y:∀(e:NE) (H:Hp),e∈a->e.k=3->Fm No H1 H->Ok (wY (C j) fv [.str e.rl.n e.rl.a,.str e.to.n e.to.a] H) fun r H'=>Ac 1 sC H H' r (tg e.rl e.to)){q:pH}{Q:pL}(z:∀ es H,Fm No H1 H->H1.nx<H.nx->H.get H1.nx=aB 0 (yQ es a.length)->es.map TE.t=lvs (a.map NE.key) 0->(∀e∈es,e.Ok tg H/\∀ b,In e.sp b\/In e.av b->b≠H1.nx/\N<=b)->Ok (q H) Q):∀(k i:Nat) (es:List TE) (H:Hp),i<=a.length->a.length-i<k->Fm No H1 H->H1.nx<H.nx->H.get H1.nx=aB 0 (yQ es a.length)->es.map TE.t=lvs ((a.take i).map NE.key) 0->(∀e∈es,e.Ok tg H/\∀ b,In e.sp b\/In e.av b->b≠H1.nx/\N<=b) -> Ok (qwf (C j) q fv (.sl H1.nx 0 a.length a.length true) w (iN (a.length)) k (iN ((pU ((a.take i).map NE.key)))) (iN i) H) Q
 |0,i,_,_,_,h,_,_,_,_,_=>om
 |k+1,i,es,H,hi,hk,hf,hx,hz,hes,hok=>by
  show Ok (zcs (C j) _ _ _ _ _ (qwf (C j) _ _ _ _ _ k) _ _ H) Q;unfold zcs;have m:es.length=i:=by have:=congrArg List.length hes;rw[pz,zkr,pz,qx]at this;omega
  by_cases d:i<a.length
  ·simp only[go_sem,d];obtain⟨R,S,M,T,_,O,U⟩:=((x.no hf).rs zki).at' i d;have n:=(o _ (lg d)).gl;have t:pU ((a.take i).map NE.key)<=1000:=rq List.countP_le_length g2;have g:(a.take (i+1)).map NE.key=(a.take i).map NE.key++[a[i].key]:=by rw[lh d,ui];rfl
   have u:a[i].key=(a[i].k,a[i].rl,a[i].to,a[i].args):=rfl;have v:pU ((a.take i).map NE.key)+(if a[i].k<4 then 1 else 0)=pU ((a.take (i+1)).map NE.key):=by rw[g,q9g,qqe];show _=_+(0+if a[i].k<4 then 1 else 0);simp
   refine zih (e:=a[i]) m d p n t hf hx hz M O fun lf P s A B g2 D E=>?_;rw[v];refine zii (e:=a[i]) m d p n l (o _ (lg d)).nw (fun H h f=>y _ H (lg d) h f) hok hx A B g2 D E fun sp F G I J K=>?_;refine qov x l o p y z k (i+1) _ F om om G I J ?_ K;rw[ui,hes,g,q30,u,s,qg];rfl
  ·simp only[go_sem,d];have L:i=a.length:=om;subst L;rw[um]at hes;exact z es H hf hx hz hes hok
theorem zkq:∀(l:List Key) (c:Nat) (x:Key),x∈l->∃ t∈lvs l c,t.k=x.1/\t.rl=x.2.1/\t.to=x.2.2.1
 | [],_,_,h=>by cases h
 |a::l,c,x,h=>by
  rcases su.1 h with rfl|h
  ·exact⟨_,ug,rfl,rfl,rfl⟩
  ·obtain⟨t,b,e⟩:=zkq l _ x h;exact⟨t,uk _ b,e⟩
theorem zif(F:iQ C){k:Nat}(G:14<=k){f:Fo}{P:Nat->Prop}{fv:AV}(A:iI P H f cs)(l:f.Ok1)(I:∀(rl to:SS) (H':Hp),(∃t∈f.eO 0 0,t.k=3/\t.rl=rl/\t.to=to)->Fm No H H'->Ok (wY (C (k-1)) fv [.str rl.n rl.a,.str to.n to.a] H') fun r q=>Ac 1 sC H' q r (tg rl to)):Ok (C k (.f 124) [.agg cs,fv] H) fun w H'=>∃ es,TbR tg H' w es f/\Fm No H H'/\vT w=true/\∀ b,(In w b\/∃ x∈es,In x.sp b\/In x.av b)->H.nx<=b:=by
 obtain⟨j,rfl⟩:=aP G;rw[lk (zn9 ..)];unfold zHj zy3;obtain⟨kd,rl,to,a,V,ca,R,y,_⟩:=A.one l.one;have D:Fm No H (aI H (aB 0 cs)):=by exact jF
 have O:=zlr F (k:=j) om (A.fm D) l;subst y;refine aT ?_;refine Ok.ve O ?_;rintro _ H1 ⟨W,z,rfl,g1,p,S,X,T⟩;have M:=g1.bM;have v:z.length<=32:=by have:=congrArg List.length p;rw[pz,Fo.oN]at this;rw[this];exact l.sz
 refine eP M ?_;unfold zct;rw[dD];have E:=qc9 teZ 96 H1.nx z.length om om;unfold teZ at E;refine eP E ?_;have m:=D.trans T;refine qov (N:=H.nx) g1 (by have:=m.nx;omega) (fun e g=>(S e g).fm (Fm.refl No H1) (fun _ _ _ h=>h) fun c _ h=>by have:=h.1;simp only[np]at this;omega) v (tg:=tg) (fun e H' g J s=>I e.rl e.to H' ?_ (m.trans s)) (fun es H' s K L u B=>?_) bZ 0 [] _ (gp _) lf (by(repeat refine Fm.push ?_ _);exact Fm.refl _ _) gz (jG _ _) rfl fun e g=>by cases g
 ·have Q:e.key∈f.kys 0:=by rw[<-p];exact xu g
  obtain⟨t,n,o⟩:=zkq _ 0 _ Q;rw[qvp f 0 0 l.rt]at n;exact⟨t,n,o.1.trans J,o.2⟩
 ·unfold gM;rw[p,qvp f 0 0 l.rt]at u;have i:es.length=z.length:=by
   have n:=congrArg List.length u;have o:=congrArg List.length p;rw[pz,Fo.oM]at n;rw[pz,Fo.oN]at o;omega
  refine Ok.ret ⟨es,⟨?_,u,fun e g=>(B e g).1⟩,m.trans s,rfl,fun b d=>?_⟩
  rotate_left
  ·rcases d with d|⟨x,U,d⟩
   ·obtain⟨_,_,_,_,d⟩:=d;injection d with d;have:=m.nx;omega
   ·exact((B x U).2 b d).2
  rw[i];refine⟨by rw[te6,i],.inr ⟨_,0,true,0,_,rfl,L,gp _,?_,.inl rfl,K⟩⟩;unfold yQ;rw[i,og];exact uf _
theorem Rs.aMY{α:Type}{f:α->List AV}(c:∀ x,(f x).length=z){v:AV}{l:List α}(h:Rs z f H v l)(d:v=.aA\/∃ b o n m e,v=.sl b o n m e/\n<=m/\0<n):lY z H v=some ⟨l.length,l.flatMap f⟩:=h.src c fun e=>by
 rcases d with rfl|⟨b,o,n,m,i,rfl,_,j⟩
 ·rfl
 ·have a:=h.len;subst e;have g:aD (.sl b o n m i)=R0.val (iN n):=rfl;rw[g]at a;injection a with a;injection a with _ a;injection a with a;simp at a;omega
structure Sr(z:Nat)(H:Hp)(v:AV)(n:Nat)(l:List AV):Prop where
 src:∀ H',Fm No H H'->lY z H' v=some ⟨n,l⟩
 len:l.length=n*z
 sh:(v=.aA/\n=0)\/∃ b o m c e,v=.sl b o m c e
theorem Gl.sr{v:AV}(h:Gl z H v n l):Sr z H v n l:=⟨fun _ f=>(h.no f).src,h.len,by
 rcases h.is with h|⟨b,o,e,_,_,h,_⟩
 ·exact .inl h
 ·exact .inr ⟨b,o,_,_,e,h⟩⟩
theorem Rs.sr{α:Type}{f:α->List AV}(c:∀ x,(f x).length=z){v:AV}{l:List α}(h:Rs z f H v l)(d:v=.aA\/∃ b o n m e,v=.sl b o n m e/\n<=m/\0<n):Sr z H v l.length (l.flatMap f):=by
 refine⟨fun _ a=>(h.fm a).aMY c d,?_,?_⟩
 ·clear h d
  induction l with
  |nil=>simp
  |cons a l ih=>rw[uA,lL,ih,c,pq,lEM];omega
 ·rcases d with rfl|⟨b,o,n,m,e,rfl,_⟩
  ·have:=(h.aMY c (.inl rfl));injection this with this;injection this with this;exact .inl ⟨rfl,this.symm⟩
  ·exact .inr ⟨b,o,n,m,e,rfl⟩
theorem Sr.cp{z w n:Nat}{v:AV}(h:Sr z H v n l)(f:n*w<=1099511627776)(o:n<=1099511627776):Ok (iM z w (aI H (aB 0 [])) (.sl H.nx 0 0 0 true) (lY z (aI H (aB 0 [])) v)) fun r H'=>Gl z H' r n l/\Fm No H H'/\∀ b,In r b->H.nx<=b:=by
 have e:Fm No H (aI H (aB 0 [])):=by exact jF
 rw[h.src _ e];by_cases m:n=0
 ·subst m;have g:l=[]:=tu.1 (by rw[h.len];simp);subst g;have d:iM z w (aI H (aB 0 [])) (.sl H.nx 0 0 0 true) (some ⟨0,[]⟩)=storeAt (aI H (aB 0 [])) H.nx (0+0*z) [] (.sl H.nx 0 0 0 true):=rfl;have i:=qb3 (aI H (aB 0 [])) H.nx (0+0*z) [] (.sl H.nx 0 0 0 true) 0 [] (jG _ _) g3;refine⟨_,_,d.trans i,⟨g3,.inr ⟨H.nx,0,true,0,_,rfl,dN _ _ _,g3,by simp[aZ],.inl rfl,gx⟩⟩,by exact kP,?_⟩;rintro b ⟨_,_,_,_,a⟩;simp_all
 ·have g0:Gl z (aI H (aB 0 [])) (.sl H.nx 0 0 0 true) 0 []:=⟨g3,.inr ⟨H.nx,0,true,0,[],rfl,jG _ _,lu _,rfl,.inl rfl,gx⟩⟩;obtain⟨p,d,g3,_,j,q⟩:=g0.append (k:=n) (w:=w) (x:=l) om h.len (by rw[qg];exact f) om;rw[qg,yj]at g3;rw[qg]at d;refine⟨_,_,d,g3,?_,?_⟩
  ·refine e.then j ?_;rintro c s ⟨_,_,_,_,a⟩;simp_all
  ·rintro b ⟨_,_,_,_,a⟩;injection a with a;simp only[np]at a;omega
theorem qv9{z w n:Nat}{v:AV}{l zs:List AV}(h:Sr z H v n l)(f:n*w<=1099511627776)(g:n<=1099511627776):Ok (vq (jT false ((⟨E2.f ⟨qH⟩⟩:E2).f v .aA)) H fun i H=>cd i (.ok .aA H) (vq (rJ 0 H.nx (bH (aS zs 0) [])) H fun j H=>ve (iM z w H j (lY z H v)) fun k H=>.ok k H)) fun r H'=>Gl z H' r n l/\Fm No H H'/\∀ b,In r b->H.nx<=b:=by
 rcases h.sh with⟨rfl,q⟩|⟨b,o,m,c,e,s⟩
 ·have d:jT false (qH .aA .aA)=.val (.bool true):=rfl;subst q;exact Ok.ret ⟨⟨h.len,.inl ⟨rfl,rfl⟩⟩,Fm.refl _ _,fun b p=>absurd p (notNil b)⟩
 ·have d:jT false (qH v .aA)=.val (.bool false):=by rw[s];rfl
  have a:aS zs 0=[]:=rfl;simp only[go_sem,d,a];refine Ok.ve (h.cp f g) ?_;intro r H' t;exact Ok.ret t
theorem qz4{k:Nat}(a:1<=k){v:AV}(h:Sr 2 H v n l)(c:n<=1000):Ok (C k (.f 123) [v] H) fun r H'=>Gl 2 H' r n l/\Fm No H H'/\∀ b,In r b->H.nx<=b:=by obtain⟨j,rfl⟩:=aP a;rw[lk (zob ..)];exact qv9 (zs:=[zS,zS]) (w:=32) h om om
theorem znd{k:Nat}(a:1<=k){v:AV}(h:Sr 6 H v n l)(c:n<=1000):Ok (C k (.f 182) [v] H) fun r H'=>Gl 6 H' r n l/\Fm No H H'/\∀ b,In r b->H.nx<=b:=by obtain⟨j,rfl⟩:=aP a;rw[lk (zn5 ..)];exact qv9 (zs:=teZ) (w:=96) h om om
theorem znc{k:Nat}(a:1<=k){v:AV}(h:Sr 1 H v n l)(c:n<=1000):Ok (C k (.f 184) [v] H) fun r H'=>Gl 1 H' r n l/\Fm No H H'/\∀ b,In r b->H.nx<=b:=by obtain⟨j,rfl⟩:=aP a;rw[lk (q44 ..)];exact qv9 (zs:=[zS]) (w:=16) h om om
theorem zne{k:Nat}(a:1<=k){v:AV}(h:Sr 1 H v n l)(c:n<=1000):Ok (C k (.f 186) [v] H) fun r H'=>Gl 1 H' r n l/\Fm No H H'/\∀ b,In r b->H.nx<=b:=by obtain⟨j,rfl⟩:=aP a;rw[lk (zn3 ..)];exact qv9 (zs:=[iN 0]) (w:=8) h om om
theorem zut{k:Nat}(c:1<=k){v:AV}(h:Gl 2 H v n l):∃w,C k (.f 180) [v] H=.ok w H/\Gl 2 H w n l/\(∀b,In w b->In v b)/\dU w=aD w:=by obtain⟨j,rfl⟩:=aP c;obtain⟨w,e,a,d,f⟩:=h.clip;refine⟨w,?_,a,f,d.trans a.bM.symm⟩;rw[lk (zn6 ..)];unfold zHs zy0;simp only[go_sem,h.bM,e]
theorem qz5{k:Nat}(c:1<=k){v:AV}(h:Gl 1 H v n l):∃w,C k (.f 183) [v] H=.ok w H/\Gl 1 H w n l/\(∀b,In w b->In v b)/\dU w=aD w:=by obtain⟨j,rfl⟩:=aP c;obtain⟨w,e,a,d,f⟩:=h.clip;refine⟨w,?_,a,f,d.trans a.bM.symm⟩;rw[lk (q5s ..)];unfold zCq qn4;simp only[go_sem,h.bM,e]
theorem znf{k:Nat}(c:1<=k){v:AV}(h:Gl 6 H v n l):∃w,C k (.f 181) [v] H=.ok w H/\Gl 6 H w n l/\(∀b,In w b->In v b)/\dU w=aD w:=by obtain⟨j,rfl⟩:=aP c;obtain⟨w,e,a,d,f⟩:=h.clip;refine⟨w,?_,a,f,d.trans a.bM.symm⟩;rw[lk (zn4 ..)];unfold zHu zyz;simp only[go_sem,h.bM,e]
structure jB where
 p:SS×bB
 n:Nat
 st:Nat
 tv:AV
 nv:AV
 es:List TE
def yO(e:jB):List AV:=[e.p.1.v,e.p.2.r.name.v,iN (e.n),iN (e.st),e.tv,e.nv]
theorem z2d(e:jB):(yO e).length=6:=rfl
def jB.B(e:jB)(b:Nat):Prop:=In e.tv b\/In e.nv b\/∃ x∈e.es,In x.sp b\/In x.av b
structure jB.Ok(X:List aQ)(H:Hp)(e:jB):Prop where
 ty:Gl 2 H e.tv e.p.2.r.types.length (e.p.2.r.types.flatMap tC)
 nd:TbR (iZ X e.p.1) H e.nv e.es e.p.2.r.rule.fo.flat
theorem jB.Ok.dP{e:jB}(h:e.Ok X H)(f:Fm S H H')(c:∀ b,e.B b->¬ S b):e.Ok X H':=
 ⟨h.ty.fm f fun b a=>c b (.inl a),⟨h.nd.gl.fm f fun b a=>c b (.inr (.inl a)),h.nd.is,fun x d=>(h.nd.ok x d).dP f fun b a=>c b (.inr (.inr ⟨x,d,a⟩))⟩⟩
theorem jB.Ok.lt{e:jB}(h:e.Ok X H)(a:e.B b):b<H.nx:=by
 rcases a with a|a|⟨x,c,a⟩
 ·exact h.ty.lt a
 ·exact h.nd.gl.lt a
 ·exact(h.nd.ok x c).lt a
theorem qvh:∀(f:Fo) (p c:Nat),∀t∈f.eO p c,t.args.length<=f.size
 | .nil,_,_,t,h=>by cases h
 | .cons k rl to a r,p,c,t,h=>by
  have:=Fo.mI a;simp only[Fo.size];rcases su.1 h with rfl|h
  ·show(a.ixs _).length<=_;rw[Fo.aCa];omega
  rcases qi.1 h with h|h
  ·have:=qvh a _ _ t h;omega
  ·have:=qvh r _ _ t h;omega
theorem zxf(A B:List TE)(e a:TE)(j:Nat)(x:AV)(h:aZ (pE e) j [x]=pE a)(c:j<6):aZ ((A++e::B).flatMap pE) (A.length*6+j) [x]=(A++a::B).flatMap pE:=by rw[qy,uA,qy,uA,<-h];have b:=te6 A;have d:=qij e;generalize A.flatMap pE=D at *;generalize pE e=F at *;unfold aZ;rw[<-b,zx,lAF om,uu,zy,xn g2];simp
def SpP(tg:SS->SS->List SS)(e:TE)(H:Hp)(v:AV):Prop:=(e.t.k=3/\Gl 1 H v (tg e.t.rl e.t.to).length ((tg e.t.rl e.t.to).flatMap sC))\/(e.t.k≠3/\v=.aA)
theorem SpP.dP{e:TE}{v:AV}(h:SpP tg e H v)(f:Fm S H H')(a:∀ b,In v b->¬ S b):SpP tg e H' v:=h.imp (fun h=>⟨h.1,h.2.fm f a⟩) id
theorem SpP.cells{e:TE}{v:AV}(h:SpP tg e H v):uQ v=some [v]:=by
 rcases h with h|h
 ·exact h.2.cells
 ·rw[h.2];rfl
theorem zbv{k:Nat}(a:1<=k){e:TE}(h:SpP tg e H e.sp)(f:(tg e.t.rl e.t.to).length<=100):Ok (C k (.f 184) [e.sp] H) fun r H'=>SpP tg e H' r/\Fm No H H'/\∀ b,In r b->H.nx<=b:=by
 rcases h with h|h
 ·exact(znc a h.2.sr om).mono fun r H' c=>⟨.inl ⟨h.1,c.1⟩,c.2⟩
 ·rw[h.2];obtain⟨j,rfl⟩:=aP a;rw[lk (q44 ..)];unfold zHv zyy;have g:jT false (qH .aA .aA)=.val (.bool true):=rfl;exact Ok.ret ⟨.inr ⟨h.1,rfl⟩,Fm.refl _ _,fun b d=>absurd d (notNil b)⟩
theorem zng{k:Nat}(g:1<=k){e:TE}{v:AV}(h:SpP tg e H v):∃ w,C k (.f 183) [v] H=.ok w H/\SpP tg e H w/\(∀b,In w b->In v b)/\dU w=aD w:=by
 rcases h with h|h
 ·obtain⟨w,c,d,a,f⟩:=qz5 g h.2;exact⟨w,c,.inl ⟨h.1,d⟩,a,f⟩
 ·obtain⟨w,c,d,a,f⟩:=qz5 g (Gl.nil 1 H);rw[h.2];refine⟨w,c,.inr ⟨h.1,?_⟩,a,f⟩;rcases d.is with h|⟨b,o,e,q,L,rfl,_⟩
  ·exact h.1
  ·exact absurd (a b ⟨_,_,_,_,rfl⟩) (notNil b)
theorem qqb{j:Nat}(hj:2<=j){H00 H0:Hp}{r:Nat}{w c0 c1 c2 c3 tv:AV}{es:List TE}(Y:H0.get r=aB 0 [c0,c1,c2,c3,tv,w])(s:r<H0.nx)(t:¬ In w r)(E:H00.nx<=H0.nx)(u:∀ e∈es,e.Ok tg H0/\(∀b,In e.sp b\/In e.av b->¬ In w b)/\e.t.args.length<=100/\(tg e.t.rl e.t.to).length<=100)(hn:es.length<=100){q:pH}{Q:pL}(Z:∀(a:List TE) (H:Hp),Fm (In w) H0 H->Gl 6 H w es.length (a.flatMap pE)->a.map TE.t=es.map TE.t->(∀e∈a,(e.Ok tg H/\dU e.sp=aD e.sp/\dU e.av=aD e.av)/\∀ b,In e.sp b\/In e.av b->H00.nx<=b/\¬ In w b)->Ok (q H) Q):∀(k i:Nat) (a:List TE) (H:Hp),i<=es.length->es.length-i<k->Fm (In w) H0 H->Gl 6 H w es.length ((a++es.drop i).flatMap pE)->a.map TE.t=(es.take i).map TE.t->(∀e∈a,(e.Ok tg H/\dU e.sp=aD e.sp/\dU e.av=aD e.av)/\∀ b,In e.sp b\/In e.av b->H00.nx<=b/\¬ In w b) -> Ok (qkc (C j) q (.ptr r 0) (iN (es.length)) k (iN i) H) Q
 |0,i,_,_,_,h,_,_,_,_=>om
 |k+1,i,a,H,hi,hk,hf,hg,hm,hok=>by
  show Ok (q0s (C j) _ _ _ (qkc (C j) _ _ _ k) _ H) Q;unfold q0s;by_cases d:i<es.length
  ·simp only[go_sem,d];unfold q0q;have m:a.length=i:=by
    have:=congrArg List.length hm;rw[pz,pz,qx]at this;omega
   have a1:=(hf.get r s t).trans Y;have F:es.drop i=es[i]::es.drop (i+1):=uq d;rw[F]at hg;have G:(a++es[i]::es.drop (i+1)).length=es.length:=g2;have I:(a++es[i]::es.drop (i+1))[i]'om=es[i]:=by simp[List.getElem_append_right,m]
   have v:=hg;rw[<-G]at v;obtain⟨b,o,P,e2,e3,_,R⟩:=(v.rs qij).at' i om;rw[I]at R;have r3:bX (H.get b) (o+3)=.val es[i].sp:=R 3 (by rw[qij];omega);have r4:bX (H.get b) (o+4)=.val es[i].av:=R 4 (by rw[qij];omega);obtain⟨h1,h2,h3,h4⟩:=u _ (lg d);simp only[go_sem,a1,P,r3,r4];have o1:=h1.dP hf h2;have x:=wV (Gl.flat h1.gl) 63;refine Ok.iD (zbv (k:=j) om o1.sp h4) ?_;rintro s1 H1 ⟨p1,f,J⟩;have f:Fm No H H1:=f;have J:∀ b,In s1 b->H.nx<=b:=J;have x1:=f.nx;have k1:=f.keep e2;have y:bX (H1.get b) (o+4)=.val es[i].av:=by rw[k1];exact r4
   simp only[go_sem,y,x];obtain⟨g,S,p2,T,U⟩:=zng (k:=j) om p1;refine Ok.uU S ?_;simp only[go_sem,y,x];refine Ok.iD (zne (k:=j) om (n:=es[i].t.args.length) (o1.gl.no f).sr om) ?_;rintro v1 H2 ⟨q1,A,n2⟩;simp only[go_sem];obtain⟨p,V,q2,W,X⟩:=qwb (k:=j) om q1;refine Ok.uU V ?_;obtain⟨b5,o5,H3,B,e5,g5,f5,n5⟩:=((hg.no f).no A).set1 d (j:=3) om g;rw[P]at B;injection B with B;injection B with ea eb;subst ea eb;have K:=qjj (H:=H2) (b:=b) (o:=o+3) p2.cells;simp only[go_sem];refine Ok.uU (K.trans e5) ?_;have z:=zxf a (es.drop (i+1)) es[i] ⟨es[i].t,es[i].av,g⟩ 3 g rfl om;rw[m]at z;rw[z]at g5;obtain⟨b6,o6,H4,D,e6,g6,f6,n6⟩:=g5.set1 d (j:=4) om p;rw[P]at D;injection D with D;injection D with ea eb;subst ea eb;have L:=qjj (H:=H3) (b:=b) (o:=o+4) q2.cells;simp only[go_sem];refine Ok.uU (L.trans e6) ?_;have z:=zxf a (es.drop (i+1)) ⟨es[i].t,es[i].av,g⟩ ⟨es[i].t,p,g⟩ 4 p rfl om;rw[m]at z;rw[z]at g6;unfold q0r;refine aT ?_;have x0:=hf.nx;have M:Fm (In w) H2 H4:=f5.then f6 fun _ _ h=>h;have N:∀ b,In w b->b<H.nx:=fun b c=>hg.lt c;have i2:∀ b,In g b->H.nx<=b:=fun b c=>J b (T b c);have O:∀ b,In p b->H1.nx<=b:=fun b c=>n2 b (X b c);refine qqb hj Y s t E u hn Z k (i+1) (a++[⟨es[i].t,p,g⟩]) H4 om om (((hf.then f fun _ _ h=>absurd h id).then A fun _ _ h=>absurd h id).then M fun _ _ h=>h) (by simpa using g6) ?_ fun e l=>?_
   ·rw[ui,hm,lh d,ui];rfl
   ·rcases qi.1 l with l|l
    ·obtain⟨u1,u2⟩:=hok e l;exact⟨⟨((u1.1.fm f).fm A).dP M fun b c=>(u2 b c).2,u1.2⟩,u2⟩
    ·obtain rfl:=qf.1 l;have ub:∀ b,In g b\/In p b->H00.nx<=b/\¬ In w b:=fun b c=>by
      have:H.nx<=b:=by
       rcases c with c|c
       ·exact i2 b c
       ·have:=O b c;omega
      exact⟨om,fun h=>by have:=N b h;omega⟩
     refine⟨⟨TE.Ok.dP ?_ M fun b c=>(ub b c).2,U,W.trans q2.bM.symm⟩,ub⟩;exact⟨q2,SpP.dP p2 A fun _ _ h=>h⟩
  ·simp only[go_sem,d];have l:i=es.length:=om;subst l;rw[lA8,uf]at hg;rw[um]at hm;exact Z a H hf hg hm hok
theorem z6n(a b c d e f x:AV):aZ [a,b,c,d,e,f] 4 [x]=[a,b,c,d,x,f]:=id rfl
theorem zmi{k:Nat}(hk:4<=k){e:jB}(h:e.Ok X H)(hV:dB X)(i:(e.p.2.r.types).length<=8)(J:e.p.2.r.rule.Rt):Ok (C k (.f 132) [.agg (yO e)] H) fun r H'=>∃ g:jB,r=.agg (yO g)/\g.p=e.p/\g.n=e.n/\g.st=e.st/\g.Ok X H'/\(∀b,g.B b->H.nx<=b)/\(∀x∈g.es,(∀b,In x.sp b\/In x.av b->¬ In g.nv b)/\dU x.sp=aD x.sp/\dU x.av=aD x.av)/\(dU g.tv=aD g.tv/\dU g.nv=aD g.nv)/\Fm No H H':=by
 obtain⟨j,rfl⟩:=aP hk;rw[lk (zn8 ..)];obtain⟨p,n,q,tv,N,es⟩:=e;unfold zHk zy2 yO SS.v;have W:=h.ty.cells;have Y:=h.nd.gl.cells;obtain⟨u,f⟩:=h;simp only at u f i J W Y;have Z:es.length<=32:=by have:=congrArg List.length f.is;rw[pz,Fo.oM]at this;rw[this];exact J.ok1.flat.sz
 refine eF W Y ?_;generalize I:aI (aI H (aB 0 [.str p.1.n p.1.a,.str p.2.r.name.n p.2.r.name.a,iN n,iN q,tv,N])) (aB 0 [zS,zS,iN 0,iN 0,.aA,.aA])=HA;have fA:Fm No H HA:=by rw[<-I];exact qO
 have nA:HA.nx=H.nx+2:=by rw[<-I];rfl
 have k0:HA.get H.nx=aB 0 [.str p.1.n p.1.a,.str p.2.r.name.n p.2.r.name.a,iN n,iN q,tv,N]:=by rw[<-I];simp(disch:=first|go_size|omega)only[go_sem,seval]
 have l0:HA.get (H.nx+1)=aB 0 [zS,zS,iN 0,iN 0,.aA,.aA]:=by rw[<-I];simp(disch:=go_size)only[go_sem,seval]
 refine Ok.ve (qz4 (k:=j) om (u.no fA).sr om) ?_;rintro t1 H1 ⟨p1,D,n1⟩;obtain⟨v,O,E,P,Q⟩:=zut (k:=j) om p1;have x1:=D.nx;have k1:=(D.keep (show H.nx<HA.nx by omega)).trans k0;have l1:=(D.keep (show H.nx+1<HA.nx by omega)).trans l0;have s1:=fun(H:Hp) (b o:Nat)=>qjj (H:=H) (b:=b) (o:=o) E.cells;simp only[go_sem,seval,O,s1,k1,z6n];have f2:Fm No H (H1.put H.nx (aB 0 [.str p.1.n p.1.a,.str p.2.r.name.n p.2.r.name.a,iN n,iN q,v,N])):=(fA.trans D).aG _ _ (lu _);have l:∀ b,In v b->H.nx+2<=b/\b<H1.nx:=fun b a=>by have:=n1 b (P b a);exact⟨om,E.lt a⟩
 refine Ok.ve (znd (k:=j) om (f.gl.no f2).sr om) ?_;rintro w1 F ⟨p3,w,n3⟩;obtain⟨y,R,G,S,T⟩:=znf (k:=j) om p3;have x3:H1.nx<=F.nx:=w.nx;have k3:=(w.keep (show H.nx<H1.nx by omega)).trans (dN _ _ _);have l3:=(w.keep (show H.nx+1<H1.nx by omega)).trans ((dO _ _ _ _ om).trans l1);have s2:=fun(H:Hp) (b o:Nat)=>qjj (H:=H) (b:=b) (o:=o) G.cells;have lw:=G.bM;simp only[go_sem,seval,R,s2,k3,z6m,lw];unfold q0t;rw[dD];have d:∀ b,In y b->H1.nx<=b:=fun b a=>n3 b (S b a);generalize m:F.put H.nx (aB 0 [.str p.1.n p.1.a,.str p.2.r.name.n p.2.r.name.a,iN n,iN q,v,y])=H4;have A:Fm (fun b=>b=H.nx) F H4:=by rw[<-m];exact(Fm.refl _ _).put _ _ fun _=>rfl
 have u1:Fm (fun b=>b=H.nx) H1 H4:=((show Fm (fun b=>b=H.nx) H1 _ from(Fm.refl _ _).put _ _ fun _=>rfl).then w fun _ _ h=>absurd h id).then A fun _ _ h=>h;have f4:Fm No H H4:=(f2.trans w).then A fun c hc h=>om;have x4:H4.nx=F.nx:=by rw[<-m];rfl
 have k4:H4.get H.nx=aB 0 [.str p.1.n p.1.a,.str p.2.r.name.n p.2.r.name.a,iN n,iN q,v,y]:=by rw[<-m];exact dN _ _ _
 have l4:=(A.get (H.nx+1) om om).trans l3;have p5:Gl 6 H4 y es.length (es.flatMap pE):=G.fm A fun b a h=>by have:=d b a;omega
 have t5:=E.fm u1 fun b a h=>by have:=l b a;omega
 refine qqb (j:=j) om (H00:=HA) (H0:=H4) (tg:=iZ X p.1) k4 om (fun h=>by have:=d _ h;omega) om (fun e s=>⟨(f.ok e s).fm f4,fun b a h=>by have:=(f.ok e s).lt a;have:=d b h;omega,?_,?_⟩) om (fun U K z g5 V t=>?_) bZ 0 [] H4 (gp _) lf (Fm.refl _ _) (by simpa using p5) rfl fun e s=>by cases s
 ·have:=qvh _ 0 0 e.t (by rw[<-f.is];exact xu s);have:=J.ok1.flat.sz;omega
 ·have:=qks hV.pr p.1 e.t.rl e.t.to;omega
 ·unfold qs7;have k5:=(z.get H.nx om fun h=>by have:=d _ h;omega).trans k4;have l5:=(z.get (H.nx+1) om fun h=>by have:=d _ h;omega).trans l4;simp only[go_sem,seval,k5,l5,E.cells,G.cells];have f6:Fm No H K:=f4.then z fun c hc h=>by have:=d c h;omega
  have L:∀ B:bW,Fm (fun b=>b=H.nx+1) K (K.put (H.nx+1) B):=fun B=>(Fm.refl _ _).put _ _ fun _=>rfl;refine Ok.ret ⟨⟨p,n,q,v,y,U⟩,rfl,rfl,rfl,rfl,⟨?_,⟨?_,V.trans f.is,fun x i=>?_⟩⟩,fun b a=>?_,fun x i=>⟨fun b a=>((t x i).2 b a).2,(t x i).1.2⟩,⟨Q,T⟩,f6.aG _ _ om⟩
  ·exact(t5.fm z fun b a h=>by have:=l b a;have:=d b h;omega).fm (L _) fun b a h=>by have:=l b a;omega
  ·have M:U.length=es.length:=by have:=congrArg List.length V;simpa using this
   rw[M];exact g5.fm (L _) fun b a h=>by have:=d b a;omega
  ·exact(t x i).1.1.dP (L _) fun b a h=>by have:=(t x i).2 b a;omega
  ·rcases a with a|a|⟨x,i,a⟩
   ·have:=l b a;omega
   ·have:=d b a;omega
   ·have:=((t x i).2 b a).1;omega
open Go.Di.T Go.Sort
variable {LA LO:LP} {L:List (List Nat)} {o:List Nat}
variable {Hb:Hp} {g:aQ} {i mb most pb sb tb:Nat} {sv:AV}
theorem z2e(d:iQ C){k:Nat}(e:23<=k){sv rv:AV}{a:SS}(f:H.get sb=aB 0 [sv])(g:H.get pb=aB 0 [.str a.n a.a,rv])(h:bY H sv X)(i:dB X)(rl to:SS)(b:(a,rl)∈aF X)(c:iZ X a rl to≠[]):Ok (C k (.f 125) [.str rl.n rl.a,.str to.n to.a,.ptr sb 0,.ptr pb 0] H) fun r H'=>Ac 1 sC H H' r (iZ X a rl to):=by obtain⟨j,rfl⟩:=aP e;rw[lk (zoa ..)];unfold zHi zy4;simp only[go_sem,seval,f,g];refine Ok.ve (qql d (k:=j) om h i a rl to b c) ?_;rintro _ H1 ⟨tv,rfl,l⟩;exact Ok.ret l
structure TfI(X:List aQ)(o:List Nat)(Hb H:Hp)(tb mb most:Nat)(lv:AV)(l:List jB)(qs:List (SS×SS)):Prop where
 fm:Fm No Hb H
 t:H.get tb=aB 0 [.bool true,lv,.map mb,iN most]
 m:iT H mb qs
 od:Hb.nx<=mb/\mb<tb/\tb<H.nx
 gl:Gl 6 H lv l.length (l.flatMap yO)
 ln:∀ b,In lv b->tb<b
 ok:∀ e∈l,e.Ok X H/\∀ b,e.B b->b≠tb/\b≠mb/\¬ In lv b
 n:∀ i (h:i<l.length),l[i].n=i/\l[i].st=o.getD i 0
theorem TfI.no{lv:AV}{l:List jB}{a:List (SS×SS)}(h:TfI X o Hb H tb mb most lv l a)(f:Fm No H H'):TfI X o Hb H' tb mb most lv l a:=by obtain⟨c,d,g⟩:=h.od;have:=f.nx;exact⟨h.fm.trans f,(f.keep g).trans h.t,h.m.eq (f.keep om),⟨c,d,om⟩,h.gl.no f,h.ln,fun e b=>⟨(h.ok e b).1.dP f fun _ _ h=>h,(h.ok e b).2⟩,h.n⟩
theorem z6e(hN:iQ C)(hj:24<=j){sv lv:AV}{sb pb rb fb tb mb most i z:Nat}{l:List jB}{qs:List (SS×SS)}{x:bB}{R S U V c2 c3 c4 c5:AV}{g6:pD}{Q:pL}(hX:bY Hb sv X)(hV:dB X)(hs:Hb.get sb=aB 0 [sv])(hsl:sb<Hb.nx)(hg:g∈X)(hx:x∈g.gs)(p:TfI X o Hb H tb mb most lv l qs)(W:H.get pb=aB 0 [.str g.name.n g.name.a,g.rv])(s:tb<pb/\pb<H.nx)(hpv:¬ In lv pb)(hr:H.get rb=aB 0 [.str x.r.name.n x.r.name.a,x.tv,c2,c3,c4,c5])(G:rb<H.nx)(hf:H.get fb=aB 0 [R,S,U,V])(hfb:fb<H.nx)(I:iI (fun _=>True) H x.r.rule.fo.flat [R,S,U,V])(hst:z=o.getD l.length 0)(hm2:l.length<300)(hi:i<300)(hq:∀(H':Hp) (J:AV) (e:jB),e.p=(g.name,x)->TfI X o Hb H' tb mb most J (l++[e]) qs->H'.get pb=H.get pb->pb<H'.nx->¬ In J pb->Ok (g6 (iN ((i+1))) H') Q):Ok (kA qi5 (C j) g6 (.ptr sb 0) (.ptr tb 0) (.ptr pb 0) (.ptr rb 0) (.ptr fb 0) (iN z) (iN i) H) Q:=by
 rw[kE qi5];unfold qi5;obtain⟨o1,o2,o3⟩:=p.od;have hX1:=hX.fm p.fm;have hsp:=hX1.sp _ hg;have q:=hsp.rel _ hx;obtain⟨p1,p2,hrt,p4⟩:=hV.pr.x g hg _ hx;have ht:=p.t;have hl:=p.gl.bM;have B:=wV (Gl.flat p.gl) 63;have K:=wV q.tf 63;have hfd:nC 64 (.agg [R,S,U,V]) (.agg [R,S,U,V])=true:=qgx _ (by have:=I.flat;simp only[Tr,this];rfl);simp only[go_sem,ht,W,hr,hf,hl,B,K];have fU:Fm No H ⟨H.t,H.nx+27⟩:=fm;refine Ok.iD (qz4 (k:=j) om (n:=x.r.types.length) (l:=x.r.types.flatMap tC) ((q.ty.fm fU).sr qe3 q.tc) om) ?_;rintro F H1 ⟨q1,f1,n1⟩;have D:Fm No H H1:=fU.trans f1;have x1:H.nx+27<=H1.nx:=f1.nx;have ht1:=(D.keep o3).trans ht;have hp1:=(D.keep s.2).trans W;have hr1:=(D.keep G).trans hr;have hf1:=(D.keep hfb).trans hf;simp only[go_sem,seval,ht1,hp1,hr1,hf1,B,K,hfd];have hok:=hrt.ok1.flat;refine Ok.iD (zif hN (k:=j) (tg:=iZ X g.name) om (I.fm D) hok fun rl to H' A f'=>?_) ?_
 ·obtain⟨t,A,O,rfl,rfl⟩:=A;have E:=D.trans f';have L:=Fo.rU (fun k rl to=>(k=2\/k=3->(g.name,rl)∈aF X)/\(k=3->iZ X g.name rl to≠[])) _ 0 0 (Fo.sQ _ _ (Ru.aBC _ x.r.rule false fun y Y=>hV.nd g hg x hx y Y)) t A;exact z2e hN (k:=j-1) om ((p.fm.trans E).keep hsl |>.trans hs) ((E.keep s.2).trans W) (hX.fm (p.fm.trans E)) hV t.rl t.to (L.1 (.inr O)) (L.2 O)
 rintro w v ⟨es,q2,f2,hwf,P⟩;have Z:=D.trans f2;have M:=(Z.keep o3).trans ht;have hp2:=(Z.keep s.2).trans W;have hr2:=(Z.keep G).trans hr;have c1:=q1.cells;have c2:=q2.gl.cells;simp only[go_sem,seval,M,hp2,hr2,B,c1,c2];have x2:=f2.nx;have u3:Fm (fun c=>c=H.nx+22) v (v.put (H.nx+22) (aB 0 (yO ⟨(g.name,x),l.length,z,F,w,es⟩))):=(Fm.refl _ _).put _ _ fun _=>rfl;have vW:Fm No H (v.put (H.nx+22) (aB 0 (yO ⟨(g.name,x),l.length,z,F,w,es⟩))):=Z.aG _ _ om;obtain⟨H4,e4,g4,_,f4,n4⟩:=(p.gl.no vW).append (k:=1) (w:=96) (x:=yO ⟨(g.name,x),l.length,z,F,w,es⟩) om rfl om om;refine Ok.uU e4 ?_;have N:∀ c,c<=tb->¬ In lv c:=fun c hc h=>by have:=p.ln c h;omega
 have ht4:=(f4.get tb (by have:=vW.nx;omega) (N tb (lu _))).trans ((u3.get tb om om).trans M);simp only[nq]at e4 g4 n4;have aH2:∀ a b c d y:AV,aZ [a,b,c,d] 1 [y]=[a,y,c,d]:=fun _ _ _ _ _=>rfl;simp only[go_sem,seval,ht4,aH2];rw[kE qi7];unfold qi7;refine aT ?_;have u5:Fm (fun c=>c=tb) H4 (H4.put tb (aB 0 [.bool true,.sl v.nx 0 (l.length+1) (l.length+1) false,.map mb,iN most])):=(Fm.refl _ _).put _ _ fun _=>rfl;have u4:Fm (fun c=>c=tb\/In lv c) H _:=((vW.mono (T:=fun c=>c=tb\/In lv c) fun _ _ h=>absurd h id).then f4 fun _ _ h=>.inr h).then u5 fun _ _ h=>.inl h;have r:∀ b,In (.sl v.nx 0 (l.length+1) (l.length+1) false) b->b=v.nx:=fun b f=>by obtain⟨_,_,_,_,f⟩:=f;simp_all
 have hmn:∀ c,c<tb->¬(c=tb\/In lv c):=fun c hc h=>by
  rcases h with h|h
  ·omega
  ·exact N c om h
 have u:∀ b,jB.B ⟨(g.name,x),l.length,z,F,w,es⟩ b->H.nx+27<=b/\b<v.nx:=fun b f=>by
  rcases f with f|f|⟨y,Y,f⟩
  ·have h1:=n1 b f;have h2:=q1.lt f;exact⟨h1,om⟩
  ·have:=P b (.inl f);have:=q2.gl.lt f;omega
  ·have:=P b (.inr ⟨y,Y,f⟩);have:=(q2.ok y Y).lt f;omega
 have he:jB.Ok X v ⟨(g.name,x),l.length,z,F,w,es⟩:=⟨q1.no f2,q2⟩;have bAe:=u4.get pb s.2 fun h=>by simp_all
 refine hq _ (.sl v.nx 0 (l.length+1) (l.length+1) false) ⟨(g.name,x),l.length,z,F,w,es⟩ rfl ⟨?_,dN _ _ _,p.m.eq (u4.get mb om (hmn mb o2)),⟨o1,o2,by simp only[nq];omega⟩,?_,fun b f=>by have:=r b f;omega,fun e he'=>?_,fun m hm=>?_⟩ bAe (by simp only[nq];omega) fun h=>by have:=r _ h;omega
 ·exact p.fm.then u4 fun c hc h=>by
   rcases h with h|h
   ·omega
   ·have:=p.ln c h;omega
 ·rw[lL,qy,ry];exact g4.fm u5 fun b f h=>by have:=r b f;omega
 ·rcases qi.1 he' with h|h
  ·obtain⟨v1,v2⟩:=p.ok e h;exact⟨v1.dP u4 fun b f h=>by
    have:=v2 b f;rcases h with h|h
    ·omega
    ·exact this.2.2 h,fun b f=>⟨(v2 b f).1,(v2 b f).2.1,fun h=>by have:=r b h;have:=v1.lt f;omega⟩⟩
  ·obtain rfl:=qf.1 h;refine⟨((he.dP u3 fun b f h=>?_).dP f4 fun b f h=>?_).dP u5 fun b f h=>?_,fun b f=>?_⟩
   ·have:=u b f;omega
   ·have:=u b f;have:=p.gl.lt h;omega
   ·have:=u b f;omega
   ·have:=u b f;exact⟨om,om,fun h=>by have:=r b h;omega⟩
 ·by_cases h:m<l.length
  ·rw[lAW h];exact p.n m h
  ·have:m=l.length:=by simp at hm;omega
   simp_all
theorem z6d(hN:iQ C)(hj:24<=j){sv zv lv:AV}{sb L pb tb mb most i:Nat}{l:List jB}{w:List (SS×SS)}{g6:pD}{Q:pL}(hX:bY Hb sv X)(M:dB X)(N:yL Hb zv X o)(hs:Hb.get sb=aB 0 [sv])(O:sb<Hb.nx)(hz:Hb.get L=aB 0 [zv])(P:L<Hb.nx)(F:g∈X)(G:i<g.gs.length)(m:TfI X o Hb H tb mb most lv l w)(hp:H.get pb=aB 0 [.str g.name.n g.name.a,g.rv])(q:tb<pb/\pb<H.nx)(R:¬ In lv pb)(S:w.length=l.length)(hn:cB X g.name g.gs[i].r.name=l.length)(hin:(g.name,g.gs[i].r.name)∈aF X)(x:(g.name,g.gs[i].r.name)∉w)(T:l.length<300)(hq:∀(H':Hp) (n:AV) (e:jB),e.p=(g.name,g.gs[i])->TfI X o Hb H' tb mb most n (l++[e]) (w++[(g.name,g.gs[i].r.name)])->H'.get pb=aB 0 [.str g.name.n g.name.a,g.rv]->pb<H'.nx->¬ In n pb->Ok (g6 (iN ((i+1))) H') Q):Ok (kA qi4 (C j) g6 (.ptr sb 0) (.ptr L 0) (.ptr tb 0) (.ptr pb 0) g.rv (iN i) H) Q:=by
 rw[kE qi4];unfold qi4;obtain⟨o1,o2,o3⟩:=m.od;have bWa:=(M.pr.r g F).1;have z:=(hX.fm m.fm).sp _ F;obtain⟨b1,o1',e1,e2,_,_,_,e6⟩:=z.at' i G;have p:=z.rel _ (lg G);obtain⟨c0,c1,c2,c3,hcs,hrc⟩:=qk0 p;have lT:=p.ru;rw[hcs]at lT;rw[hrc]at e6;obtain⟨_,_,B,_⟩:=M.pr.x g F _ (lg G);refine eF e1 e6 ?_;generalize s:(aI H (aB 0 [zS,.aA,uN 0,zS,zS,.aA])).put H.nx (aB 0 [.str g.gs[i].r.name.n g.gs[i].r.name.a,g.gs[i].tv,c0,c1,c2,c3])=H1;have f1:Fm No H H1:=by rw[<-s];exact kP
 have n1:H1.nx=H.nx+1:=by rw[<-s];rfl
 have Z:H1.get H.nx=aB 0 [.str g.gs[i].r.name.n g.gs[i].r.name.a,g.gs[i].tv,c0,c1,c2,c3]:=by rw[<-s];exact dN _ _ _
 rw[kE qml];unfold qml;refine eP Z ?_;refine Ok.ve (z4z hN (k:=j) om (f:=g.gs[i].r.rule.fo) (lT.fo.fm f1) B.ok1) ?_;rintro _ v ⟨ds,rfl,D,f2⟩;have x2:=f2.nx;obtain⟨kd,rl,to,a,av,ca,hfe,rfl,_,_,_⟩:=D.one (by rw[Fo.dK];exact B.ok1.one);refine aT ?_;generalize t:(aI v (aB 0 [uN 0,zS,zS,.aA])).put v.nx (aB 0 [uN kd,.str rl.n rl.a,.str to.n to.a,av])=H3;have f3:Fm No v H3:=by rw[<-t];exact kP
 have n3:H3.nx=v.nx+1:=by rw[<-t];rfl
 have d3:H3.get v.nx=aB 0 [uN kd,.str rl.n rl.a,.str to.n to.a,av]:=by rw[<-t];exact dN _ _ _
 rw[kE qmm];unfold qmm;have r:=f2.trans f3;have J:=f1.trans r;have z3:=((m.fm.trans J).keep P).trans hz;have p3:=(J.keep q.2).trans hp;have r3:=(r.keep (show H.nx<H1.nx by omega)).trans Z;refine iG z3 p3 r3 ?_;refine Ok.ve (z5v (k:=j) om (N.fm (m.fm.trans J)) g.name g.gs[i].r.name) ?_;rintro _ K ⟨E,hr4⟩;rcases hr4 with⟨_,rfl⟩|⟨h,_⟩
 rotate_left
 ·trivial
 rw[hn,kE qmn];unfold qmn;have A:=J.trans E;have f34:=r.trans E;have d:=m.no A;have t4:=d.t;have p4:=(A.keep q.2).trans hp;have r4:=(f34.keep (show H.nx<H1.nx by omega)).trans Z;have hl:=m.gl.bM;have hv:=wV (Gl.flat m.gl) 63;obtain⟨kk,eu,mu⟩:=d.m.put g.name g.gs[i].r.name x;rw[S]at eu;simp only[go_sem,seval,t4,p4,r4,hl,hv,eu];have u:Fm (fun c=>c=mb) K (K.put mb kk):=(Fm.refl _ _).put _ _ fun _=>rfl;have x4:H3.nx<=K.nx:=E.nx;have hI5:TfI X o Hb (K.put mb kk) tb mb most lv l (w++[(g.name,g.gs[i].r.name)]):=⟨d.fm.then u fun c hc h=>om,(dO _ _ _ _ om).trans t4,mu,⟨o1,o2,by simp only[nq];omega⟩,d.gl.fm u fun b I h=>by have:=m.ln b I;omega,m.ln,fun e y=>⟨(d.ok e y).1.dP u fun b I h=>((d.ok e y).2 b I).2.1 h,(d.ok e y).2⟩,m.n⟩;refine z6e hN hj hX M hs O F (lg G) hI5 ((u.get pb om om).trans p4) ⟨q.1,by simp only[nq];omega⟩ R ((u.get H.nx om om).trans r4) (by simp only[nq];omega) ((u.get v.nx om om).trans ((E.keep om).trans d3)) (by simp only[nq];omega) (((D.fm (f3.trans E)).dP u fun b I h=>om).mono fun _ _ _=>trivial) rfl T om fun H' n e y U V W Y=>hq H' n e y U (V.trans ((u.get pb om om).trans p4)) W Y
structure nP(X:List aQ)(o:List Nat)(H:Hp)(t:AV)(most:Nat)(l:List jB):Prop where
 ex:∃ tb mb lv,t=.ptr tb 0/\tb<H.nx/\mb<H.nx/\H.get tb=aB 0 [.bool true,lv,.map mb,iN most]/\iT H mb (aF X)/\Gl 6 H lv l.length (l.flatMap yO)
 ok:∀ e∈l,e.Ok X H
 p:l.map jB.p=d9 X
 n:∀ i (h:i<l.length),l[i].n=i/\l[i].st=o.getD i 0
theorem nP.fm{t:AV}{l:List jB}(h:nP X o H t most l)(f:Fm No H H'):nP X o H' t most l:=by obtain⟨tb,mb,lv,b,c,d,g,i,j⟩:=h.ex;have:=f.nx;exact⟨⟨tb,mb,lv,b,om,om,(f.keep c).trans g,i.eq (f.keep d),j.no f⟩,fun e a=>(h.ok e a).dP f fun _ _ h=>h,h.p,h.n⟩
theorem zxc(J:iQ C){j:Nat}(K:24<=j){Hb:Hp}{sv L:AV}{sb w pb tb mb most s:Nat}(M:bY Hb sv X)(g:dB X)(m:yL Hb L X o)(N:Hb.get sb=aB 0 [sv])(n:sb<Hb.nx)(O:Hb.get w=aB 0 [L])(p:w<Hb.nx)(c:s<X.length)(r:tb<pb){q:pH}{Q:pL}(P:∀(H:Hp) (lv:AV) (l:List jB),l.map jB.p=dI X s++X[s].gs.map (fun x=>(X[s].name,x))->TfI X o Hb H tb mb most lv l ((l.map jB.p).map kq)->Ok (q H) Q):∀(k i:Nat) (H:Hp) (lv:AV) (l:List jB),i<=X[s].gs.length->X[s].gs.length-i<k->l.map jB.p=dI X s++(X[s].gs.take i).map (fun x=>(X[s].name,x))->TfI X o Hb H tb mb most lv l ((l.map jB.p).map kq)->H.get pb=aB 0 [.str X[s].name.n X[s].name.a,X[s].rv]->pb<H.nx->¬ In lv pb -> Ok (qwg (C j) q (.ptr sb 0) (.ptr w 0) (.ptr tb 0) (.ptr pb 0) X[s].rv (iN (X[s].gs.length)) k (iN i) H) Q
 |0,i,_,_,_,_,h,_,_,_,_,_=>om
 |k+1,i,H,lv,l,hi,hk,hlp,hI,hp,hpl,hpn=>by
  show Ok (zcv (C j) _ _ _ _ _ _ _ (qwg (C j) _ _ _ _ _ _ _ k) _ H) Q;unfold zcv;by_cases b:i<X[s].gs.length
  ·simp only[go_sem,b];have E:l.length=(dI X s).length+i:=by
    have:=congrArg List.length hlp;simp only[pz,lL,qx]at this;omega
   have F:=q8a c b;obtain⟨t,u⟩:=qp.1 F;obtain⟨_,R,_⟩:=g.at t;rw[u,<-E]at R;have S:=g.pr.len;have G:(X[s].name,X[s].gs[i].r.name)∈aF X:=by rw[<-uV];exact xu (f:=kq) (a:=(X[s].name,X[s].gs[i])) (by rw[<-u];exact lg t)
   have d:=qnk g.al c b;rw[<-hlp]at d;refine z6d J K M g m N n O p (lg c) b hI hp ⟨r,hpl⟩ hpn g3 R G d om fun H' y e v z A B D=>?_;have I:(l++[e]).map jB.p=dI X s++(X[s].gs.take (i+1)).map (fun x=>(X[s].name,x)):=by rw[ui,hlp,lh b,ui,qw,ae,v,ae]
   refine zxc J K M g m N n O p c r P k (i+1) H' y (l++[e]) om om I ?_ A B D;rw[ui,ui,ae,v];exact z
  ·simp only[go_sem,b];have v:i=X[s].gs.length:=om;subst v;rw[um]at hlp;exact P H lv l hlp hI
theorem zxd(r:iQ C){j:Nat}(t:24<=j){Hb:Hp}{sv u:AV}{sb g tb mb most:Nat}(i:bY Hb sv X)(f:dB X)(c:yL Hb u X o)(v:Hb.get sb=aB 0 [sv])(d:sb<Hb.nx)(w:Hb.get g=aB 0 [u])(e:g<Hb.nx){q:pH}{Q:pL}(x:∀(H:Hp) (lv:AV) (l:List jB),l.map jB.p=d9 X->TfI X o Hb H tb mb most lv l ((l.map jB.p).map kq)->Ok (q H) Q):∀(k s:Nat) (H:Hp) (lv:AV) (l:List jB),s<=X.length->X.length-s<k->l.map jB.p=dI X s->TfI X o Hb H tb mb most lv l ((l.map jB.p).map kq) -> Ok (qwh (C j) q (.ptr sb 0) (.ptr g 0) (.ptr tb 0) sv (iN (X.length)) k (iN s) H) Q
 |0,s,_,_,_,_,h,_,_=>om
 |k+1,s,H,lv,l,hi,hk,hlp,hI=>by
  show Ok (zcw (C j) _ _ _ _ _ _ (qwh (C j) _ _ _ _ _ _ k) _ H) Q;unfold zcw;obtain⟨N,O,I⟩:=hI.od;have L:=f.pr.n;by_cases a:s<X.length
  ·simp only[go_sem,a];rw[kE qmi];unfold qmi;have y:=i.fm hI.fm;obtain⟨P,J,K,R,_,z,_⟩:=y.rs.at' s a;unfold yA SS.v at z;have D:=(y.sp _ (lg a)).len;have E:=(f.pr.r _ (lg a)).1;refine eF K z ?_;generalize b:(aI H (aB 0 [zS,.aA])).put H.nx (aB 0 [.str X[s].name.n X[s].name.a,X[s].rv])=H1;have F:Fm No H H1:=by rw[<-b];exact kP
   have M:H1.nx=H.nx+1:=by rw[<-b];rfl
   have p1:H1.get H.nx=aB 0 [.str X[s].name.n X[s].name.a,X[s].rv]:=by rw[<-b];exact dN _ _ _
   rw[kE qmj];unfold qmj;refine eF p1 D ?_;rw[kE qmk];unfold qmk zcx;rw[dD];refine zxc r t i f c v d w e a (pb:=H.nx) I (fun A m B n p=>?_) bZ 0 H1 lv l (gp _) lf (by rw[lA0,List.map_nil,uf];exact hlp) (hI.no F) p1 om fun h=>by have:=hI.gl.lt h;omega
   rw[kE kQ];unfold kQ;refine aT ?_;refine zxd r t i f c v d w e x k (s+1) A m B om om ?_ p;rw[n];unfold dI d9;rw[lh a,qy,ry]
  ·simp only[go_sem,a];have G:s=X.length:=om;refine x H lv l ?_ hI;rw[hlp,G];unfold dI;rw[um]
theorem z92(F:iQ C)(N:qer C)(O:pJ C)(P:qbv C)(Q:oL LA LO C){k:Nat}(R:1004<=k)(G:bY H sv X)(h:SOK X):Ok (C k (.f 67) [.agg [sv]] H) fun r H'=>∃ t o l,r=.bA [t,iN 0]/\aHU X o/\nP X o H' t (mnA X o) l/\Fm No H H':=by
 obtain⟨j,rfl⟩:=aP R;rw[lk (zof ..)];unfold zGv zy7;have J:=h.val;refine aT ?_;have v:Fm No H (aI H (aB 0 [sv])):=fm;refine Ok.ve (z94 F N O P Q (k:=j) om (G.fm v) h) ?_;rintro _ H1 ⟨B,o,rfl,gz,D,d,q⟩;have U:=q.nx;simp only[np]at U;have V:=(q.keep (show H.nx<(aI H (aB 0 [sv])).nx by(go_size))).trans (jG _ _);refine aT ?_;rw[kE qi6];unfold qi6;refine aT ?_;rw[kE qmf];unfold qmf;generalize f:(aI H1 (aB 0 [.aA])).put H1.nx (aB 0 [B])=Hb;have fb:Fm No H1 Hb:=by rw[<-f];exact fm
 have nb:Hb.nx=H1.nx+1:=by rw[<-f];rfl
 have K:Hb.get H1.nx=aB 0 [B]:=by rw[<-f];exact dN _ _ _
 have sb:=(fb.keep (show H.nx<H1.nx by omega)).trans V;have w:o.length=(aF X).length:=d.len;have x:((aF X).zip o).length=(aF X).length:=by rw[List.length_zip];omega
 have z:=h.len;have m:yL Hb B X o:=by
  refine⟨?_,D,w,om,fun y S=>?_⟩
  ·rw[<-x]at gz;exact(gz.rs ziz).fm fb
  ·obtain⟨i,u,rfl⟩:=ai S;have:=d.bd i om;rw[show o.getD i 0=o[i]by simp[gy,u]]at this;omega
 have fm:Fm No Hb (aI Hb (.map [] 0)):=fm;have W:=(fm.keep (show H1.nx<Hb.nx by omega)).trans K;refine eP W ?_;refine Ok.ve (znj (k:=j) om (m.fm fm)) ?_;rintro _ p ⟨rfl,E⟩;have x2:=E.nx;simp only[np]at x2;have Y:=(E.keep (show Hb.nx<(aI Hb (.map [] 0)).nx by(go_size))).trans (jG _ _);have Z:∀ b,uQ (.map b)=some [.map b]:=fun _=>rfl;refine eP Z ?_;generalize g:aI p (aB 0 [.bool true,.aA,.map Hb.nx,iN ((mnA X o))])=H3;have L:Fm No p H3:=by rw[<-g];(repeat(first|exact Fm.refl _ _|assumption|refine Fm.push ?_ _|refine Fm.up2 ?_ (by go_size)|refine Fm.aG ?_ _ _ (by go_size)))
 have n3:H3.nx=p.nx+1:=by rw[<-g];rfl
 have t3:H3.get p.nx=aB 0 [.bool true,.aA,.map Hb.nx,iN ((mnA X o))]:=by rw[<-g];exact jG _ _
 have c:=(fm.trans E).trans L;have s3:=(c.keep (show H.nx<Hb.nx by omega)).trans sb;have n:=(G.fm v).fm (q.trans fb);have A:=(n.fm c).rs.len;rw[kE qmg];unfold qmg;refine eF s3 A ?_;rw[kE qmh];unfold qmh zcy;rw[dD];have M:=J.pr.n;refine zxd F (j:=j) om n J m sb om K om (mb:=Hb.nx) (tb:=p.nx) (most:=mnA X o) (fun H4 lv l I a=>?_) bZ 0 H3 .aA [] (gp _) lf (by unfold dI d9;simp) ⟨c,t3,kM.nil _ _ ((L.keep om).trans Y),⟨lu _,om,om⟩,Gl.nil 6 H3,fun b T=>absurd T (notNil b),(fun e s=>by cases s),(fun i u=>by cases u)⟩;rw[kE qct];unfold qct;obtain⟨o1,o2,o3⟩:=a.od;have z:=a.m;rw[I,uV]at z;exact Ok.ret ⟨_,o,l,rfl,d,⟨⟨_,_,lv,rfl,o3,om,a.t,z,a.gl⟩,fun e s=>(a.ok e s).1,I,a.n⟩,((v.trans q).trans fb).trans a.fm⟩
structure CpE(X:List aQ)(H H':Hp)(e0 e:jB):Prop where
 p:e.p=e0.p
 n:e.n=e0.n
 st:e.st=e0.st
 ok:e.Ok X H'
 nw:∀ b,e.B b->H.nx<=b
 sep:∀ x∈e.es,(∀b,In x.sp b\/In x.av b->¬ In e.nv b)/\dU x.sp=aD x.sp/\dU x.av=aD x.av
 cap:dU e.tv=aD e.tv/\dU e.nv=aD e.nv
def taZ:List AV:=[zS,zS,iN 0,iN 0,.aA,.aA]
theorem nP.at'{t:AV}{l:List jB}(h:nP X o H t most l)(b:dB X)(a:i<l.length):l[i].Ok X H/\l[i].p.2.r.types.length<=8/\l[i].p.2.r.rule.Rt:=by
 refine⟨h.ok _ (lg a),?_⟩;have c:l[i].p∈d9 X:=by rw[<-h.p];exact xu (lg a)
 obtain⟨g,d,e,_⟩:=qgl.1 (show(l[i].p.1,l[i].p.2)∈d9 X from c);have:=b.pr.x g d _ e;simp_all
theorem zku(m:4<=j){d:jB}(n:d.Ok X H)(o:dB X)(p:d.p.2.r.types.length<=8)(q:d.p.2.r.rule.Rt){Q:pL}(r:∀(e:jB) (H':Hp),Fm No H H'->CpE X H H' d e->Q (.bA [.agg (yO e),iN 0]) H'):Ok (ve (C j (.f 132) [.agg (yO d)] (aI H (aB 0 [zS,zS,iN 0,iN 0,.aA,.aA]))) fun a H'=>ve (xA 6 H' (.ptr H.nx 0) a) fun _ H'=>dM (gH (fQ (rV (cO 6 H' (.ptr H.nx 0))) (fQ (some (iN 0)) (some [])))) H') Q:=by
 have i:Fm No H (aI H (aB 0 [zS,zS,iN 0,iN 0,.aA,.aA])):=by exact jF
 refine Ok.ve (zmi (k:=j) m (n.dP i fun _ _ h=>h) o p q) ?_;rintro _ x ⟨e,rfl,p1,s,t,u,g,v,w,l⟩;simp only[np]at g;have k2:=(l.keep (show H.nx<(aI H (aB 0 [zS,zS,iN 0,iN 0,.aA,.aA])).nx by simp only[np,nq];omega)).trans (jG _ _);unfold yO;simp only[go_sem,seval,k2];refine Ok.ret (r e _ ((i.trans l).aG _ _ (lu _)) ⟨p1,s,t,u.dP (S:=fun c=>c=H.nx) ((Fm.refl _ _).put _ _ fun _=>rfl) fun b f h=>?_,fun b f=>?_,v,w⟩)
 ·have:=g b f;omega
 ·have:=g b f;omega
theorem q9m{k:Nat}(w:6<=k){t:AV}{l:List jB}(h:nP X o H t most l)(u:dB X)(J:l.length<300)(a b:SS){Q:pL}(x:∀(m:cB X a b<l.length) (e:jB) (H':Hp),(a,b)∈aF X->Fm No H H'->CpE X H H' l[cB X a b] e->Q (.bA [.agg (yO e),iN 0]) H')(y:(a,b)∉aF X->∀ H',Fm No H H'->Q (.bA [.agg taZ,iN 6]) H'):Ok (C k (.f 71) [t,.str a.n a.a,.str b.n b.a] H) Q:=by
 obtain⟨j,rfl⟩:=aP w;rw[lk (zoe ..)];obtain⟨tb,mb,lv,rfl,L,B,r,D,v⟩:=h.ex;unfold zGz zy6;have K:=v.bM;have A:Fm No H (aI H (aB 0 [zS,zS,iN 0,iN 0,.aA,.aA])):=fm;have g:iT (aI H (aB 0 [zS,zS,iN 0,iN 0,.aA,.aA])) mb (aF X):=D.eq (A.keep B);refine eP r ?_;unfold q0u;by_cases d:(a,b)∈aF X
 ·have m:cB X a b<l.length:=by
   have:=qpn d;have s:=congrArg List.length h.p;rw[pz,<-show((d9 X).map kq).length=(d9 X).length from pz ..,uV]at s;omega
  have n:=g.find (iN 0) a b d;rw[show(aF X).findIdx (fun q=>decide (q=(a,b)))=cB X a b from rfl]at n;obtain⟨E,s,F⟩:=h.at' u m;obtain⟨c,p,G,M,_,I,_⟩:=(v.rs z2d).at' _ m;refine eF r n ?_;unfold q0v;refine eF r G ?_;rw[I];exact zku om E u s F fun e H' f z=>x m e H' d f z
 ·have n:=g.miss (iN 0) a b d;have i:∀ H',Fm No H H'->Ok (dM (gH (fQ (some (.agg taZ)) (fQ (some (iN 6)) (some [])))) H') Q:=fun H' f=>Ok.ret (y d H' f);unfold taZ at i;refine eF r n ?_;exact i _ fm
theorem z4w{k:Nat}(p:7<=k){t:AV}{l:List jB}(h:nP X o H t most l)(q:dB X)(s:l.length<300)(a b:SS):Ok (C k (.f 70) [t,.str a.n a.a,.str b.n b.a] H) fun r H'=>r=.bool (decide ((a,b)∈aF X))/\Fm No H H':=by
 obtain⟨j,rfl⟩:=aP p;rw[lk (zod ..)];refine Ok.ve (R:=fun r H'=>Fm No H H'/\∃ cs,cs.length=6/\r=.bA [.agg cs,iN ((if(a,b)∈aF X then 0 else 6))]) (q9m om h q s a b (fun v e H' c f _=>⟨f,yO e,rfl,by rw[qj c]⟩) fun c H' f=>⟨f,taZ,rfl,by rw[pg c]⟩) ?_;rintro _ H1 ⟨n,cs,u,rfl⟩;obtain⟨c0,d,g,i,c4,c5,rfl⟩:∃ c0 d g i c4 c5,cs=[c0,d,g,i,c4,c5]:=by
  match cs,u with
  | [c0,d,g,i,c4,c5],_=>exact⟨c0,d,g,i,c4,c5,rfl⟩
 have m:∀ B,Fm No H ((aI H1 (aB 0 taZ)).put H1.nx B):=fun B=>(n.push _).aG _ _ n.nx;by_cases c:(a,b)∈aF X
 ·rw[qj c];refine aT ?_;exact Ok.ret ⟨by rw[qc c],m _⟩
 ·rw[pg c];refine aT ?_;exact Ok.ret ⟨by rw[ql c],m _⟩
variable {T:List Tu}
variable {H0:Hp}
theorem MB.look{es:List gD}{a:List G3}(h:MB H0 H b T es a)(g:G3):∃v,nR ⟨mW,some 3⟩ .aA false H (.map b) (.agg (gC g))=.val v/\Gl 6 H v (vS T g).length ((vS T g).flatMap Tu.cells):=by
 obtain⟨g1,g2⟩:=qeo qpt g es a 0 h.key;have e:∀ r,yK mW (sF g) es 0=r->nR ⟨mW,some 3⟩ .aA false H (.map b) (.agg (gC g))=q33 false .aA r:=fun r k=>by show(match(match H.get b with| .map es _=>some es|_=>none)with|some es=>q33 false .aA (yK _ (sF g) es 0)|none=>.bad)=_;rw[h.get];simp_all
 by_cases f:g∈a
 ·obtain⟨x,i,x2⟩:=g2 f;have l:=(qp.1 i).1;have m:=h.len;have c:a[a.findIdx fun q=>decide (q=g)]? =some g:=by
   rw[lq om];congr 1;have:=lEF (p:=fun q=>decide (q=g)) (xs:=a) (w:=om);simp_all
  exact⟨x.val,(e _ x2).trans rfl,h.val _ x g i c⟩
 ·have d:vS T g=[]:=List.filter_eq_nil_iff.2 fun t j=>by
   simp only[yc];intro e;exact f (by rw[<-e];exact h.mem t j)
  exact⟨.aA,(e _ (g1 f)).trans rfl,by rw[d];exact Gl.nil 6 _⟩
structure nT(H0 H:Hp)(u r:AV)(ul:List (SS×SS))(rl:List G3):Prop where
 a:Ac 2 pC H0 H u ul
 b:Ac 3 gC H0 H r rl
 dj:∀ c,In u c->¬ In r c
theorem nT.no{u r:AV}{a:List (SS×SS)}{rl:List G3}(h:nT H0 H u r a rl)(f:Fm No H H'):nT H0 H' u r a rl:=⟨h.a.no f,h.b.no f,h.dj⟩
theorem nT.nil(f:Fm No H0 H):nT H0 H .aA .aA [] []:=⟨Ac.nil _ _ f,Ac.nil _ _ f,fun c h=>by obtain⟨_,_,_,_,h⟩:=h;cases h⟩
theorem nT.bCh{u r:AV}{d:List (SS×SS)}{rl:List G3}(h:nT H0 H u r d rl)(x:SS×SS)(j:d.length<100):Ok (iM 2 32 H u (some ⟨1,pC x⟩)) fun i H'=>nT H0 H' i r (d++[x]) rl:=by
 refine(h.a.start.add x 32 rfl om om).mono fun w' H' a=>?_;refine⟨h.a.fin a,⟨h.b.gl.fm a.fm fun c b e=>h.dj c e b,h.b.fm.then a.fm fun c b e=>by have:=h.a.nw c e;omega,h.b.nw⟩,fun c b f=>?_⟩;rcases a.nw c b with g|g
 ·exact h.dj c g f
 ·have:=h.b.gl.lt f;omega
theorem nT.bCb{u r:AV}{e:List (SS×SS)}{rl:List G3}(h:nT H0 H u r e rl)(x:G3)(j:rl.length<100000):Ok (iM 3 48 H r (some ⟨1,gC x⟩)) fun g H'=>nT H0 H' u g e (rl++[x]):=by
 refine(h.b.start.add x 48 rfl om om).mono fun w' H' b=>?_;refine⟨⟨h.a.gl.fm b.fm fun c a d=>h.dj c a d,h.a.fm.then b.fm fun c a d=>by have:=h.b.nw c d;omega,h.a.nw⟩,h.b.fin b,fun c a i=>?_⟩;rcases b.nw c i with f|f
 ·exact h.dj c a f
 ·have:=h.a.gl.lt a;omega
def lf1(t:Tu):List G3:=if t.z=sE then[]else[suT t]
theorem lf12{O:Ev.Call}{H0:Hp}{v:AV}{l:List Tu}(t:Rs 6 Tu.cells H0 v l)(z:l.length<=20){Q:pL}{q:AV->pD}(w:∀ u r e H,nT H0 H u r e (l.flatMap lf1)->Ok (q u r H) Q):∀(k i:Nat) (u r:AV) (e:List (SS×SS)) (H:Hp),i<=l.length->l.length-i<k->e.length<=i->((l.take i).flatMap lf1).length<=i->nT H0 H u r e ((l.take i).flatMap lf1) -> Ok (qns O q v (iN (l.length)) k u r (iN i) H) Q
 |0,i,_,_,_,_,_,h,_,_,_=>om
 |k+1,i,u,r,e,H,hi,hk,hul,hrl,h=>by
  show Ok (qz9 O _ _ _ (qns O _ _ _ k) _ _ _ H) Q;unfold qz9;by_cases d:i<l.length
  ·simp only[go_sem,d];unfold zbz;obtain⟨b,o,y,C,s⟩:=(t.fm h.a.fm).oZ d;have B:l[i].cells=[.str l[i].a.n l[i].a.a,.str l[i].b.n l[i].b.a,.str l[i].c.n l[i].c.a,.str l[i].x.n l[i].x.a,.str l[i].y.n l[i].y.a,.str l[i].z.n l[i].z.a]:=rfl;have n:Fm No H ((aI H (aB 0 [zS,zS,zS,zS,zS,zS])).put H.nx (aB 0 l[i].cells)):=by exact kP
   have x:(l.take (i+1)).flatMap lf1=(l.take i).flatMap lf1++lf1 l[i]:=by rw[lh d,qy,ry]
   rw[B]at s n;have next:∀(g j:AV) (c:List (SS×SS)) (f:Hp),c.length<=i+1->nT H0 f g j c ((l.take i).flatMap lf1++lf1 l[i])->Ok (qs5 O (qns O q v (iN (l.length)) k) g j (iN i) f) Q:=fun g j c f A m=>by
    unfold qs5;refine aT ?_;refine lf12 t z w k (i+1) g j c f om om A ?_ (by rw[x];exact m);have q1:(lf1 l[i]).length<=1:=by unfold lf1;split<;>simp
    rw[x,lL];omega
   unfold lf1 at next
   by_cases a:l[i].z.n=0/\l[i].z.a=0
   ·have p:=qc a;rw[qj ((ssE _).1 a)]at next
    refine iG y s p ?_;refine Ok.ve ((h.no (n.push (aB 0 (pC (l[i].x,l[i].y))))).bCh (l[i].x,l[i].y) om) ?_;intro g f m;exact next g r (e++[(l[i].x,l[i].y)]) f (by rw[lL,lAN];omega) (by rw[uf];exact m)
   ·have p:=ql a;rw[pg fun h=>a ((ssE _).2 h)]at next
    refine iG y s p ?_;refine Ok.ve ((h.no (n.push (aB 0 (gC (suT l[i]))))).bCb (suT l[i]) om) ?_;intro j f m;exact next u j e f om m
  ·simp only[go_sem,d];rw[tq om]at h;exact w u r e H h
theorem z6j{O:Ev.Call}{H:Hp}{v:AV}{l:List SS}{s:SS}(c:Rs 1 sC H v l)(g:l.length<1000000):∀(k i:Nat),i<=l.length->l.length-i<k->s∈l.drop i -> ∃n:Nat,qnv O (fun x H=>.ok x H) (fun H=>qT O H) v (.str s.n s.a) (iN (l.length)) k (iN i) H=.ok (iN n) H
 |0,i,_,h,_=>om
 |k+1,i,hi,hk,hs=>by
  show ∃n:Nat,qwe O _ _ _ _ _ (qnv O _ _ _ _ _ k) _ H=_;unfold qwe;by_cases a:i<l.length
  ·obtain⟨b,o,e,_,_,_,p⟩:=c.at' i a;have d:bX (H.get b) o=.val (.str l[i].n l[i].a):=p 0 (by simp[sC]);by_cases f:s.n=l[i].n/\s.a=l[i].a
   ·refine⟨i,?_⟩;have j:=qc f;simp only[go_sem,a];unfold qwd;simp only[go_sem,e,d,j]
   ·have m:s∈l.drop (i+1):=by
     rw[uq a,su]at hs;rcases hs with h|h
     ·simp_all
     ·exact h
    obtain⟨n,q⟩:=z6j c g k (i+1) om om m;refine⟨n,?_⟩;simp only[go_sem,a];unfold qwd;simp only[go_sem,e,d,f];unfold kQ;refine aT ?_;exact q
  ·rw[List.drop_of_length_le om]at hs;cases hs
theorem z5a{k:Nat}(c:2<=k){v:AV}{l:List SS}(s:SS)(b:Rs 1 sC H v l)(d:l.length<900000):C k (.f 133) [v,.str s.n s.a] H=.ok (.bool (decide (s∈l))) H:=by
 by_cases a:s∈l
 ·obtain⟨j,rfl⟩:∃ j,k=j+1+1:=⟨k-2,om⟩;rw[qc a,lk (q43 ..)];unfold zIa zn1;simp only[go_sem];rw[lk (q41 ..)];unfold zIb zn0 q42;obtain⟨n,e⟩:=z6j (O:=C j) b om bZ 0 (gp _) lf (s:=s) (by simpa using a);simp only[go_sem,b.len];rw[dD,e];rfl
 ·rw[ql a];exact zus c b d a
def lf3(X:List aQ)(a rl to:SS)(t:Tu):List G3:=if t.z=sE/\t.x∈iZ X a rl to then[((t.x,t.y),to)]else[]
theorem lf51{j:Nat}(x:2<=j){H0:Hp}{v sp:AV}{nb:Nat}{c0 c4 c5:AV}{a rl to:SS}{l:List Tu}(y:Rs 6 Tu.cells H0 v l)(F:l.length<=20)(z:H0.get nb=aB 0 [c0,.str rl.n rl.a,.str to.n to.a,sp,c4,c5])(d:nb<H0.nx)(A:Rs 1 sC H0 sp (iZ X a rl to))(u:(iZ X a rl to).length<=100){Q:pL}{q:pD}(B:∀ r H,Ac 3 gC H0 H r (l.flatMap (lf3 X a rl to))->Ok (q r H) Q):∀(k i:Nat) (r:AV) (H:Hp),i<=l.length->l.length-i<k->((l.take i).flatMap (lf3 X a rl to)).length<=i->Ac 3 gC H0 H r ((l.take i).flatMap (lf3 X a rl to)) -> Ok (qnr (C j) q (.ptr nb 0) v (iN (l.length)) k r (iN i) H) Q
 |0,i,_,_,_,h,_,_=>om
 |k+1,i,r,H,hi,hk,hrl,h=>by
  show Ok (qz8 (C j) _ _ _ _ (qnr (C j) _ _ _ _ k) _ _ H) Q;unfold qz8;by_cases c:i<l.length
  ·simp only[go_sem,c];unfold zby
   have m:=h.fm;obtain⟨b,o,w,J,p⟩:=(y.fm m).oZ c;have I:l[i].cells=[.str l[i].a.n l[i].a.a,.str l[i].b.n l[i].b.a,.str l[i].c.n l[i].c.a,.str l[i].x.n l[i].x.a,.str l[i].y.n l[i].y.a,.str l[i].z.n l[i].z.a]:=rfl;have e:Fm No H ((aI H (aB 0 [zS,zS,zS,zS,zS,zS])).put H.nx (aB 0 l[i].cells)):=by exact kP
   have D:=(m.keep d).trans z;have nx:=m.nx;have E:(l.take (i+1)).flatMap (lf3 X a rl to)=(l.take i).flatMap (lf3 X a rl to)++lf3 X a rl to l[i]:=by rw[lh c,qy,ry]
   rw[I]at p e;have O:=z5a x l[i].x (A.fm (m.trans e)) om;have next:∀(f:AV) (g:Hp),Ac 3 gC H0 g f ((l.take i).flatMap (lf3 X a rl to)++lf3 X a rl to l[i])->Ok (qs4 (C j) (qnr (C j) q (.ptr nb 0) v (iN (l.length)) k) f (iN i) g) Q:=fun f g G=>by
    unfold qs4;refine aT ?_;have q1:(lf3 X a rl to l[i]).length<=1:=by unfold lf3;split<;>simp
    exact lf51 x y F z d A u B k (i+1) f g om om (by rw[E,lL];omega) (by rw[E];exact G)
   unfold lf3 at next
   by_cases s:l[i].z.n=0/\l[i].z.a=0
   ·have n:=qc s;by_cases t:l[i].x∈iZ X a rl to
    ·rw[qc t]at O;rw[qj ⟨(ssE _).1 s,t⟩]at next
     refine nI w p n D O ?_;refine Ok.ve ((h.no (e.push (aB 0 (gC ((l[i].x,l[i].y),to))))).add ((l[i].x,l[i].y),to) 48 rfl om om) ?_;trivial
    ·rw[ql t]at O;rw[pg fun h=>t h.2,uf]at next
     refine nI w p n D O ?_;exact next r _ (h.no e)
   ·have n:=ql s;rw[pg fun h=>s ((ssE _).2 h.1),uf]at next
    refine iG w p n ?_;exact next r _ (h.no e)
  ·simp only[go_sem,c];rw[tq om]at h;exact B r H h
def lfR(X:List aQ)(T:List Tu)(g:G3)(k:Nat)(rl to:SS):List G3:=
 if k=1 then(vS T g).flatMap lf1 else if k=2 then[(g.1,rl)]else if k=3 then(vS T (g.1,rl)).flatMap (lf3 X g.1.1 rl to)else[]
theorem q4e(f:Tu->List G3)(g:G3):∀ T:List Tu,(vS T g).flatMap f=T.flatMap fun t=>if goT t=g then f t else[]
 | []=>rfl
 |t::T=>by have ih:=q4e f g T;unfold vS at *;rw[uA,ik,<-ih];by_cases h:goT t=g<;>simp[h]
theorem z8p(g:G3)(k:Nat)(rl to:SS):lfR X T g k rl to=rfN X T g k rl to:=by
 unfold lfR rfN;have e:(∀t,yR X g k rl to t=[])->T.flatMap (yR X g k rl to)=[]:=fun h=>List.flatMap_eq_nil_iff.2 fun t _=>h t;by_cases b:k=1
 ·rw[qj b,pg om,yj,q4e];congr 1;funext t;unfold yR lf1;by_cases a:goT t=g
  ·simp_all
  ·simp[a,b]
 ·rw[pg b];by_cases c:k=2
  ·rw[qj c,qj c,e fun t=>by unfold yR;rw[pg fun h=>b h.1,pg fun h=>by have:=h.1;omega]];rfl
  ·rw[pg c,pg c,yj];by_cases d:k=3
   ·rw[qj d,q4e];congr 1;funext t;have f:yR X g k rl to t=if k=3/\goT t=(g.1,rl)/\t.z=sE/\t.x∈iZ X g.1.1 rl to then[((t.x,t.y),to)]else[]:=pg fun h=>b h.1
    unfold lf3;rw[f];by_cases a:goT t=(g.1,rl)
    ·simp[a,d]
    ·simp[a]
   ·rw[pg d,e fun t=>by unfold yR;rw[pg fun h=>b h.1,pg fun h=>d h.1]]
theorem zr9{k:Nat}(G:3<=k){es:List gD}{I:List G3}{t:AV}{e:TE}{g:G3}(J:MB H0 H b T es I)(K:b<H.nx)(L:T.length<=20)(M:e.Ok (iZ X g.1.1) H)(w:(iZ X g.1.1 e.t.rl e.t.to).length<=100)(N:e.t.k<256):Ok (C k (.f 72) [.agg [t,.map b],.agg (pE e),.agg (gC g)] H) fun r H'=>∃ u v,r=.bA [u,v]/\Ac 3 gC H H' v (rfN X T g e.t.k e.t.rl e.t.to):=by
 obtain⟨j,rfl⟩:=aP G;obtain⟨⟨n,rl,to,m,lf⟩,p,sp⟩:=e;rw[lk (znl ..),<-z8p];unfold zIr zyj lfR;have E:gC g=[.str g.1.1.n g.1.1.a,.str g.1.2.n g.1.2.a,.str g.2.n g.2.a]:=rfl;have O:pE ⟨⟨n,rl,to,m,lf⟩,p,sp⟩=[uN n,.str rl.n rl.a,.str to.n to.a,sp,p,qyz lf]:=rfl;have d:Fm No H (aI (aI (aI H (aB 0 [t,.map b])) (aB 0 (pE ⟨⟨n,rl,to,m,lf⟩,p,sp⟩))) (aB 0 (gC g))):=by exact fP3
 have i:∀ g,(vS T g).length<=20:=fun g=>rq (zn _ _) L;have l:=J.fm d K;rw[E,O]at d l ⊢;by_cases A:n=1
 ·subst A;obtain⟨v,l1,s⟩:=l.look g;rw[E]at l1;have x:=s.bM;refine eF l1 x ?_;unfold zb1;rw[dD];refine lf12 (s.rs yF) (i g) (fun u r Q H1 h=>?_) bZ 0 .aA .aA [] _ (gp _) (by rw[wH];have:=i g;omega) (gp _) (gp _) (nT.nil (Fm.refl _ _));have F:=d.nx;exact Ok.ret ⟨u,r,rfl,h.b.gl,d.trans h.b.fm,fun c o=>by have:=h.b.nw c o;omega⟩
 ·rw[pg A];by_cases B:n=2
  ·subst B;refine aT ?_;have h:=Ac.new1 (z:=3) (f:=gC) (H0:=aI (aI (aI H (aB 0 [t,.map b])) (aB 0 (pE ⟨⟨2,rl,to,m,lf⟩,p,sp⟩))) (aB 0 (gC g))) ((g.1,rl):G3) rfl;have F:=d.nx;exact Ok.ret ⟨_,_,rfl,h.gl,d.trans h.fm,fun c o=>by have q:=h.nw c o;simp only[np]at q;omega⟩
  ·rw[pg B];by_cases D:n=3
   ·subst D;obtain⟨v,l1,s⟩:=l.look (g.1,rl);have y:gC (g.1,rl)=[.str g.1.1.n g.1.1.a,.str g.1.2.n g.1.2.a,.str rl.n rl.a]:=rfl;rw[y]at l1;have x:=s.bM;refine eF l1 x ?_;unfold zb0;rw[dD];have P:Gl 1 H sp (iZ X g.1.1 rl to).length ((iZ X g.1.1 rl to).flatMap sC):=by
     rcases M.sp with h|h
     ·exact h.2
     ·simp_all
    refine lf51 om (c0:=uN 3) (c4:=p) (c5:=qyz lf) (nb:=H.nx+1) (sp:=sp) (a:=g.1.1) (rl:=rl) (to:=to) (s.rs yF) (i _) g6 g1 ((P.rs qlp).fm d) w (fun r H1 h=>?_) bZ 0 .aA _ (gp _) (by rw[wH];have:=i (g.1,rl);omega) (gp _) (Ac.nil 3 _ (Fm.refl _ _));have F:=d.nx;exact Ok.ret ⟨_,r,rfl,h.gl,d.trans h.fm,fun c o=>by have:=h.nw c o;omega⟩
   ·rw[pg D];refine iG A B D ?_;exact Ok.ret ⟨_,_,rfl,Ac.nil 3 _ fm⟩
variable {w:AV}
theorem Ac.aO8{α:Type}{f:α->List AV}{v:AV}{l y:List α}(h:Ac z f H0 H v l)(p:(y.flatMap f).length=y.length*z)(wd:Nat)(a:(l.length+y.length)*wd<=1099511627776)(d:l.length+y.length<=1099511627776):Ok (iM z wd H v (some ⟨y.length,y.flatMap f⟩)) fun r H'=>Ac z f H0 H' r (l++y):=by
 by_cases n:y=[]
 ·subst n;rw[uf];rcases h.gl.is with⟨rfl,j⟩|⟨b,o,e,q,L,rfl,u,A,m,B,C⟩
  ·exact⟨.aA,H,rfl,h⟩
  ·have i:=h.gl.len;have t:aZ L (o+l.length*z) []=L:=by simp[aZ]
   have G:o+l.length*z=L.length:=by rw[<-m,vz]at i;omega
   refine⟨.sl b o l.length l.length e,H.put b (aB q L),?_,⟨i,.inr ⟨b,o,e,q,L,rfl,dN _ _ _,A,m,B,C⟩⟩,h.fm.then ((Fm.refl (fun c=>c=b) _).put _ _ fun _=>rfl) fun c s g=>?_,h.nw⟩
   ·show(bif Nat.ble (l.length+0) l.length then storeAt H b (o+l.length*z) [] (.sl b o (l.length+0) l.length e)else _)=_;rw[ble_eq,qc (show l.length+0<=l.length from lu _),uB,qb3 H b _ _ _ q L u g2,t];rfl
   ·subst g;have:=h.nw c ⟨_,_,_,_,rfl⟩;omega
 ·have j:0<y.length:=aj.2 n;obtain⟨H',e,D,_,E,nx'⟩:=h.gl.append (k:=y.length) (w:=wd) (x:=y.flatMap f) j p a d;refine⟨_,H',e,?_,h.fm.then E fun c s g=>by have:=h.nw c g;omega,fun b a=>?_⟩
  ·simp_all
  ·obtain⟨_,_,_,_,F⟩:=a;cases F;exact h.fm.nx
theorem Ac.app{α:Type}{f:α->List AV}{v w:AV}{l y:List α}(h:Ac z f H0 H v l)(b:Gl z H w y.length (y.flatMap f))(wd:Nat)(c:(l.length+y.length)*wd<=1099511627776)(a:l.length+y.length<=1099511627776):Ok (iM z wd H v (lY z H w)) fun d H'=>Ac z f H0 H' d (l++y):=by rw[b.src];exact h.aO8 b.len wd c a
def Fo.uH(F:Nat->SS->SS->List G3):Fo->List G3
 | .nil=>[]
 | .cons k rl to a r=>F k rl to++(Fo.uH F a++Fo.uH F r)
theorem Fo.xK(F:Nat->SS->SS->List G3):∀ f g:Fo,Fo.uH F (f.app g)=Fo.uH F f++Fo.uH F g
 | .nil,g=>rfl
 | .cons k rl to a r,g=>by simp only[Fo.app,Fo.uH,Fo.xK F r g,qw]
theorem Fo.xL{F:Nat->SS->SS->List G3}(b:∀ k rl to,4<=k->F k rl to=[])(k:Nat):∀ f:Fo,Fo.uH F (Fo.spl k f)=Fo.uH F f
 | .nil=>rfl
 | .cons k' rl to a r=>by
  unfold Fo.spl;split
  ·rw[Fo.xK,Fo.xL b k r,Fo.uH,b k' rl to om,yj]
  ·simp only[Fo.uH,Fo.xL b k r]
theorem Fo.uD{F:Nat->SS->SS->List G3}(b:∀ k rl to,4<=k->F k rl to=[]):∀ f:Fo,Fo.uH F f.flat=Fo.uH F f
 | .nil=>rfl
 | .cons k rl to a r=>by simp only[Fo.flat,Fo.uH,Fo.xL b,Fo.uD b a,Fo.uD b r]
theorem Fo.xR{F:Nat->SS->SS->List G3}(b:∀ k rl to,4<=k->F k rl to=[]):∀(f:Fo) (p c:Nat),((f.eO p c).flatMap fun t=>if t.leaf=none then[]else F t.k t.rl t.to)=Fo.uH F f
 | .nil,_,_=>rfl
 | .cons k rl to a r,p,c=>by rw[Fo.eO,uA,qy,Fo.xR b a,Fo.xR b r,Fo.uH];simp_all
theorem Ru.uH(F:Nat->SS->SS->List G3):∀(r:Ru) (neg:Bool),Fo.uH F r.fo=(r.nodes neg).flatMap fun y=>F y.k y.rl y.to
 | .leaf k rl to,neg=>by simp[Ru.fo,Fo.uH,Ru.nodes]
 | .node k a b,neg=>by rw[Ru.fo,Fo.uH,Fo.xK,Fo.uH,uf,Ru.nodes,uA,qy,Ru.uH F a neg,Ru.uH F b]
def tnF(X:List aQ)(T:List Tu)(g:G3)(l:List TE):List G3:=l.flatMap fun e=>if e.t.leaf=none then[]else rfN X T g e.t.k e.t.rl e.t.to
theorem z6f{g:G3}{l:List TE}{x:bB}(c:lF X g.1.1 g.2=some x)(h:l.map TE.t=x.r.rule.fo.flat.eO 0 0):tnF X T g l=nJ X T g:=by
 have a:∀ k rl to,4<=k->rfN X T g k rl to=[]:=fun k rl to h=>by unfold rfN;rw[pg om,yj];refine List.flatMap_eq_nil_iff.2 fun t _=>?_;unfold yR;rw[pg om,pg om]
 have b:=Fo.xR (F:=rfN X T g) a x.r.rule.fo.flat 0 0;rw[<-h,lAK,Fo.uD a,Ru.uH _ _ false]at b;unfold tnF nJ;simp_all
theorem aOy{j:Nat}(E:3<=j){H0 Hb:Hp}{b bw bg:Nat}{es:List gD}{S:List G3}{t A:AV}{l:List TE}{g:G3}(F:MB Hb H0 b T es S)(G:b<H0.nx)(B:T.length<=20)(I:H0.get bw=aB 0 [t,.map b])(m:bw<H0.nx)(J:H0.get bg=aB 0 (gC g))(n:bg<H0.nx)(K:Rs 6 pE H0 A l)(o:∀ e∈l,e.Ok (iZ X g.1.1) H0/\(iZ X g.1.1 e.t.rl e.t.to).length<=100/\e.t.k<256)(U:l.length<=100){Q:pL}{q:pD}(L:∀ v H,Ac 3 gC H0 H v (tnF X T g l)->Ok (q v H) Q):∀(k i:Nat) (v:AV) (H:Hp),i<=l.length->l.length-i<k->(tnF X T g (l.take i)).length<=21*i->Ac 3 gC H0 H v (tnF X T g (l.take i)) -> Ok (qnt (C j) q (.ptr bw 0) (.ptr bg 0) A (iN (l.length)) k v (iN i) H) Q
 |0,i,_,_,_,h,_,_=>om
 |k+1,i,v,H,hi,hk,hl,ha=>by
  show Ok (q0d (C j) _ _ _ _ _ (qnt (C j) _ _ _ _ _ k) _ _ H) Q;unfold q0d;by_cases a:i<l.length
  ·simp only[go_sem,a];unfold zb5;have f:=ha.fm;obtain⟨bb,oo,R,e2,z⟩:=(K.fm f).oZ a;obtain⟨Z,o2,o3⟩:=o _ (lg a);have r:pE l[i]=[uN (l[i].t.k),.str l[i].t.rl.n l[i].t.rl.a,.str l[i].t.to.n l[i].t.to.a,l[i].sp,l[i].av,qyz l[i].t.leaf]:=rfl;have V:List.take 3 (gC g)=gC g:=rfl;have W:=(f.keep m).trans I;have Y:=(f.keep n).trans J;have nx:=f.nx;have M:tnF X T g (l.take (i+1))=tnF X T g (l.take i)++if l[i].t.leaf=none then[]else rfN X T g l[i].t.k l[i].t.rl l[i].t.to:=by
    unfold tnF;rw[lh a,qy,ry]
   have d:Fm No H ((aI H (aB 0 [uN 0,zS,zS,.aA,.aA,iN 0])).put H.nx (aB 0 (pE l[i]))):=by exact kP
   have N:=q3m (X:=X) g l[i].t.k l[i].t.rl l[i].t.to B;have next:∀(x:AV) (p:Hp),Ac 3 gC H0 p x (tnF X T g (l.take (i+1)))->Ok (qgc (C j) (qnt (C j) q (.ptr bw 0) (.ptr bg 0) A (iN (l.length)) k) x (iN i) p) Q:=fun x p y=>by
    unfold qgc;refine aT ?_;refine aOy E F G B I m J n K o U L k (i+1) x p om om ?_ y;rw[M,lL];split
    ·simp;omega
    ·omega
   rw[M]at next
   cases s:l[i].t.leaf with
   |none=>
    rw[s]at r next
    rw[qj rfl,uf]at next
    have O:qyz none=.int .i64 (.negSucc 0):=rfl;rw[r]at z d;refine eF R z ?_;exact next v _ (ha.no d)
   |some c=>
    rw[s]at r next
    have O:qyz (some c)=iN c:=rfl;rw[O]at r;have D:(0:Nat)<=c:=gp c;have P:=zr9 (X:=X) (e:=l[i]) (g:=g) (t:=t) E ((F.fm f G).fm d om) (by have:=d.nx;omega) B (Z.fm (f.trans d)) o2 o3;rw[r]at z d P;refine siH R z W Y vP V D ?_;refine Ok.ve P ?_;rintro _ p ⟨u,w,rfl,y⟩;refine Ok.ve ((ha.no (d.trans y.fm)).app y.gl 48 om om) ?_;intro v3 H3 h3;exact next v3 H3 h3
  ·simp only[go_sem,a];rw[tq om]at ha;exact L v H ha
theorem q73{k:Nat}(a:1<=k){v:AV}{l:List G3}(h:Ac 3 gC H0 H v l):Ok (C k (.f 73) [v] H) fun w H'=>H'=H/\Ac 3 gC H0 H w l/\dU w=.val (iN (l.length)):=by obtain⟨j,rfl⟩:=aP a;obtain⟨w,e,d,f,g⟩:=h.gl.clip;refine⟨w,H,?_,rfl,⟨d,h.fm,fun b c=>h.nw b (g b c)⟩,f⟩;rw[lk (zoj ..)];unfold zFk q9q;simp only[go_sem,h.bM,e]
theorem Fo.Rt.k{N:SS->Prop}:∀{f:Fo},f.Rt N->f.All fun k _ _=>k<256
 | .nil,_=>trivial
 | .cons k rl to a r,⟨h1,h2,h3⟩=>by refine⟨?_,Fo.Rt.k h2,Fo.Rt.k h3⟩;omega
theorem q60{k:Nat}(z:7<=k){t:AV}{es:List gD}{L:List G3}{q:List jB}(M:MB Hb H b T es L)(N:b<H.nx)(O:T.length<=20)(f:nP X o H t most q)(i:dB X)(P:q.length<300){g:G3}(m:(g.1.1,g.2)∈aF X):Ok (C k (.f 26) [.agg [t,.map b],.agg (gC g)] H) fun r H'=>Ac 3 gC H H' r (nJ X T g)/\dU r=.val (iN ((nJ X T g).length)):=by
 obtain⟨j,rfl⟩:=aP z;rw[lk (zno ..)];unfold zIo zyl;have A:gC g=[.str g.1.1.n g.1.1.a,.str g.1.2.n g.1.2.a,.str g.2.n g.2.a]:=rfl;have B:Fm No H (aI (aI H (aB 0 [t,.map b])) (aB 0 (gC g))):=by exact qO
 rw[A]at B ⊢;refine aT ?_;refine Ok.ve (q9m (k:=j) om (f.fm B) i P g.1.1 g.2 (Q:=fun r H1=>∃(s:cB X g.1.1 g.2<q.length) (e:jB),Fm No (aI (aI H (aB 0 [t,.map b])) (aB 0 (gC g))) H1/\CpE X (aI (aI H (aB 0 [t,.map b])) (aB 0 (gC g))) H1 q[cB X g.1.1 g.2] e/\r=.bA [.agg (yO e),iN 0]) (fun s e H1 _ d u=>⟨s,e,d,u,rfl⟩) fun h=>absurd m h) ?_;rintro _ H1 ⟨s,e,d,u,rfl⟩;have R:yO e=[.str e.p.1.n e.p.1.a,.str e.p.2.r.name.n e.p.2.r.name.a,iN (e.n),iN (e.st),e.tv,e.nv]:=rfl;obtain⟨x,K,Y⟩:=qda i.al i.sp m;have D:e.p=(g.1.1,x):=by have:=congrArg (fun l=>l[cB X g.1.1 g.2]?) f.p;simp only[xy,Y,lq s,lEH,qo]at this;rw[u.p];exact this
 obtain⟨p,F,G,_,_⟩:=qci K;have n:=(i.pr.x p F x G).2.2.1;have a:=u.ok.nd;rw[D]at a;have S:e.es.length<=32:=by have:=congrArg List.length a.is;rw[pz,Fo.oM]at this;simp only at this;have:=Fo.kH x.r.rule.fo;have:=n.sz;have:=x.r.rule.rX;omega
 have U:=B.trans (by rw[<-A];exact d);have V:=d.nx;simp only[np]at V;have c:Fm No H1 ((aI H1 (aB 0 [zS,zS,iN 0,iN 0,.aA,.aA])).put H1.nx (aB 0 (yO e))):=by exact kP
 have W:=a.gl.bM;rw[R]at c ⊢;refine eP W ?_;unfold zb6;rw[dD];have E:=U.trans c;refine aOy (j:=j) (by omega) (M.fm E N) (by have:=E.nx;omega) O (bw:=H.nx) (bg:=H.nx+1) (t:=t) (by rw[(d.trans c).keep (by(first|go_size|omega))];simp(disch:=first|go_size|omega)only[go_sem,rB,rI,rK,rL,rN,rS,r6]) (by have:=c.nx;omega) (by rw[(d.trans c).keep (by(first|go_size|omega)),A];simp(disch:=first|go_size|omega)only[go_sem,rB,rI,rK,rL,rN,rS,r6]) (by have:=c.nx;omega) ((a.gl.rs qij).fm c) (fun y I=>⟨(a.ok y I).fm c,rq (qks i.pr _ _ _) (by omega),?_⟩) (by omega) (fun v H2 J=>?_) bZ 0 .aA _ (gp _) (by rw[wH];omega) (gp _) (Ac.nil _ _ (Fm.refl _ _))
 ·have z:=Fo.rU (fun k _ _=>k<256) _ 0 0 (Fo.o8 Nm _ (x.r.rule.aBN n.fit)).k y.t (by rw[<-a.is];exact xu I);exact z
 ·unfold q0c;rw[z6f K a.is]at J;refine Ok.ve (q73 om J) ?_;rintro w _ ⟨rfl,Z,c3⟩;exact Ok.ret ⟨Z.trans E,c3⟩
abbrev sO(H:Hp)(b:Nat)(ps:List G3):Prop:=kM sF (fun i=>i) H b ps
theorem sO.put{ps:List G3}(h:sO H b ps){x:G3}(a:x∉ps):∃ k,kL ⟨mW,some 3⟩ H (.map b) (.agg (gC x)) (iN (ps.length))=.ok .undef (H.put b k)/\sO (H.put b k) b (ps++[x]):=h.upd (s:=some 3) qpt (fun _=>rfl) a
theorem sO.has{ps:List G3}(h:sO H b ps){x:G3}(a:x∈ps):∃ n:Nat,nR ⟨mW,some 3⟩ (iN 0) true H (.map b) (.agg (gC x))=.val (.bA [iN n,.bool true]):=by have:=h.look (s:=some 3) qpt (fun _=>rfl) (iN 0) true x;rw[qj a]at this;exact⟨_,this⟩
theorem sO.not{ps:List G3}(h:sO H b ps){x:G3}(a:x∉ps):nR ⟨mW,some 3⟩ (iN 0) true H (.map b) (.agg (gC x))=.val (.bA [iN 0,.bool false]):=by have:=h.look (s:=some 3) qpt (fun _=>rfl) (iN 0) true x;rw[pg a]at this;exact this
structure FT(Hx H:Hp)(w:AV)(mb:Nat)(l:List G3):Prop where
 a:Ac 3 gC Hx H w l
 m:sO H mb l
 lt:mb<H.nx
 ge:Hx.nx<=mb
theorem FT.no{Hx H H':Hp}{l:List G3}(h:FT Hx H w mb l)(f:Fm No H H'):FT Hx H' w mb l:=⟨h.a.no f,h.m.eq (f.keep h.lt),ku h.lt f.nx,h.ge⟩
theorem z8z{l ps:List G3}(h:Gl 3 H w n cs)(g:sO H mb ps){c:Nat}(i:In w c):c≠mb:=fun e=>by
 subst e;obtain⟨_,_,_,_,a⟩:=i;obtain⟨es,d,b,_⟩:=g.ex;rcases h.is with⟨f,_⟩|⟨k,o,x,q,L,f,j,_⟩
 ·simp_all
 ·rw[f]at a;injection a with a;rw[<-a,j]at b;cases b
theorem FT.put{Hx H:Hp}{l:List G3}(h:FT Hx H w mb l)(k:bW):Ac 3 gC Hx (H.put mb k) w l:=
 ⟨h.a.gl.fm ((Fm.refl (· =mb) H).put mb k fun _=>rfl) fun c a=>z8z (l:=l) h.a.gl h.m a,h.a.fm.put mb k fun b=>by have:=h.ge;omega,h.a.nw⟩
theorem FT.add{Hx H:Hp}{l:List G3}{x:G3}(a:Ac 3 gC Hx H w l)(m:sO H mb (l++[x]))(i:mb<H.nx)(j:Hx.nx<=mb)(p:l.length<=1000000):Ok (iM 3 48 H w (some ⟨1,gC x⟩)) fun w' H'=>FT Hx H' w' mb (l++[x])/\Fm (In w) H H'/\∀ b,In w' b->H.nx<=b:=by
 obtain⟨H',e,o,_,f,nx'⟩:=a.gl.append (k:=1) (w:=48) (x:=gC x) om rfl om om;refine⟨_,H',e,⟨⟨?_,a.fm.then f fun c g n=>by have:=a.nw c n;omega,fun b d=>?_⟩,m.eq (f.get mb i fun g=>z8z (l:=l) a.gl m g rfl),om,j⟩,f,fun b d=>?_⟩
 ·simp_all
 ·obtain⟨_,_,_,_,h⟩:=d;cases h;omega
 ·obtain⟨_,_,_,_,h⟩:=d;simp_all
theorem aOL{j:Nat}{Hx:Hp}{mb c0:Nat}{rv:AV}{l a U:List G3}(B:xE U l)(s:∀ x∈a,x∈U)(M:U.length<=1000)(u:a.length<=100000)(N:c0<=1000000){Q:pL}{q:AV->pD}(O:∀ w H,FT Hx H w mb (jY l a)->Ok (q w (iN ((c0+a.length))) H) Q):∀(k m:Nat) (w:AV) (H:Hp),m<=a.length->a.length-m<k->FT Hx H w mb (jY l (a.take m))->Rs 3 gC H rv a->(∀b,In rv b->¬ In w b/\b≠mb/\b<H.nx) -> Ok (qh8 (C j) q (.map mb) rv (iN (a.length)) k w (iN ((c0+m))) (iN m) H) Q
 |0,m,_,_,_,h,_,_,_=>om
 |k+1,m,w,H,hm,hk,ha,hr,hd=>by
  show Ok (q0b (C j) _ _ _ _ (qh8 (C j) _ _ _ _ k) _ _ _ H) Q;unfold q0b;by_cases d:m<a.length
  ·simp only[go_sem,d];rw[kE ql4];unfold ql4;obtain⟨b,p,G,_,t⟩:=hr.oZ d;have D:gC a[m]=[.str a[m].1.1.n a[m].1.1.a,.str a[m].1.2.n a[m].1.2.a,.str a[m].2.n a[m].2.a]:=rfl;have r:Fm No H ((aI H (aB 0 [zS,zS,zS])).put H.nx (aB 0 (gC a[m]))):=by exact kP
   have o:=ha.no r;have y:xE U (jY l (a.take m)):=B.add fun x i=>s x (oz i);have S:=y.len;have X:=ha.lt;have T:=ha.a.bM;have next:∀(g:AV) (f:Hp),FT Hx f g mb (jY l (a.take (m+1)))->Rs 3 gC f rv a->(∀b,In rv b->¬ In g b/\b≠mb/\b<f.nx)->Ok (kA qg5 (C j) (qh8 (C j) q (.map mb) rv (iN (a.length)) k) g (iN ((c0+m+1))) (iN m) f) Q:=fun g f v P R=>by rw[kE qg5];unfold qg5;refine aT ?_;exact aOL B s M u N O k (m+1) g f om om v P R
   rw[qzy l d]at next
   by_cases i:a[m]∈jY l (a.take m)
   ·obtain⟨n,lk⟩:=o.m.has i;rw[qj i]at next
    rw[D]at t r o lk;refine iG G t lk ?_;exact next w _ o (hr.fm r) fun b c=>⟨(hd b c).1,(hd b c).2.1,by have:=(hd b c).2.2;have:=r.nx;omega⟩
   ·have lk:=o.m.not i;rw[pg i]at next
    obtain⟨A,I,J⟩:=o.m.put i;have E:=o.put A;have F:Fm (· =mb) H (((aI H (aB 0 [zS,zS,zS])).put H.nx (aB 0 (gC a[m]))).put mb A):=(r.mono fun _ _ h=>absurd h id).put mb A fun _=>rfl;rw[D]at t r o lk I J E F;refine nI G t lk I T ?_;have V:=F.push (aB 0 (gC a[m]));refine Ok.ve (FT.add (x:=a[m]) (E.no ((Fm.refl _ _).push (aB 0 (gC a[m])))) (J.eq (qbs _ _ _ gz)) gz ha.ge om) ?_;rintro g f ⟨v,K,L⟩;have z:=hr.dP V fun b c h=>(hd b c).2.1 h;have W:=K.nx;simp only[np,nq]at W L;refine next g f v (z.dP K fun b c h=>(hd b c).1 h) fun b c=>⟨fun h=>?_,(hd b c).2.1,?_⟩
    ·have:=L b h;have:=(hd b c).2.2;omega
    ·have:=(hd b c).2.2;omega
  ·simp only[go_sem,d];have e:m=a.length:=om;simp_all
theorem wt9{j:Nat}(z:7<=j){Hx Hb:Hp}{t:AV}{b bw mb most:Nat}{es:List gD}{K U f:List G3}{A:List jB}(B:MB Hb Hx b T es K)(e:b<Hx.nx)(g:nP X o Hx t most A)(D:Hx.get bw=aB 0 [t,.map b])(m:bw<Hx.nx)(r:dB X)(s:T.length<=20)(E:A.length<300)(n:Stk X U (nJ X T)){Q:pL}{q:AV->pD}(F:∀ w c H,Ac 3 gC Hx H w f->Ok (q w c H) Q):∀(k i:Nat) (l:List G3) (w:AV) (c:Nat) (H:Hp),i<=l.length->U.length-i<k->xE U l->c<=672*i->tbF (nJ X T) k i l=f->FT Hx H w mb l -> Ok (qq8 (C j) q (.ptr bw 0) (.map mb) k w (iN c) (iN i) H) Q
 |0,i,_,_,_,_,_,h,_,_,_,_=>om
 |k+1,i,l,w,c,H,hi,hk,hl,hc,hr,ha=>by
  show Ok (zb3 (C j) _ _ _ (qq8 (C j) _ _ _ k) _ _ _ H) Q;unfold zb3;have O:=hl.len;have P:=n.n;have G:=ha.a.bM;have p:=ha.a.fm;unfold tbF at hr;by_cases a:i<l.length
  ·rw[dif_pos a]at hr;have u:¬ i=l.length:=om;simp only[go_sem,G,u];rw[kE ql3];unfold ql3;have v:=hl.sub _ (lg a);obtain⟨Z,oo,d1,d2,d0,J,_⟩:=(ha.a.rs vP).at' i a;have I:List.take 3 (gC l[i])=gC l[i]:=rfl;have w1:=(p.keep m).trans D;have nx:=p.nx;simp only[go_sem,seval,w1,d1,J,vP,I];refine Ok.iD (q60 z (B.fm p e) om s (g.fm p) r E (n.dc _ v)) ?_;rintro rv y d;replace d:Ac 3 gC H y rv (nJ X T l[i]):=d.1;have x:=d.fm;have R:fD (y.get Z) oo 3=some (gC l[i]):=by rw[x.keep d2];exact J
   have S:=(x.keep (show bw<H.nx by omega)).trans w1;have V:=d.bM;have W:=qjp (X:=X) r s l[i];simp only[go_sem,S,R,vP,I,V];unfold zb4;rw[dD];refine aOL (j:=j) (c0:=c) (Hx:=Hx) (mb:=mb) hl (n.cl _ v) om om om (fun L M N=>?_) bZ 0 w y (gp _) lf (by simpa [jY] using ha.no x) (d.rs vP) (fun b e=>⟨fun h=>?_,?_,d.gl.lt e⟩)
   ·unfold q0a;refine aT ?_;exact wt9 z B e g D m r s E n F k (i+1) (jY l (nJ X T l[i])) L _ M (by have:=q4q (nJ X T l[i]) l;omega) om (hl.add (n.cl _ v)) om hr N
   ·have:=ha.a.gl.lt h;have:=d.nw b e;omega
   ·have:=d.nw b e;have:=ha.lt;omega
  ·rw[dif_neg a]at hr;subst hr;have Y:i=l.length:=om;simp only[go_sem,G,Y];exact F w _ H ha.a
theorem zh5{k:Nat}(s:8<=k){t:AV}{es:List gD}{u U:List G3}{p:List jB}{g:G3}(v:MB Hb H b T es u)(y:b<H.nx)(A:T.length<=20)(l:nP X o H t most p)(B:dB X)(D:p.length<300)(q:Stk X U (nJ X T))(E:g∈U):Ok (C k (.f 27) [.agg [t,.map b],.agg (gC g)] H) fun r H'=>∃ w c,r=.bA [w,c]/\Ac 3 gC H H' w (aCQ (nJ X T) g)/\dU w=.val (iN ((aCQ (nJ X T) g).length)):=by
 obtain⟨j,rfl⟩:=aP s;rw[lk (znn ..)];unfold zIp zyk;have m:gC g=[.str g.1.1.n g.1.1.a,.str g.1.2.n g.1.2.a,.str g.2.n g.2.a]:=rfl;have e:Fm No H (aI (aI H (aB 0 [t,.map b])) (aB 0 (gC g))):=by exact qO
 have I:=q.n;obtain⟨n,K,L⟩:=sO.put (kM.nil sF (fun i=>i) (jG (aI (aI (aI H (aB 0 [t,.map b])) (aB 0 (gC g))) (aB 0 (gC g))) (.map [] 0))) (x:=g) g3;have J:FT (aI (aI H (aB 0 [t,.map b])) (aB 0 (gC g))) ((aI (aI (aI (aI H (aB 0 [t,.map b])) (aB 0 (gC g))) (aB 0 (gC g))) (.map [] 0)).put (H.nx+3) n) (.sl (H.nx+2) 0 1 1 true) (H.nx+3) [g]:=by have a:=Ac.new1 (z:=3) (f:=gC) (H0:=aI (aI H (aB 0 [t,.map b])) (aB 0 (gC g))) g rfl;refine⟨⟨a.gl.fm (((Fm.refl (fun c=>c=H.nx+3) _).push (.map [] 0)).put _ n fun _=>rfl) fun c F=>?_,(a.fm.push _).aG _ _ gx,a.nw⟩,L,gx,gx⟩;obtain⟨_,_,_,_,h⟩:=F;cases h;simp only[np];omega
 have d:kL ⟨mW,some 3⟩ (aI (aI (aI (aI H (aB 0 [t,.map b])) (aB 0 (gC g))) (aB 0 (gC g))) (.map [] 0)) (.map (H.nx+3)) (.agg (gC g)) (iN 0)=.ok .undef ((aI (aI (aI (aI H (aB 0 [t,.map b])) (aB 0 (gC g))) (aB 0 (gC g))) (.map [] 0)).put (H.nx+3) n):=K;have k0:(aI (aI H (aB 0 [t,.map b])) (aB 0 (gC g))).get H.nx=aB 0 [t,.map b]:=by rw[m];simp(disch:=first|go_size|omega)only[go_sem,seval]
 rw[m]at d ⊢;refine eP d ?_;rw[kE ql2];unfold ql2 zu0;rw[dD,<-m];refine wt9 (j:=j) om (v.fm e y) (by have:=e.nx;omega) (l.fm e) k0 g1 B A D q (fun w c H1 G=>?_) bZ 0 [g] _ 0 _ (gp _) lf (xE.one E) (gp _) rfl J;refine Ok.ve (q73 om G) ?_;rintro M _ ⟨rfl,N,O⟩;exact Ok.ret ⟨M,c,rfl,N.trans e,O⟩
def okG(g:G3):Bool:=iO g.1.1&&(iO g.1.2&&iO g.2)
theorem zl9{k:Nat}(c:8<=k){t:AV}{l:List jB}(h:nP X o H t most l)(d:dB X)(f:l.length<300)(g:G3):Ok (C k (.f 25) [t,.agg (gC g)] H) fun r H'=>r=.bool (okG g&&decide ((g.1.1,g.2)∈aF X))/\Fm No H H':=by
 obtain⟨j,rfl⟩:=aP c;rw[lk (znp ..)];unfold zIn zym;have i:gC g=[.str g.1.1.n g.1.1.a,.str g.1.2.n g.1.2.a,.str g.2.n g.2.a]:=rfl;rw[i];have m:Fm No H (aI H (aB 0 [.str g.1.1.n g.1.1.a,.str g.1.2.n g.1.2.a,.str g.2.n g.2.a])):=by exact jF
 refine aT ?_;refine Ok.ve (qvi (k:=j) om g.1.1 g.1.2 g.2 _) ?_;rintro _ H1 ⟨rfl,b⟩;have a:=m.trans b;have k0:=(b.keep (show H.nx<(aI H (aB 0 [.str g.1.1.n g.1.1.a,.str g.1.2.n g.1.2.a,.str g.2.n g.2.a])).nx by simp only[np,nq];omega)).trans (jG _ _);rw[show(iO g.1.1&&(iO g.1.2&&iO g.2))=okG g from rfl];cases q:okG g with
 |false=>have e:wD false=6:=rfl;simp only[go_sem,seval,e,k0];exact Ok.ret ⟨rfl,a⟩
 |true=>have e:wD true=0:=rfl;simp only[go_sem,seval,e,k0];refine Ok.ve (z4w (k:=j) om (h.fm a) d f g.1.1 g.2) ?_;rintro _ p ⟨rfl,n⟩;exact Ok.ret ⟨rfl,a.trans n⟩
theorem aOr{j:Nat}{H0:Hp}{b wb:Nat}{tv v:AV}{l:List Tu}(G:Rs 6 Tu.cells H0 v l)(g:∀ c,In v c->c≠b)(I:H0.get wb=aB 0 [tv,.map b])(m:wb<H0.nx)(o:wb≠b)(p:b<H0.nx)(O:l.length<=1000){Q:pL}{q:pH}(J:∀ H es r,MB H0 H b l es r->Fm (· =b) H0 H->Ok (q H) Q):∀(k i:Nat) (H:Hp) (es:List gD) (r:List G3),i<=l.length->l.length-i<k->MB H0 H b (l.take i) es r->Fm (· =b) H0 H -> Ok (qs6 (C j) q (.ptr wb 0) v (iN (l.length)) k (iN i) H) Q
 |0,i,_,_,_,_,h,_,_=>om
 |k+1,i,H,es,r,hi,hk,hM,f=>by
  show Ok (q0f (C j) _ _ _ _ (qs6 (C j) _ _ _ _ k) _ H) Q;unfold q0f;by_cases a:i<l.length
  ·simp only[go_sem,a];unfold zb8;obtain⟨bb,oo,W,_,K⟩:=(G.dP f fun c y h=>g c y h).oZ a;have P:l[i].cells=[.str l[i].a.n l[i].a.a,.str l[i].b.n l[i].b.a,.str l[i].c.n l[i].c.a,.str l[i].x.n l[i].x.a,.str l[i].y.n l[i].y.a,.str l[i].z.n l[i].z.a]:=rfl;have R:gC (goT l[i])=[.str l[i].a.n l[i].a.a,.str l[i].b.n l[i].b.a,.str l[i].c.n l[i].c.a]:=rfl;have s:Fm No H (aI ((aI H (aB 0 [zS,zS,zS,zS,zS,zS])).put H.nx (aB 0 l[i].cells)) (aB 0 l[i].cells)):=by exact aM9
   have nx:=f.nx;have S:=(f.get wb m o).trans I;obtain⟨X,A,n,e,Y,B,d,D,t⟩:=(hM.fm s om).entry (by have:=s.nx;omega) (goT l[i]);have z:=d.val n e _ D t;have T:(vS (l.take i) (goT l[i])).length<=1000:=rq (zn _ _) (by rw[qx];omega);obtain⟨Z,L,E,_,M,n4⟩:=z.append (k:=1) (w:=96) (x:=l[i].cells) om rfl om om;have n2:=s.nx;have U:(vS (l.take i++[l[i]]) (goT l[i]))=vS (l.take i) (goT l[i])++[l[i]]:=by rw[zln,qj rfl]
   obtain⟨k2,F,N,u⟩:=d.store (show b<_ by simp only[nq];omega) p D t (by rw[U,lL,qy,ry];exact E) M (fun c y=>by obtain⟨_,_,_,_,h⟩:=y;cases h;exact .inr (lu _)) (by simp only[nq];omega);rw[<-lh a]at u;have V:Fm (· =b) H0 (Z.put b k2):=(((f.then s fun _ _ h=>absurd h id).put b Y fun _=>rfl).then M fun c y h=>by have:=d.nw n e c D h;omega).put b k2 fun _=>rfl;rw[P]at K s B L;rw[R]at B;simp only[nq,np]at N;refine siG W K S B L N ?_;unfold zb9;refine aT ?_;exact aOr (j:=j) G g I m o p O J k (i+1) _ F A om om u V
  ·simp only[go_sem,a];rw[tq om]at hM;exact J H es r hM f
end Go.Di
end
