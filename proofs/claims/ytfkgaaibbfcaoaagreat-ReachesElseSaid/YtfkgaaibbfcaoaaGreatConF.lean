/-
 For ReachesElse: functions in direct style, their contracts, and the plain mathematics, part 6 of 7. No conditions beyond those that each theorem states.
-/
import Derived.Test.YtfkgaaibbfcaoaaGreatConA
import Derived.Test.YtfkgaaibbfcaoaaGreatConE
import Derived.Test.YtfkgaaibbfcaoaaGreatConD
import Derived.Test.YtfkgaaibbfcaoaaGreatEv2
import Derived.Test.YtfkgaaibbfcaoaaGreatConB
set_option linter.all false
open Nat renaming reduceAdd->rB,reduceMul->rI,reduceSub->rK,reduceLeDiff->rL,reduceEqDiff->rN,reduceShiftRight->rS,reduceAnd->r6
noncomputable section
namespace Go.Di
open Go.Ev
variable {H H':Hp} {S:Nat->Prop} {b j n o z:Nat} {cs l:List AV}
theorem C4(a b c d x:AV):aY [a,b,c,d] 3 [x]=[a,b,c,x]:=id rfl
def PX(C:Nat->Ev.Call)(f:Fo):Prop:=
 ∀(j:Nat),f.depth+1<=j->∀(H0:Hp) (ib kd n i:Nat) (rl to:SS) (av:AV) (pre rest:List AV) (w:AV) (g:Fo) (H:Hp) (q:pD) (Q:pL) (k:Nat),n-i<k->n=i+f.len->f.Rt Nm->(kd=4\/kd=5\/(3<kd->kd=6))->(kd<4->f=.nil)->g.len+f.size<=1000->n<=1000 ->
  Gl 4 H0 av n (pre++rest)->pre.length=i*4->iM (λ_=>True) H0 f rest->H0.nx<=ib->ib+1<H.nx->H.get ib=aB 0 [uN kd,.str rl.n rl.a,.str to.n to.a,av]->H.get (ib+1)=aB 0 [uN 0,zS,zS,.aA]->zC (λb=>b=ib\/b=ib+1) H0 H w g->Fm No H0 H ->
  (∀w H,zC (λb=>b=ib\/b=ib+1) H0 H w (g.app (Fo.spl kd f.flat))->H.get ib=aB 0 [uN kd,.str rl.n rl.a,.str to.n to.a,av]->H.get (ib+1)=aB 0 [uN 0,zS,zS,.aA]->ib+1<H.nx->Fm No H0 H->Ok (q w H) Q) ->
  Ok (lA (C j) q (.ptr ib 0) av (iN n) k w (iN i) H) Q
variable{N:SS}{P:Fo}{sv:AV}
theorem Sq(v:PX C P)(z:P.depth+1<=j){kd:Nat}{to:SS}{ca:List AV}(o:Gl 4 H sv P.len ca)(A:iM (λ_=>True) H P ca)(l:(Fo.cons kd N to P .nil).Rt Nm)(J:P.size<=1000):Ok (C (j+1) (.f 233) [.agg [uN kd,.str N.n N.a,.str to.n to.a,sv]] H) λr H'=>∃d c,r=.agg [uN kd,.str N.n N.a,.str to.n to.a,d]/\Gl 4 H' d (Fo.spl kd P.flat).len c/\(∀b,In d b->H.nx<=b)/\iM (λb=>H.nx<=b) H' (Fo.spl kd P.flat) c/\Fm No H H':=by
 rw[lk (zp6 ..)];unfold Wf;have B:=(o.no ((Fm.refl No H).push (aB 0 [uN kd,.str N.n N.a,.str to.n to.a,sv]))).bF;refine dI B ?_;rw[dD];obtain⟨H1,n⟩:∃H1,H1=(aH (aH H (aB 0 [uN kd,.str N.n N.a,.str to.n to.a,sv])) (aB 0 [uN 0,zS,zS,.aA])):=⟨_,rfl⟩;rw[<-n];have D:Fm No H H1:=om;have E:=Fo.jA P;have F:H1.get (H.nx+1)=aB 0 [uN 0,zS,zS,.aA]:=om;refine v j z H H.nx kd P.len 0 N to sv [] ca .aA .nil H1 _ _ bT lf om l.2.1 ?_ ?_ (by simp only[Fo.len];omega) om o rfl A om om om F (zC.nil _ _ _) D λw g p q s K L=>?_
 ·rcases l.1 with h|h|h|h|h|h<;>omega
 ·intro O;rcases l.1 with h|h|h|h|h|h
  ·grind
  ·grind
  ·grind
  ·omega
  ·omega
  ·omega
 obtain⟨cs,G,I⟩:=p.ex;obtain⟨j,rfl⟩:∃m,j=m+1:=⟨j-1,om⟩;obtain⟨w',e,u,_,a⟩:=Yg (k:=j+1) om G;refine Ok.veE e ?_;have rl:∀b,In w' b->H.nx<=b/\¬(b=H.nx\/b=H.nx+1):=λb M=>p.nw b om;have i:∀x y:cZ,∃d c,AV.agg [uN kd,.str N.n N.a,.str to.n to.a,w']=.agg [uN kd,.str N.n N.a,.str to.n to.a,d]/\Gl 4 ((g.put H.nx x).put (H.nx+1) y) d (Fo.spl kd P.flat).len c/\(∀b,In d b->H.nx<=b)/\iM (λb=>H.nx<=b) ((g.put H.nx x).put (H.nx+1) y) (Fo.spl kd P.flat) c/\Fm No H ((g.put H.nx x).put (H.nx+1) y):=λx y=>by have t:Fm (λb=>b=H.nx\/b=H.nx+1) g ((g.put H.nx x).put (H.nx+1) y):=((Fm.refl _ _).put _ _ om).put _ _ om;exact⟨w',cs,rfl,u.fm t om,om,(I.dR t om).mono om,om⟩
 rcases u.is with⟨h,_⟩|⟨_,_,_,_,_,h,_⟩
 ·subst h;refine gW q s C4 ?_;exact Ok.ret (i _ _)
 ·subst h;refine gW q s C4 ?_;exact Ok.ret (i _ _)
theorem zul:∀f:Fo,PX C f:=by
 intro f
 induction f with
 |nil=>intro j hj H0 ib kd n i rl to av pre l w g H q Q k hk hn A G I J K hg hp y i1 b1 P O B L R;obtain⟨k,rfl⟩:∃m,k=m+1:=⟨k-1,om⟩;show Ok (B5 (C j) _ _ _ _ (lA (C j) _ _ _ _ k) _ _ H) Q;unfold B5;simp only[Fo.len]at hn;have s:¬i<n:=om;simp only[go_sem,s];refine R w H ?_ P O b1 L;simp only[Fo.flat,Fo.spl,Fo.yP];exact B
 |cons k1 r1 t1 a r iha ihr=>
  intro j hj H0 ib kd n i rl to av pre l w g H q Q k hk hn A G I J K hg hp y i1 b1 P O B L R;obtain⟨k,rfl⟩:∃m,k=m+1:=⟨k-1,om⟩;show Ok (B5 (C j) _ _ _ _ (lA (C j) _ _ _ _ k) _ _ H) Q;unfold B5;simp only[Fo.len]at hn;simp only[Fo.depth]at hj;simp only[Fo.size]at J;have s:i<n:=om;obtain⟨_,b,o,d,ca,cr,e1,e2,e3,e4,_,e5,g1,g2,g3,g4,_⟩:=(hg.no L).rule hp (y.fm L);simp only[go_sem,s];unfold Jt;refine dS e1 e4 ?_;obtain⟨j,rfl⟩:∃m,j=m+1:=⟨j-1,om⟩;have fsz:(Fo.spl k1 a.flat).len<=a.size:=AL (Fo.jA _) (AL (Fo.tK _ _) (Fo.jQ _));obtain⟨E,e⟩:∃E,E=(aH H (aB 0 [uN 0,zS,zS,.aA])).put H.nx (aB 0 [uN k1,.str r1.n r1.a,.str t1.n t1.a,d]):=⟨_,rfl⟩;have t:Fm No H E:=by rw[e];exact zL
  have nHH:E.nx=H.nx+1:=by rw[e];simp only[nq,np]
  have X:E.get H.nx=aB 0 [uN k1,.str r1.n r1.a,.str t1.n t1.a,d]:=by rw[e];exact gX _ _ _
  rw[<-e];refine Ok.ve (Sq iha (j:=j) om (kd:=k1) (g1.no t) (g3.fm t) ⟨A.1,A.2.1,trivial⟩ om) ?_;rintro _ D ⟨S,u,rfl,c1,c2,c3,f2⟩;have q2:=(f2.keep om).trans ((t.keep om).trans P);have k2:=(f2.keep om).trans X;have fin:∀(p:Fo) (T:List AV) (N:Hp),Fm No H N->0<p.len->iM (λb=>H.nx<=b) N p T->p.app (Fo.spl kd r.flat)=Fo.spl kd (Fo.cons k1 r1 t1 a r).flat->p.len<=a.size+1 ->
    Ok (ve (jD 4 64 N w (some ⟨p.len,T⟩)) λU H=>B4 (C (j+1)) (lA (C (j+1)) q (.ptr ib 0) av (iN n) k) U (iN i) H) Q:=by
   intro p T N z hl0 hff hap hln;have hnw:∀b,In w b->b<H.nx:=λb V=>by obtain⟨cs,d1,_⟩:=B.ex;exact d1.lt V
   have nA:=z.nx;refine Ok.ve ((B.no z).add (hff.mono λb _ V=>⟨om,om,om⟩) om om hl0 om) ?_;rintro w' H4 ⟨w4,f4,n4,hw4⟩;have kp:∀c,c<H.nx->(c=ib\/c=ib+1)->H4.get c=H.get c:=λc y hx=>by rw[f4.get c om (λW=>(B.nw c W).2 hx),z.keep y]
   subst hw4;unfold B4;refine aS ?_;have f6:Fm No H0 H4:=(L.trans z).then f4 λc y W=>by have:=(B.nw c W).1;omega
   have Y:pre++l=(pre++[uN k1,r1.v,t1.v,d])++cr:=by rw[e5];simp
   refine ihr (j+1) om H0 ib kd n (i+1) rl to av (pre++[uN k1,r1.v,t1.v,d]) cr _ (g.app p) _ q Q k om om A.2.2 G (λh=>by cases I h) (by rw[Fo.lU];omega) K (Y▸hg) (by simp[hp];omega) ?_ i1 om ((kp ib om om).trans P) ((kp (ib+1) b1 om).trans O) w4 f6 ?_
   ·obtain⟨_,_,cr',d1,_,_,_,d5⟩:=y;simp_all
   ·rw[<-hap,<-Fo.qG]at R;exact R
  have f3:∀x,Fm (λb=>b=H.nx) D (D.put H.nx x):=om;have z:∀x,Fm No H (D.put H.nx x):=om;have Z:∀x,Gl 4 (D.put H.nx x) S (Fo.spl k1 a.flat).len u:=om;have F:∀x,iM (λb=>H.nx<=b) (D.put H.nx x) (Fo.spl k1 a.flat) u:=λx=>(c3.dR (f3 x) λb V he=>om).mono om;have el:∀x,iM (λb=>H.nx<=b) (aH (D.put H.nx x) (aB 0 [uN k1,.str r1.n r1.a,.str t1.n t1.a,S])) (.cons k1 r1 t1 (Fo.spl k1 a.flat) .nil) [uN k1,.str r1.n r1.a,.str t1.n t1.a,S]:=λx=>
   ⟨S,u,[],rfl,om,om,(F x).fm om,rfl⟩
  have one:(Fo.cons k1 r1 t1 (Fo.spl k1 a.flat) .nil).len=1:=rfl;have hpos:k1=4\/k1=5->0<(Fo.spl k1 a.flat).len:=λh=>by
   have O:2<=a.len:=by rcases A.1 with M|M|M|M|M|M<;>omega
   have:=(Fo.xO Nm k1 a.flat (Fo.lS Nm a A.2.1)).2;rw[Fo.dN]at this;omega
  have h4':¬kd<4:=om;by_cases v:k1=kd
  ·subst v;by_cases h6:k1=6
   ·subst h6;simp(disch:=go_size)only[go_sem,seval,k2,q2];exact fin _ _ _ om om (el _) (by simp[Fo.flat,Fo.spl,Fo.app]) om
   ·simp(disch:=go_size)only[go_sem,rB,rI,rK,rL,rN,rS,r6,k2,q2,h6,(Z _).src];exact fin _ _ _ (z _) om (F _) (by simp[Fo.flat,Fo.spl];omega) om
  ·refine gW k2 q2 v ?_;exact fin _ _ _ om om (el _) (by simp[Fo.flat,Fo.spl,v,Fo.app]) om
theorem zoo(o:iO C){k:Nat}(p:14<=k){f:Fo}(g:iM (λ_=>True) H f cs)(c:f.Ok1):Ok (C k (.f 178) [.agg cs] H) λv H'=>∃ds,v=.aX [.agg ds,iN 0]/\iM (λb=>H.nx<=b) H' f.flat ds/\Fm No H H':=by obtain⟨j,rfl⟩:=aO p;rw[lk (zqb ..)];unfold Wj;have h:Fm No H (aH (aH H (aB 0 cs)) (aB 0 [uN 0,zS,zS,.aA])):=om;have O:=L8 o (k:=j) om (g.fm h) c;obtain⟨kd,rl,to,a,w,ca,rfl,rfl,g1,g2,g3⟩:=g.one c.one;have q:=c.dp;have r:=c.sz;simp only[Fo.depth,Fo.size]at q r;refine aS ?_;refine Ok.ve O ?_;rintro _ H1 ⟨rfl,d⟩;unfold N9;have s:=d.nx;simp only[np]at s;have k0:H1.get H.nx=aB 0 [uN kd,.str rl.n rl.a,.str to.n to.a,w]:=(d.keep om).trans om;have t:H1.get (H.nx+1)=aB 0 [uN 0,zS,zS,.aA]:=(d.keep gz).trans g5;simp only[go_sem,seval,k0];obtain⟨i,rfl⟩:∃i,j=i+1:=⟨j-1,om⟩;have l:=h.trans d;refine Ok.ve (Sq (zul a) (j:=i) om (g1.no l) (g3.fm l) c.rt om) ?_;rintro _ m ⟨n,e,rfl,z,A,x,y⟩;have k2:=(y.keep (show H.nx+1<H1.nx by omega)).trans t;refine dI k2 ?_;have u:Fm (λb=>b=H.nx+1) m (m.put (H.nx+1) (aB 0 [uN kd,.str rl.n rl.a,.str to.n to.a,n])):=(Fm.refl _ _).put _ _ om;exact Ok.ret ⟨_,rfl,⟨n,e,[],rfl,om,om,(x.dR u om).mono om,rfl⟩,om⟩
def jM(l:List fe):Nat:=l.countP λx=>decide (x.1<4)
def zW:List fe->Nat->List TN
 | [],_=>[]
 |(k,rl,to,as')::l,c=>⟨k,rl,to,as',if k<4 then some c else none⟩::zW l (c+if k<4 then 1 else 0)
theorem zly:∀(l:List fe) (c:Nat),(zW l c).length=l.length
 | [],_=>rfl
 |(k,rl,to,as')::l,c=>by rw[zW,nk,zly l,nk]
theorem Bn(x:fe)(l:List fe):jM (x::l)=jM l+if x.1<4 then 1 else 0:=by
 unfold jM
 grind
theorem MZ(l m:List fe):jM (l++m)=jM l+jM m:=List.countP_append
theorem Ld:∀(l m:List fe) (c:Nat),zW (l++m) c=zW l c++zW m (c+jM l)
 | [],m,c=>by simp[zW,jM]
 |(k,rl,to,as')::l,m,c=>by rw[qg,zW,Ld l m,zW,Bn,qg];congr 3;simp only;omega
theorem Il:∀(f:Fo) (p:Nat),f.Rt Nm->jM (f.jC p)=f.lv
 | .nil,_,_=>rfl
 | .cons k rl to a r,p,⟨h1,h2,h3⟩=>by
  rw[Fo.jC,Bn,MZ,Il a _ h2,Il r _ h3,Fo.lv];by_cases b:k<4
  ·have:a=.nil:=by
    grind
   subst this;rw[sB b,sB b];simp only[Fo.lv];omega
  ·rw[sy b,sy b];omega
theorem Ct:∀(f:Fo) (p c:Nat),f.Rt Nm->zW (f.jC p) c=f.dK p c
 | .nil,_,_,_=>rfl
 | .cons k rl to a r,p,c,⟨h1,h2,h3⟩=>by
  rw[Fo.jC,zW,Ld,Ct a _ _ h2,Ct r _ _ h3,Il a _ h2,Fo.dK];have e:c+(if k<4 then 1 else 0)+a.lv=c+if k<4 then 1 else a.lv:=by
   by_cases b:k<4
   ·have:a=.nil:=by
     grind
    subst this;rfl
   ·grind
  by_cases b:k<4
  ·have:a=.nil:=by
    grind
   subst this;rfl
  ·grind
def wS:Option Nat->AV
 |some c=>.int .i64 (.ofNat c)
 |none=>.int .i64 (.negSucc 0)
structure TE where
 t:TN
 av:AV
 sp:AV
def oH(e:TE):List AV:=[uN e.t.k,e.t.rl.v,e.t.to.v,e.sp,e.av,wS e.t.leaf]
theorem lF(e:TE):(oH e).length=6:=rfl
structure TE.Ok(tg:SS->SS->List SS)(H:Hp)(e:TE):Prop where
 gl:Gl 1 H e.av e.t.args.length (aJ e.t.args)
 sp:(e.t.k=3/\Gl 1 H e.sp (tg e.t.rl e.t.to).length ((tg e.t.rl e.t.to).flatMap sC))\/(e.t.k≠3/\e.sp=.aA)
variable{M:TE}
theorem TE.Ok.dR{tg:SS->SS->List SS}(h:M.Ok tg H)(f:Fm S H H')(a:∀b,In M.sp b\/In M.av b->¬S b):M.Ok tg H':=⟨h.gl.fm f om,h.sp.imp om id⟩
theorem TE.Ok.fm{tg:SS->SS->List SS}(h:M.Ok tg H)(f:Fm No H H'):M.Ok tg H':=h.dR f om
theorem TE.Ok.lt{tg:SS->SS->List SS}(h:M.Ok tg H)(a:In M.sp b\/In M.av b):b<H.nx:=by
 rcases a with a|a
 ·rcases h.sp with h|h
  ·grind
  ·rw[h.2]at a;exact absurd a (bt b)
 ·exact h.gl.lt a
structure vR(tg:SS->SS->List SS)(H:Hp)(v:AV)(es:List TE)(f:Fo):Prop where
 gl:Gl 6 H v es.length (es.flatMap oH)
 is:es.map TE.t=f.dK 0 0
 ok:∀e∈es,e.Ok tg H
theorem Gl.cells(h:Gl z H sv n l):vJ sv=some [sv]:=by rcases h.is with⟨rfl,rfl⟩|⟨b,o,e,q,L,rfl,_⟩<;>rfl
theorem zyk(a b c d e f x:AV):aY [a,b,c,d,e,f] 5 [x]=[a,b,c,d,e,x]:=id rfl
def p7:List AV:=[uN 0,zS,zS,.aA,.aA,iN 0]
def zJ(es:List TE)(n:Nat):List AV:=es.flatMap oH++aU p7 (n-es.length)
theorem C9(es:List TE):(es.flatMap oH).length=es.length*6:=by
 induction es with
 |nil=>rfl
 |cons a l ih=>rw[DM,nj,ih,lF,nk];omega
theorem Se(l:List AV):∀n,(aU l n).length=n*l.length
 |0=>by show([]:List AV).length=_;simp
 |n+1=>by show(l++aU l n).length=_;rw[nj,Se l n,Nat.succ_mul];omega
theorem K4{es:List TE}(h:es.length<=n):(zJ es n).length=n*6:=by unfold zJ;rw[nj,C9,Se];show es.length*6+(n-es.length)*6=_;omega
theorem ztw(A B D Z:List AV)(k:Nat)(a:k=A.length)(h:B.length=D.length):aY (A++(B++Z)) k D=A++(D++Z):=by subst a;unfold aY;simp_all
theorem zz9{es:List TE}(h:es.length<n)(e:TE):aY (zJ es n) (es.length*6) (oH e)=zJ (es++[e]) n:=by unfold zJ;rw[show n-es.length=n-(es.length+1)+1 by omega,show ∀m,aU p7 (m+1)=p7++aU p7 m from λ_=>rfl,ztw _ p7 (oH e) _ _ (C9 es).symm rfl,nt,AJ,sR,nj];rfl
theorem zjm{es:List TE}(e a:TE)(x:AV)(h:aY (oH e) j [x]=oH a)(c:j<6):aY (zJ (es++[e]) n) (es.length*6+j) [x]=zJ (es++[a]) n:=by unfold zJ;rw[nt,AJ,nt,AJ,nj,nj,<-h];have b:=C9 es;have d:=lF e;generalize es.flatMap oH=A at *;generalize oH e=B at *;unfold aY;rw[<-b,sR,sR A,qm,xm om,af,qo,oh g2];simp
theorem BD(h:vJ sv=some [sv]):kL H (.ptr b o) sv=storeAt H b o [sv] .undef:=by cases sv<;>first|rfl|cases h
variable {tg:SS->SS->List SS}
variable{O:Ev.Call}
theorem UJ{l:List SS}(d:Rs 1 sC H sv l)(f:l.length<1000000)(e:N∉l):∀(k i:Nat),i<=l.length->l.length-i<k -> pe O (λx H=>.ok x H) (λH=>rF O H) sv (.str N.n N.a) (iN (l.length)) k (iN i) H=.ok (.int .i64 (.negSucc 0)) H
 |0,i,_,h=>om
 |k+1,i,hi,hk=>by
  show CF O _ _ _ _ _ (pe O _ _ _ _ _ k) _ H=_;unfold CF;by_cases a:i<l.length
  ·obtain⟨b,o,j,_,_,_,m⟩:=d.at' i a;have g:cB (H.get b) o=.val (.str l[i].n l[i].a):=m 0 (by simp[sC]);have c:¬(N.n=l[i].n/\N.a=l[i].a):=λh=>e (by rw[(pE _ _).2 h];exact sx a);simp only[go_sem,a];unfold CE;simp only[go_sem,j,g,c];unfold lC;refine aS ?_;exact UJ d f e k (i+1) om om
  ·simp only[go_sem,a];rfl
variable{ts:List SS}
theorem Yf{k:Nat}(c:2<=k)(a:Rs 1 sC H sv ts)(d:ts.length<900000)(b:N∉ts):C k (.f 198) [sv,.str N.n N.a] H=.ok (.bool false) H:=by obtain⟨j,rfl⟩:∃j,k=j+1+1:=⟨k-2,om⟩;rw[lk (Q7 ..)];unfold Px;simp only[go_sem];rw[lk (Q6 ..)];unfold Pw;simp only[go_sem,a.len];rw[dD,UJ a om b bT 0 (vy _) lf];rfl
variable {X:List aP}
def Ru.fo:Ru->Fo
 | .leaf k rl to=>.cons k rl to .nil .nil
 | .node k a b=>.cons k sE sE (a.fo.app b.fo) .nil
theorem Ru.tX:∀r:Ru,r.fo.len=1
 | .leaf _ _ _=>rfl
 | .node _ _ _=>rfl
theorem j5.fo{P:Nat->Prop}:∀{r:Ru} {cs:List AV},j5 P H r cs->iM P H r.fo cs
 | .leaf k rl to,cs,h=>⟨.aA,[],[],h,Gl.nil 4 H,λb i=>absurd i (bt b),rfl,rfl⟩
 | .node k a b,cs,⟨bl,ca,cb,h1,h2,h6,h3,h4,h5⟩=>by
  have f:=(j5.fo h4).app (j5.fo h5);have e:(a.fo.app b.fo).len=2:=by rw[Fo.lU,a.tX,b.tX]
  have g:=f.len;rw[e]at g;refine⟨.sl bl 0 2 2 true,ca++cb,[],h1,?_,λc d=>?_,f,rfl⟩
  ·rw[e];exact⟨g,om⟩
  ·obtain⟨_,_,_,_,d⟩:=d;simp_all
theorem Ru.pN:∀r:Ru,r.fo.size=r.size
 | .leaf _ _ _=>rfl
 | .node k a b=>by simp only[Ru.fo,Fo.size,Fo.uF,a.pN,b.pN,Ru.size,bf]
theorem Ru.uM:∀r:Ru,r.fo.depth=r.depth
 | .leaf _ _ _=>rfl
 | .node k a b=>by simp only[Ru.fo,Fo.depth,Fo.qW,a.uM,b.uM,Ru.depth,Nat.max_zero]
theorem Ru.wJ:∀r:Ru,r.Fit->r.fo.Rt Nm
 | .leaf k rl to,h=>by
  refine⟨?_,trivial,trivial⟩;rcases h with⟨c,d,e⟩|⟨c,d,e⟩|⟨c,d,e⟩
  ·simp_all
  ·simp_all
  ·simp_all
 | .node k a b,⟨hk,ha,hb⟩=>by
  have f:(a.fo.app b.fo).len=2:=by rw[Fo.lU,a.tX,b.tX]
  refine⟨?_,(Fo.aBz _ _ _).2 ⟨a.wJ ha,b.wJ hb⟩,trivial⟩;simp_all
theorem Ru.Rt.ok1{r:Ru}(h:r.Rt):r.fo.Ok1:=⟨r.tX,r.wJ h.fit,by rw[r.uM];exact h.dp,by rw[r.pN];exact h.sz⟩
theorem Fo.Ok1.flat(h:P.Ok1):P.flat.Ok1:=⟨by rw[Fo.dN];exact h.one,Fo.lS Nm P h.rt,AL (Fo.oN P) h.dp,AL (Fo.jQ P) h.sz⟩
def Fo.All(p:Nat->SS->SS->Prop):Fo->Prop
 | .nil=>True
 | .cons k rl to a r=>p k rl to/\a.All p/\r.All p
theorem Fo.yA(p:Nat->SS->SS->Prop):∀f g:Fo,f.All p->g.All p->(f.app g).All p
 | .nil,_,_,h=>h
 | .cons _ _ _ _ r,g,⟨h1,h2,h3⟩,h=>⟨h1,h2,Fo.yA p r g h3 h⟩
theorem Fo.uH(p:Nat->SS->SS->Prop)(k:Nat):∀f:Fo,f.All p->(Fo.spl k f).All p
 | .nil,_=>trivial
 | .cons k' rl to a r,⟨h1,h2,h3⟩=>by
  unfold Fo.spl;split
  ·exact Fo.yA p _ _ h2 (Fo.uH p k r h3)
  ·exact⟨h1,h2,Fo.uH p k r h3⟩
theorem Fo.pG(p:Nat->SS->SS->Prop):∀f:Fo,f.All p->f.flat.All p
 | .nil,_=>trivial
 | .cons k rl to a r,⟨h1,h2,h3⟩=>⟨h1,Fo.uH p k _ (Fo.pG p a h2),Fo.pG p r h3⟩
theorem Fo.nN(p:Nat->SS->SS->Prop):∀(f:Fo) (i c:Nat),f.All p->∀t∈f.dK i c,p t.k t.rl t.to
 | .nil,_,_,_,t,h=>by cases h
 | .cons k rl to a r,i,c,⟨h1,h2,h3⟩,t,h=>by
  rcases lE4.1 h with rfl|h
  ·exact h1
  rcases lAJ.1 h with h|h
  ·exact Fo.nN p a _ _ h2 t h
  ·exact Fo.nN p r _ _ h3 t h
theorem Ru.yV(p:Nat->SS->SS->Prop):∀(r:Ru) (neg:Bool),(∀y∈r.nodes neg,p y.k y.rl y.to)->r.fo.All p
 | .leaf k rl to,neg,h=>⟨h ⟨k,rl,to,neg⟩ (by simp[Ru.nodes]),trivial,trivial⟩
 | .node k a b,neg,h=>⟨h ⟨k,sE,sE,neg⟩ (by simp[Ru.nodes]),Fo.yA p _ _ (a.yV p neg λy c=>h y (by simp[Ru.nodes,c])) (b.yV p _ λy c=>h y (by simp[Ru.nodes];exact .inr (.inr c))),trivial⟩
open Go.Di.T Go.Sort
variable {T:List Tu}
variable {H0:Hp} {U:List G3} {c i m:Nat}
def bR(t:Tu):G3:=((t.a,t.b),t.c)
def fW(t:Tu):G3:=((t.x,t.y),t.z)
theorem Av(g h:G3):dL (eqFields [((pA 2),⟨dL (eqFields [(p1,⟨bH⟩,0),(p1,⟨bH⟩,1)])⟩,0),(p1,⟨bH⟩,2)]) (.agg (gC g)) (.agg (gC h))=some (decide (g=h)):=by refine(eqG g.1.1 g.1.2 g.2 h.1.1 h.1.2 h.2).trans ?_;unfold gG;obtain⟨⟨a,b⟩,c⟩:=g;obtain⟨⟨d,e⟩,f⟩:=h;simp
def xD(X:List aP)(g:G3)(k:Nat)(rl to:SS)(t:Tu):List G3:=
 if k=1/\bR t=g/\t.z≠sE then[fW t]else if k=3/\bR t=(g.1,rl)/\t.z=sE/\t.x∈iK X g.1.1 rl to then[((t.x,t.y),to)]else[]
def wV(X:List aP)(T:List Tu)(g:G3)(k:Nat)(rl to:SS):List G3:=(if k=2 then[(g.1,rl)]else[])++T.flatMap (xD X g k rl to)
variable{I:pL}{qr:pD}
theorem RL{g:G3}(d:Rs 3 gC H sv U)(e:H.get z=aB 0 (gC g))(r:U.length<=900000){q:pH}(s:g∈U->∀i:Nat,Ok (qr (iN i) H) I)(t:g∉U->Ok (q H) I):∀(k i:Nat),i<=U.length->U.length-i<k->g∉U.take i->Ok (D4 O qr q sv (.ptr z 0) k (iN i) H) I
 |0,i,_,h,_=>om
 |k+1,i,hi,hk,hm=>by
  show Ok (Zd O _ _ _ _ (D4 O _ _ _ _ k) _ H) I;unfold Zd;have j:=d.len;by_cases a:i<U.length
  ·simp only[go_sem,j,a];unfold zw7;obtain⟨b,o,n,_,p⟩:=d.oG a;have c:=Av U[i] g;have m:List.take 3 (gC g)=gC g:=rfl;by_cases h:U[i]=g
   ·rw[j7 h]at c;simp only[go_sem,seval,n,p,e,vV,m,c,dk]
    grind
   ·rw[sT h]at c;simp only[go_sem,seval,n,p,e,vV,m,c,dk];unfold lC;refine aS ?_;refine RL d e r s t k (i+1) om om λu=>?_;rw[nh a,lAJ,lAK]at u;simp_all
  ·simp only[go_sem,j,a]
   grind
theorem z9i(a:1<=n)(d:Rs 3 gC H sv U)(b:U.length<=900000)(g:G3):Ok (C n (.f 87) [sv,.agg (gC g)] H) λr H'=>Fm No H H'/\((g∈U/\∃i:Nat,r=iN i)\/(g∉U/\r=.int .i64 (.negSucc 0))):=by obtain⟨j,rfl⟩:=aO a;rw[lk (zpv ..)];unfold V4;have c:pU 3 H.nx (.agg (gC g))=.new (.ptr H.nx 0) (aB 0 (gC g)):=id rfl;have f:Fm No H (aH H (aB 0 (gC g))):=om;simp only[go_sem,c];rw[dD];refine RL (g:=g) om om b (λh i=>Ok.ret ⟨f,om⟩) (λh=>?_) bT 0 om lf g3;exact Ok.ret ⟨f,om⟩
def fY(g:G3)(n:Nd)(t:Tu)(s:SS):List G3:=if n.k=3/\bR t=(g.1,n.rl)/\t.z=sE/\t.x=s then[((t.x,t.y),n.to)]else[]
theorem ju(s:SS):(s.n=0/\s.a=0)↔s=sE:=by cases s;simp[sE]
variable{E:G3}{F:List (Nd×AV)}{gv ov:AV}
theorem Qa(V:i<F.length){t:Tu}{tb:Nat}(W:Rs 5 lD H' ov F)(v:Rs 1 sC H' gv ts)(X:H'.get j=aB 0 (gC E))(Y:F[i].1.k=3->H'.get tb=aB 0 t.cells/\tb<H'.nx/\¬In sv tb)(Z:j<H'.nx)(dj:∀b,In sv b->¬In ov b/\¬In gv b/\b≠j)(hl:ts.length<=1000){acc:List G3}(Q:acc.length<=1000000)(J:i<=1000000)(hq:∀w H,mH 3 gC (In sv) H' H w (acc++ts.flatMap (fY E F[i].1 t))->Ok (qr w H) I):∀(k m:Nat) (w:AV) (H:Hp),m<=ts.length->ts.length-m<k->mH 3 gC (In sv) H' H w (acc++(ts.take m).flatMap (fY E F[i].1 t))->((ts.take m).flatMap (fY E F[i].1 t)).length<=m -> Ok (ja O qr (.ptr j 0) ov (iN i) gv (.ptr tb 0) k w (iN m) H) I
 |0,m,_,_,_,h,_,_=>om
 |k+1,m,w,H,hm,hk,ha,hml=>by
  show Ok (Jp O _ _ _ _ _ _ (ja O _ _ _ _ _ _ k) _ _ H) I;unfold Jp;have A:=ha.fm;have L:=W.dR A om;have y:=v.dR A om;have d:=(A.get j Z λh=>(dj j h).2.2 rfl).trans X;have M:=y.len;obtain⟨N,P,p,d2,_,d3,R⟩:=L.at' i V;have r0:cB (H.get N) P=.val (uN (F[i].1.k)):=R 0 (by rw[sG];omega);have B:cB (H.get N) (P+1)=.val (.str F[i].1.rl.n F[i].1.rl.a):=R 1 (by rw[sG];omega);have C:cB (H.get N) (P+2)=.val (.str F[i].1.to.n F[i].1.to.a):=R 2 (by rw[sG];omega);by_cases c:m<ts.length
  ·by_cases z:F[i].1.k=3
   ·simp only[go_sem,M,c,p,r0,z];rw[kE xp];unfold xp;obtain⟨S,T,U⟩:=Y z;have f:=(A.get tb T U).trans S;have q1:=Av (bR t) (E.1,F[i].1.rl);unfold bR gC SS.v at q1;have q3:∀s:SS,eF (lQ .eql).f (.str t.x.n t.x.a) (.str s.n s.a)=.val (.bool (decide (t.x=s))):=MS t.x;obtain⟨b2,o2,c1,c2,_,c3,c4⟩:=y.at' m c;have r3:cB (H.get b2) o2=.val (.str ts[m].n ts[m].a):=c4 0 (by show 0<1;decide);have D:=q3 ts[m];unfold Tu.cells gC SS.v at *;have next:∀(x:List G3) (n:AV) (o:Hp),mH 3 gC (In sv) H' o n (acc++(ts.take m).flatMap (fY E F[i].1 t)++x)->fY E F[i].1 t ts[m]=x->x.length<=1->Ok (yn O (ja O qr (.ptr j 0) ov (iN i) gv (.ptr tb 0) k) n (iN m) o) I:=λx n o K hx hx1=>by
     unfold yn;refine aS ?_;have e:(ts.take (m+1)).flatMap (fY E F[i].1 t)=(ts.take m).flatMap (fY E F[i].1 t)++x:=by rw[nh c,nt,AJ,hx]
     refine Qa V W v X Y Z dj hl Q J hq k (m+1) n o om om ?_ ?_
     ·rw[e,<-sR];exact K
     ·rw[e,nj];omega
    have no:fY E F[i].1 t ts[m]=[]->Ok (yn O (ja O qr (.ptr j 0) ov (iN i) gv (.ptr tb 0) k) w (iN m) H) I:=λh=>next [] w H (by rw[DN];exact ha) h g3
    by_cases g:(((t.a,t.b),t.c):G3)=(E.1,F[i].1.rl)
    ·rw[j7 g]at q1;by_cases a:t.z.n=0/\t.z.a=0
     ·have a5:=j7 a;by_cases G:t.x=ts[m]
      ·rw[j7 G]at D;simp only[go_sem,seval,f,d,p,B,C,q1,dk,a5,c1,r3,D];refine Ok.iC ((ha.no (((Fm.refl No H).up 13).aN (H.nx+10) (aB 0 (gC ((t.x,t.y),F[i].1.to))) om)).add ((t.x,t.y),F[i].1.to) 48 rfl (by rw[nj];omega) (by rw[nj];omega)) ?_;intro n o K;simp only[go_sem];exact next [((t.x,t.y),F[i].1.to)] n o K (sB ⟨z,g,(ju _).1 a,G⟩) g3
      ·rw[sT G]at D;simp only[go_sem,seval,f,d,p,B,C,q1,dk,a5,c1,r3,D];exact no (sy λh=>G h.2.2.2)
     ·simp only[go_sem,seval,f,d,p,B,C,q1,dk,a];exact no (sy λh=>a ((ju _).2 h.2.2.1))
    ·rw[sT g]at q1;simp only[go_sem,seval,f,d,p,B,C,q1,dk];exact no (sy λh=>g h.2.1)
   ·simp only[go_sem,M,c,p,r0,z];have e9:∀l:List SS,l.flatMap (fY E F[i].1 t)=[]:=λl=>List.flatMap_eq_nil_iff.2 λs _=>by unfold fY;rw[sy λh=>z h.1]
    simp_all
  ·simp only[go_sem,M,c];rw[AQ om]at ha
   grind
def qd(g:G3)(k:Nat)(t:Tu):List G3:=if k=1/\bR t=g/\t.z≠sE then[fW t]else[]
theorem zjl(g:G3)(n:Nd)(t:Tu):∀{l:List SS},l.Nodup->l.flatMap (fY g n t)=if n.k=3/\bR t=(g.1,n.rl)/\t.z=sE/\t.x∈l then[((t.x,t.y),n.to)]else[]
 | [],_=>g3
 |s::l,h=>by
  rw[lOI]at h;rw[DM,zjl g n t h.2];unfold fY;by_cases e:t.x=s
  ·simp_all
  ·simp_all
theorem z9k(g:G3)(n:Nd)(t:Tu)(h:(iK X g.1.1 n.rl n.to).Nodup):qd g n.k t++(iK X g.1.1 n.rl n.to).flatMap (fY g n t)=xD X g n.k n.rl n.to t:=by
 rw[zjl g n t h];unfold qd xD
 grind
theorem z0j(g:G3)(k:Nat)(rl to:SS)(t:Tu):(xD X g k rl to t).length<=1:=by
 unfold xD
 grind
theorem KR(g:G3)(k:Nat)(rl to:SS):∀T:List Tu,(T.flatMap (xD X g k rl to)).length<=T.length
 | []=>AF _
 |t::T=>by have a:=z0j (X:=X) g k rl to t;have b:=KR g k rl to T;rw[DM,nj,nk];omega
theorem P8{H0:Hp}{w1 n o tv sv av ov gv:AV}(Q:i<F.length){d wb:Nat}(J:Rs 5 lD H0 n F)(U:Rs 1 sC H0 o (iK X E.1.1 F[i].1.rl F[i].1.to))(K:H0.get d=aB 0 (gC E))(V:H0.get wb=aB 0 [sv,tv,av,ov,gv])(z:d<H0.nx/\wb<H0.nx)(W:Rs 6 Tu.cells H0 tv T)(dn:∀b,In n b->b<H0.nx)(dx:∀b,In o b->b<H0.nx)(A:∀b,In w1 b->¬In n b/\¬In o b/\b≠d/\b≠wb/\¬In tv b)(s:(iK X E.1.1 F[i].1.rl F[i].1.to).Nodup)(Y:(iK X E.1.1 F[i].1.rl F[i].1.to).length<=1000)(L:T.length<=20){acc:List G3}(M:acc.length<=900000)(u:i<=1000000)(hq:∀w H,mH 3 gC (In w1) H0 H w (acc++T.flatMap (xD X E F[i].1.k F[i].1.rl F[i].1.to))->Ok (qr w H) I):∀(k m:Nat) (w:AV) (H:Hp),m<=T.length->T.length-m<k->mH 3 gC (In w1) H0 H w (acc++(T.take m).flatMap (xD X E F[i].1.k F[i].1.rl F[i].1.to)) -> Ok (cC O qr (.ptr wb 0) (.ptr d 0) n (iN i) o k w (iN m) H) I
 |0,m,_,_,_,h,_=>om
 |k+1,m,w,H,hm,hk,ha=>by
  show Ok (Jq O _ _ _ _ _ _ (cC O _ _ _ _ _ _ k) _ _ H) I;unfold Jq;have v:=ha.fm;have hnx:=v.nx;have c:=(v.get wb z.2 λh=>(A wb h).2.2.2.1 rfl).trans V;have N:=J.dR v om;have x:=W.dR v om;have Z:=x.len;by_cases l:m<T.length
  ·simp only[go_sem,c,Z,l];rw[kE v8];unfold v8;obtain⟨b1,o1,D,d2,_,d3,d4⟩:=N.at' i Q;have B:cB (H.get b1) o1=.val (uN (F[i].1.k)):=d4 0 (by rw[sG];omega);obtain⟨b2,o2,g,c2,y⟩:=x.oG l;have P:Fm No H ((aH H (aB 0 [zS,zS,zS,zS,zS,zS])).put H.nx (aB 0 T[m].cells)):=by exact zL
   have hfT:=KR (X:=X) E F[i].1.k F[i].1.rl F[i].1.to (T.take m);have htk:(T.take m).length<=T.length:=by rw[sY];exact vT _ _
   have next:∀(f:AV) (e:Hp),mH 3 gC (In w1) H0 e f (acc++(T.take m).flatMap (xD X E F[i].1.k F[i].1.rl F[i].1.to)++qd E F[i].1.k T[m])->(F[i].1.k=3->e.get H.nx=aB 0 T[m].cells/\H.nx<e.nx/\¬In f H.nx) ->
     Ok (kA lj O (cC O qr (.ptr wb 0) (.ptr d 0) n (iN i) o k) (.ptr d 0) f n (iN i) o (iN m) (.ptr H.nx 0) e) I:=λf e p h3=>by
    rw[kE lj];unfold lj;rw[dD];have C:=p.fm;have n2:=C.nx;have hz:(qd E F[i].1.k T[m]).length<=1:=by unfold qd;split<;>simp
    refine Qa Q (t:=T[m]) (J.dR C om) (U.dR C om) ((C.get d z.1 λh=>(A d h).2.2.1 rfl).trans K) h3 om (λb hb=>?_) Y (acc:=acc++(T.take m).flatMap (xD X E F[i].1.k F[i].1.rl F[i].1.to)++qd E F[i].1.k T[m]) (by simp only[nj];omega) u (λw3 H3 h4=>?_) bT 0 f e (vy _) lf (by simpa using (⟨p.gl,om,om⟩:mH 3 gC (In f) e e f _)) g3
    ·rcases p.nw b hb with h|h
     ·simp_all
     ·grind
    ·unfold oK;refine aS ?_;refine P8 Q J U K V z W dn dx A s Y L M u hq k (m+1) w3 H3 om om ?_;have h5:=p.comp h4;rw[sR,z9k E F[i].1 T[m] s]at h5;rw[nh l,nt,AJ,<-sR];exact h5
   have j:=(v.get d z.1 λh=>(A d h).2.2.1 rfl).trans K;have q1:=Av (bR T[m]) E;have eg:gC E=[.str E.1.1.n E.1.1.a,.str E.1.2.n E.1.2.a,.str E.2.n E.2.a]:=rfl;have et:T[m].cells=[.str T[m].a.n T[m].a.a,.str T[m].b.n T[m].b.a,.str T[m].c.n T[m].c.a,.str T[m].x.n T[m].x.a,.str T[m].y.n T[m].y.a,.str T[m].z.n T[m].z.a]:=rfl;have eq:gC (bR T[m])=[.str T[m].a.n T[m].a.a,.str T[m].b.n T[m].b.a,.str T[m].c.n T[m].c.a]:=rfl;rw[eg,eq]at q1;rw[eg]at j;rw[et]at y P next
   have no:qd E F[i].1.k T[m]=[]->Ok (kA lj O (cC O qr (.ptr wb 0) (.ptr d 0) n (iN i) o k) (.ptr d 0) w n (iN i) o (iN m) (.ptr H.nx 0) _) I:=λh=>next w _ (by rw[h,DN];exact ha.no P) λ_=>⟨gX _ _ _,gx,λh=>by have:=ha.gl.lt h;omega⟩
   by_cases r:F[i].1.k=1
   ·by_cases a:bR T[m]=E
    ·rw[j7 a]at q1;by_cases G:T[m].z.n=0/\T[m].z.a=0
     ·have R:=j7 G;simp(disch:=first|omega|exact ti rfl)only[go_sem,seval,c,g,y,D,B,r,j,q1,dk,R];exact no (sy λh=>h.2.2 ((ju _).1 G))
     ·have R:=sT G;simp(disch:=go_size)only[go_sem,seval,c,g,y,D,B,r,j,q1,dk,R];refine Ok.ve ((ha.no (P.push (aB 0 (gC (fW T[m]))))).add (fW T[m]) 48 rfl (by rw[nj];omega) (by rw[nj];omega)) ?_;intro f e p;refine next f e ?_ λh=>om
      unfold qd;rw[sB ⟨r,a,λh=>G ((ju _).2 h)⟩];exact p
    ·rw[sT a]at q1;simp(disch:=first|omega|exact ti rfl)only[go_sem,seval,c,g,y,D,B,r,j,q1,dk];exact no (sy λh=>a h.2.1)
   ·refine cF c g y D B r ?_;exact no (sy λh=>r h.1)
  ·simp only[go_sem,c,Z,l];rw[AQ om]at ha
   grind
theorem HL(g:G3)(k:Nat)(rl to:SS)(h:T.length<=20):(wV X T g k rl to).length<=21:=by
 unfold wV;have:=KR (X:=X) g k rl to T
 grind
def kh(X:List aP)(T:List Tu)(g:G3)(nl:List (Nd×AV)):List G3:=nl.flatMap λy=>wV X T g y.1.k y.1.rl y.1.to
theorem zlp(g:G3)(h:T.length<=20):∀a:List (Nd×AV),(kh X T g a).length<=21*a.length
 | []=>AF _
 |y::a=>by have b:=HL (X:=X) g y.1.k y.1.rl y.1.to h;have c:=zlp g h a;unfold kh at *;rw[DM,nj,nk];omega
theorem PS{j:Nat}(G:3<=j){r tv av:AV}{s wb:Nat}(Q:dB H0 sv X)(D:sO X)(t:Rs 5 lD H0 r F)(g:H0.get s=aB 0 (gC E))(J:H0.get wb=aB 0 [sv,tv,av,ov,gv])(A:s<H0.nx/\wb<H0.nx)(K:Rs 6 Tu.cells H0 tv T)(dn:∀b,In r b->b<H0.nx)(L:∀b,In tv b->b<H0.nx)(u:∀a b:SS,(iK X E.1.1 a b).Nodup)(f:T.length<=20)(c:F.length<=1000)(hq:∀w H,Ac 3 gC H0 H w (kh X T E F)->Ok (qr w H) I):∀(k i:Nat) (w:AV) (H:Hp),i<=F.length->F.length-i<k->Ac 3 gC H0 H w (kh X T E (F.take i)) -> Ok (uG (C j) qr (.ptr wb 0) (.ptr s 0) r k w (iN i) H) I
 |0,i,_,_,_,h,_=>om
 |k+1,i,w,H,hi,hk,ha=>by
  show Ok (Jr (C j) _ _ _ _ (uG (C j) _ _ _ _ k) _ _ H) I;unfold Jr;have M:=ha.fm;have N:=t.len;by_cases d:i<F.length
  ·simp only[go_sem,N,d];rw[kE v7];unfold v7;obtain⟨b1,o1,d1,d2,_,d3,d4⟩:=(t.fm M).at' i d;have O:cB (H.get b1) o1=.val (uN (F[i].1.k)):=d4 0 (by rw[sG];omega);have r1:cB (H.get b1) (o1+1)=.val (.str F[i].1.rl.n F[i].1.rl.a):=d4 1 (by rw[sG];omega);have x:=(M.keep A.1).trans g;have P:gC E=[.str E.1.1.n E.1.1.a,.str E.1.2.n E.1.2.a,.str E.2.n E.2.a]:=rfl;have hln:=zlp (X:=X) E f (F.take i);have htk:(F.take i).length<=F.length:=by rw[sY];exact vT _ _
   have next:∀(l:AV) (e:Hp),Ac 3 gC H0 e l (kh X T E (F.take i)++if F[i].1.k=2 then[(E.1,F[i].1.rl)]else[]) ->
     Ok (kA nK (C j) (uG (C j) qr (.ptr wb 0) (.ptr s 0) r k) (.ptr wb 0) (.ptr s 0) l r (iN i) e) I:=λl e v=>by
    rw[kE nK];unfold nK;have o:=v.fm;have n2:=o.nx;have g2:=(o.keep A.1).trans g;have y:=(o.keep A.2).trans J;obtain⟨B,p1,x1,x2,_,x3,x4⟩:=(t.fm o).at' i d;have R:cB (e.get B) (p1+1)=.val (.str F[i].1.rl.n F[i].1.rl.a):=x4 1 (by rw[sG];omega);have S:cB (e.get B) (p1+2)=.val (.str F[i].1.to.n F[i].1.to.a):=x4 2 (by rw[sG];omega);rw[P]at g2;simp only[go_sem,seval,y,g2,x1,R,S];refine Ok.iC (Ug G (Q.fm o) D E.1.1 F[i].1.rl F[i].1.to) ?_;rintro xv z p;replace p:Ac 1 sC e z xv (iK X E.1.1 F[i].1.rl F[i].1.to):=p;have m:=p.fm;have n3:=m.nx;have z1:cB (z.get B) (p1+1)=.val (.str F[i].1.rl.n F[i].1.rl.a):=by rw[m.keep x2];exact R
    have z2:cB (z.get B) (p1+2)=.val (.str F[i].1.to.n F[i].1.to.a):=by rw[m.keep x2];exact S
    have U:=(m.keep om).trans g2;have V:=(m.keep om).trans y;simp only[go_sem,z1,z2,U,V];rw[dD];have W:=o.trans m;have Y:=v.no m;have tl:=wi D E.1.1 F[i].1.rl F[i].1.to;refine P8 d (H0:=z) (w1:=l) (t.fm W) (p.rs pi) U V ⟨om,om⟩ (K.fm W) (λb n=>by have:=dn b n;omega) (λb n=>p.gl.lt n) (λb n=>?_) (u _ _) om f (acc:=kh X T E (F.take i)++if F[i].1.k=2 then[(E.1,F[i].1.rl)]else[]) ?_ om (λw3 H4 h4=>?_) bT 0 l z (vy _) lf (by simpa using Y.start)
    ·have p1:=v.nw b n;have p2:=v.gl.lt n;exact⟨λh=>by have:=dn b h;omega,λh=>by have:=p.nw b h;omega,om,om,λh=>by have:=L b h;omega⟩
    ·rw[nj];split<;>simp<;>omega
    ·unfold vM;refine aS ?_;refine PS G Q D t g J A K dn L u f c hq k (i+1) w3 H4 om om ?_;have Z:=Y.fin h4;unfold kh at Z ⊢;rw[nh d,nt,AJ];unfold wV;rw[<-sR];exact Z
   by_cases a1:F[i].1.k=2
   ·rw[P]at x;simp only[go_sem,seval,d1,O,r1,a1,x];refine Ok.iC ((ha.no (((Fm.refl No H).up 12).aN (H.nx+9) (aB 0 (gC (E.1,F[i].1.rl))) om)).add (E.1,F[i].1.rl) 48 rfl om om) ?_;intro l e v;simp only[go_sem];exact next l e om
   ·simp only[go_sem,d1,O,a1];simp_all
  ·simp only[go_sem,N,d]
   grind
def gK(X:List aP)(T:List Tu)(g:G3):List G3:=match kQ X g.1.1 g.2 with
 |none=>[]
 |some x=>(x.r.rule.nodes false).flatMap λy=>wV X T g y.k y.rl y.to
structure WdR(X:List aP)(T:List Tu)(H:Hp)(ws:List AV):Prop where
 ex:∃sv tv av ov gv,ws=[sv,tv,av,ov,gv]/\dB H sv X/\Rs 6 Tu.cells H tv T/\∀b,In tv b->b<H.nx
theorem WdR.fm(h:WdR X T H cs)(f:Fm No H H'):WdR X T H' cs:=by obtain⟨sv,tv,c,ov,d,e,g,i,j⟩:=h.ex;exact⟨sv,tv,c,ov,d,e,g.fm f,i.fm f,λb a=>AE (j b a) f.nx⟩
attribute [grind .] WdR.fm
theorem zt7{k:Nat}(Z:20<=k){ws:List AV}(hW:WdR X T H ws)(t:bV X)(g:T.length<=20)(F:(E.1.1,E.2)∈aF X)(G:∀a b:SS,(iK X E.1.1 a b).Nodup):Ok (C k (.f 86) [.agg ws,.agg (gC E)] H) λr H'=>Ac 3 gC H H' r (gK X T E):=by
 obtain⟨j,rfl⟩:=aO Z;rw[lk (zpx ..)];unfold V6;obtain⟨sv,tv,W,ov,Y,rfl,Q,hT,hd⟩:=hW.ex;have U:gC E=[.str E.1.1.n E.1.1.a,.str E.1.2.n E.1.2.a,.str E.2.n E.2.a]:=rfl;have K:=t.pr.sml;have L:Fm No H (aH (aH H (aB 0 [sv,tv,W,ov,Y])) (aB 0 (gC E))):=by(repeat refine Fm.push ?_ _);exact Fm.refl _ _
 rw[U]at L ⊢;refine aS ?_;refine Ok.ve (Cr (k:=j) om (Q.fm L) (by have:=K.n;omega) (λp I=>by have:=K.r p I;omega) E.1.1 E.2) ?_;rintro _ H1 ⟨v,i⟩;obtain⟨x,y,_⟩:=li t.al t.sp F;unfold tn at i;rw[y]at i;subst i;have iY:=L.trans v;have n1:=v.nx;simp only[np]at n1;have M:=QF Q y;obtain⟨p,I,R,_,_⟩:=cL y;have n:=(t.pr.x p I x R).2.2.1;have d:=M.ru;obtain⟨c0,z,A,B,q⟩:=d.four;have N:iL x=[.str x.r.name.n x.r.name.a,x.tv,c0,z,A,B]:=by unfold iL;rw[q];rfl
 rw[N];have V:Fm No H ((aH H1 (aB 0 [zS,.aA,uN 0,zS,zS,.aA])).put H1.nx (aB 0 [.str x.r.name.n x.r.name.a,x.tv,c0,z,A,B])):=(iY.push _).aN _ _ om;have fK:Fm No H1 ((aH H1 (aB 0 [zS,.aA,uN 0,zS,zS,.aA])).put H1.nx (aB 0 [.str x.r.name.n x.r.name.a,x.tv,c0,z,A,B])):=by exact zL
 have O:∀x,¬In AV.aA x:=λx h=>by obtain⟨_,_,_,_,h⟩:=h;cases h
 have q1:=n.dp;have q2:=n.sz;refine aS ?_;refine Ok.ve (M4 x.r.rule j om .aA false _ (l:=[]) (P:=λ_=>True) (cs:=[c0,z,A,B]) (Gl.nil 5 _) ?_ (λb _=>O b) g2) ?_
 ·rw[q]at d;exact d.fm V
 rintro w s ⟨l,D,S⟩;have o:l.map Prod.fst=x.r.rule.nodes false:=by simpa using S
 have hln:l.length=x.r.rule.size:=by have:=congrArg List.length o;simpa [ep] using this
 have f:Fm No H1 s:=fK.then D.fm λc _ h=>absurd h (O c);have u:Fm No H s:=V.then D.fm λc _ h=>absurd h (O c);have n2:=f.nx;have k0:s.get H.nx=aB 0 [sv,tv,W,ov,Y]:=((v.trans f).keep g1).trans g6;have k1:s.get (H.nx+1)=aB 0 (gC E):=((v.trans f).keep gz).trans (by rw[U];simp(disch:=go_size)only[go_sem,seval]);rw[dD];refine PS (j:=j) om (Q.fm u) K (D.gl.rs sG) k1 k0 ⟨om,om⟩ (hT.fm u) (λb m=>D.gl.lt m) (λb m=>by have:=hd b m;have:=u.nx;omega) G g om (λw3 H3 J=>?_) bT 0 .aA s (vy _) lf (Ac.nil 3 _ (Fm.refl _ _));have e:gK X T E=kh X T E l:=by unfold gK kh;rw[y];simp only;rw[<-o,uf]
 rw[e];exact Ok.ret ⟨J.gl,u.trans J.fm,λb m=>by have:=J.nw b m;omega⟩
def jE(l r:List G3):List G3:=r.foldl (λl x=>if x∈l then l else l++[x]) l
theorem Qx(l:List G3)(h:m<U.length):jE l (U.take (m+1))=if U[m]∈jE l (U.take m)then jE l (U.take m)else jE l (U.take m)++[U[m]]:=by unfold jE;rw[nh h,List.foldl_append];rfl
def eV(R:G3->List G3):Nat->Nat->List G3->List G3
 |0,_,l=>l
 |n+1,i,l=>if h:i<l.length then eV R n (i+1) (jE l (R l[i]))else l
structure wE(U l:List G3):Prop where
 nd:l.Nodup
 sub:∀x∈l,x∈U
theorem wE.add{U:List G3}:∀{r l:List G3},wE U l->(∀x∈r,x∈U)->wE U (jE l r)
 | [],_,h,_=>h
 |x::r,l,h,hr=>by
  refine wE.add (r:=r) (l:=if x∈l then l else l++[x]) ?_ λy c=>hr y (DQ _ c);split
  ·exact h
  ·rename_i g;refine⟨lI2.2 ⟨h.nd,g3,λa d b f e=>?_⟩,λy c=>?_⟩
   ·simp_all
   ·rcases lAJ.1 c with c|c
    ·exact h.sub y c
    ·simp_all
variable{h:List G3}
theorem wE.len(l:wE U h):h.length<=U.length:=Nt l.nd l.sub
theorem X4{j:Nat}(s:1<=j){H1:Hp}{w1 rv:AV}{a:List G3}(t:Rs 3 gC H1 rv a)(u:∀b,In w1 b->¬In rv b)(v:wE U h)(g:∀x∈a,x∈U)(B:U.length<=1000)(n:a.length<=100000)(D:∀w H,mH 3 gC (In w1) H1 H w (jE h a)->Ok (qr w H) I):∀(k m:Nat) (w:AV) (H:Hp),m<=a.length->a.length-m<k->mH 3 gC (In w1) H1 H w (jE h (a.take m)) -> Ok (B0 (C j) qr rv k w (iN m) H) I
 |0,m,_,_,_,l,_=>om
 |k+1,m,w,H,hm,hk,ha=>by
  show Ok (Js (C j) _ _ (B0 (C j) _ _ k) _ _ H) I;unfold Js;have G:=ha.fm;have e:=t.dR G λb E l=>u b l E;have y:=e.len;by_cases c:m<a.length
  ·simp only[go_sem,y,c];unfold N3;obtain⟨b,o,A,L,_,K,_⟩:=e.at' m c;have z:List.take 3 (gC a[m])=gC a[m]:=rfl;have p:wE U (jE h (a.take m)):=v.add om;have Q:=p.len;have next:∀(f:AV) (d:Hp),mH 3 gC (In w1) H1 d f (jE h (a.take (m+1)))->Ok (vM (C j) (B0 (C j) qr rv k) f (iN m) d) I:=λf d F=>by
    unfold vM;refine aS ?_;exact X4 s t u v g B n D k (m+1) f d om om F
   rw[Qx h c]at next
   simp only[go_sem,A,K,vV,z];refine Ok.ve (z9i s (ha.gl.rs vV) om a[m]) ?_;rintro _ d ⟨M,⟨r,i,rfl⟩|⟨r,rfl⟩⟩
   ·rw[sB r]at next
    exact next w d om
   ·rw[sy r]at next
    have J:eY (d.get b) o 3=some (gC a[m]):=om;refine jF A J vV z ?_;refine Ok.ve ((ha.no om).add a[m] 48 rfl om om) ?_;omega
  ·simp only[go_sem,y,c]
   grind
structure jy(X:List aP)(U:List G3)(R:G3->List G3):Prop where
 dc:∀g∈U,(g.1.1,g.2)∈aF X
 cl:∀g∈U,∀r∈R g,r∈U
 n:U.length<=500
theorem zus{x:bA}(b:bV X)(c:kQ X E.1.1 E.2=some x):(x.r.rule.nodes false).length<=32:=by obtain⟨p,d,a,_,_⟩:=cL c;have:=((b.pr.x p d x a).2.2.1).sz;rw[ep];exact this
theorem Fz(a:bV X)(b:T.length<=20)(g:G3):(gK X T g).length<=672:=by
 unfold gK;cases h:kQ X g.1.1 g.2 with
 |none=>simp
 |some x=>
  have c:=zus a h;have d:∀l:List Nd,(l.flatMap λy=>wV X T g y.k y.rl y.to).length<=21*l.length:=λl=>by
   induction l with
   |nil=>exact AF _
   |cons y l ih=>
    have:=HL (X:=X) g y.k y.rl y.to b
    grind
  grind
theorem La:∀(r l:List G3),l.length<=(jE l r).length
 | [],_=>AF _
 |x::r,l=>by
  have:=La r (if x∈l then l else l++[x]);refine AL ?_ this;split
  ·simp
  ·simp
theorem P5{cs:List AV}{X:List aP}{T:List Tu}{H0:Hp}{U:List G3}{I:pL}{h:List G3}{j:Nat}(x:20<=j){wb:Nat}(y:WdR X T H0 cs)(g:H0.get wb=aB 0 cs)(z:wb<H0.nx)(r:bV X)(s:T.length<=20)(t:∀a b c:SS,(iK X a b c).Nodup)(m:jy X U (gK X T)){q:AV->pD}(E:∀w c H,Ac 3 gC H0 H w h->Ok (q w (iN c) H) I):∀(k i:Nat) (l:List G3) (w:AV) (c:Nat) (H:Hp),i<=l.length->U.length-i<k->wE U l->c<=672*i->eV (gK X T) k i l=h->Ac 3 gC H0 H w l -> Ok (CD (C j) q (.ptr wb 0) k w (iN c) (iN i) H) I
 |0,i,_,_,_,_,_,f,_,_,_,_=>om
 |k+1,i,l,w,c,H,hi,hk,hl,hc,hr,ha=>by
  show Ok (N4 (C j) _ _ (CD (C j) _ _ k) _ _ _ H) I;unfold N4;have K:=hl.len;have L:=m.n;have A:=ha.bF;have u:=ha.fm;unfold eV at hr;by_cases d:i<l.length
  ·rw[dif_pos d]at hr;simp only[go_sem,A,d];unfold Zh;have v:=hl.sub _ (sx d);obtain⟨b,o,R,V,W,S,_⟩:=(ha.rs vV).at' i d;have B:List.take 3 (gC l[i])=gC l[i]:=rfl;have w1:=(u.keep z).trans g;have n:=y.fm u;have nx:=u.nx;obtain⟨sv,tv,Y,ov,Z,rfl,_⟩:=n.ex;simp only[go_sem,seval,w1,R,S,vV,B];refine Ok.iC (zt7 x n r s (m.dc _ v) om) ?_;rintro rv p e;replace e:Ac 3 gC H p rv (gK X T l[i]):=e;have D:=e.fm;have M:eY (p.get b) o 3=some (gC l[i]):=om;have N:=om;have O:=e.bF;have P:=Fz (X:=X) r s l[i];refine lW N M vV B O ?_;rw[dD];refine X4 (j:=j) om (H1:=p) (w1:=w) (e.rs vV) (λb F f=>?_) hl (m.cl _ v) om om (λG Q J=>?_) bT 0 w p om lf (by simpa [jE] using (ha.no D).start)
   ·have:=ha.gl.lt F;have:=e.nw b f;omega
   ·unfold Zg;refine aS ?_;exact P5 x y g z r s t m E k (i+1) (jE l (gK X T l[i])) G _ Q (by have:=La (gK X T l[i]) l;omega) om (hl.add (m.cl _ v)) om hr ((ha.no D).fin J)
  ·rw[dif_neg d]at hr;subst hr;simp only[go_sem,A,d];simp_all
theorem Ac.new1{α:Type}{f:α->List AV}(x:α)(a:(f x).length=z):Ac z f H0 (aH H0 (aB 0 (f x))) (.sl H0.nx 0 1 1 true) [x]:=
 ⟨⟨by simp[a],.inr ⟨H0.nx,0,true,0,f x,rfl,om,om,g3,om,gx⟩⟩,om,λb c=>by obtain⟨_,_,_,_,h⟩:=c;cases h;exact AF _⟩
theorem wE.one(h:E∈U):wE U [E]:=⟨g3,om⟩
def iU(R:G3->List G3)(g:G3):List G3:=eV R bT 0 [g]
theorem zky{k:Nat}(m:21<=k)(h:WdR X T H cs)(n:bV X)(o:T.length<=20)(d:∀a b c:SS,(iK X a b c).Nodup)(i:jy X U (gK X T))(p:E∈U):Ok (C k (.f 36) [.agg cs,.agg (gC E)] H) λr H'=>∃w c,r=.aX [w,c]/\Ac 3 gC H H' w (iU (gK X T) E):=by obtain⟨j,rfl⟩:=aO m;rw[lk (zpz ..)];unfold V8;obtain⟨sv,tv,t,ov,u,rfl,_⟩:=h.ex;have l:gC E=[.str E.1.1.n E.1.1.a,.str E.1.2.n E.1.2.a,.str E.2.n E.2.a]:=rfl;rw[l];refine aS ?_;rw[dD];have f:Fm No H (aH (aH H (aB 0 [sv,tv,t,ov,u])) (aB 0 (gC E))):=om;have s:=i.n;refine P5 (j:=j) om (h.fm f) (wb:=H.nx) (by rw[l];simp(disch:=first|go_size|omega)only[go_sem,seval]) g1 n o d i (λw c H1 e=>?_) bT 0 [E] _ 0 _ om lf (wE.one p) om rfl (Ac.new1 E rfl);have v:=f.nx;exact Ok.ret ⟨w,_,rfl,e.gl,f.trans e.fm,λb q=>by have:=e.nw b q;omega⟩
def p9(g:G3):AV:=.agg (gC g)
abbrev kX:AV->AV->Option Bool:=dL (eqFields [((pA 2),⟨dL (eqFields [(p1,⟨bH⟩,0),(p1,⟨bH⟩,1)])⟩,0),(p1,⟨bH⟩,2)])
theorem ji(p q:G3):kX (p9 p) (p9 q)=some (decide (p=q)):=Av p q
def rY(T:List Tu)(g:G3):List Tu:=T.filter λt=>decide (bR t=g)
theorem zmx(T:List Tu)(t:Tu)(g:G3):rY (T++[t]) g=rY T g++if bR t=g then[t]else[]:=by
 unfold rY
 grind
structure MB(H0 H:Hp)(b:Nat)(T:List Tu)(es:List eT)(gs:List G3):Prop where
 get:H.get b=.map es es.length
 key:es.map eT.key=gs.map p9
 born:∀(i:Nat) (e:eT),es[i]? =some e->e.born=i
 mem:∀t∈T,bR t∈gs
 nd:gs.Nodup
 val:∀(i:Nat) (e:eT) (g:G3),es[i]? =some e->gs[i]? =some g->Gl 6 H e.val (rY T g).length ((rY T g).flatMap Tu.cells)
 nw:∀(i:Nat) (e:eT) (c:Nat),es[i]? =some e->In e.val c->H0.nx<=c
 dj:∀(i j:Nat) (e e':eT) (c:Nat),i≠j->es[i]? =some e->es[j]? =some e'->In e.val c->¬In e'.val c
variable{D:List eT}
theorem MB.len(h:MB H0 H b T D U):D.length=U.length:=by have:=congrArg List.length h.key;simpa using this
theorem MB.fm(h:MB H0 H b T D U)(f:Fm No H H')(j:b<H.nx):MB H0 H' b T D U:=
 ⟨(f.keep j).trans h.get,h.key,h.born,h.mem,h.nd,λi e g a c=>(h.val i e g a c).no f,h.nw,h.dj⟩
theorem MB.no(h:MB H0 H b T D U){e:eT}(f:D[i]? =some e)(j:U[i]? =some E)(k:In e.val c):c≠b:=λl=>by
 subst l;obtain⟨_,_,_,_,a⟩:=k;rcases(h.val i e E f j).is with⟨h1,_⟩|⟨b',o,x,q,L,h1,h2,_⟩
 ·simp_all
 ·rw[h1]at a;injection a with a;have:=h.get;rw[<-a,h2]at this;cases this
theorem zyl(g:G3):bL (p9 g) (p9 g)=true:=by
 obtain⟨⟨a,b⟩,c⟩:=g;show po [.str a.n a.a,.str b.n b.a,.str c.n c.a] [.str a.n a.a,.str b.n b.a,.str c.n c.a]=true;have q:∀s:SS,gd s.n s.a s.n s.a=true:=λs=>by simp[gd]
 simp[po,De,q]
theorem MB.entry(h:MB H0 H b T D U)(Q:b<H.nx)(g:G3):∃p r n e k,lR ⟨kX,some 3⟩ .aA H (.map b) (.agg (gC g))=.ok (.aX [e.val,iN n]) (H.put b k)/\MB H0 (H.put b k) b T p r/\p[n]? =some e/\r[n]? =some g:=by
 have N:=h.len;obtain⟨g1,g2⟩:=iW ji g D U 0 h.key;by_cases I:g∈U
 ·obtain⟨e,v,x2⟩:=g2 I;have es:=h.born _ _ v;have u:=(lAL.1 v).1;have E:U[U.findIdx λq=>decide (q=g)]? =some g:=by
   rw[j0 om]
   grind
  have K:e.key=p9 g:=by have:=congrArg (λl=>l[U.findIdx λq=>decide (q=g)]?) h.key;simp_all
  have L:D.set (U.findIdx λq=>decide (q=g)) ⟨p9 g,e.val,e.born⟩=D:=by rw[<-K];have:D[U.findIdx λq=>decide (q=g)]=e:=(lAL.1 v).2;subst this;exact List.set_getElem_self u
  refine⟨D,U,_,e,.map D D.length,?_,?_,v,E⟩
  ·show lR ⟨kX,some 3⟩ .aA H (.map b) (p9 g)=_;have F:fN ⟨kX,some 3⟩ (p9 g) D=some (some ⟨0+U.findIdx (λq=>decide (q=g)),e⟩):=x2;unfold lR;simp only[h.get,F,K,zyl,AN,nr,es];simp_all
  ·exact⟨om,h.key,h.born,h.mem,h.nd,λi e g a c=>(h.val i e g a c).fm om λx w=>h.no a c w,h.nw,h.dj⟩
 ·have F:fN ⟨kX,some 3⟩ (p9 g) D=some none:=g1 I;have G:rY T g=[]:=List.filter_eq_nil_iff.2 λt y=>by
   simp only[mE];intro e;exact I (by rw[<-e];exact h.mem t y)
  have R:∀x,¬In AV.aA x:=λx h=>by obtain⟨_,_,_,_,h⟩:=h;cases h
  have sp:∀(i:Nat) (e:eT),(D++[⟨p9 g,.aA,D.length⟩])[i]? =some e->(D[i]? =some e/\i<D.length)\/(i=D.length/\e=⟨p9 g,.aA,D.length⟩):=λi e f=>by
   by_cases u:i<D.length
   ·rw[sX u]at f;exact .inl ⟨f,u⟩
   ·have O:=(lAL.1 f).1
    grind
  refine⟨D++[⟨p9 g,.aA,D.length⟩],U++[g],D.length,⟨p9 g,.aA,D.length⟩,.map (D++[⟨p9 g,.aA,D.length⟩]) (D.length+1),?_,⟨?_,?_,λi e f=>?_,λt y=>uw _ (h.mem t y),?_,λi e M f m=>?_,λi e c f z=>?_,λi j e J c A f B z C=>?_⟩,?_,?_⟩
  ·show lR ⟨kX,some 3⟩ .aA H (.map b) (p9 g)=_;unfold lR;simp only[h.get,F]
  ·grind
  ·rw[AO,AO,h.key];rfl
  ·rcases sp i e f with⟨o,_⟩|⟨o,s⟩
   ·exact h.born i e o
   ·grind
  ·exact lI2.2 ⟨h.nd,g3,om⟩
  ·rcases sp i e f with⟨o,s⟩|⟨o,s⟩
   ·rw[sX om]at m;exact(h.val i e M o m).fm om λx w=>h.no o m w
   ·subst o;rw[N,AM (AF _),gq]at m;cases m;rw[s,G];exact Gl.nil 6 _
  ·rcases sp i e f with⟨o,_⟩|⟨_,s⟩
   ·exact h.nw i e c o z
   ·simp_all
  ·rcases sp i e f with⟨o,_⟩|⟨_,s⟩
   ·rcases sp j J B with⟨P,_⟩|⟨_,S⟩
    ·exact h.dj i j e J c A o P z C
    ·simp_all
   ·simp_all
  ·simp
  ·simp_all
theorem RV:∀(es:List eT) (i n:Nat) (e:eT),(∀(k:Nat) (x:eT),es[k]? =some x->x.born=i+k)->es[n]? =some e->CY (i+n) es i=some ⟨i+n,e⟩
 | [],_,_,_,_,h=>by cases h
 |x::es,i,n,e,hb,h=>by
  have c:=hb 0 x rfl;show(bif Nat.beq x.born (i+n)then some ⟨i,x⟩else CY (i+n) es (i+1))=_;cases n with
  |zero=>simp_all
  |succ n=>
   have a:Nat.beq x.born (i+(n+1))=false:=by rw[lU9];intro k;have:=AK k;omega
   rw[a];have:=RV es (i+1) n e (λk y b=>by rw[hb (k+1) y b];omega) h
   grind
theorem MB.store{s:Hp}(w:MB H0 H b T D h)(O:b<H.nx)(P:b<H0.nx){e:eT}{t:Tu}(p:D[n]? =some e)(C:h[n]? =some (bR t)){v:AV}(V:Gl 6 s v (rY (T++[t]) (bR t)).length ((rY (T++[t]) (bR t)).flatMap Tu.cells))(f:Fm (In e.val) H s)(B:∀c,In v c->In e.val c\/H.nx<=c)(W:H0.nx<=H.nx):∃k F,wY s (.map b) (iN n) v=.ok .undef (s.put b k)/\MB H0 (s.put b k) b (T++[t]) F h:=by
 have Y:s.get b=.map D D.length:=(f.get b O λl=>w.no p C l rfl).trans w.get;have R:=RV D 0 n e (λk x r=>by rw[w.born k x r];omega) p;rw[nr]at R;have S:=(lAL.1 p).1;have Z:∀{i:Nat} {x:eT} {g:G3} {c:Nat},D[i]? =some x->h[i]? =some g->In x.val c->c<H.nx:=λa d l=>(w.val _ _ _ a d).lt l;have z:∀{i:Nat} {x:eT},D[i]? =some x->∃g,h[i]? =some g:=λa=>by have:=(lAL.1 a).1;exact⟨_,j0 (by rw[<-w.len];exact this)⟩
 have vb:∀c,In v c->c≠b:=λc l es=>by
  subst es;rcases B c l with k|k
  ·exact w.no p C k rfl
  ·omega
 have sp:∀{i:Nat} {x:eT},(D.set n ⟨e.key,v,e.born⟩)[i]? =some x->(i≠n/\D[i]? =some x)\/(i=n/\x=⟨e.key,v,e.born⟩):=λ{i x} a=>by
  rw[List.getElem?_set]at a
  grind
 refine⟨.map (D.set n ⟨e.key,v,e.born⟩) D.length,D.set n ⟨e.key,v,e.born⟩,?_,⟨?_,?_,λi x r=>?_,λu Q=>?_,w.nd,λi x g r m=>?_,λi x c r l=>?_,λi j x y c E r J l o=>?_⟩⟩
 ·unfold wY;simp_all
 ·grind
 ·rw[qj,<-w.key];have:(D.map eT.key)[n]? =some e.key:=by rw[AS,p];rfl
  have K:n<(D.map eT.key).length:=om;rw[show e.key=(D.map eT.key)[n]from(Option.some.inj ((j0 K).symm.trans this)).symm];exact List.set_getElem_self K
 ·rcases sp r with⟨_,k⟩|⟨rfl,rfl⟩
  ·exact w.born i x k
  ·have:=w.born _ e p;exact this
 ·rcases lAJ.1 Q with k|k
  ·exact w.mem u k
  ·grind
 ·rcases sp r with⟨A,k⟩|⟨rfl,rfl⟩
  ·have G:bR t≠g:=λX=>by
    obtain⟨L,a2⟩:=lAL.1 m;obtain⟨M,b2⟩:=lAL.1 C;rcases Nat.lt_or_gt_of_ne A with q|q
    ·exact lEL.1 w.nd i n L M q om
    ·exact lEL.1 w.nd n i M L q om
   have U:rY (T++[t]) g=rY T g:=by rw[zmx,sy G,DN]
   rw[U];refine((w.val i x g k m).fm f λc l o=>w.dj i n x e c A k p l o).fm om λc l=>w.no k m l
  ·grind
 ·rcases sp r with⟨_,k⟩|⟨rfl,rfl⟩
  ·exact w.nw i x c k l
  ·rcases B c l with k|k
   ·exact w.nw _ _ c p k
   ·omega
 ·rcases sp r with⟨N,k⟩|⟨N,rfl⟩
  ·rcases sp J with⟨I,k2⟩|⟨I,rfl⟩
   ·exact w.dj i j x y c E k k2 l o
   ·obtain⟨g,m⟩:=z k;rcases B c o with k3|k3
    ·exact w.dj i n x e c N k p l k3
    ·grind
  ·rcases sp J with⟨I,k2⟩|⟨I,rfl⟩
   ·obtain⟨g,m⟩:=z k2;rcases B c l with k3|k3
    ·exact w.dj n j e y c om p k2 k3 o
    ·grind
   ·omega
end Go.Di
end
noncomputable section
namespace Go.Di
open Go.Ev
variable {tg:SS->SS->List SS} {X:List aP}
variable {H H' H1:Hp} {N b c i j n z:Nat} {S:Nat->Prop} {O:Ev.Call} {cs l:List AV}
variable{D:pL}{J:List TE}{M:AV->pD}{fv:AV}
theorem zjk{e:NE}{f:Hp}{lf:Option Nat}(y:J.length=i)(z:i<n)(R:n<=32)(p:Gl 1 H1 e.av e.args.length (aJ e.args))(g:N<=H1.nx)(A:∀b,In e.av b->N<=b)(O:∀H:Hp,e.k=3->Fm No H1 H->Ok (oV (C j) fv [.str e.rl.n e.rl.a,.str e.to.n e.to.a] H) λr H'=>Ac 1 sC H H' r (tg e.rl e.to))(k:∀e∈J,e.Ok tg H/\∀b,In e.sp b\/In e.av b->b≠H1.nx/\N<=b)(S:H1.nx<H.nx)(w:Fm No H1 f)(T:H.nx<f.nx)(g2:∀b,b<H.nx->b≠H1.nx->f.get b=H.get b)(I:f.get H.nx=aB 0 [uN e.k,.str e.rl.n e.rl.a,.str e.to.n e.to.a,e.av,.bool e.ng])(es:f.get H1.nx=aB 0 (zJ (J++[⟨⟨e.k,e.rl,e.to,e.args,lf⟩,e.av,.aA⟩]) n))(ih:∀(sp:AV) (l:Hp),Fm No H1 l->H1.nx<l.nx->l.get H1.nx=aB 0 (zJ (J++[⟨⟨e.k,e.rl,e.to,e.args,lf⟩,e.av,sp⟩]) n)->(∀x∈J++[⟨⟨e.k,e.rl,e.to,e.args,lf⟩,e.av,sp⟩],x.Ok tg l/\∀b,In x.sp b\/In x.av b->b≠H1.nx/\N<=b)->Ok (M (iN c) (iN ((i+1))) l) D):Ok (yo (C j) M fv (.sl H1.nx 0 n n true) (iN c) (iN i) (.ptr H.nx 0) (iN i) f) D:=by
 unfold yo;have q:=ae (show i*6+3+1<=n*6 by omega);have B:∀e:TE,(zJ (J++[e]) n).length=n*6:=λe=>K4 om;have s:∀e∈J,e.Ok tg f:=λe d=>by have o:=k e d;have k2:∀b,In e.sp b\/In e.av b->f.get b=H.get b:=λb a=>g2 b (o.1.lt a) (o.2 b a).1;exact⟨o.1.gl.keep om λb a _=>k2 b (.inr a),o.1.sp.imp (λh=>⟨h.1,h.2.keep om λb a _=>k2 b (.inl a)⟩) id⟩
 have t:=p.no w;have u:∀b,In e.av b->b≠H1.nx/\N<=b:=λb a=>⟨by have:=p.lt a;omega,A b a⟩;by_cases v:e.k=3
 ·have Q:=ae v;simp only[go_sem,I,Q];refine Ok.ve (O f v w) ?_;intro tv l m;have P:=(m.fm.keep (show H1.nx<f.nx by omega)).trans es;have E:=m.gl.cells;have F:=λ(H:Hp) (b o:Nat)=>BD (H:=H) (b:=b) (o:=o) E;have K:=zjm (es:=J) (n:=n) (j:=3) ⟨⟨e.k,e.rl,e.to,e.args,lf⟩,e.av,.aA⟩ ⟨⟨e.k,e.rl,e.to,e.args,lf⟩,e.av,tv⟩ tv rfl om;rw[y]at K;simp only[go_sem,z,F,P,B,K,q,ai];have U:=m.fm.nx;have L:Fm (λb=>b=H1.nx) l (l.put H1.nx (aB 0 (zJ (J++[⟨⟨e.k,e.rl,e.to,e.args,lf⟩,e.av,tv⟩]) n))):=(Fm.refl _ _).put _ _ λ_=>rfl;have G:∀b,In tv b->b≠H1.nx/\N<=b:=λb a=>by have:=m.nw b a;omega
  unfold tZ;refine aS ?_;refine ih tv _ ((w.trans m.fm).aN _ _ om) (show H1.nx<l.nx by omega) (gX _ _ _) λx d=>?_;rcases lAJ.1 d with d|d
  ·exact⟨((s x d).fm m.fm).dR L λb a=>((k x d).2 b a).1,(k x d).2⟩
  ·obtain rfl:=lAK.1 d;have ob:∀b,In tv b\/In e.av b->b≠H1.nx/\N<=b:=λb a=>a.elim (G b) (u b);refine⟨TE.Ok.dR ?_ L λb a=>(ob b a).1,ob⟩;exact⟨t.no m.fm,.inl ⟨v,m.gl⟩⟩
 ·simp only[go_sem,I,v];unfold tZ;refine aS ?_;refine ih .aA f w om es λx d=>?_;rcases lAJ.1 d with d|d
  ·exact⟨s x d,(k x d).2⟩
  ·obtain rfl:=lAK.1 d;refine⟨?_,λb a=>a.elim (λh=>absurd h (bt b)) (u b)⟩;exact⟨t,.inr ⟨v,rfl⟩⟩
variable{P:AV}
theorem zjj{e:NE}{u:Nat}(h:J.length=i)(k:i<n)(Q:n<=32)(o:Gl 1 H1 e.av e.args.length (aJ e.args))(A:c<=1000)(E:Fm No H1 H)(F:H1.nx<H.nx)(v:H.get H1.nx=aB 0 (zJ J n))(w:aG 5 P (iN i)=.val (.ptr N u))(p:eY (H.get N) u 5=some (uZ e))(fin:∀(lf:Option Nat) (f:Hp),lf=(if e.k<4 then some c else none)->Fm No H1 f->H.nx<f.nx->(∀b,b<H.nx->b≠H1.nx->f.get b=H.get b)->f.get H.nx=aB 0 [uN e.k,.str e.rl.n e.rl.a,.str e.to.n e.to.a,e.av,.bool e.ng]->f.get H1.nx=aB 0 (zJ (J++[⟨⟨e.k,e.rl,e.to,e.args,lf⟩,e.av,.aA⟩]) n) -> Ok (yo O M fv (.sl H1.nx 0 n n true) (iN ((c+if e.k<4 then 1 else 0))) (iN i) (.ptr H.nx 0) (iN i) f) D):Ok (GM O M fv (.sl H1.nx 0 n n true) (iN c) P (iN i) H) D:=by
 unfold GM;have x:=o.cells;unfold uZ SS.v at p;have y:=K4 (es:=J) (n:=n) om;have a:=zz9 (es:=J) (n:=n) om ⟨⟨e.k,e.rl,e.to,e.args,none⟩,e.av,.aA⟩;rw[h]at a;unfold oH SS.v wS at a;have l:=ae (show i*6+6<=n*6 by omega);have q:=om;have r:∀e:TE,(zJ (J++[e]) n).length=n*6:=λe=>K4 om;by_cases m:e.k<4
 ·have d:=ae (show e.k<=3 by omega);have z:=zjm (es:=J) (n:=n) (j:=5) ⟨⟨e.k,e.rl,e.to,e.args,none⟩,e.av,.aA⟩ ⟨⟨e.k,e.rl,e.to,e.args,some c⟩,e.av,.aA⟩ (iN c) rfl om;rw[h]at z;simp(disch:=go_size)only[go_sem,rB,rI,rK,rL,rN,rS,r6,k,w,p,x,v,y,a,l,ai,d,r,z,q];rw[sB m,sB m]at fin;refine fin (some c) _ rfl ?_ ?_ ?_ ?_ ?_
  ·repeat first|exact Fm.refl _ _|assumption|refine Fm.push ?_ _|refine Fm.aN ?_ _ _ om
  ·grind
  ·intro b B C;simp(disch:=omega)only[go_sem,seval]
  ·simp(disch:=omega)only[go_sem,seval]
  ·grind
 ·have d:¬e.k<=3:=om;simp(disch:=go_size)only[go_sem,rB,rI,rK,rL,rN,rS,r6,k,w,p,x,v,y,a,l,ai,d];rw[sy m,sy m]at fin;refine fin none _ rfl ?_ ?_ ?_ ?_ ?_
  ·repeat first|exact Fm.refl _ _|assumption|refine Fm.push ?_ _|refine Fm.aN ?_ _ _ om
  ·grind
  ·intro b B C;simp(disch:=omega)only[go_sem,seval]
  ·simp(disch:=omega)only[go_sem,seval]
  ·grind
variable{Y:pH}
theorem SX{j N:Nat}{a:List NE}(w:Gl 5 H1 P a.length (a.flatMap uZ))(g:N<=H1.nx)(n:∀e∈a,e.Ar (λc=>N<=c) H1)(o:a.length<=32)(x:∀(e:NE) (H:Hp),e∈a->e.k=3->Fm No H1 H->Ok (oV (C j) fv [.str e.rl.n e.rl.a,.str e.to.n e.to.a] H) λr H'=>Ac 1 sC H H' r (tg e.rl e.to))(y:∀es H,Fm No H1 H->H1.nx<H.nx->H.get H1.nx=aB 0 (zJ es a.length)->es.map TE.t=zW (a.map NE.key) 0->(∀e∈es,e.Ok tg H/\∀b,In e.sp b\/In e.av b->b≠H1.nx/\N<=b)->Ok (Y H) D):∀(k i:Nat) (es:List TE) (H:Hp),i<=a.length->a.length-i<k->Fm No H1 H->H1.nx<H.nx->H.get H1.nx=aB 0 (zJ es a.length)->es.map TE.t=zW ((a.take i).map NE.key) 0->(∀e∈es,e.Ok tg H/\∀b,In e.sp b\/In e.av b->b≠H1.nx/\N<=b) -> Ok (zE (C j) Y fv (.sl H1.nx 0 a.length a.length true) P (iN (a.length)) k (iN ((jM ((a.take i).map NE.key)))) (iN i) H) D
 |0,i,_,_,_,h,_,_,_,_,_=>om
 |k+1,i,es,H,hi,hk,hf,hx,hz,hes,hok=>by
  show Ok (N8 (C j) _ _ _ _ _ (zE (C j) _ _ _ _ _ k) _ _ H) D;unfold N8;have l:es.length=i:=by have:=congrArg List.length hes;rw[vu,zly,vu,sY]at this;omega
  by_cases d:i<a.length
  ·simp only[go_sem,d];obtain⟨O,v,K,R,_,L,S⟩:=((w.no hf).rs Ih).at' i d;have m:=(n _ (sx d)).gl;have s:jM ((a.take i).map NE.key)<=1000:=AL AG g2;have f:(a.take (i+1)).map NE.key=(a.take i).map NE.key++[a[i].key]:=by rw[nh d,AO];rfl
   have t:a[i].key=(a[i].k,a[i].rl,a[i].to,a[i].args):=rfl;have u:jM ((a.take i).map NE.key)+(if a[i].k<4 then 1 else 0)=jM ((a.take (i+1)).map NE.key):=by rw[f,MZ,Bn];show _=_+(0+if a[i].k<4 then 1 else 0);simp
   refine zjj (e:=a[i]) l d o m s hf hx hz K L λlf M p z A g2 B Q=>?_;rw[u];refine zjk (e:=a[i]) l d o m g (n _ om).nw om hok hx z A g2 B Q λsp E F G I J=>?_;refine SX w g n o x y k (i+1) _ E om om F G I ?_ J;rw[AO,hes,f,Ld,t,p,nr];rfl
  ·simp only[go_sem,d]
   grind
theorem zlx:∀(l:List fe) (c:Nat) (x:fe),x∈l->∃t∈zW l c,t.k=x.1/\t.rl=x.2.1/\t.to=x.2.2.1
 | [],_,_,h=>by cases h
 |a::l,c,x,h=>by
  rcases lE4.1 h with rfl|h
  ·exact⟨_,vA,rfl,rfl,rfl⟩
  ·obtain⟨t,b,e⟩:=zlx l _ x h;exact⟨t,DQ _ b,e⟩
theorem zji(E:iO C){k:Nat}(F:14<=k){f:Fo}{P:Nat->Prop}(z:iM P H f cs)(l:f.Ok1)(G:∀(rl to:SS) (H':Hp),(∃t∈f.dK 0 0,t.k=3/\t.rl=rl/\t.to=to)->Fm No H H'->Ok (oV (C (k-1)) fv [.str rl.n rl.a,.str to.n to.a] H') λr q=>Ac 1 sC H' q r (tg rl to)):Ok (C k (.f 181) [.agg cs,fv] H) λw H'=>∃es,vR tg H' w es f/\Fm No H H'/\wW w=true/\∀b,(In w b\/∃x∈es,In x.sp b\/In x.av b)->H.nx<=b:=by
 obtain⟨j,rfl⟩:=aO F;rw[lk (zp8 ..)];unfold Wh;obtain⟨kd,rl,to,a,U,ca,Q,v,_⟩:=z.one l.one;have B:Fm No H (aH H (aB 0 cs)):=by exact fh
 have O:=zm1 E (k:=j) om (z.fm B) l;subst v;refine aS ?_;refine Ok.ve O ?_;rintro _ H1 ⟨V,y,rfl,g1,p,R,W,S⟩;have L:=g1.bF;have u:y.length<=32:=by have:=congrArg List.length p;rw[vu,Fo.kI]at this;rw[this];exact l.sz
 refine dI L ?_;rw[dD];have D:=kP p7 96 H1.nx y.length om om;unfold p7 at D;refine dI D ?_;have m:=B.trans S;refine SX (N:=H.nx) g1 (by have:=m.nx;omega) (λe g=>(R e g).fm (Fm.refl No H1) (λ_ _ _ h=>h) λc _ h=>by have:=h.1;simp only[np]at this;omega) u (tg:=tg) (λe H' g I f'=>G e.rl e.to H' ?_ (m.trans f')) (λes H' f' J K s A=>?_) bT 0 [] _ (vy _) lf (by(repeat refine Fm.push ?_ _);exact Fm.refl _ _) gz (uR _ _) rfl λe g=>by cases g
 ·have M:e.key∈f.jC 0:=by rw[<-p];exact ik g
  obtain⟨t,n,o⟩:=zlx _ 0 _ M;rw[Ct f 0 0 l.rt]at n;exact⟨t,n,o.1.trans I,o.2⟩
 ·unfold gV;rw[p,Ct f 0 0 l.rt]at s;have i:es.length=y.length:=by
   have n:=congrArg List.length s;have o:=congrArg List.length p;rw[vu,Fo.fJ]at n;rw[vu,Fo.kI]at o;omega
  refine Ok.ret ⟨es,⟨?_,s,λe g=>(A e g).1⟩,m.trans f',rfl,λb d=>?_⟩
  rotate_left
  ·rcases d with d|⟨x,T,d⟩
   ·obtain⟨_,_,_,_,d⟩:=d;injection d with d;have:=m.nx;omega
   ·exact((A x T).2 b d).2
  rw[i];refine⟨by rw[C9,i],.inr ⟨_,0,true,0,_,rfl,K,vy _,?_,.inl rfl,J⟩⟩;unfold zJ;rw[i,gq];exact DN _
variable{α:Type}
theorem Rs.aNV{f:α->List AV}(a:∀x,(f x).length=z){l:List α}(h:Rs z f H fv l)(c:fv=.aA\/∃b o n m e,fv=.sl b o n m e/\n<=m/\0<n):nP z H fv=some ⟨l.length,l.flatMap f⟩:=h.src a λe=>by
 rcases c with rfl|⟨b,o,n,m,d,rfl,_,j⟩
 ·rfl
 ·have g:=h.len;subst e;have i:aD (.sl b o n m d)=R0.val (iN n):=rfl
  grind
structure Sr(z:Nat)(H:Hp)(v:AV)(n:Nat)(l:List AV):Prop where
 src:∀H',Fm No H H'->nP z H' v=some ⟨n,l⟩
 len:l.length=n*z
 sh:(v=.aA/\n=0)\/∃b o m c e,v=.sl b o m c e
theorem Gl.sr(h:Gl z H fv n l):Sr z H fv n l:=⟨λ_ f=>(h.no f).src,h.len,by
 rcases h.is with h|⟨b,o,e,_,_,h,_⟩
 ·grind
 ·exact .inr ⟨b,o,_,_,e,h⟩⟩
theorem Rs.sr{f:α->List AV}(c:∀x,(f x).length=z){l:List α}(h:Rs z f H fv l)(d:fv=.aA\/∃b o n m e,fv=.sl b o n m e/\n<=m/\0<n):Sr z H fv l.length (l.flatMap f):=by
 refine⟨λ_ a=>(h.fm a).aNV c d,?_,?_⟩
 ·clear h d
  induction l with
  |nil=>simp
  |cons a l ih=>rw[DM,nj,ih,c,nk,Nat.succ_mul];omega
 ·rcases d with rfl|⟨b,o,n,m,e,rfl,_⟩
  ·have:=(h.aNV c om);injection this with this
   grind
  ·grind
theorem Sr.cp(h:Sr z H fv n l)(m:n*N<=1099511627776)(o:n<=1099511627776):Ok (jD z N (aH H (aB 0 [])) (.sl H.nx 0 0 0 true) (nP z (aH H (aB 0 [])) fv)) λr H'=>Gl z H' r n l/\Fm No H H'/\∀b,In r b->H.nx<=b:=by
 have d:Fm No H (aH H (aB 0 [])):=om;rw[h.src _ d];by_cases j:n=0
 ·subst j;have f:l=[]:=lE5.1 (by rw[h.len];simp);subst f;have a:jD z N (aH H (aB 0 [])) (.sl H.nx 0 0 0 true) (some ⟨0,[]⟩)=storeAt (aH H (aB 0 [])) H.nx (0+0*z) [] (.sl H.nx 0 0 0 true):=rfl;have g:=h7 (aH H (aB 0 [])) H.nx (0+0*z) [] (.sl H.nx 0 0 0 true) 0 [] om g3;refine⟨_,_,a.trans g,⟨g3,.inr ⟨H.nx,0,true,0,_,rfl,gX _ _ _,g3,by simp[aY],om,gx⟩⟩,om,?_⟩;rintro b ⟨_,_,_,_,e⟩;simp_all
 ·have g0:Gl z (aH H (aB 0 [])) (.sl H.nx 0 0 0 true) 0 []:=⟨g3,om⟩;obtain⟨p,a,g3,_,i,q⟩:=g0.append (k:=n) (w:=N) (x:=l) om h.len om om;rw[nr,au]at g3;rw[nr]at a;refine⟨_,_,a,g3,?_,?_⟩
  ·refine d.then i ?_;rintro c s ⟨_,_,_,_,e⟩;simp_all
  ·rintro b ⟨_,_,_,_,e⟩
   grind
theorem Ip{w:Nat}{zs:List AV}(h:Sr z H fv n l)(f:n*w<=1099511627776)(g:n<=1099511627776):Ok (vq (iQ false ((⟨E2.f ⟨rX⟩⟩:E2).f fv .aA)) H λi H=>cd i (.ok .aA H) (vq (sQ 0 H.nx (bK (aU zs 0) [])) H λj H=>ve (jD z w H j (nP z H fv)) λk H=>.ok k H)) λr H'=>Gl z H' r n l/\Fm No H H'/\∀b,In r b->H.nx<=b:=by
 rcases h.sh with⟨rfl,q⟩|⟨b,o,m,c,e,s⟩
 ·have d:iQ false (rX .aA .aA)=.val (.bool true):=rfl;subst q;exact Ok.ret ⟨⟨h.len,om⟩,om,λb p=>absurd p (bt b)⟩
 ·have d:iQ false (rX fv .aA)=.val (.bool false):=by rw[s];rfl
  have a:aU zs 0=[]:=rfl;simp only[go_sem,d,a];refine Ok.ve (h.cp f g) ?_;intro r H' t;exact Ok.ret t
theorem QV{k:Nat}(a:1<=k)(h:Sr 2 H fv n l)(c:n<=1000):Ok (C k (.f 180) [fv] H) λr H'=>Gl 2 H' r n l/\Fm No H H'/\∀b,In r b->H.nx<=b:=by obtain⟨j,rfl⟩:=aO a;rw[lk (zqa ..)];exact Ip (zs:=[zS,zS]) (w:=32) h om om
theorem zoq{k:Nat}(a:1<=k)(h:Sr 6 H fv n l)(c:n<=1000):Ok (C k (.f 193) [fv] H) λr H'=>Gl 6 H' r n l/\Fm No H H'/\∀b,In r b->H.nx<=b:=by obtain⟨j,rfl⟩:=aO a;rw[lk (zp4 ..)];exact Ip (zs:=p7) (w:=96) h om om
theorem zop(a:1<=N)(h:Sr 1 H fv n l)(c:n<=1000):Ok (C N (.f 195) [fv] H) λr H'=>Gl 1 H' r n l/\Fm No H H'/\∀b,In r b->H.nx<=b:=by obtain⟨j,rfl⟩:=aO a;rw[lk (Q8 ..)];exact Ip (zs:=[zS]) (w:=16) h om om
theorem zor{k:Nat}(a:1<=k)(h:Sr 1 H fv n l)(c:n<=1000):Ok (C k (.f 197) [fv] H) λr H'=>Gl 1 H' r n l/\Fm No H H'/\∀b,In r b->H.nx<=b:=by obtain⟨j,rfl⟩:=aO a;rw[lk (zp2 ..)];exact Ip (zs:=[iN 0]) (w:=8) h om om
theorem zws{k:Nat}(c:1<=k)(h:Gl 2 H fv n l):∃w,C k (.f 191) [fv] H=.ok w H/\Gl 2 H w n l/\(∀b,In w b->In fv b)/\dX w=aD w:=by obtain⟨j,rfl⟩:=aO c;obtain⟨w,e,a,d,f⟩:=h.clip;refine⟨w,?_,a,f,d.trans a.bF.symm⟩;rw[lk (zp5 ..)];unfold We;simp only[go_sem,h.bF,e]
theorem QW(c:1<=N)(h:Gl 1 H fv n l):∃w,C N (.f 194) [fv] H=.ok w H/\Gl 1 H w n l/\(∀b,In w b->In fv b)/\dX w=aD w:=by obtain⟨j,rfl⟩:=aO c;obtain⟨w,e,a,d,f⟩:=h.clip;refine⟨w,?_,a,f,d.trans a.bF.symm⟩;rw[lk (Q5 ..)];unfold jm;simp only[go_sem,h.bF,e]
theorem zos{k:Nat}(c:1<=k)(h:Gl 6 H fv n l):∃w,C k (.f 192) [fv] H=.ok w H/\Gl 6 H w n l/\(∀b,In w b->In fv b)/\dX w=aD w:=by obtain⟨j,rfl⟩:=aO c;obtain⟨w,e,a,d,f⟩:=h.clip;refine⟨w,?_,a,f,d.trans a.bF.symm⟩;rw[lk (zp3 ..)];unfold Wc;simp only[go_sem,h.bF,e]
structure iG where
 p:SS×bA
 n:Nat
 st:Nat
 tv:AV
 nv:AV
 es:List TE
def sM(e:iG):List AV:=[e.p.1.v,e.p.2.r.name.v,iN (e.n),iN (e.st),e.tv,e.nv]
theorem z0c(e:iG):(sM e).length=6:=rfl
def iG.B(e:iG)(b:Nat):Prop:=In e.tv b\/In e.nv b\/∃x∈e.es,In x.sp b\/In x.av b
structure iG.Ok(X:List aP)(H:Hp)(e:iG):Prop where
 ty:Gl 2 H e.tv e.p.2.r.types.length (e.p.2.r.types.flatMap tC)
 nd:vR (iK X e.p.1) H e.nv e.es e.p.2.r.rule.fo.flat
theorem iG.Ok.dR{e:iG}(h:e.Ok X H)(f:Fm S H H')(a:∀b,e.B b->¬S b):e.Ok X H':=
 ⟨h.ty.fm f λb c=>a b (.inl c),⟨h.nd.gl.fm f λb c=>a b (.inr om),h.nd.is,λx d=>(h.nd.ok x d).dR f λb c=>a b (.inr om)⟩⟩
theorem iG.Ok.lt{e:iG}(h:e.Ok X H)(a:e.B b):b<H.nx:=by
 rcases a with a|a|⟨x,c,a⟩
 ·exact h.ty.lt a
 ·exact h.nd.gl.lt a
 ·exact(h.nd.ok x c).lt a
theorem M6:∀(f:Fo) (p c:Nat),∀t∈f.dK p c,t.args.length<=f.size
 | .nil,_,_,t,h=>by cases h
 | .cons k rl to a r,p,c,t,h=>by
  have:=Fo.jA a;simp only[Fo.size];rcases lE4.1 h with rfl|h
  ·show(a.ixs _).length<=_;rw[Fo.pO];omega
  rcases lAJ.1 h with h|h
  ·have:=M6 a _ _ t h;omega
  ·have:=M6 r _ _ t h;omega
theorem zyc(A B:List TE)(e a:TE)(j:Nat)(x:AV)(h:aY (oH e) j [x]=oH a)(c:j<6):aY ((A++e::B).flatMap oH) (A.length*6+j) [x]=(A++a::B).flatMap oH:=by rw[nt,DM,nt,DM,<-h];have b:=C9 A;have d:=lF e;generalize A.flatMap oH=D at *;generalize oH e=F at *;unfold aY;rw[<-b,qm,xm om,af,qo,oh g2];simp
def SpP(tg:SS->SS->List SS)(e:TE)(H:Hp)(v:AV):Prop:=(e.t.k=3/\Gl 1 H v (tg e.t.rl e.t.to).length ((tg e.t.rl e.t.to).flatMap sC))\/(e.t.k≠3/\v=.aA)
variable{V:TE}
theorem SpP.dR(h:SpP tg V H fv)(f:Fm S H H')(a:∀b,In fv b->¬S b):SpP tg V H' fv:=h.imp om id
theorem SpP.cells(h:SpP tg V H fv):vJ fv=some [fv]:=by
 rcases h with h|h
 ·exact h.2.cells
 ·rw[h.2];rfl
theorem NC{k:Nat}(a:1<=k)(h:SpP tg V H V.sp)(f:(tg V.t.rl V.t.to).length<=100):Ok (C k (.f 195) [V.sp] H) λr H'=>SpP tg V H' r/\Fm No H H'/\∀b,In r b->H.nx<=b:=by
 rcases h with h|h
 ·exact(zop a h.2.sr om).mono λr H' c=>⟨.inl ⟨h.1,c.1⟩,c.2⟩
 ·rw[h.2];obtain⟨j,rfl⟩:=aO a;rw[lk (Q8 ..)];unfold Wb;exact Ok.ret ⟨.inr ⟨h.1,rfl⟩,om,λb d=>absurd d (bt b)⟩
theorem zot{k:Nat}(g:1<=k)(h:SpP tg V H fv):∃w,C k (.f 194) [fv] H=.ok w H/\SpP tg V H w/\(∀b,In w b->In fv b)/\dX w=aD w:=by
 rcases h with h|h
 ·obtain⟨w,c,d,a,f⟩:=QW g h.2;exact⟨w,c,.inl ⟨h.1,d⟩,a,f⟩
 ·obtain⟨w,c,d,a,f⟩:=QW g (Gl.nil 1 H);rw[h.2];refine⟨w,c,.inr ⟨h.1,?_⟩,a,f⟩;rcases d.is with h|⟨b,o,V,q,L,rfl,_⟩
  ·grind
  ·exact absurd (a b ⟨_,_,_,_,rfl⟩) (bt b)
variable{R Z:AV}
theorem Tj{j:Nat}(hj:2<=j){H00 H0:Hp}{l:Nat}{c3 tv:AV}(c1:H0.get l=aB 0 [fv,R,Z,c3,tv,P])(m:l<H0.nx)(p:¬In P l)(B:H00.nx<=H0.nx)(r:∀e∈J,e.Ok tg H0/\(∀b,In e.sp b\/In e.av b->¬In P b)/\e.t.args.length<=100/\(tg e.t.rl e.t.to).length<=100)(hn:J.length<=100)(hq:∀(a:List TE) (H:Hp),Fm (In P) H0 H->Gl 6 H P J.length (a.flatMap oH)->a.map TE.t=J.map TE.t->(∀e∈a,(e.Ok tg H/\dX e.sp=aD e.sp/\dX e.av=aD e.av)/\∀b,In e.sp b\/In e.av b->H00.nx<=b/\¬In P b)->Ok (Y H) D):∀(k i:Nat) (a:List TE) (H:Hp),i<=J.length->J.length-i<k->Fm (In P) H0 H->Gl 6 H P J.length ((a++J.drop i).flatMap oH)->a.map TE.t=(J.take i).map TE.t->(∀e∈a,(e.Ok tg H/\dX e.sp=aD e.sp/\dX e.av=aD e.av)/\∀b,In e.sp b\/In e.av b->H00.nx<=b/\¬In P b) -> Ok (tT (C j) Y (.ptr l 0) (iN (J.length)) k (iN i) H) D
 |0,i,_,_,_,h,_,_,_,_=>om
 |k+1,i,a,H,hi,hk,hf,hg,hm,hok=>by
  show Ok (JU (C j) _ _ _ (tT (C j) _ _ _ k) _ H) D;unfold JU;by_cases c:i<J.length
  ·simp only[go_sem,c];unfold Ju;have f:a.length=i:=by
    have:=congrArg List.length hm;rw[vu,vu,sY]at this;omega
   have a1:=(hf.get l m p).trans c1;have Q:J.drop i=J[i]::J.drop (i+1):=iP c;rw[Q]at hg;have E:(a++J[i]::J.drop (i+1)).length=J.length:=g2;have F:(a++J[i]::J.drop (i+1))[i]'om=J[i]:=by simp[List.getElem_append_right,f]
   have t:=hg;rw[<-E]at t;obtain⟨b,o,es,e2,e3,_,K⟩:=(t.rs lF).at' i om;rw[F]at K;have r3:cB (H.get b) (o+3)=.val J[i].sp:=K 3 (by rw[lF];omega);have r4:cB (H.get b) (o+4)=.val J[i].av:=K 4 (by rw[lF];omega);obtain⟨V,h2,h3,h4⟩:=r _ (sx c);simp only[go_sem,a1,es,r3,r4];have S:=V.dR hf h2;have u:=wK (Gl.flat V.gl) 63;refine Ok.iC (NC (k:=j) om S.sp h4) ?_;rintro s1 H1 ⟨p1,v,T⟩;have v:Fm No H H1:=v;have T:∀b,In s1 b->H.nx<=b:=T;have x1:=om;have k1:=om;have x:cB (H1.get b) (o+4)=.val J[i].av:=om;simp only[go_sem,x,u];obtain⟨d,L,W,is2,M⟩:=zot (k:=j) om p1;refine Ok.vH L ?_;simp only[go_sem,x,u];refine Ok.iC (zor (k:=j) om (n:=J[i].t.args.length) (S.gl.no v).sr om) ?_;rintro v1 X ⟨q1,N,n2⟩;simp only[go_sem];obtain⟨g,O,q2,w,iv2⟩:=Iq (k:=j) om q1;refine Ok.vH O ?_;obtain⟨b5,o5,H3,z,e5,g5,f5,n5⟩:=((hg.no v).no N).set1 c (j:=3) om d;rw[es]at z;injection z with z;injection z with ea eb;subst ea eb;have G:=BD (H:=X) (b:=b) (o:=o+3) W.cells;simp only[go_sem];refine Ok.vH (G.trans e5) ?_;have y:=zyc a (J.drop (i+1)) J[i] ⟨J[i].t,J[i].av,d⟩ 3 d rfl om;rw[f]at y;rw[y]at g5;obtain⟨b6,o6,q,A,e6,g6,f6,n6⟩:=g5.set1 c (j:=4) om g;rw[es]at A;injection A with A;injection A with ea eb;subst ea eb;have I:=BD (H:=H3) (b:=b) (o:=o+4) q2.cells;simp only[go_sem];refine Ok.vH (I.trans e6) ?_;have y:=zyc a (J.drop (i+1)) ⟨J[i].t,J[i].av,d⟩ ⟨J[i].t,g,d⟩ 4 g rfl om;rw[f]at y;rw[y]at g6;unfold Jv;refine aS ?_;have x0:=om;have U:Fm (In P) X q:=om;have bVx:∀b,In P b->b<H.nx:=om;have i2:∀b,In d b->H.nx<=b:=om;have i2':∀b,In g b->H1.nx<=b:=om;refine Tj hj c1 m p B r hn hq k (i+1) (a++[⟨J[i].t,g,d⟩]) q om om om (by simpa using g6) ?_ λe s=>?_
   ·grind
   ·rcases lAJ.1 s with s|s
    ·obtain⟨c2,u2⟩:=hok e s;exact⟨⟨((c2.1.fm v).fm N).dR U om,c2.2⟩,u2⟩
    ·obtain rfl:=lAK.1 s;have ub:∀b,In d b\/In g b->H00.nx<=b/\¬In P b:=om;refine⟨⟨TE.Ok.dR ?_ U om,M,w.trans q2.bF.symm⟩,ub⟩;exact⟨q2,SpP.dR W N om⟩
  ·simp only[go_sem,c]
   grind
theorem z8z(a b c d e f x:AV):aY [a,b,c,d,e,f] 4 [x]=[a,b,c,d,x,f]:=id rfl
theorem zns{k:Nat}(T:4<=k){e:iG}(h:e.Ok X H)(U:bV X)(t:(e.p.2.r.types).length<=8)(y:e.p.2.r.rule.Rt):Ok (C k (.f 129) [.agg (sM e)] H) λr H'=>∃c:iG,r=.agg (sM c)/\c.p=e.p/\c.n=e.n/\c.st=e.st/\c.Ok X H'/\(∀b,c.B b->H.nx<=b)/\(∀x∈c.es,(∀b,In x.sp b\/In x.av b->¬In c.nv b)/\dX x.sp=aD x.sp/\dX x.av=aD x.av)/\(dX c.tv=aD c.tv/\dX c.nv=aD c.nv)/\Fm No H H':=by
 obtain⟨j,rfl⟩:=aO T;rw[lk (zp7 ..)];obtain⟨p,n,g,tv,A,es⟩:=e;unfold Wg sM SS.v;have N:=h.ty.cells;have O:=h.nd.gl.cells;obtain⟨l,a⟩:=h;simp only at l a t y N O;have P:es.length<=32:=by have:=congrArg List.length a.is;rw[vu,Fo.fJ]at this;rw[this];exact y.ok1.flat.sz
 refine dS N O ?_;generalize w:aH (aH H (aB 0 [.str p.1.n p.1.a,.str p.2.r.name.n p.2.r.name.a,iN n,iN g,tv,A])) (aB 0 [zS,zS,iN 0,iN 0,.aA,.aA])=HA;have W:Fm No H HA:=by rw[<-w];exact sw
 have nA:HA.nx=H.nx+2:=by rw[<-w];rfl
 have k0:HA.get H.nx=aB 0 [.str p.1.n p.1.a,.str p.2.r.name.n p.2.r.name.a,iN n,iN g,tv,A]:=by rw[<-w];simp(disch:=first|go_size|omega)only[go_sem,seval]
 have Y:HA.get (H.nx+1)=aB 0 [zS,zS,iN 0,iN 0,.aA,.aA]:=by rw[<-w];simp(disch:=go_size)only[go_sem,seval]
 refine Ok.ve (QV (k:=j) om (l.no W).sr om) ?_;rintro t1 H1 ⟨p1,D,n1⟩;obtain⟨m,E,S,it2,F⟩:=zws (k:=j) om p1;have x1:=D.nx;have Z:=(D.keep om).trans k0;have l1:=(D.keep om).trans Y;have s1:=λ(H:Hp) (b o:Nat)=>BD (H:=H) (b:=b) (o:=o) S.cells;simp only[go_sem,seval,E,s1,Z,z8z];have f2:Fm No H (H1.put H.nx (aB 0 [.str p.1.n p.1.a,.str p.2.r.name.n p.2.r.name.a,iN n,iN g,m,A])):=om;have t2n:∀b,In m b->H.nx+2<=b/\b<H1.nx:=om;refine Ok.ve (zoq (k:=j) om (a.gl.no f2).sr om) ?_;rintro w1 u ⟨p3,v,n3⟩;obtain⟨q,G,I,iw2,J⟩:=zos (k:=j) om p3;have x3:H1.nx<=u.nx:=v.nx;have k3:=(v.keep om).trans (gX _ _ _);have l3:=(v.keep om).trans ((jR _ _ _ _ om).trans l1);have s2:=λ(H:Hp) (b o:Nat)=>BD (H:=H) (b:=b) (o:=o) I.cells;have lw:=I.bF;simp only[go_sem,seval,G,s2,k3,zyk,lw];rw[dD];have d:∀b,In q b->H1.nx<=b:=om;generalize s:u.put H.nx (aB 0 [.str p.1.n p.1.a,.str p.2.r.name.n p.2.r.name.a,iN n,iN g,m,q])=H4;have Q:Fm (λb=>b=H.nx) u H4:=om;have u1:Fm (λb=>b=H.nx) H1 H4:=((show Fm (λb=>b=H.nx) H1 _ from(Fm.refl _ _).put _ _ λ_=>rfl).then v λ_ _ h=>absurd h id).then Q λ_ _ h=>h;have f4:Fm No H H4:=om;have x4:H4.nx=u.nx:=by rw[<-s];rfl
 have R:H4.get H.nx=aB 0 [.str p.1.n p.1.a,.str p.2.r.name.n p.2.r.name.a,iN n,iN g,m,q]:=by rw[<-s];exact gX _ _ _
 have l4:=(Q.get (H.nx+1) om om).trans l3;have p5:Gl 6 H4 q es.length (es.flatMap oH):=om;have t5:=om;refine Tj (j:=j) om (H00:=HA) (H0:=H4) (tg:=iK X p.1) R om (λh=>by have:=d _ h;omega) om (λe i=>⟨(a.ok e i).fm f4,λb f h=>by have:=(a.ok e i).lt f;have:=d b h;omega,?_,?_⟩) om (λK z L g5 M V=>?_) bT 0 [] H4 (vy _) lf (Fm.refl _ _) (by simpa using p5) rfl λe i=>by cases i
 ·have:=M6 _ 0 0 e.t (by rw[<-a.is];exact ik i);have:=y.ok1.flat.sz;omega
 ·have:=LX U.pr p.1 e.t.rl e.t.to;omega
 ·unfold GL;have k5:=(L.get H.nx om λh=>by have:=d _ h;omega).trans R;have l5:=(L.get (H.nx+1) om λh=>by have:=d _ h;omega).trans l4;simp only[go_sem,seval,k5,l5,S.cells,I.cells];have f6:Fm No H z:=om;have u6:∀B:cZ,Fm (λb=>b=H.nx+1) z (z.put (H.nx+1) B):=om;refine Ok.ret ⟨⟨p,n,g,m,q,K⟩,rfl,rfl,rfl,rfl,⟨?_,⟨?_,M.trans a.is,λx t=>?_⟩⟩,λb f=>?_,om,⟨F,J⟩,f6.aN _ _ om⟩
  ·grind
  ·have hnl:K.length=es.length:=by have:=congrArg List.length M;simpa using this
   grind
  ·exact(V x t).1.1.dR (u6 _) om
  ·rcases f with f|f|⟨x,t,f⟩
   ·grind
   ·grind
   ·grind
open Go.Di.T Go.Sort
variable {LA LO:LP} {L:List (List Nat)} {o:List Nat}
variable {Hb:Hp} {g:aP} {mb most pb sb tb:Nat} {sv:AV}
theorem z0d(d:iO C){k:Nat}(e:23<=k){a:SS}(f:H.get sb=aB 0 [sv])(g:H.get pb=aB 0 [.str a.n a.a,fv])(h:dB H sv X)(i:bV X)(rl to:SS)(b:(a,rl)∈aF X)(c:iK X a rl to≠[]):Ok (C k (.f 182) [.str rl.n rl.a,.str to.n to.a,.ptr sb 0,.ptr pb 0] H) λr H'=>Ac 1 sC H H' r (iK X a rl to):=by obtain⟨j,rfl⟩:=aO e;rw[lk (zp9 ..)];unfold Wi;simp only[go_sem,seval,f,g];refine Ok.ve (Tc d (k:=j) om h i a rl to b c) ?_;rintro _ H1 ⟨tv,rfl,l⟩;exact Ok.ret l
structure TfI(X:List aP)(o:List Nat)(Hb H:Hp)(tb mb most:Nat)(lv:AV)(l:List iG)(qs:List (SS×SS)):Prop where
 fm:Fm No Hb H
 t:H.get tb=aB 0 [.bool true,lv,.map mb,iN most]
 m:jG H mb qs
 od:Hb.nx<=mb/\mb<tb/\tb<H.nx
 gl:Gl 6 H lv l.length (l.flatMap sM)
 ln:∀b,In lv b->tb<b
 ok:∀e∈l,e.Ok X H/\∀b,e.B b->b≠tb/\b≠mb/\¬In lv b
 n:∀i (h:i<l.length),l[i].n=i/\l[i].st=o.getD i 0
variable{qs:List (SS×SS)}{tl:List iG}
theorem TfI.no(h:TfI X o Hb H tb mb most sv tl qs)(f:Fm No H H'):TfI X o Hb H' tb mb most sv tl qs:=by obtain⟨c,d,g⟩:=h.od;have:=f.nx;exact⟨h.fm.trans f,(f.keep g).trans h.t,h.m.eq (f.keep om),⟨c,d,om⟩,h.gl.no f,h.ln,λe b=>⟨(h.ok e b).1.dR f λ_ _ h=>h,(h.ok e b).2⟩,h.n⟩
attribute [grind .] TfI.no
theorem z8n(hN:iO C)(hj:24<=j){rb fb:Nat}{l:List iG}{x:bA}{O S c3 c4 c5:AV}{g6:pD}(hX:dB Hb sv X)(hV:bV X)(hs:Hb.get sb=aB 0 [sv])(hsl:sb<Hb.nx)(hg:g∈X)(hx:x∈g.gs)(p:TfI X o Hb H tb mb most fv l qs)(U:H.get pb=aB 0 [.str g.name.n g.name.a,g.rv])(s:tb<pb/\pb<H.nx)(hpv:¬In fv pb)(hr:H.get rb=aB 0 [.str x.r.name.n x.r.name.a,x.tv,Z,c3,c4,c5])(F:rb<H.nx)(hf:H.get fb=aB 0 [O,P,R,S])(hfb:fb<H.nx)(G:iM (λ_=>True) H x.r.rule.fo.flat [O,P,R,S])(hst:z=o.getD l.length 0)(hm2:l.length<300)(hi:i<300)(hq:∀(H':Hp) (I:AV) (e:iG),e.p=(g.name,x)->TfI X o Hb H' tb mb most I (l++[e]) qs->H'.get pb=H.get pb->pb<H'.nx->¬In I pb->Ok (g6 (iN ((i+1))) H') D):Ok (kA Bv (C j) g6 (.ptr sb 0) (.ptr tb 0) (.ptr pb 0) (.ptr rb 0) (.ptr fb 0) (iN z) (iN i) H) D:=by
 rw[kE Bv];unfold Bv;obtain⟨o1,o2,o3⟩:=p.od;have hX1:=hX.fm p.fm;have hsp:=hX1.sp _ hg;have q:=hsp.rel _ hx;obtain⟨p1,p2,hrt,p4⟩:=hV.pr.x g hg _ hx;have ht:=p.t;have hl:=p.gl.bF;have B:=wK (Gl.flat p.gl) 63;have J:=wK q.tf 63;have hfd:lV 64 (.agg [O,P,R,S]) (.agg [O,P,R,S])=true:=oB _ (by have:=G.flat;simp only[Tr,this];rfl);simp only[go_sem,ht,U,hr,hf,hl,B,J];have fU:Fm No H ⟨H.t,H.nx+27⟩:=fm;refine Ok.iC (QV (k:=j) om (n:=x.r.types.length) (l:=x.r.types.flatMap tC) ((q.ty.fm fU).sr fz q.tc) om) ?_;rintro E H1 ⟨q1,f1,n1⟩;have Q:Fm No H H1:=fU.trans f1;have x1:H.nx+27<=H1.nx:=f1.nx;have ht1:=(Q.keep o3).trans ht;have hp1:=(Q.keep s.2).trans U;have hr1:=(Q.keep F).trans hr;have hf1:=(Q.keep hfb).trans hf;simp only[go_sem,seval,ht1,hp1,hr1,hf1,B,J,hfd];have hok:=hrt.ok1.flat;refine Ok.iC (zji hN (k:=j) (tg:=iK X g.name) om (G.fm Q) hok λrl to H' A f'=>?_) ?_
 ·obtain⟨t,A,hk3,rfl,rfl⟩:=A;have K:=Q.trans f';have hnd:=Fo.nN (λk rl to=>(k=2\/k=3->(g.name,rl)∈aF X)/\(k=3->iK X g.name rl to≠[])) _ 0 0 (Fo.pG _ _ (Ru.yV _ x.r.rule false λy V=>hV.nd g hg x hx y V)) t A;exact z0d hN (k:=j-1) om ((p.fm.trans K).keep hsl |>.trans hs) ((K.keep s.2).trans U) om hV t.rl t.to om om
 rintro w v ⟨es,q2,f2,hwf,N⟩;have W:=Q.trans f2;have L:=(W.keep o3).trans ht;have hp2:=(W.keep s.2).trans U;have hr2:=(W.keep F).trans hr;have c1:=q1.cells;have Z:=q2.gl.cells;simp only[go_sem,seval,L,hp2,hr2,B,c1,Z];have x2:=f2.nx;have u3:Fm (λc=>c=H.nx+22) v (v.put (H.nx+22) (aB 0 (sM ⟨(g.name,x),l.length,z,E,w,es⟩))):=(Fm.refl _ _).put _ _ λ_=>rfl;have wH:Fm No H (v.put (H.nx+22) (aB 0 (sM ⟨(g.name,x),l.length,z,E,w,es⟩))):=W.aN _ _ om;obtain⟨H4,e4,g4,_,f4,n4⟩:=(p.gl.no wH).append (k:=1) (w:=96) (x:=sM ⟨(g.name,x),l.length,z,E,w,es⟩) om rfl om om;refine Ok.vH e4 ?_;have M:∀c,c<=tb->¬In fv c:=λc hc h=>by have:=p.ln c h;omega
 have ht4:=(f4.get tb (by have:=wH.nx;omega) (M tb (AF _))).trans ((u3.get tb om om).trans L);simp only[nq]at e4 g4 n4;have aIC:∀a b c d y:AV,aY [a,b,c,d] 1 [y]=[a,y,c,d]:=λ_ _ _ _ _=>rfl;simp only[go_sem,seval,ht4,aIC];rw[kE md];unfold md;refine aS ?_;have u5:Fm (λc=>c=tb) H4 (H4.put tb (aB 0 [.bool true,.sl v.nx 0 (l.length+1) (l.length+1) false,.map mb,iN most])):=(Fm.refl _ _).put _ _ λ_=>rfl;have Y:Fm (λc=>c=tb\/In fv c) H _:=((wH.mono (T:=λc=>c=tb\/In fv c) λ_ _ h=>absurd h id).then f4 λ_ _ h=>.inr h).then u5 λ_ _ h=>.inl h;have r:∀b,In (.sl v.nx 0 (l.length+1) (l.length+1) false) b->b=v.nx:=λb f=>by obtain⟨_,_,_,_,f⟩:=f;simp_all
 have hmn:∀c,c<tb->¬(c=tb\/In fv c):=λc hc h=>by
  rcases h with h|h
  ·omega
  ·exact M c om h
 have u:∀b,iG.B ⟨(g.name,x),l.length,z,E,w,es⟩ b->H.nx+27<=b/\b<v.nx:=λb f=>by
  rcases f with f|f|⟨y,V,f⟩
  ·have h1:=n1 b f;have h2:=q1.lt f;exact⟨h1,om⟩
  ·have:=N b (.inl f);have:=q2.gl.lt f;omega
  ·have:=N b (.inr ⟨y,V,f⟩);have:=(q2.ok y V).lt f;omega
 have he:iG.Ok X v ⟨(g.name,x),l.length,z,E,w,es⟩:=⟨q1.no f2,q2⟩;have bA3:=Y.get pb s.2 λh=>by simp_all
 refine hq _ (.sl v.nx 0 (l.length+1) (l.length+1) false) ⟨(g.name,x),l.length,z,E,w,es⟩ rfl ⟨?_,gX _ _ _,p.m.eq (Y.get mb om (hmn mb o2)),⟨o1,o2,by simp only[nq];omega⟩,?_,λb f=>by have:=r b f;omega,λe he'=>?_,λm hm=>?_⟩ bA3 (by simp only[nq];omega) λh=>by have:=r _ h;omega
 ·exact p.fm.then Y λc hc h=>by
   rcases h with h|h
   ·omega
   ·have:=p.ln c h;omega
 ·rw[nj,nt,AJ];exact g4.fm u5 λb f h=>by have:=r b f;omega
 ·rcases lAJ.1 he' with h|h
  ·obtain⟨v1,v2⟩:=p.ok e h;exact⟨v1.dR Y λb f h=>by
    have:=v2 b f;rcases h with h|h
    ·omega
    ·exact this.2.2 h,λb f=>⟨(v2 b f).1,(v2 b f).2.1,λh=>by have:=r b h;have:=v1.lt f;omega⟩⟩
  ·obtain rfl:=lAK.1 h;refine⟨((he.dR u3 λb f h=>?_).dR f4 λb f h=>?_).dR u5 λb f h=>?_,λb f=>?_⟩
   ·have:=u b f;omega
   ·have:=u b f;have:=p.gl.lt h;omega
   ·have:=u b f;omega
   ·have:=u b f;exact⟨om,om,λh=>by have:=r b h;omega⟩
 ·by_cases h:m<l.length
  ·rw[List.getElem_append_left h];exact p.n m h
  ·have:m=l.length:=by simp at hm;omega
   simp_all
theorem z8m(hN:iO C)(hj:24<=j){L:Nat}{l:List iG}{g6:pD}(hX:dB Hb sv X)(M:bV X)(N:yJ Hb fv X o)(hs:Hb.get sb=aB 0 [sv])(O:sb<Hb.nx)(hz:Hb.get L=aB 0 [fv])(lv:L<Hb.nx)(F:g∈X)(G:i<g.gs.length)(m:TfI X o Hb H tb mb most P l qs)(hp:H.get pb=aB 0 [.str g.name.n g.name.a,g.rv])(q:tb<pb/\pb<H.nx)(R:¬In P pb)(S:qs.length=l.length)(hn:dA X g.name g.gs[i].r.name=l.length)(hin:(g.name,g.gs[i].r.name)∈aF X)(x:(g.name,g.gs[i].r.name)∉qs)(T:l.length<300)(hq:∀(H':Hp) (n:AV) (e:iG),e.p=(g.name,g.gs[i])->TfI X o Hb H' tb mb most n (l++[e]) (qs++[(g.name,g.gs[i].r.name)])->H'.get pb=aB 0 [.str g.name.n g.name.a,g.rv]->pb<H'.nx->¬In n pb->Ok (g6 (iN ((i+1))) H') D):Ok (kA Bu (C j) g6 (.ptr sb 0) (.ptr L 0) (.ptr tb 0) (.ptr pb 0) g.rv (iN i) H) D:=by
 rw[kE Bu];unfold Bu;obtain⟨o1,o2,o3⟩:=m.od;have bV3:=(M.pr.r g F).1;have z:=(hX.fm m.fm).sp _ F;obtain⟨b1,o1',e1,e2,_,_,_,e6⟩:=z.at' i G;have p:=z.rel _ (sx G);obtain⟨c0,c1,c2,c3,hcs,hrc⟩:=x9 p;have mJ:=p.ru;rw[hcs]at mJ;rw[hrc]at e6;obtain⟨_,_,B,_⟩:=M.pr.x g F _ (sx G);refine dS e1 e6 ?_;generalize s:(aH H (aB 0 [zS,.aA,uN 0,zS,zS,.aA])).put H.nx (aB 0 [.str g.gs[i].r.name.n g.gs[i].r.name.a,g.gs[i].tv,c0,c1,c2,c3])=H1;have f1:Fm No H H1:=by rw[<-s];exact zL
 have n1:H1.nx=H.nx+1:=by rw[<-s];rfl
 have Z:H1.get H.nx=aB 0 [.str g.gs[i].r.name.n g.gs[i].r.name.a,g.gs[i].tv,c0,c1,c2,c3]:=by rw[<-s];exact gX _ _ _
 rw[kE F8];unfold F8;refine dI Z ?_;refine Ok.ve (zoo hN (k:=j) om (f:=g.gs[i].r.rule.fo) (mJ.fo.fm f1) B.ok1) ?_;rintro _ v ⟨ds,rfl,Q,f2⟩;have x2:=f2.nx;obtain⟨kd,rl,to,a,av,ca,hfe,rfl,_,_,_⟩:=Q.one (by rw[Fo.dN];exact B.ok1.one);refine aS ?_;generalize t:(aH v (aB 0 [uN 0,zS,zS,.aA])).put v.nx (aB 0 [uN kd,.str rl.n rl.a,.str to.n to.a,av])=H3;have f3:Fm No v H3:=by rw[<-t];exact zL
 have n3:H3.nx=v.nx+1:=by rw[<-t];rfl
 have d3:H3.get v.nx=aB 0 [uN kd,.str rl.n rl.a,.str to.n to.a,av]:=by rw[<-t];exact gX _ _ _
 rw[kE F9];unfold F9;have r:=f2.trans f3;have J:=f1.trans r;have z3:=((m.fm.trans J).keep lv).trans hz;have p3:=(J.keep q.2).trans hp;have r3:=(r.keep (show H.nx<H1.nx by omega)).trans Z;refine gW z3 p3 r3 ?_;refine Ok.ve (z7p (k:=j) om (N.fm (m.fm.trans J)) g.name g.gs[i].r.name) ?_;rintro _ K ⟨E,hr4⟩;rcases hr4 with⟨_,rfl⟩|⟨h,_⟩
 rotate_left
 ·trivial
 rw[hn,kE Ga];unfold Ga;have A:=J.trans E;have f34:=r.trans E;have d:=m.no A;have t4:=d.t;have p4:=(A.keep q.2).trans hp;have r4:=(f34.keep (show H.nx<H1.nx by omega)).trans Z;have hl:=m.gl.bF;have hv:=wK (Gl.flat m.gl) 63;obtain⟨kk,eu,mu⟩:=d.m.put g.name g.gs[i].r.name x;rw[S]at eu;simp only[go_sem,seval,t4,p4,r4,hl,hv,eu];have u:Fm (λc=>c=mb) K (K.put mb kk):=(Fm.refl _ _).put _ _ λ_=>rfl;have x4:H3.nx<=K.nx:=E.nx;have hI5:TfI X o Hb (K.put mb kk) tb mb most P l (qs++[(g.name,g.gs[i].r.name)]):=⟨d.fm.then u λc hc h=>om,(jR _ _ _ _ om).trans t4,mu,⟨o1,o2,by simp only[nq];omega⟩,d.gl.fm u λb I h=>by have:=m.ln b I;omega,m.ln,λe y=>⟨(d.ok e y).1.dR u λb I h=>((d.ok e y).2 b I).2.1 h,(d.ok e y).2⟩,m.n⟩;refine z8n hN hj hX M hs O F (sx G) hI5 ((u.get pb om om).trans p4) ⟨q.1,by simp only[nq];omega⟩ R ((u.get H.nx om om).trans r4) (by simp only[nq];omega) ((u.get v.nx om om).trans ((E.keep om).trans d3)) (by simp only[nq];omega) (((Q.fm (f3.trans E)).dR u λb I h=>om).mono λ_ _ _=>trivial) rfl T om λH' n e y U V W Y=>hq H' n e y U (V.trans ((u.get pb om om).trans p4)) W Y
structure jK(X:List aP)(o:List Nat)(H:Hp)(t:AV)(most:Nat)(l:List iG):Prop where
 ex:∃tb mb lv,t=.ptr tb 0/\tb<H.nx/\mb<H.nx/\H.get tb=aB 0 [.bool true,lv,.map mb,iN most]/\jG H mb (aF X)/\Gl 6 H lv l.length (l.flatMap sM)
 ok:∀e∈l,e.Ok X H
 p:l.map iG.p=eG X
 n:∀i (h:i<l.length),l[i].n=i/\l[i].st=o.getD i 0
theorem jK.fm(h:jK X o H sv most tl)(f:Fm No H H'):jK X o H' sv most tl:=by obtain⟨tb,mb,lv,b,c,d,g,i,j⟩:=h.ex;have:=f.nx;exact⟨⟨tb,mb,lv,b,om,om,(f.keep c).trans g,i.eq (f.keep d),j.no f⟩,λe a=>(h.ok e a).dR f λ_ _ h=>h,h.p,h.n⟩
attribute [grind .] jK.fm
theorem zx9(I:iO C)(J:24<=j){sb t pb tb mb most s:Nat}(L:dB Hb sv X)(g:bV X)(m:yJ Hb fv X o)(M:Hb.get sb=aB 0 [sv])(n:sb<Hb.nx)(N:Hb.get t=aB 0 [fv])(p:t<Hb.nx)(d:s<X.length)(r:tb<pb)(R:∀(H:Hp) (lv:AV) (l:List iG),l.map iG.p=dM X s++X[s].gs.map (λx=>(X[s].name,x))->TfI X o Hb H tb mb most lv l ((l.map iG.p).map kq)->Ok (Y H) D):∀(k i:Nat) (H:Hp) (lv:AV) (l:List iG),i<=X[s].gs.length->X[s].gs.length-i<k->l.map iG.p=dM X s++(X[s].gs.take i).map (λx=>(X[s].name,x))->TfI X o Hb H tb mb most lv l ((l.map iG.p).map kq)->H.get pb=aB 0 [.str X[s].name.n X[s].name.a,X[s].rv]->pb<H.nx->¬In lv pb -> Ok (zF (C j) Y (.ptr sb 0) (.ptr t 0) (.ptr tb 0) (.ptr pb 0) X[s].rv (iN (X[s].gs.length)) k (iN i) H) D
 |0,i,_,_,_,_,h,_,_,_,_,_=>om
 |k+1,i,H,lv,l,hi,hk,hlp,hI,hp,hpl,hpn=>by
  show Ok (NS (C j) _ _ _ _ _ _ _ (zF (C j) _ _ _ _ _ _ _ k) _ H) D;unfold NS;by_cases b:i<X[s].gs.length
  ·simp only[go_sem,b];have A:l.length=(dM X s).length+i:=by
    have:=congrArg List.length hlp;simp only[vu,nj,sY]at this;omega
   have B:=Sp d b;obtain⟨F,G⟩:=lAL.1 B;obtain⟨_,P,_⟩:=g.at F;rw[G,<-A]at P;have S:=g.pr.len;have Q:(X[s].name,X[s].gs[i].r.name)∈aF X:=by rw[<-vC];exact ik (f:=kq) (a:=(X[s].name,X[s].gs[i])) om
   have c:=GD g.al d b;rw[<-hlp]at c;refine z8m I J L g m M n N p om b hI hp ⟨r,hpl⟩ hpn g3 P Q c om λH' u e O v w y z=>?_;have E:(l++[e]).map iG.p=dM X s++(X[s].gs.take (i+1)).map (λx=>(X[s].name,x)):=by rw[AO,hlp,nh b,AO,sR,cu,O,cu]
   refine zx9 I J L g m M n N p d r R k (i+1) H' u (l++[e]) om om E ?_ w y z;rw[AO,AO,cu,O];exact v
  ·simp only[go_sem,b]
   grind
theorem zya(p:iO C){j:Nat}(r:24<=j){sb f tb mb most:Nat}(g:dB Hb sv X)(e:bV X)(b:yJ Hb fv X o)(u:Hb.get sb=aB 0 [sv])(c:sb<Hb.nx)(v:Hb.get f=aB 0 [fv])(d:f<Hb.nx)(w:∀(H:Hp) (lv:AV) (l:List iG),l.map iG.p=eG X->TfI X o Hb H tb mb most lv l ((l.map iG.p).map kq)->Ok (Y H) D):∀(k s:Nat) (H:Hp) (lv:AV) (l:List iG),s<=X.length->X.length-s<k->l.map iG.p=dM X s->TfI X o Hb H tb mb most lv l ((l.map iG.p).map kq) -> Ok (zP (C j) Y (.ptr sb 0) (.ptr f 0) (.ptr tb 0) sv (iN (X.length)) k (iN s) H) D
 |0,s,_,_,_,_,h,_,_=>om
 |k+1,s,H,lv,l,hi,hk,hlp,hI=>by
  show Ok (NT (C j) _ _ _ _ _ _ (zP (C j) _ _ _ _ _ _ k) _ H) D;unfold NT;obtain⟨N,O,G⟩:=hI.od;have L:=e.pr.n;by_cases a:s<X.length
  ·simp only[go_sem,a];rw[kE F5];unfold F5;have x:=g.fm hI.fm;obtain⟨P,I,J,R,_,y,_⟩:=x.rs.at' s a;unfold yR SS.v at y;have B:=(x.sp _ (sx a)).len;have Q:=(e.pr.r _ (sx a)).1;refine dS J y ?_;generalize K:(aH H (aB 0 [zS,.aA])).put H.nx (aB 0 [.str X[s].name.n X[s].name.a,X[s].rv])=H1;have E:Fm No H H1:=om;have M:H1.nx=H.nx+1:=om;have p1:H1.get H.nx=aB 0 [.str X[s].name.n X[s].name.a,X[s].rv]:=om;rw[kE F6];unfold F6;refine dS p1 B ?_;rw[kE F7];unfold F7;rw[dD];refine zx9 p r g e b u c v d a (pb:=H.nx) G (λz i A m n=>?_) bT 0 H1 lv l om lf om (hI.no E) p1 om λh=>by have:=hI.gl.lt h;omega
   rw[kE lC];unfold lC;refine aS ?_;refine zya p r g e b u c v d w k (s+1) z i A om om ?_ n;rw[m];unfold dM eG;rw[nh a,nt,AJ]
  ·simp only[go_sem,a];have F:s=X.length:=om;refine w H lv l ?_ hI;rw[hlp,F];unfold dM;rw[aj]
theorem zzb(F:iO C)(N:fG C)(O:qM C)(P:pP C)(Q:pZ LA LO C){k:Nat}(R:1004<=k)(G:dB H sv X)(h:f8 X):Ok (C k (.f 123) [.agg [sv]] H) λr H'=>∃t o l,r=.aX [t,iN 0]/\lG X o/\jK X o H' t (ke X o) l/\Fm No H H':=by
 obtain⟨j,rfl⟩:=aO R;rw[lk (zqe ..)];unfold Wl;have J:=h.val;refine aS ?_;have v:Fm No H (aH H (aB 0 [sv])):=fm;refine Ok.ve (xb4 F N O P Q (k:=j) om (G.fm v) h) ?_;rintro _ H1 ⟨B,o,rfl,gz,D,d,q⟩;have U:=q.nx;simp only[np]at U;have V:=(q.keep (show H.nx<(aH H (aB 0 [sv])).nx by(go_size))).trans (uR _ _);refine aS ?_;rw[kE Fu];unfold Fu;refine aS ?_;rw[kE F2];unfold F2;generalize f:(aH H1 (aB 0 [.aA])).put H1.nx (aB 0 [B])=Hb;have fb:Fm No H1 Hb:=by rw[<-f];exact fm
 have nb:Hb.nx=H1.nx+1:=by rw[<-f];rfl
 have K:Hb.get H1.nx=aB 0 [B]:=by rw[<-f];exact gX _ _ _
 have sb:=(fb.keep (show H.nx<H1.nx by omega)).trans V;have w:o.length=(aF X).length:=d.len;have x:((aF X).zip o).length=(aF X).length:=by rw[List.length_zip];omega
 have z:=h.len;have m:yJ Hb B X o:=by
  refine⟨?_,D,w,om,λy S=>?_⟩
  ·rw[<-x]at gz;exact(gz.rs zj2).fm fb
  ·obtain⟨i,u,rfl⟩:=ku S;have:=d.bd i om;rw[show o.getD i 0=o[i]by simp[vt,u]]at this;omega
 have fm:Fm No Hb (aH Hb (.map [] 0)):=fm;have W:=(fm.keep (show H1.nx<Hb.nx by omega)).trans K;refine dI W ?_;refine Ok.ve (zow (k:=j) om (m.fm fm)) ?_;rintro _ p ⟨rfl,E⟩;have x2:=E.nx;simp only[np]at x2;have Y:=(E.keep (show Hb.nx<(aH Hb (.map [] 0)).nx by(go_size))).trans (uR _ _);have Z:∀b,vJ (.map b)=some [.map b]:=λ_=>rfl;refine dI Z ?_;generalize g:aH p (aB 0 [.bool true,.aA,.map Hb.nx,iN ((ke X o))])=H3;have L:Fm No p H3:=by rw[<-g];(repeat(first|exact Fm.refl _ _|assumption|refine Fm.push ?_ _|refine Fm.up2 ?_ (by go_size)|refine Fm.aN ?_ _ _ (by go_size)))
 have n3:H3.nx=p.nx+1:=by rw[<-g];rfl
 have t3:H3.get p.nx=aB 0 [.bool true,.aA,.map Hb.nx,iN ((ke X o))]:=by rw[<-g];exact uR _ _
 have c:=(fm.trans E).trans L;have s3:=(c.keep (show H.nx<Hb.nx by omega)).trans sb;have n:=(G.fm v).fm (q.trans fb);have A:=(n.fm c).rs.len;rw[kE F3];unfold F3;refine dS s3 A ?_;rw[kE F4];unfold F4;rw[dD];have M:=J.pr.n;refine zya F (j:=j) om n J m sb om K om (mb:=Hb.nx) (tb:=p.nx) (most:=ke X o) (λH4 lv l I a=>?_) bT 0 H3 .aA [] (vy _) lf (by unfold dM eG;simp) ⟨c,t3,kY.nil _ _ ((L.keep om).trans Y),⟨AF _,om,om⟩,Gl.nil 6 H3,λb T=>absurd T (bt b),(λe s=>by cases s),(λi u=>by cases u)⟩;rw[kE cX];unfold cX;obtain⟨o1,o2,o3⟩:=a.od;have z:=a.m;rw[I,vC]at z;exact Ok.ret ⟨_,o,l,rfl,d,⟨⟨_,_,lv,rfl,o3,om,a.t,z,a.gl⟩,λe s=>(a.ok e s).1,I,a.n⟩,((v.trans q).trans fb).trans a.fm⟩
structure IV(X:List aP)(H H':Hp)(e0 e:iG):Prop where
 p:e.p=e0.p
 n:e.n=e0.n
 st:e.st=e0.st
 ok:e.Ok X H'
 nw:∀b,e.B b->H.nx<=b
 sep:∀x∈e.es,(∀b,In x.sp b\/In x.av b->¬In e.nv b)/\dX x.sp=aD x.sp/\dX x.av=aD x.av
 cap:dX e.tv=aD e.tv/\dX e.nv=aD e.nv
def C8:List AV:=[zS,zS,iN 0,iN 0,.aA,.aA]
theorem jK.at'{l:List iG}(h:jK X o H sv most l)(a:bV X)(d:i<l.length):l[i].Ok X H/\l[i].p.2.r.types.length<=8/\l[i].p.2.r.rule.Rt:=by
 refine⟨h.ok _ om,?_⟩;have e:l[i].p∈eG X:=by rw[<-h.p];exact ik om
 obtain⟨g,b,c,_⟩:=qgs.1 om;have:=a.pr.x g b _ c;simp_all
theorem zl2(f:4<=j){d:iG}(g:d.Ok X H)(i:bV X)(l:d.p.2.r.types.length<=8)(m:d.p.2.r.rule.Rt)(n:∀(e:iG) (H':Hp),Fm No H H'->IV X H H' d e->D (.aX [.agg (sM e),iN 0]) H'):Ok (ve (C j (.f 129) [.agg (sM d)] (aH H (aB 0 [zS,zS,iN 0,iN 0,.aA,.aA]))) λa H'=>ve (yI 6 H' (.ptr H.nx 0) a) λ_ H'=>dJ (dY (dU (rV (bW 6 H' (.ptr H.nx 0))) (dU (some (iN 0)) (some [])))) H') D:=by
 have p:Fm No H (aH H (aB 0 [zS,zS,iN 0,iN 0,.aA,.aA])):=om;refine Ok.ve (zns (k:=j) f (g.dR p om) i l m) ?_;rintro _ w ⟨e,rfl,p1,q,r,s,x,t,u,v⟩;have k2:=(v.keep om).trans (uR _ _);unfold sM;simp only[go_sem,seval,k2];refine Ok.ret (n e _ om ⟨p1,q,r,s.dR (S:=λc=>c=H.nx) om λb o h=>?_,λb o=>?_,t,u⟩)
 ·grind
 ·grind
theorem Nk{k:Nat}(v:6<=k)(h:jK X o H sv most tl)(u:bV X)(D:tl.length<300)(a b:SS){Q:pL}(E:∀(n:dA X a b<tl.length) (e:iG) (H':Hp),(a,b)∈aF X->Fm No H H'->IV X H H' tl[dA X a b] e->Q (.aX [.agg (sM e),iN 0]) H')(F:(a,b)∉aF X->∀H',Fm No H H'->Q (.aX [.agg C8,iN 6]) H'):Ok (C k (.f 62) [sv,.str a.n a.a,.str b.n b.a] H) Q:=by
 obtain⟨j,rfl⟩:=aO v;rw[lk (zqd ..)];obtain⟨tb,mb,lv,rfl,I,J,m,w,x⟩:=h.ex;unfold Wk;have G:Fm No H (aH H (aB 0 [zS,zS,iN 0,iN 0,.aA,.aA])):=fm;have g:jG (aH H (aB 0 [zS,zS,iN 0,iN 0,.aA,.aA])) mb (aF X):=w.eq om;refine dI m ?_;unfold JV;by_cases d:(a,b)∈aF X
 ·have n:dA X a b<tl.length:=by
   have:=uD d;have r:=congrArg List.length h.p;rw[vu,<-show((eG X).map kq).length=(eG X).length from vu ..,vC]at r;omega
  have i:=g.find (iN 0) a b d;rw[show(aF X).findIdx (λq=>decide (q=(a,b)))=dA X a b from rfl]at i;obtain⟨y,r,z⟩:=h.at' u n;obtain⟨c,p,A,K,_,B,_⟩:=(x.rs z0c).at' _ n;refine dS m i ?_;unfold JW;refine dS m A ?_;rw[B];exact zl2 om y u r z om
 ·have i:=g.miss (iN 0) a b d;have s:∀H',Fm No H H'->Ok (dJ (dY (dU (some (.agg C8)) (dU (some (iN 6)) (some [])))) H') Q:=λH' f=>Ok.ret om;unfold C8 at s;refine dS m i ?_
  grind
theorem z2k{k:Nat}(n:7<=k)(h:jK X o H sv most tl)(p:bV X)(q:tl.length<300)(a b:SS):Ok (C k (.f 134) [sv,.str a.n a.a,.str b.n b.a] H) λr H'=>r=.bool (decide ((a,b)∈aF X))/\Fm No H H':=by
 obtain⟨j,rfl⟩:=aO n;rw[lk (zqc ..)];refine Ok.ve (R:=λr H'=>Fm No H H'/\∃cs,cs.length=6/\r=.aX [.agg cs,iN ((if(a,b)∈aF X then 0 else 6))]) (Nk om h p q a b (λu e H' c f _=>⟨f,sM e,rfl,om⟩) λc H' f=>⟨f,C8,rfl,om⟩) ?_;rintro _ H1 ⟨v,cs,s,rfl⟩;obtain⟨c0,d,g,i,c4,c5,rfl⟩:∃c0 d g i c4 c5,cs=[c0,d,g,i,c4,c5]:=by
  match cs,s with
  | [c0,d,g,i,c4,c5],_=>exact⟨c0,d,g,i,c4,c5,rfl⟩
 have m:∀B,Fm No H ((aH H1 (aB 0 C8)).put H1.nx B):=om;by_cases c:(a,b)∈aF X
 ·rw[sB c];refine aS ?_;exact Ok.ret ⟨om,m _⟩
 ·rw[sy c];refine aS ?_;exact Ok.ret ⟨om,m _⟩
variable {T:List Tu}
variable {H0:Hp}
variable{E:List eT}{U:List G3}
theorem MB.look(h:MB H0 H b T E U)(g:G3):∃v,mX ⟨kX,some 3⟩ .aA false H (.map b) (.agg (gC g))=.val v/\Gl 6 H v (rY T g).length ((rY T g).flatMap Tu.cells):=by
 obtain⟨g1,g2⟩:=iW ji g E U 0 h.key;have e:∀r,vU kX (p9 g) E 0=r->mX ⟨kX,some 3⟩ .aA false H (.map b) (.agg (gC g))=pW false .aA r:=λr k=>by show(match(match H.get b with| .map E _=>some E|_=>none)with|some E=>pW false .aA (vU _ (p9 g) E 0)|none=>.bad)=_;rw[h.get];simp_all
 by_cases f:g∈U
 ·obtain⟨x,j,x2⟩:=g2 f;have c:U[U.findIdx λq=>decide (q=g)]? =some g:=by
   rw[j0 om]
   grind
  exact⟨x.val,(e _ x2).trans rfl,h.val _ x g j c⟩
 ·have d:rY T g=[]:=List.filter_eq_nil_iff.2 λt i=>by
   simp only[mE];intro e;exact f (by rw[<-e];exact h.mem t i)
  exact⟨.aA,(e _ (g1 f)).trans rfl,by rw[d];exact Gl.nil 6 _⟩
structure nU(H0 H:Hp)(u r:AV)(ul:List (SS×SS))(rl:List G3):Prop where
 a:Ac 2 pC H0 H u ul
 b:Ac 3 gC H0 H r rl
 dj:∀c,In u c->¬In r c
theorem nU.no(h:nU H0 H sv fv qs U)(f:Fm No H H'):nU H0 H' sv fv qs U:=⟨h.a.no f,h.b.no f,h.dj⟩
attribute [grind .] nU.no
theorem nU.nil(f:Fm No H0 H):nU H0 H .aA .aA [] []:=⟨Ac.nil _ _ f,Ac.nil _ _ f,λc h=>by obtain⟨_,_,_,_,h⟩:=h;cases h⟩
theorem nU.bCI(h:nU H0 H sv fv qs U)(x:SS×SS)(j:qs.length<100):Ok (jD 2 32 H sv (some ⟨1,pC x⟩)) λi H'=>nU H0 H' i fv (qs++[x]) U:=by
 refine(h.a.start.add x 32 rfl om om).mono λw' H' a=>?_;refine⟨h.a.fin a,⟨h.b.gl.fm a.fm λc b e=>h.dj c e b,h.b.fm.then a.fm λc b e=>by have:=h.a.nw c e;omega,h.b.nw⟩,λc b f=>?_⟩;rcases a.nw c b with g|g
 ·exact h.dj c g f
 ·have:=h.b.gl.lt f;omega
theorem nU.bCC(h:nU H0 H sv fv qs U)(x:G3)(j:U.length<100000):Ok (jD 3 48 H fv (some ⟨1,gC x⟩)) λg H'=>nU H0 H' sv g qs (U++[x]):=by
 refine(h.b.start.add x 48 rfl om om).mono λw' H' b=>?_;refine⟨⟨h.a.gl.fm b.fm λc a d=>h.dj c a d,h.a.fm.then b.fm λc a d=>by have:=h.b.nw c d;omega,h.a.nw⟩,h.b.fin b,λc a i=>?_⟩;rcases b.nw c i with f|f
 ·exact h.dj c a f
 ·have:=h.a.gl.lt a;omega
def fj(t:Tu):List G3:=if t.z=sE then[]else[fW t]
def ek(t:Tu):List (SS×SS):=if t.z=sE then[(t.x,t.y)]else[]
theorem AW{O:Ev.Call}(n:Rs 6 Tu.cells H0 sv T)(s:T.length<=20)(t:∀u r H,nU H0 H u r (T.flatMap ek) (T.flatMap fj)->Ok (M u r H) D):∀(k i:Nat) (u r:AV) (H:Hp),i<=T.length->T.length-i<k->((T.take i).flatMap ek).length<=i->((T.take i).flatMap fj).length<=i->nU H0 H u r ((T.take i).flatMap ek) ((T.take i).flatMap fj) -> Ok (BX O M sv (iN (T.length)) k u r (iN i) H) D
 |0,i,_,_,_,_,h,_,_,_=>om
 |k+1,i,u,r,H,hi,hk,hul,hrl,h=>by
  show Ok (JI O _ _ _ (BX O _ _ _ k) _ _ _ H) D;unfold JI;by_cases c:i<T.length
  ·simp only[go_sem,c];unfold NY;obtain⟨b,o,p,A,m⟩:=(n.fm h.a.fm).oG c;have w:T[i].cells=[.str T[i].a.n T[i].a.a,.str T[i].b.n T[i].b.a,.str T[i].c.n T[i].c.a,.str T[i].x.n T[i].x.a,.str T[i].y.n T[i].y.a,.str T[i].z.n T[i].z.a]:=rfl;have x:Fm No H ((aH H (aB 0 [zS,zS,zS,zS,zS,zS])).put H.nx (aB 0 T[i].cells)):=om;have y:(T.take (i+1)).flatMap fj=(T.take i).flatMap fj++fj T[i]:=by rw[nh c,nt,AJ]
   have z:(T.take (i+1)).flatMap ek=(T.take i).flatMap ek++ek T[i]:=by rw[nh c,nt,AJ]
   rw[w]at m x;have next:∀(e f:AV) (d:Hp),nU H0 d e f ((T.take i).flatMap ek++ek T[i]) ((T.take i).flatMap fj++fj T[i])->Ok (GJ O (BX O M sv (iN (T.length)) k) e f (iN i) d) D:=λe f d g=>by
    unfold GJ;refine aS ?_;refine AW n s t k (i+1) e f d om om ?_ ?_ om
    ·have q1:(ek T[i]).length<=1:=by unfold ek;split<;>simp
     grind
    ·have q1:(fj T[i]).length<=1:=by unfold fj;split<;>simp
     grind
   unfold fj ek at next
   by_cases a:T[i].z.n=0/\T[i].z.a=0
   ·have j:=j7 a;rw[sB ((ju _).1 a),sB ((ju _).1 a)]at next
    refine gW p m j ?_;refine Ok.ve ((h.no om).bCI (T[i].x,T[i].y) om) ?_;intro e d g;exact next e r d (by rw[DN];exact g)
   ·have j:=sT a;rw[sy λh=>a ((ju _).2 h),sy λh=>a ((ju _).2 h)]at next
    refine gW p m j ?_;refine Ok.ve ((h.no om).bCC (fW T[i]) om) ?_;intro f d g;exact next u f d (by rw[DN];exact g)
  ·simp only[go_sem,c]
   grind
theorem XW{O:Ev.Call}{l:List SS}{s:SS}(c:Rs 1 sC H sv l)(g:l.length<1000000):∀(k i:Nat),i<=l.length->l.length-i<k->s∈l.drop i -> ∃n:Nat,pe O (λx H=>.ok x H) (λH=>rF O H) sv (.str s.n s.a) (iN (l.length)) k (iN i) H=.ok (iN n) H
 |0,i,_,h,_=>om
 |k+1,i,hi,hk,hs=>by
  show ∃n:Nat,CF O _ _ _ _ _ (pe O _ _ _ _ _ k) _ H=_;unfold CF;by_cases a:i<l.length
  ·obtain⟨b,o,e,_,_,_,p⟩:=c.at' i a;have d:cB (H.get b) o=.val (.str l[i].n l[i].a):=p 0 (by simp[sC]);by_cases f:s.n=l[i].n/\s.a=l[i].a
   ·refine⟨i,?_⟩;have j:=j7 f;simp only[go_sem,a];unfold CE;simp only[go_sem,e,d,j]
   ·have m:s∈l.drop (i+1):=by
     rw[iP a,lE4]at hs
     grind
    obtain⟨n,q⟩:=XW c g k (i+1) om om m;refine⟨n,?_⟩;simp only[go_sem,a];unfold CE;simp only[go_sem,e,d,f];unfold lC;refine aS ?_;exact q
  ·grind
theorem z2o(c:2<=N){l:List SS}(s:SS)(a:Rs 1 sC H sv l)(d:l.length<900000):C N (.f 198) [sv,.str s.n s.a] H=.ok (.bool (decide (s∈l))) H:=by
 by_cases b:s∈l
 ·obtain⟨j,rfl⟩:∃j,N=j+1+1:=⟨N-2,om⟩;rw[j7 b,lk (Q7 ..)];unfold Px;simp only[go_sem];rw[lk (Q6 ..)];unfold Pw;obtain⟨n,e⟩:=XW (O:=C j) a om bT 0 om lf (s:=s) om;simp only[go_sem,a.len];rw[dD,e];rfl
 ·rw[sT b];exact Yf c a d b
def fk(X:List aP)(a rl to:SS)(t:Tu):List G3:=if t.z=sE/\t.x∈iK X a rl to then[((t.x,t.y),to)]else[]
theorem AX(x:2<=j){v sp:AV}{nb:Nat}{c0 c4 c5:AV}{a rl to:SS}(y:Rs 6 Tu.cells H0 v T)(E:T.length<=20)(z:H0.get nb=aB 0 [c0,.str rl.n rl.a,.str to.n to.a,sp,c4,c5])(d:nb<H0.nx)(A:Rs 1 sC H0 sp (iK X a rl to))(u:(iK X a rl to).length<=100){q:pD}(F:∀r H,Ac 3 gC H0 H r (T.flatMap (fk X a rl to))->Ok (q r H) D):∀(k i:Nat) (r:AV) (H:Hp),i<=T.length->T.length-i<k->((T.take i).flatMap (fk X a rl to)).length<=i->Ac 3 gC H0 H r ((T.take i).flatMap (fk X a rl to)) -> Ok (BW (C j) q (.ptr nb 0) v (iN (T.length)) k r (iN i) H) D
 |0,i,_,_,_,h,_,_=>om
 |k+1,i,r,H,hi,hk,hrl,h=>by
  show Ok (JH (C j) _ _ _ _ (BW (C j) _ _ _ _ k) _ _ H) D;unfold JH;by_cases c:i<T.length
  ·simp only[go_sem,c];unfold Y8;have m:=h.fm;obtain⟨b,o,w,J,p⟩:=(y.fm m).oG c;have I:T[i].cells=[.str T[i].a.n T[i].a.a,.str T[i].b.n T[i].b.a,.str T[i].c.n T[i].c.a,.str T[i].x.n T[i].x.a,.str T[i].y.n T[i].y.a,.str T[i].z.n T[i].z.a]:=rfl;have e:Fm No H ((aH H (aB 0 [zS,zS,zS,zS,zS,zS])).put H.nx (aB 0 T[i].cells)):=om;have B:=(m.keep d).trans z;have nx:=m.nx;have Q:(T.take (i+1)).flatMap (fk X a rl to)=(T.take i).flatMap (fk X a rl to)++fk X a rl to T[i]:=by rw[nh c,nt,AJ]
   rw[I]at p e;have O:=z2o x T[i].x (A.fm (m.trans e)) om;have next:∀(f:AV) (g:Hp),Ac 3 gC H0 g f ((T.take i).flatMap (fk X a rl to)++fk X a rl to T[i])->Ok (GI (C j) (BW (C j) q (.ptr nb 0) v (iN (T.length)) k) f (iN i) g) D:=λf g G=>by
    unfold GI;refine aS ?_;have q1:(fk X a rl to T[i]).length<=1:=by unfold fk;split<;>simp
    exact AX x y E z d A u F k (i+1) f g om om (by rw[Q,nj];omega) (by rw[Q];exact G)
   unfold fk at next
   by_cases s:T[i].z.n=0/\T[i].z.a=0
   ·have n:=j7 s;by_cases t:T[i].x∈iK X a rl to
    ·rw[j7 t]at O;rw[sB ⟨(ju _).1 s,t⟩]at next
     refine lW w p n B O ?_;refine Ok.ve ((h.no (e.push (aB 0 (gC ((T[i].x,T[i].y),to))))).add ((T[i].x,T[i].y),to) 48 rfl om om) ?_;trivial
    ·rw[sT t]at O;rw[sy λh=>t h.2,DN]at next
     refine lW w p n B O ?_;exact next r _ (h.no e)
   ·have n:=sT s;rw[sy λh=>s ((ju _).2 h.1),DN]at next
    refine gW w p n ?_;exact next r _ (h.no e)
  ·simp only[go_sem,c]
   grind
def Jl(X:List aP)(T:List Tu)(g:G3)(k:Nat)(rl to:SS):List G3:=
 if k=1 then(rY T g).flatMap fj else if k=2 then[(g.1,rl)]else if k=3 then(rY T (g.1,rl)).flatMap (fk X g.1.1 rl to)else[]
theorem Ln(f:Tu->List G3)(g:G3):∀T:List Tu,(rY T g).flatMap f=T.flatMap λt=>if bR t=g then f t else[]
 | []=>rfl
 |t::T=>by have ih:=Ln f g T;unfold rY at *;rw[DM,dm,<-ih];by_cases h:bR t=g<;>simp[h]
theorem xav(g:G3)(k:Nat)(rl to:SS):Jl X T g k rl to=wV X T g k rl to:=by
 unfold Jl wV;have d:(∀t,xD X g k rl to t=[])->T.flatMap (xD X g k rl to)=[]:=λh=>List.flatMap_eq_nil_iff.2 om;by_cases a:k=1
 ·rw[sB a,sy om,au,Ln];congr 1;funext t;unfold xD fj
  grind
 ·rw[sy a];by_cases b:k=2
  ·rw[sB b,sB b,d λt=>by unfold xD;rw[sy λh=>a h.1,sy λh=>by have:=h.1;omega]];rfl
  ·rw[sy b,sy b,au];by_cases c:k=3
   ·rw[sB c,Ln];congr 1;funext t;have e:xD X g k rl to t=if k=3/\bR t=(g.1,rl)/\t.z=sE/\t.x∈iK X g.1.1 rl to then[((t.x,t.y),to)]else[]:=sy om
    unfold fk
    grind
   ·rw[sy c,d λt=>by unfold xD;rw[sy λh=>a h.1,sy λh=>c h.1]]
def qq(T:List Tu)(g:G3)(k:Nat):List (SS×SS):=if k=1 then(rY T g).flatMap ek else[]
variable{I:List G3}
theorem RJ{k:Nat}(G:3<=k){t:AV}{e:TE}{g:G3}(J:MB H0 H b T E I)(K:b<H.nx)(L:T.length<=20)(M:e.Ok (iK X g.1.1) H)(x:(iK X g.1.1 e.t.rl e.t.to).length<=100)(N:e.t.k<256):Ok (C k (.f 139) [.agg [t,.map b],.agg (oH e),.agg (gC g)] H) λr H'=>∃u v,r=.aX [u,v]/\Ac 3 gC H H' v (wV X T g e.t.k e.t.rl e.t.to)/\Ac 2 pC H H' u (qq T g e.t.k):=by
 obtain⟨j,rfl⟩:=aO G;obtain⟨⟨o,rl,to,n,lf⟩,p,sp⟩:=e;rw[lk (zpp ..),<-xav];unfold VX Jl qq;have es:gC g=[.str g.1.1.n g.1.1.a,.str g.1.2.n g.1.2.a,.str g.2.n g.2.a]:=rfl;have O:oH ⟨⟨o,rl,to,n,lf⟩,p,sp⟩=[uN o,.str rl.n rl.a,.str to.n to.a,sp,p,wS lf]:=rfl;have d:Fm No H (aH (aH (aH H (aB 0 [t,.map b])) (aB 0 (oH ⟨⟨o,rl,to,n,lf⟩,p,sp⟩))) (aB 0 (gC g))):=om;have i:∀g,(rY T g).length<=20:=λg=>AL (ou _ _) L;have m:=J.fm d K;rw[es,O]at d m ⊢;by_cases w:o=1
 ·subst w;obtain⟨v,l1,s⟩:=m.look g;rw[es]at l1;have y:=s.bF;refine dS l1 y ?_;rw[dD];refine AW (s.rs yZ) (i g) (λu r H1 h=>?_) bT 0 .aA .aA _ om (by rw[rO];have:=i g;omega) om om (nU.nil om);have F:=d.nx;exact Ok.ret ⟨u,r,rfl,⟨h.b.gl,d.trans h.b.fm,λc l=>by have:=h.b.nw c l;omega⟩,⟨h.a.gl,d.trans h.a.fm,λc l=>by have:=h.a.nw c l;omega⟩⟩
 ·rw[sy w,sy w];by_cases B:o=2
  ·subst B;refine aS ?_;have h:=Ac.new1 (z:=3) (f:=gC) (H0:=aH (aH (aH H (aB 0 [t,.map b])) (aB 0 (oH ⟨⟨2,rl,to,n,lf⟩,p,sp⟩))) (aB 0 (gC g))) ((g.1,rl):G3) rfl;have F:=om;exact Ok.ret ⟨_,_,rfl,⟨h.gl,om,λc l=>by have q:=h.nw c l;simp only[np]at q;omega⟩,Ac.nil 2 _ om⟩
  ·rw[sy B];by_cases D:o=3
   ·subst D;obtain⟨v,l1,s⟩:=m.look (g.1,rl);have A:gC (g.1,rl)=[.str g.1.1.n g.1.1.a,.str g.1.2.n g.1.2.a,.str rl.n rl.a]:=rfl;rw[A]at l1;have y:=s.bF;refine dS l1 y ?_;rw[dD];have P:Gl 1 H sp (iK X g.1.1 rl to).length ((iK X g.1.1 rl to).flatMap sC):=by
     rcases M.sp with h|h
     ·grind
     ·simp_all
    refine AX om (c0:=uN 3) (c4:=p) (c5:=wS lf) (nb:=H.nx+1) (sp:=sp) (a:=g.1.1) (rl:=rl) (to:=to) (s.rs yZ) (i _) g6 g1 ((P.rs pi).fm d) x (λr H1 h=>?_) bT 0 .aA _ om (by rw[rO];have:=i (g.1,rl);omega) om (Ac.nil 3 _ om);have F:=d.nx;exact Ok.ret ⟨_,r,rfl,⟨h.gl,d.trans h.fm,λc l=>by have:=h.nw c l;omega⟩,Ac.nil 2 _ (d.trans h.fm)⟩
   ·rw[sy D];refine gW w B D ?_;exact Ok.ret ⟨_,_,rfl,Ac.nil 3 _ fm,Ac.nil 2 _ fm⟩
variable {w:AV}
theorem Ac.bDA{f:α->List AV}{l y:List α}(h:Ac z f H0 H sv l)(r:(y.flatMap f).length=y.length*z)(wd:Nat)(a:(l.length+y.length)*wd<=1099511627776)(d:l.length+y.length<=1099511627776):Ok (jD z wd H sv (some ⟨y.length,y.flatMap f⟩)) λs H'=>Ac z f H0 H' s (l++y):=by
 by_cases p:y=[]
 ·subst p;rw[DN];rcases h.gl.is with⟨rfl,m⟩|⟨b,o,e,q,L,rfl,A,B,n,C,D⟩
  ·exact⟨.aA,H,rfl,h⟩
  ·have j:=h.gl.len;have u:aY L (o+l.length*z) []=L:=by simp[aY]
   have G:o+l.length*z=L.length:=by rw[<-n,oz]at j;omega
   refine⟨.sl b o l.length l.length e,H.put b (aB q L),?_,⟨j,.inr ⟨b,o,e,q,L,rfl,gX _ _ _,B,n,C,D⟩⟩,h.fm.then ((Fm.refl (λc=>c=b) _).put _ _ λ_=>rfl) λc t g=>?_,h.nw⟩
   ·show(bif Nat.ble (l.length+0) l.length then storeAt H b (o+l.length*z) [] (.sl b o (l.length+0) l.length e)else _)=_;rw[ble_eq,j7 (show l.length+0<=l.length from AF _),AN,h7 H b _ _ _ q L A g2,u];rfl
   ·subst g;have:=h.nw c ⟨_,_,_,_,rfl⟩;omega
 ·have m:0<y.length:=lIO.2 p;obtain⟨H',e,E,_,i,nx'⟩:=h.gl.append (k:=y.length) (w:=wd) (x:=y.flatMap f) m r a d;refine⟨_,H',e,?_,h.fm.then i λc t g=>by have:=h.nw c g;omega,λb a=>?_⟩
  ·simp_all
  ·obtain⟨_,_,_,_,F⟩:=a;cases F;exact h.fm.nx
theorem Ac.app{f:α->List AV}{l y:List α}(h:Ac z f H0 H sv l)(b:Gl z H w y.length (y.flatMap f))(wd:Nat)(c:(l.length+y.length)*wd<=1099511627776)(a:l.length+y.length<=1099511627776):Ok (jD z wd H sv (nP z H w)) λd H'=>Ac z f H0 H' d (l++y):=by rw[b.src];exact h.bDA b.len wd c a
def Fo.uQ(F:Nat->SS->SS->List G3):Fo->List G3
 | .nil=>[]
 | .cons k rl to a r=>F k rl to++(Fo.uQ F a++Fo.uQ F r)
theorem Fo.xY(F:Nat->SS->SS->List G3):∀f g:Fo,Fo.uQ F (f.app g)=Fo.uQ F f++Fo.uQ F g
 | .nil,g=>rfl
 | .cons k rl to a r,g=>by simp only[Fo.app,Fo.uQ,Fo.xY F r g,sR]
variable{W:Nat->SS->SS->List G3}
theorem Fo.xZ(b:∀k rl to,4<=k->W k rl to=[])(k:Nat):∀f:Fo,Fo.uQ W (Fo.spl k f)=Fo.uQ W f
 | .nil=>rfl
 | .cons k' rl to a r=>by
  unfold Fo.spl;split
  ·rw[Fo.xY,Fo.xZ b k r,Fo.uQ,b k' rl to om,au]
  ·simp only[Fo.uQ,Fo.xZ b k r]
theorem Fo.uL(b:∀k rl to,4<=k->W k rl to=[]):∀f:Fo,Fo.uQ W f.flat=Fo.uQ W f
 | .nil=>rfl
 | .cons k rl to a r=>by simp only[Fo.flat,Fo.uQ,Fo.xZ b,Fo.uL b a,Fo.uL b r]
theorem Fo.yF{F:Nat->SS->SS->List G3}(b:∀k rl to,4<=k->F k rl to=[]):∀(f:Fo) (p c:Nat),((f.dK p c).flatMap λt=>if t.leaf=none then[]else F t.k t.rl t.to)=Fo.uQ F f
 | .nil,_,_=>rfl
 | .cons k rl to a r,p,c=>by rw[Fo.dK,DM,nt,Fo.yF b a,Fo.yF b r,Fo.uQ];simp_all
theorem Ru.uQ(F:Nat->SS->SS->List G3):∀(r:Ru) (neg:Bool),Fo.uQ F r.fo=(r.nodes neg).flatMap λy=>F y.k y.rl y.to
 | .leaf k rl to,neg=>by simp[Ru.fo,Fo.uQ,Ru.nodes]
 | .node k a b,neg=>by rw[Ru.fo,Fo.uQ,Fo.xY,Fo.uQ,DN,Ru.nodes,DM,nt,Ru.uQ F a neg,Ru.uQ F b]
def mC(X:List aP)(T:List Tu)(g:G3)(l:List TE):List G3:=l.flatMap λe=>if e.t.leaf=none then[]else wV X T g e.t.k e.t.rl e.t.to
variable{F:G3}
theorem z8o{x:bA}(c:kQ X F.1.1 F.2=some x)(h:J.map TE.t=x.r.rule.fo.flat.dK 0 0):mC X T F J=gK X T F:=by
 have a:∀k rl to,4<=k->wV X T F k rl to=[]:=λk rl to h=>by
  unfold wV;rw[sy om,au];refine List.flatMap_eq_nil_iff.2 λt _=>?_;unfold xD
  grind
 have b:=Fo.yF (F:=wV X T F) a x.r.rule.fo.flat 0 0;rw[<-h,uf,Fo.uL a,Ru.uQ _ _ false]at b;unfold mC gK;simp_all
theorem aPA{j:Nat}(es:3<=j){b bw bg:Nat}{t A:AV}(g:MB Hb H0 b T E U)(G:b<H0.nx)(B:T.length<=20)(I:H0.get bw=aB 0 [t,.map b])(m:bw<H0.nx)(l:H0.get bg=aB 0 (gC F))(n:bg<H0.nx)(K:Rs 6 oH H0 A J)(o:∀e∈J,e.Ok (iK X F.1.1) H0/\(iK X F.1.1 e.t.rl e.t.to).length<=100/\e.t.k<256)(S:J.length<=100){q:pD}(L:∀v H,Ac 3 gC H0 H v (mC X T F J)->Ok (q v H) D):∀(k i:Nat) (v:AV) (H:Hp),i<=J.length->J.length-i<k->(mC X T F (J.take i)).length<=21*i->Ac 3 gC H0 H v (mC X T F (J.take i)) -> Ok (BZ (C j) q (.ptr bw 0) (.ptr bg 0) A (iN (J.length)) k v (iN i) H) D
 |0,i,_,_,_,h,_,_=>om
 |k+1,i,v,H,hi,hk,hl,ha=>by
  show Ok (JM (C j) _ _ _ _ _ (BZ (C j) _ _ _ _ _ k) _ _ H) D;unfold JM;by_cases a:i<J.length
  ·simp only[go_sem,a];unfold Za;have f:=ha.fm;obtain⟨bb,oo,R,e2,z⟩:=(K.fm f).oG a;obtain⟨Z,o2,o3⟩:=o _ (sx a);have r:oH J[i]=[uN (J[i].t.k),.str J[i].t.rl.n J[i].t.rl.a,.str J[i].t.to.n J[i].t.to.a,J[i].sp,J[i].av,wS J[i].t.leaf]:=rfl;have V:List.take 3 (gC F)=gC F:=rfl;have W:=(f.keep m).trans I;have Y:=(f.keep n).trans l;have nx:=f.nx;have M:mC X T F (J.take (i+1))=mC X T F (J.take i)++if J[i].t.leaf=none then[]else wV X T F J[i].t.k J[i].t.rl J[i].t.to:=by
    unfold mC;rw[nh a,nt,AJ]
   have d:Fm No H ((aH H (aB 0 [uN 0,zS,zS,.aA,.aA,iN 0])).put H.nx (aB 0 (oH J[i]))):=by exact zL
   have N:=HL (X:=X) F J[i].t.k J[i].t.rl J[i].t.to B;have next:∀(x:AV) (p:Hp),Ac 3 gC H0 p x (mC X T F (J.take (i+1)))->Ok (oE (C j) (BZ (C j) q (.ptr bw 0) (.ptr bg 0) A (iN (J.length)) k) x (iN i) p) D:=λx p y=>by
    unfold oE;refine aS ?_;refine aPA es g G B I m l n K o S L k (i+1) x p om om ?_ y;rw[M,nj];split
    ·simp;omega
    ·omega
   rw[M]at next
   cases s:J[i].t.leaf with
   |none=>
    rw[s]at r next
    rw[sB rfl,DN]at next
    have O:wS none=.int .i64 (.negSucc 0):=rfl;rw[r]at z d;refine dS R z ?_;exact next v _ (ha.no d)
   |some c=>
    rw[s]at r next
    have O:wS (some c)=iN c:=rfl;rw[O]at r;have Q:(0:Nat)<=c:=vy c;have P:=RJ (X:=X) (e:=J[i]) (g:=F) (t:=t) es ((g.fm f G).fm d om) (by have:=d.nx;omega) B (Z.fm (f.trans d)) o2 o3;rw[r]at z d P;refine dG R z W Y vV V Q ?_;refine Ok.ve P ?_;rintro _ p ⟨u,w,rfl,y,_⟩;refine Ok.ve ((ha.no (d.trans y.fm)).app y.gl 48 om om) ?_;intro v3 H3 h3;exact next v3 H3 h3
  ·simp only[go_sem,a];rw[AQ om]at ha;exact L v H ha
theorem Sj(a:1<=N)(h:Ac 3 gC H0 H sv U):Ok (C N (.f 65) [sv] H) λw H'=>H'=H/\Ac 3 gC H0 H w U/\dX w=.val (iN (U.length)):=by obtain⟨j,rfl⟩:=aO a;obtain⟨w,e,c,d,g⟩:=h.gl.clip;refine⟨w,H,?_,rfl,⟨c,h.fm,λb f=>h.nw b om⟩,d⟩;rw[lk (zqi ..)];unfold Y3;simp only[go_sem,h.bF,e]
theorem Fo.Rt.k{N:SS->Prop}:∀{f:Fo},f.Rt N->f.All λk _ _=>k<256
 | .nil,_=>trivial
 | .cons k rl to a r,⟨h1,h2,h3⟩=>by refine⟨?_,Fo.Rt.k h2,Fo.Rt.k h3⟩;omega
theorem zte(n:7<=mb)(L:MB Hb H b T E U)(M:b<H.nx)(N:T.length<=20)(D:jK X o H P most tl)(d:bV X)(O:tl.length<300)(f:(F.1.1,F.2)∈aF X):Ok (C mb (.f 137) [.agg [P,.map b],.agg (gC F)] H) λr H'=>Ac 3 gC H H' r (gK X T F)/\dX r=.val (iN ((gK X T F).length)):=by
 obtain⟨j,rfl⟩:=aO n;rw[lk (zps ..)];unfold VZ;have q:gC F=[.str F.1.1.n F.1.1.a,.str F.1.2.n F.1.2.a,.str F.2.n F.2.a]:=rfl;have s:Fm No H (aH (aH H (aB 0 [P,.map b])) (aB 0 (gC F))):=om;rw[q]at s ⊢;refine aS ?_;refine Ok.ve (Nk (k:=j) om (D.fm s) d O F.1.1 F.2 (Q:=λr H1=>∃(es:dA X F.1.1 F.2<tl.length) (e:iG),Fm No (aH (aH H (aB 0 [P,.map b])) (aB 0 (gC F))) H1/\IV X (aH (aH H (aB 0 [P,.map b])) (aB 0 (gC F))) H1 tl[dA X F.1.1 F.2] e/\r=.aX [.agg (sM e),iN 0]) (om) λh=>absurd f h) ?_;rintro _ H1 ⟨es,e,m,I,rfl⟩;have t:sM e=[.str e.p.1.n e.p.1.a,.str e.p.2.r.name.n e.p.2.r.name.a,iN (e.n),iN (e.st),e.tv,e.nv]:=rfl;obtain⟨x,J,W⟩:=li d.al d.sp f;have u:e.p=(F.1.1,x):=by have:=congrArg (λl=>l[dA X F.1.1 F.2]?) D.p;simp only[AS,W,j0 es,ug,AH]at this;rw[I.p];exact this
 obtain⟨p,A,B,_,_⟩:=cL J;have i:=(d.pr.x p A x B).2.2.1;have a:=I.ok.nd;rw[u]at a;have R:e.es.length<=32:=by have:=congrArg List.length a.is;rw[vu,Fo.fJ]at this;simp only at this;have:=Fo.jQ x.r.rule.fo;have:=i.sz;have:=x.r.rule.pN;omega
 have S:=s.trans (by rw[<-q];exact m);have K:=m.nx;simp only[np]at K;have c:Fm No H1 ((aH H1 (aB 0 [zS,zS,iN 0,iN 0,.aA,.aA])).put H1.nx (aB 0 (sM e))):=om;have V:=a.gl.bF;rw[t]at c ⊢;refine dI V ?_;rw[dD];have z:=S.trans c;refine aPA (j:=j) (by omega) (L.fm z M) (by have:=z.nx;omega) N (bw:=H.nx) (bg:=H.nx+1) (t:=P) (by rw[(m.trans c).keep (by(first|go_size|omega))];simp(disch:=first|go_size|omega)only[go_sem,rB,rI,rK,rL,rN,rS,r6]) (by have:=c.nx;omega) (by rw[(m.trans c).keep (by(first|go_size|omega)),q];simp(disch:=first|go_size|omega)only[go_sem,rB,rI,rK,rL,rN,rS,r6]) (by have:=c.nx;omega) ((a.gl.rs lF).fm c) (λy g=>⟨(a.ok y g).fm c,AL (LX d.pr _ _ _) (by omega),?_⟩) (by omega) (λv H2 G=>?_) bT 0 .aA _ (vy _) (by rw[rO];omega) (vy _) (Ac.nil _ _ (Fm.refl _ _))
 ·have n:=Fo.nN (λmb _ _=>mb<256) _ 0 0 (Fo.lS Nm _ (x.r.rule.wJ i.fit)).k y.t (by rw[<-a.is];exact ik g);exact n
 ·unfold JL;rw[z8o J a.is]at G;refine Ok.ve (Sj om G) ?_;rintro w _ ⟨rfl,Y,Z⟩;exact Ok.ret ⟨Y.trans z,Z⟩
abbrev tJ(H:Hp)(b:Nat)(ps:List G3):Prop:=kY p9 (λi=>i) H b ps
theorem tJ.put(h:tJ H b U){x:G3}(a:x∉U):∃k,jN ⟨kX,some 3⟩ H (.map b) (.agg (gC x)) (iN (U.length))=.ok .undef (H.put b k)/\tJ (H.put b k) b (U++[x]):=h.upd (s:=some 3) ji (λ_=>rfl) a
theorem tJ.has(h:tJ H b U)(a:F∈U):∃n:Nat,mX ⟨kX,some 3⟩ (iN 0) true H (.map b) (.agg (gC F))=.val (.aX [iN n,.bool true]):=by have:=h.look (s:=some 3) ji (λ_=>rfl) (iN 0) true F;rw[sB a]at this;exact⟨_,this⟩
theorem tJ.not(h:tJ H b U)(a:F∉U):mX ⟨kX,some 3⟩ (iN 0) true H (.map b) (.agg (gC F))=.val (.aX [iN 0,.bool false]):=by have:=h.look (s:=some 3) ji (λ_=>rfl) (iN 0) true F;rw[sy a]at this;exact this
structure FT(Hx H:Hp)(w:AV)(mb:Nat)(l:List G3):Prop where
 a:Ac 3 gC Hx H w l
 m:tJ H mb l
 lt:mb<H.nx
 ge:Hx.nx<=mb
theorem FT.no(h:FT H1 H w mb U)(f:Fm No H H'):FT H1 H' w mb U:=⟨h.a.no f,h.m.eq (f.keep h.lt),AE h.lt f.nx,h.ge⟩
attribute [grind .] FT.no
theorem Vl{l:List G3}(h:Gl 3 H w n cs)(g:tJ H mb U)(i:In w c):c≠mb:=λe=>by
 subst e;obtain⟨_,_,_,_,a⟩:=i;obtain⟨es,d,b,_⟩:=g.ex;rcases h.is with⟨f,_⟩|⟨k,o,x,q,L,f,j,_⟩
 ·simp_all
 ·rw[f]at a;injection a with a;rw[<-a,j]at b;cases b
theorem FT.put(h:FT H' H w mb U)(k:cZ):Ac 3 gC H' (H.put mb k) w U:=
 ⟨h.a.gl.fm ((Fm.refl (· =mb) H).put mb k λ_=>rfl) λc a=>Vl (l:=U) h.a.gl h.m a,h.a.fm.put mb k λb=>by have:=h.ge;omega,h.a.nw⟩
theorem FT.add{l:List G3}{x:G3}(a:Ac 3 gC H1 H w l)(m:tJ H mb (l++[x]))(h:mb<H.nx)(i:H1.nx<=mb)(p:l.length<=1000000):Ok (jD 3 48 H w (some ⟨1,gC x⟩)) λw' H'=>FT H1 H' w' mb (l++[x])/\Fm (In w) H H'/\∀b,In w' b->H.nx<=b:=by
 obtain⟨H',e,n,_,d,nx'⟩:=a.gl.append (k:=1) (w:=48) (x:=gC x) om rfl om om;refine⟨_,H',e,⟨⟨?_,a.fm.then d λc g j=>by have:=a.nw c j;omega,λb f=>?_⟩,m.eq (d.get mb h λg=>Vl (l:=l) a.gl m g rfl),om,i⟩,d,λb f=>?_⟩
 ·simp_all
 ·obtain⟨_,_,_,_,o⟩:=f
  grind
 ·obtain⟨_,_,_,_,o⟩:=f;simp_all
variable{h:List G3}
theorem aPP{j:Nat}{Hx:Hp}{mb c0:Nat}(A:wE U I)(i:∀x∈h,x∈U)(K:U.length<=1000)(t:h.length<=100000)(L:c0<=1000000)(q:∀w H,FT Hx H w mb (jE I h)->Ok (M w (iN ((c0+h.length))) H) D):∀(k m:Nat) (w:AV) (H:Hp),m<=h.length->h.length-m<k->FT Hx H w mb (jE I (h.take m))->Rs 3 gC H sv h->(∀b,In sv b->¬In w b/\b≠mb/\b<H.nx) -> Ok (tS (C j) M (.map mb) sv (iN (h.length)) k w (iN ((c0+m))) (iN m) H) D
 |0,m,_,_,_,a,_,_,_=>om
 |k+1,m,w,H,hm,hk,ha,hr,hd=>by
  show Ok (JK (C j) _ _ _ _ (tS (C j) _ _ _ _ k) _ _ _ H) D;unfold JK;by_cases c:m<h.length
  ·simp only[go_sem,c];rw[kE F1];unfold F1;obtain⟨b,p,F,_,s⟩:=hr.oG c;have B:gC h[m]=[.str h[m].1.1.n h[m].1.1.a,.str h[m].1.2.n h[m].1.2.a,.str h[m].2.n h[m].2.a]:=rfl;have r:Fm No H ((aH H (aB 0 [zS,zS,zS])).put H.nx (aB 0 (gC h[m]))):=om;have g:=ha.no r;have v:wE U (jE I (h.take m)):=A.add λx f=>i x (AP f);have P:=v.len;have T:=ha.lt;have R:=ha.a.bF;have next:∀(e:AV) (d:Hp),FT Hx d e mb (jE I (h.take (m+1)))->Rs 3 gC d sv h->(∀b,In sv b->¬In e b/\b≠mb/\b<d.nx)->Ok (kA xo (C j) (tS (C j) M (.map mb) sv (iN (h.length)) k) e (iN ((c0+m+1))) (iN m) d) D:=λe d u N O=>by
    rw[kE xo];unfold xo;refine aS ?_;exact aPP A i K t L q k (m+1) e d om om u N O
   rw[Qx I c]at next
   by_cases f:h[m]∈jE I (h.take m)
   ·obtain⟨n,lk⟩:=g.m.has f;rw[sB f]at next
    rw[B]at s r g lk;refine gW F s lk ?_
    grind
   ·have lk:=g.m.not f;rw[sy f]at next
    obtain⟨z,G,l⟩:=g.m.put f;have Q:=g.put z;have E:Fm (· =mb) H (((aH H (aB 0 [zS,zS,zS])).put H.nx (aB 0 (gC h[m]))).put mb z):=(r.mono om).put mb z om;rw[B]at s r g lk G l Q E;refine lW F s lk G R ?_;have S:=E.push (aB 0 (gC h[m]));refine Ok.ve (FT.add (x:=h[m]) (Q.no ((Fm.refl _ _).push (aB 0 (gC h[m])))) (l.eq (EX _ _ _ gz)) gz ha.ge om) ?_;rintro e d ⟨u,J,W⟩;have y:=hr.dR S λb o a=>(hd b o).2.1 a;have V:=J.nx;refine next e d u (y.dR J λb o a=>(hd b o).1 a) λb o=>⟨λa=>?_,(hd b o).2.1,?_⟩
    ·grind
    ·grind
  ·simp only[go_sem,c]
   grind
def cO(R:G3->List G3)(l:List G3):Nat:=(l.map λg=>(R g).length).sum
theorem Ge:∀(r l:List G3),∃s,jE l r=l++s
 | [],l=>⟨[],by simp[jE]⟩
 |x::r,l=>by obtain⟨s,h⟩:=Ge r (if x∈l then l else l++[x]);refine⟨(if x∈l then[]else[x])++s,?_⟩;show jE (if x∈l then l else l++[x]) r=_;rw[h];split<;>simp
theorem zt1{R:G3->List G3}{r:List G3}(h:i<U.length):cO R ((jE U r).take (i+1))=cO R (U.take i)+(R U[i]).length:=by obtain⟨s,e⟩:=Ge r U;rw[e,xm h,nh h];simp only[cO,AO,List.sum_append,cu,List.sum_singleton]
theorem O4{R:G3->List G3}(h:∀g,(R g).length<=n):∀l:List G3,cO R l<=n*l.length
 | []=>vy _
 |x::l=>by have:=O4 h l;have:=h x;simp only[cO,og,List.sum_cons,nk,Nat.mul_succ]at *;omega
theorem Vh{j:Nat}(z:7<=j)(A:MB Hb H' b T E I)(e:b<H'.nx)(B:jK X o H' sv most tl)(Q:H'.get pb=aB 0 [sv,.map b])(f:pb<H'.nx)(m:bV X)(n:T.length<=20)(es:tl.length<300)(g:jy X U (gK X T))(F:∀w H,Ac 3 gC H' H w h->Ok (M w (iN (cO (gK X T) h)) H) D):∀(k i:Nat) (l:List G3) (w:AV) (H:Hp),i<=l.length->U.length-i<k->wE U l->eV (gK X T) k i l=h->FT H' H w mb l -> Ok (zA (C j) M (.ptr pb 0) (.map mb) k w (iN (cO (gK X T) (l.take i))) (iN i) H) D
 |0,i,_,_,_,_,d,_,_,_=>om
 |k+1,i,l,w,H,hi,hk,hl,hr,ha=>by
  show Ok (Y9 (C j) _ _ _ (zA (C j) _ _ _ k) _ _ _ H) D;unfold Y9;have O:=hl.len;have P:=g.n;have G:=ha.a.bF;have p:=ha.a.fm;unfold eV at hr;by_cases a:i<l.length
  ·rw[dif_pos a]at hr;have s:¬i=l.length:=om;simp only[go_sem,G,s];rw[kE F0];unfold F0;have u:=hl.sub _ (sx a);obtain⟨Z,oo,d1,d2,d0,J,_⟩:=(ha.a.rs vV).at' i a;have K:List.take 3 (gC l[i])=gC l[i]:=rfl;have w1:=(p.keep f).trans Q;have nx:=p.nx;simp only[go_sem,seval,w1,d1,J,vV,K];refine Ok.iC (zte z (A.fm p e) om n (B.fm p) m es (g.dc _ u)) ?_;rintro rv y c;replace c:Ac 3 gC H y rv (gK X T l[i]):=c.1;have v:=c.fm;have R:eY (y.get Z) oo 3=some (gC l[i]):=by rw[v.keep d2];exact J
   have S:=(v.keep (show pb<H.nx by omega)).trans w1;have V:=c.bF;have W:=Fz (X:=X) m n l[i];simp only[go_sem,S,R,vV,K,V];rw[dD];have x:=O4 (Fz (X:=X) m n) (l.take i);rw[sY]at x;refine aPP (j:=j) (c0:=cO (gK X T) (l.take i)) (Hx:=H') (mb:=mb) hl (g.cl _ u) om om om (λL q N=>?_) bT 0 w y (vy _) lf (by simpa [jE] using ha.no v) (c.rs vV) (λb e=>⟨λd=>?_,?_,c.gl.lt e⟩)
   ·unfold JJ;refine aS ?_;rw[<-zt1 (r:=gK X T l[i]) a];exact Vh z A e B Q f m n es g F k (i+1) (jE l (gK X T l[i])) L q (by have:=La (gK X T l[i]) l;omega) om (hl.add (g.cl _ u)) hr N
   ·have:=ha.a.gl.lt d;have:=c.nw b e;omega
   ·have:=c.nw b e;have:=ha.lt;omega
  ·rw[dif_neg a]at hr;subst hr;have Y:i=l.length:=om;simp only[go_sem,G,Y];rw[AQ (by omega)];exact F w H ha.a
theorem Ux{k:Nat}(p:8<=k)(s:MB Hb H b T E I)(u:b<H.nx)(v:T.length<=20)(y:jK X o H P most tl)(A:bV X)(B:tl.length<300)(m:jy X U (gK X T))(D:F∈U):Ok (C k (.f 90) [.agg [P,.map b],.agg (gC F)] H) λr H'=>∃w,r=.aX [w,iN (cO (gK X T) (iU (gK X T) F))]/\Ac 3 gC H H' w (iU (gK X T) F)/\dX w=.val (iN ((iU (gK X T) F).length)):=by
 obtain⟨j,rfl⟩:=aO p;rw[lk (zpr ..)];unfold VY;have n:gC F=[.str F.1.1.n F.1.1.a,.str F.1.2.n F.1.2.a,.str F.2.n F.2.a]:=rfl;have e:Fm No H (aH (aH H (aB 0 [P,.map b])) (aB 0 (gC F))):=om;have G:=m.n;obtain⟨l,J,K⟩:=tJ.put (kY.nil p9 (λi=>i) (uR (aH (aH (aH H (aB 0 [P,.map b])) (aB 0 (gC F))) (aB 0 (gC F))) (.map [] 0))) (x:=F) g3;have q:FT (aH (aH H (aB 0 [P,.map b])) (aB 0 (gC F))) ((aH (aH (aH (aH H (aB 0 [P,.map b])) (aB 0 (gC F))) (aB 0 (gC F))) (.map [] 0)).put (H.nx+3) l) (.sl (H.nx+2) 0 1 1 true) (H.nx+3) [F]:=by
  have a:=Ac.new1 (z:=3) (f:=gC) (H0:=aH (aH H (aB 0 [P,.map b])) (aB 0 (gC F))) F rfl;refine⟨⟨a.gl.fm (((Fm.refl (λc=>c=H.nx+3) _).push (.map [] 0)).put _ l om) λc es=>?_,om,a.nw⟩,K,gx,gx⟩;obtain⟨_,_,_,_,h⟩:=es
  grind
 have d:jN ⟨kX,some 3⟩ (aH (aH (aH (aH H (aB 0 [P,.map b])) (aB 0 (gC F))) (aB 0 (gC F))) (.map [] 0)) (.map (H.nx+3)) (.agg (gC F)) (iN 0)=.ok .undef ((aH (aH (aH (aH H (aB 0 [P,.map b])) (aB 0 (gC F))) (aB 0 (gC F))) (.map [] 0)).put (H.nx+3) l):=J;have k0:(aH (aH H (aB 0 [P,.map b])) (aB 0 (gC F))).get H.nx=aB 0 [P,.map b]:=om;rw[n]at d ⊢;refine dI d ?_;rw[kE FZ];unfold FZ;rw[dD,<-n];refine Vh (j:=j) om (s.fm e u) (by have:=e.nx;omega) (y.fm e) k0 g1 A v B m (λw H1 g=>?_) bT 0 [F] _ _ om lf (wE.one D) rfl q;refine Ok.ve (Sj om g) ?_;rintro L _ ⟨rfl,M,N⟩;exact Ok.ret ⟨L,rfl,M.trans e,N⟩
def s8(g:G3):Bool:=l9 g.1.1&&(l9 g.1.2&&l9 g.2)
theorem znk{k:Nat}(c:8<=k)(h:jK X o H sv most tl)(d:bV X)(f:tl.length<300)(g:G3):Ok (C k (.f 107) [sv,.agg (gC g)] H) λr H'=>r=.bool (s8 g&&decide ((g.1.1,g.2)∈aF X))/\Fm No H H':=by
 obtain⟨j,rfl⟩:=aO c;rw[lk (zpt ..)];unfold V0;have i:gC g=[.str g.1.1.n g.1.1.a,.str g.1.2.n g.1.2.a,.str g.2.n g.2.a]:=rfl;rw[i];have m:Fm No H (aH H (aB 0 [.str g.1.1.n g.1.1.a,.str g.1.2.n g.1.2.a,.str g.2.n g.2.a])):=om;refine aS ?_;refine Ok.ve (M7 (k:=j) om g.1.1 g.1.2 g.2 _) ?_;rintro _ H1 ⟨rfl,b⟩;have a:=m.trans b;have k0:=(b.keep om).trans (uR _ _);rw[show(l9 g.1.1&&(l9 g.1.2&&l9 g.2))=s8 g from rfl];cases q:s8 g with
 |false=>have e:kj false=6:=rfl;simp only[go_sem,seval,e,k0];exact Ok.ret ⟨rfl,a⟩
 |true=>have e:kj true=0:=rfl;simp only[go_sem,seval,e,k0];refine Ok.ve (z2k (k:=j) om (h.fm a) d f g.1.1 g.2) ?_;rintro _ n ⟨rfl,p⟩;exact Ok.ret ⟨rfl,om⟩
theorem Qe{j:Nat}{H0:Hp}{b wb:Nat}{tv v:AV}{l:List Tu}(F:Rs 6 Tu.cells H0 v l)(u:∀c,In v c->c≠b)(G:H0.get wb=aB 0 [tv,.map b])(g:wb<H0.nx)(m:wb≠b)(o:b<H0.nx)(N:l.length<=1000){Q:pL}{q:pH}(O:∀H es t,MB H0 H b l es t->Fm (· =b) H0 H->Ok (q H) Q):∀(k i:Nat) (H:Hp) (es:List eT) (t:List G3),i<=l.length->l.length-i<k->MB H0 H b (l.take i) es t->Fm (· =b) H0 H -> Ok (GK (C j) q (.ptr wb 0) v (iN (l.length)) k (iN i) H) Q
 |0,i,_,_,_,_,h,_,_=>om
 |k+1,i,H,es,t,hi,hk,hM,f=>by
  show Ok (Jo (C j) _ _ _ _ (GK (C j) _ _ _ _ k) _ H) Q;unfold Jo;by_cases a:i<l.length
  ·simp only[go_sem,a];unfold Zc;obtain⟨bb,oo,W,_,J⟩:=(F.dR f om).oG a;have P:l[i].cells=[.str l[i].a.n l[i].a.a,.str l[i].b.n l[i].b.a,.str l[i].c.n l[i].c.a,.str l[i].x.n l[i].x.a,.str l[i].y.n l[i].y.a,.str l[i].z.n l[i].z.a]:=rfl;have R:gC (bR l[i])=[.str l[i].a.n l[i].a.a,.str l[i].b.n l[i].b.a,.str l[i].c.n l[i].c.a]:=rfl;have p:Fm No H (aH ((aH H (aB 0 [zS,zS,zS,zS,zS,zS])).put H.nx (aB 0 l[i].cells)) (aB 0 l[i].cells)):=om;have nx:=f.nx;have S:=(f.get wb g m).trans G;obtain⟨X,z,n,e,Y,A,d,B,r⟩:=(hM.fm p om).entry (by have:=p.nx;omega) (bR l[i]);have y:=d.val n e _ B r;have T:(rY (l.take i) (bR l[i])).length<=1000:=AL (ou _ _) om;obtain⟨Z,K,D,_,L,n4⟩:=y.append (k:=1) (w:=96) (x:=l[i].cells) om rfl om om;have n2:=p.nx;have U:(rY (l.take i++[l[i]]) (bR l[i]))=rY (l.take i) (bR l[i])++[l[i]]:=by rw[zmx,sB rfl]
   obtain⟨k2,E,M,s⟩:=d.store (show b<_ by simp only[nq];omega) o B r (by rw[U,nj,nt,AJ];exact D) L (λc I=>by obtain⟨_,_,_,_,h⟩:=I;cases h;exact .inr (AF _)) (by simp only[nq];omega);rw[<-nh a]at s;have V:Fm (· =b) H0 (Z.put b k2):=(((f.then p om).put b Y om).then L λc I h=>by have:=d.nw n e c B h;omega).put b k2 om;rw[P]at J p A K;rw[R]at A;simp only[nq,np]at M;refine cF W J S A K M ?_;unfold N0;refine aS ?_;exact Qe (j:=j) F u G g m o N O k (i+1) _ E z om om s V
  ·simp only[go_sem,a]
   grind
deriving instance DecidableEq for Tu
abbrev zk:AV->AV->Option Bool:=dL (eqFields [((pA 3),⟨kX⟩,0),((pA 3),⟨kX⟩,3)])
abbrev P7:List AV:=[zS,zS,zS,zS,zS,zS]
theorem Tu.eq_iff(x y:Tu):x=y↔bR x=bR y/\fW x=fW y:=by
 constructor
 ·simp_all
 ·obtain⟨a,b,c,d,e,f,o⟩:=x;rintro ⟨g,h⟩;simp only[bR,fW,Prod.mk.injEq]at g h;simp_all
theorem zm3(neg:Bool)(x y:Tu):iQ neg (zk (.agg x.cells) (.agg y.cells))=.val (.bool (bif neg then !decide (x=y)else decide (x=y))):=by
 have e:zk (.agg x.cells) (.agg y.cells)=some (decide (x=y)):=by
  show andThen (kX (p9 (bR x)) (p9 (bR y))) (andThen (kX (p9 (fW x)) (p9 (fW y))) (some true))=_;rw[ji,ji];by_cases a:bR x=bR y
  ·by_cases b:fW x=fW y
   ·simp[andThen,a,b,Tu.eq_iff]
   ·simp[andThen,a,b,Tu.eq_iff]
  ·simp[andThen,a,Tu.eq_iff]
 rw[e];rfl
theorem aYX:An 6 Tu.cells zk P7:=⟨yZ,g4,zm3,rfl⟩
theorem q58(O:Ev.Call)(a:AV)(H:Hp):VW O a H=Dj O 6 zk P7 a H:=rfl
theorem q4h{k:Nat}(a:1<=k){q:Nat}{A:List AV}{S:List Tu}{e:Bool}(c:b<H.nx)(d:S.length<900000)(f:0<S.length)(g:H.get b=aB q (A++S.flatMap Tu.cells++[])):Ok (C k (.f 187) [.sl b A.length S.length S.length e] H) λw H'=>Am Tu.cells H b q A (j6 S) w e H':=by obtain⟨j,rfl⟩:=aO a;rw[lk (MC ..),q58];exact zy4 aYX c d f g
theorem zjc{k:Nat}(d:1<=k)(a:Gl 6 H sv T.length (T.flatMap Tu.cells))(m:T.length<=1000):Ok (C k (.f 184) [sv] H) λr H'=>Ac 6 Tu.cells H H' r T:=by
 obtain⟨j,rfl⟩:=aO d;rw[lk (zpo ..)];rcases a.is with⟨rfl,i⟩|⟨b,o,e,q,L,rfl,p,s,t,u,x⟩
 ·have:T=[]:=lE5.1 i;subst this;exact Ok.ret (Ac.nil _ _ om)
 ·show Ok (zw6 (C j) _ H) _;have g:Fm No H (aH H (aB 0 [])):=om;have h:=(a.no g).src;show Ok (ve (jD 6 96 (aH H (aB 0 [])) (.sl H.nx 0 0 0 true) (nP 6 (aH H (aB 0 [])) (.sl b o T.length T.length e))) λf H=>.ok f H) _;rw[h];refine Ok.ve (Qo yZ om gx om om) ?_;rintro w y ⟨g1,z,A⟩;refine Ok.ret ⟨g1,om,λc n=>?_⟩
  grind
theorem XX{R:α->α->Prop}(a:∀x y,R x y->¬R y x):∀{l m:List α},l.Pairwise R->m.Pairwise R->(∀x,x∈l↔x∈m)->l=m
 | [],[],_,_,_=>rfl
 | [],y::m,_,_,h=>absurd ((h y).2 vA) g3
 |x::l,[],_,_,h=>absurd ((h x).1 vA) g3
 |x::l,y::m,hl,hm,h=>by
  rw[yg]at hl hm;have e:x=y:=by
   rcases lE4.1 ((h x).1 vA)with e|h1
   ·exact e
   ·rcases lE4.1 ((h y).2 vA)with e|h2
    ·exact e.symm
    ·exact absurd om om
  subst e;congr 1;refine XX a hl.2 hm.2 λz=>⟨λb=>?_,λb=>?_⟩
  ·grind
  ·grind
theorem zj6{c:List Tu}(e:lI T)(d:∀t∈c,t.lo)(f:∀t,t∈c↔t∈T)(g:c.Pairwise λa b=>¬b.key<a.key):j6 c=T:=
 XX (om) (znl (R:=λa b=>a.key<b.key) om (λx h y i j k=>(d x h).inj om om) g) e λ_=>qqr.trans (f _)
structure bBH(c:Ev.Call):Prop where
 srt:∀(H:Hp) (v:AV) (l:List Tu),Gl 6 H v l.length (l.flatMap Tu.cells)->l.length<=1000->(∀t∈l,t.lo)->Ok (c (.f 185) [v,.fn 186 [] []] H) λr H'=>r=.aX []/\∃l':List Tu,l'.Perm l/\(l'.Pairwise λa b=>¬b.key<a.key)/\Gl 6 H' v l'.length (l'.flatMap Tu.cells)/\Fm (In v) H H'
abbrev uK(C:Nat->Ev.Call):Prop:=∀k,bBH (C (k+1))
end Go.Di
end
noncomputable section
namespace Go.Di
open Go.Ev
def mG(l:List UInt8):SS:=⟨l.length,kU l⟩
theorem aQ3{l:List UInt8}(h:l.length=0):kU l=0:=by rw[lE5.1 h];rfl
def qn(e:Tb):Tu:=⟨mG e.1.1.1.data.toList,mG e.1.1.2.data.toList,mG e.1.2.data.toList,mG e.2.1.1.data.toList,mG e.2.1.2.data.toList,mG e.2.2.data.toList,aQ3⟩
theorem UA(es:List Tb):(es.map qn).flatMap Tu.cells=es.flatMap yU:=by rw[uf];rfl
def stB:List (List UInt8):=[[],[49],[50],[51],[52],[97],[98],[99],[114,48],[114,49],[114,50],[114,51],[114,111,111,116],[117,115,101,114]]
theorem zyh:stB.map mG=iB:=by decide
theorem Ab{s:SS}(h:s∈iB):∃x:ByteArray,s=mG x.data.toList:=by rw[<-zyh]at h;obtain⟨l,_,rfl⟩:=lEA.1 h;exact⟨⟨⟨l⟩⟩,rfl⟩
theorem zyb:∀{l:List Tu},(∀t∈l,t.lo)->∃es:List Tb,l=es.map qn
 | [],_=>⟨[],rfl⟩
 |t::l,h=>by obtain⟨es,e⟩:=zyb λq k=>h q (DQ _ k);obtain⟨d,f,g,i,j,m⟩:=h t vA;obtain⟨a,n⟩:=Ab d;obtain⟨b,o⟩:=Ab f;obtain⟨c,p⟩:=Ab g;obtain⟨x,r⟩:=Ab i;obtain⟨y,s⟩:=Ab j;obtain⟨z,u⟩:=Ab m;refine⟨(((a,b),c),((x,y),z))::es,?_⟩;congr 1;cases t;subst n o p r s u;rfl
theorem Lr{s t:ByteArray}(a:mG s.data.toList∈iB)(b:mG t.data.toList∈iB):(lN s t<0↔rk (mG s.data.toList)<rk (mG t.data.toList))/\(lN s t=0↔rk (mG s.data.toList)=rk (mG t.data.toList)):=by
 have e:∀{l:List UInt8},mG l∈iB->l∈stB:=λ{l} h=>by rw[<-zyh]at h;obtain⟨m,c,e⟩:=lEA.1 h;injection e with e1 e2;rw[<-bS e1 e2];exact c
 have d:∀x∈stB,∀y∈stB,(Lib.compareBytes x y<0↔rk (mG x)<rk (mG y))/\(Lib.compareBytes x y=0↔rk (mG x)=rk (mG y)):=by decide
 exact d _ (e a) _ (e b)
theorem Lb{a b:Int}{m n p q:Nat}(W:Nat)(c:(a<0↔m<n)/\(a=0↔m=n))(d:(b<0↔p<q)/\(b=0↔p=q))(e:p<W)(f:q<W):(uT a b<0↔m*W+p<n*W+q)/\(uT a b=0↔m*W+p=n*W+q):=by
 obtain⟨c,g⟩:=c;have k:∀{i j:Nat},i<j->i*W+W<=j*W:=λ{i j} h=>by have:=vL W (show i+1<=j from h);rwa [Nat.succ_mul]at this
 unfold uT;rcases Nat.lt_trichotomy m n with h|h|h
 ·have:=k h;omega
 ·simp_all
 ·have:=k h;omega
theorem znv{x y:Tb}(c:(qn x).lo)(d:(qn y).lo):zB x y<0↔(qn x).key<(qn y).key:=by
 have e:∀a b:B3,mG a.1.1.data.toList∈iB->mG a.1.2.data.toList∈iB->mG a.2.data.toList∈iB->mG b.1.1.data.toList∈iB->mG b.1.2.data.toList∈iB->mG b.2.data.toList∈iB ->
   (rG (rG lN lN) lN a b<0↔k3 (mG a.1.1.data.toList) (mG a.1.2.data.toList) (mG a.2.data.toList)<k3 (mG b.1.1.data.toList) (mG b.1.2.data.toList) (mG b.2.data.toList))/\(rG (rG lN lN) lN a b=0↔k3 (mG a.1.1.data.toList) (mG a.1.2.data.toList) (mG a.2.data.toList)=k3 (mG b.1.1.data.toList) (mG b.1.2.data.toList) (mG b.2.data.toList)):=
  λa b i f e j g h=>Lb 16 (Lb 16 (Lr i j) (Lr f g) (du f) (du g)) (Lr e h) (du e) (du h)
 exact(Lb 4096 (e x.1 y.1 c.a c.b c.c d.a d.b d.c) (e x.2 y.2 c.x c.y c.z d.x d.y d.z) (xh c.x c.y c.z) (xh d.x d.y d.z)).1
theorem q4p(f i:FuncId)(e:cj){H:Hp}{v:AV}{l:List Tu}(j:∀t∈l,t.lo)(h:Gl 6 H v l.length (l.flatMap Tu.cells))(s:l.length<=1000):∃r,xz f i e f [v,.fn i [] []] H=some r/\Ok r λr H'=>r=.aX []/\∃c:List Tu,c.Perm l/\(c.Pairwise λa b=>¬b.key<a.key)/\Gl 6 H' v c.length (c.flatMap Tu.cells)/\Fm (In v) H H':=by
 have m:∀n:Nat,Nat.beq n n=true:=λn=>uo n;rcases h.is with⟨rfl,B⟩|⟨b,o,x,q,L,rfl,p,C,g,D,E⟩
 ·have:l=[]:=lE5.1 B;subst this;refine⟨.ok (.aX []) H,?_,?_⟩
  ·unfold xz;simp only[m,AN]
  ·exact Ok.ret ⟨rfl,[],.refl _,.nil,h,Fm.refl _ _⟩
 ·obtain⟨es,rfl⟩:=zyb j;rw[UA]at g;rw[vu]at s ⊢;have z:o+es.length*6=L.length:=by
   have:=congrArg List.length g;rw[oz,BC]at this;omega
  have d:((eC es).flatMap yU).length=es.length*6:=by rw[BC,LM]
  have A:C1 H b o es.length=some (.ok (.aX []) (H.put b (aB q (aY L o ((eC es).flatMap yU))))):=by
   unfold C1;rw[p,y7,sB (by omega),g,AQ (by rw[BC];omega)];simp only[ztm];rw[h7 H b o _ _ q L p (by omega)];have:Nat.blt es.length 4611686018427387904=true:=by rw[Nat.blt_eq];omega
   simp only[this,AN]
  obtain⟨p1,F⟩:=zbm es;refine⟨_,by unfold xz;simp only[m,AN];exact A,Ok.ret ⟨rfl,(eC es).map qn,p1.map _,?_,?_,(Fm.refl _ _).put b _ λ_=>⟨_,_,_,_,rfl⟩⟩⟩
  ·rw[List.pairwise_map];have lo:∀x∈eC es,(qn x).lo:=λx u=>j _ (ik (p1.mem_iff.1 u));exact F.imp_of_mem λw y h k=>h ((znv (lo _ y) (lo _ w)).2 k)
  ·rw[UA,vu,LM];refine⟨by rw[d],.inr ⟨b,o,x,q,aY L o ((eC es).flatMap yU),rfl,gX _ _ _,?_,?_,D,E⟩⟩
   ·rw[A7 _ _ _ (by omega)];exact C
   ·unfold aY;simp_all
namespace Fo
def qE:Fo->Prop
 |nil=>True
 |cons k _ _ a r=>a.no k/\a.qE/\r.qE
theorem zy7(k:Nat):∀f g:Fo,(f.app g).no k↔f.no k/\g.no k
 |nil,g=>by simp[app,no]
 |cons k' rl to a r,g=>by simp only[app,no,zy7 k r g];exact⟨λ⟨a,b,c⟩=>⟨⟨a,b⟩,c⟩,λ⟨⟨a,b⟩,c⟩=>⟨a,b,c⟩⟩
theorem zy8:∀f g:Fo,(f.app g).qE↔f.qE/\g.qE
 |nil,g=>by simp[app,qE]
 |cons k rl to a r,g=>by simp only[app,qE,zy8 r g];exact⟨λ⟨a,b,c,d⟩=>⟨⟨a,b,c⟩,d⟩,λ⟨⟨a,b,c⟩,d⟩=>⟨a,b,c,d⟩⟩
theorem zyi(k:Nat):∀f:Fo,f.qE->(spl k f).qE/\(spl k f).no k
 |nil,_=>⟨trivial,trivial⟩
 |cons k' rl to a r,⟨h1,h2,h3⟩=>by
  obtain⟨b,c⟩:=zyi k r h3;unfold spl;split
  ·next h=>exact⟨(zy8 _ _).2 ⟨h2,b⟩,(zy7 _ _ _).2 ⟨h.1▸h1,c⟩⟩
  ·next h=>exact⟨⟨h1,h2,b⟩,h,c⟩
theorem y8:∀f:Fo,f.flat.qE
 |nil=>trivial
 |cons k rl to a r=>by obtain⟨b,c⟩:=zyi k _ (y8 a);exact⟨c,b,y8 r⟩
theorem qJ:∀f:Fo,f.qE->f.flat=f
 |nil,_=>rfl
 |cons k rl to a r,⟨h1,h2,h3⟩=>by rw[flat,qJ a h2,qJ r h3,xR k a h1]
end Fo
def sf(k:Nat):List Bool->Bool
 | []=>false
 |x::l=>if k=4 then x||l.any id else if k=5 then x&&l.all id else x&& !l.any id
theorem Ji:∀l:List Bool,sf 4 l=l.any id
 | []=>rfl
 |x::l=>rfl
theorem I3:∀l:List Bool,l≠[]->sf 5 l=l.all id
 | [],h=>absurd rfl h
 |x::l,_=>rfl
def Fo.vl(F:Nat->SS->SS->Bool):Fo->List Bool
 | .nil=>[]
 | .cons k rl to a r=>(if k<4 then F k rl to else sf k (a.vl F))::r.vl F
def Ru.val(F:Nat->SS->SS->Bool):Ru->Bool
 | .leaf k rl to=>F k rl to
 | .node k a b=>sf k [a.val F,b.val F]
variable {F G:Nat->SS->SS->Bool} {N:SS->Prop}
theorem Fo.aD6:∀f:Fo,(f.vl F).length=f.len
 | .nil=>rfl
 | .cons k rl to a r=>by rw[Fo.vl,nk,Fo.aD6 r,Fo.len]
theorem Fo.yX:∀f g:Fo,(f.app g).vl F=f.vl F++g.vl F
 | .nil,g=>rfl
 | .cons k rl to a r,g=>by rw[Fo.app,Fo.vl,Fo.yX r g,Fo.vl,qg]
theorem Fo.aBC:∀f:Fo,f.Rt N->((Fo.spl 4 f).vl F).any id=(f.vl F).any id
 | .nil,_=>rfl
 | .cons k' rl to a r,⟨_,h2,h3⟩=>by
  have ih:=Fo.aBC r h3;unfold Fo.spl;split
  ·next h=>rw[Fo.yX,pg,ih,Fo.vl,sy om,h.1,Ji];rfl
  ·rw[Fo.vl,List.any_cons,ih,Fo.vl,List.any_cons]
theorem Fo.aDA{a:Fo}(h:1<=a.len):a.vl F≠[]:=λe=>by have:=congrArg List.length e;rw[Fo.aD6]at this;simp only[DP]at this;omega
theorem Fo.Rt.two{k:Nat}{rl to:SS}{a r:Fo}(h:(Fo.cons k rl to a r).Rt N)(c:4<=k):2<=a.len:=by obtain⟨b,_,_⟩:=h;rcases b with b|b|b|b|b|b<;>omega
theorem Fo.aBN:∀f:Fo,f.Rt N->((Fo.spl 5 f).vl F).all id=(f.vl F).all id
 | .nil,_=>rfl
 | .cons k' rl to a r,h=>by
  have ih:=Fo.aBN r h.2.2;unfold Fo.spl;split
  ·next g=>have:=h.two om;rw[Fo.yX,List.all_append,ih,Fo.vl,sy om,g.1,I3 _ (Fo.aDA om)];rfl
  ·rw[Fo.vl,lq,ih,Fo.vl,lq]
theorem Fo.yL:∀f:Fo,f.Rt N->f.flat.vl F=f.vl F
 | .nil,_=>rfl
 | .cons k rl to a r,h=>by
  have c:=Fo.yL a h.2.1;have d:=Fo.lS N a h.2.1;obtain⟨_,j2⟩:=Fo.xO N 5 _ d;rw[Fo.dN]at j2;rw[Fo.flat,Fo.vl,Fo.vl,Fo.yL r h.2.2];congr 1;by_cases b:k<4
  ·rw[sB b,sB b]
  ·rw[sy b,sy b];have i:=h.two om;by_cases e:k=4
   ·subst e;rw[Ji,Ji,Fo.aBC _ d,c]
   by_cases g:k=5
   ·subst g;rw[I3 _ (Fo.aDA om),I3 _ (Fo.aDA om),Fo.aBN _ d,c]
   ·have:∀f:Fo,Fo.spl k f=f:=λf=>Fo.xR k f (by
     induction f with
     |nil=>trivial
     |cons _ _ _ _ _ _ ih=>exact⟨om,ih⟩)
    rw[this,c]
theorem Ru.aEi:∀r:Ru,r.Fit->r.fo.vl F=[r.val F]
 | .leaf k rl to,h=>by
  have:k<4:=by rcases h with h|h|h<;>omega
  simp[Ru.fo,Fo.vl,Ru.val,this]
 | .node k a b,⟨hk,ha,hb⟩=>by have:¬k<4:=om;simp[Ru.fo,Fo.vl,Ru.val,this,Fo.yX,Ru.aEi a ha,Ru.aEi b hb]
theorem Ru.mono:∀(r:Ru) (s:Bool),r.Fit->(∀y∈r.nodes s,(F y.k y.rl y.to=true->G y.k y.rl y.to=true)/\(y.neg=true->F y.k y.rl y.to=G y.k y.rl y.to)) -> (r.val F=true->r.val G=true)/\(s=true->r.val F=r.val G)
 | .leaf k rl to,s,_,h=>h ⟨k,rl,to,s⟩ (by simp[Ru.nodes])
 | .node k a b,s,⟨hk,fa,fb⟩,h=>by
  obtain⟨d,e⟩:=Ru.mono a s fa λy c=>h y (by simp[Ru.nodes,c]);obtain⟨f,g⟩:=Ru.mono b (s||decide (k=6)) fb λy c=>h y (by simp[Ru.nodes,c]);simp only[Ru.val,sf];rcases hk with rfl|rfl|rfl
  ·simp_all
   try grind
  ·simp_all
   try grind
  ·simp_all
end Go.Di
end
noncomputable section
namespace Go.Di
open Go.Ev
theorem z1q(a b:SS):dL (λxs c=>zI p1 ⟨bH⟩ 1 xs c 2 0) (.agg [.str a.n a.a,.str b.n b.a]) (.agg [.str a.n a.a,.str b.n b.a])=some true:=by show andThen (bH a.v a.v) (andThen (bH b.v b.v) (some true))=_;rw[cV,cV];simp[andThen]
variable{O P:Nat->Prop}
theorem zwj{k:Nat}(h:1<=k){H H0:Hp}{x y:NE}(a:x.key=y.key)(d:x.Ar P H0)(e:y.Ar O H0):Ok (C k (.f 251) [.agg (uZ x),.agg (uZ y)] H) λv H'=>v=.bool true/\Fm No H H':=by
 obtain⟨j,rfl⟩:=aO h;rw[lk (zph ..)];unfold VP uZ SS.v;have f:=d.gl.bF;have g:=e.gl.bF;have l:=d.gl.flat;have m:=e.gl.flat;obtain⟨o,b,c,p,q,r⟩:=x;obtain⟨s,t,u,w,z,A⟩:=y;simp only[NE.key,Prod.mk.injEq]at a;obtain⟨rfl,rfl,rfl,rfl⟩:=a;simp only at f g l m;have n:iQ false (dL (λxs i=>zI p1 ⟨bH⟩ 1 xs i 2 0) (.agg [.str b.n b.a,.str c.n c.a]) (.agg [.str b.n b.a,.str c.n c.a]))=.val (.bool true):=by rw[z1q];rfl
 refine gW f g n ?_;exact Ok.ret ⟨rfl,fm⟩
variable{U:pL}{V:pH}{h sv:AV}
theorem Yt{j:Nat}(c:1<=j){l m:List NE}{Hb:Hp}(d:Gl 5 Hb sv l.length (l.flatMap uZ))(f:Gl 5 Hb h m.length (m.flatMap uZ))(b:l.map NE.key=m.map NE.key)(g:∀e∈l,e.Ar P Hb)(n:∀e∈m,e.Ar O Hb)(t:l.length<=1000){qr:pD}(o:∀H,Fm No Hb H->Ok (V H) U):∀(k i:Nat) (H:Hp),i<=l.length->l.length-i<k->Fm No Hb H->Ok (D0 (C j) qr V h (.fn 251 [] []) sv (iN (l.length)) k (iN i) H) U
 |0,i,_,_,u,_=>om
 |k+1,i,H,hi,hk',hf=>by
  show Ok (YC (C j) _ _ _ _ _ _ (D0 (C j) _ _ _ _ _ _ k) _ H) U;unfold YC;have p:l.length=m.length:=by simpa using congrArg List.length b
  by_cases a:i<l.length
  ·refine dI a ?_;unfold NR;obtain⟨B,D,x,E,_,r,_⟩:=((d.no hf).rs Ih).at' i a;obtain⟨F,G,y,I,_,s,_⟩:=((f.no hf).rs Ih).at' i om;have e:=congrArg (λz=>z[i]?) b;simp only[AS,j0 a,j0 (show i<m.length by omega),ug,AH]at e;have R:=λH=>zwj (k:=j) c (H:=H) e (g _ (sx a)) (n _ (sx om));unfold uZ SS.v at r s R;have w:=hf.nx;refine jF x r y s ?_;refine Ok.ve (R _) ?_;rintro _ J ⟨rfl,A⟩;refine aS ?_;unfold zw0;refine aS ?_;exact Yt c d f b g n t o k (i+1) _ om om ((hf.trans fm).trans A)
  ·refine dI a ?_;exact o H hf
variable{I J:Fo}{N Z:List AV}
theorem z2l(w:iO C){k:Nat}(G:13<=k){H:Hp}(x:iM P H I Z)(y:iM O H J N)(n:I.Ok1)(z:J.Ok1)(o:I.jC 0=J.jC 0):Ok (C k (.f 202) [.agg Z,.agg N] H) λv H'=>v=.bool true/\Fm No H H':=by
 obtain⟨j,rfl⟩:=aO G;rw[lk (zpf ..)];unfold VN;obtain⟨kd,rl,to,a,av,ca,ds,s,_⟩:=x.one n.one;obtain⟨R,S,T,a2,sF,U,V,t,_⟩:=y.one z.one;have cs:Fm No H (aH H (aB 0 Z)):=fm;have q:Fm No H (aH (aH H (aB 0 Z)) (aB 0 N)):=fm;have K:=Gc w (k:=j) om ((pR.push (H:=H) (cs:=Z)).fm ((Fm.refl No _).push (aB 0 N))) (x.fm q) n;have L:pR (aH (aH H (aB 0 Z)) (aB 0 N)) (aH H (aB 0 Z)).nx 0 N:=pR.push;have A:=λH' (h:Fm No (aH (aH H (aB 0 Z)) (aB 0 N)) H')=>Gc w (k:=j) om (L.fm h) (y.fm (q.trans h)) z;simp only[np]at A;subst s;subst t;refine aS ?_;refine Ok.ve K ?_;rintro _ H1 ⟨W,l,d,rfl,g1,E,l1,_,F⟩;refine aS ?_;refine Ok.ve (A H1 F) ?_;rintro _ u ⟨X,m,d2,rfl,g2,k2,Y,_,c⟩;refine aS ?_;obtain⟨i,rfl⟩:∃i,j=i+1:=⟨j-1,om⟩;have b:l.map NE.key=m.map NE.key:=by rw[E,k2,o]
 have r:l.length=m.length:=by simpa using congrArg List.length b
 have M:l.length<=32:=by have:=congrArg List.length E;rw[vu,Fo.kI]at this;rw[this];exact n.sz
 have e:Ok (C (i+1) (.f 250) [W,X,.fn 251 [] []] u) λv H'=>v=.bool true/\Fm No u H':=by rw[lk (zpg ..)];unfold VO;have B:=(g1.no c).bF;have D:=g2.bF;rw[<-r]at D;refine dS B D ?_;unfold Y0;refine dI B ?_;rw[dD];refine Yt om (g1.no c) g2 b (λe f=>(l1 e f).fm (Q:=λ_=>True) c (λ_ _ _ h=>h) λ_ _ _=>trivial) Y om (λg p=>?_) bT 0 u (vy _) lf (Fm.refl _ _);unfold NF;exact Ok.ret ⟨rfl,p⟩
 refine Ok.ve e ?_;rintro _ g ⟨rfl,p⟩;exact Ok.ret ⟨rfl,((q.trans F).trans c).trans p⟩
variable {tg:SS->SS->List SS}
variable {H H':Hp} {i j z:Nat}
variable{F:List TE}
theorem vR.fm(h:vR tg H sv F I)(a:Fm No H H'):vR tg H' sv F I:=⟨h.gl.no a,h.is,λe b=>(h.ok e b).fm a⟩
theorem vR.at(h:vR tg H sv F I){t:TN}(a:(I.dK 0 0)[i]? =some t):∃(b o:Nat) (e:TE),i<F.length/\e∈F/\e.t=t/\e.Ok tg H/\aG 6 sv (iN i)=.val (.ptr b o)/\b<H.nx/\eY (H.get b) o 6=some [uN t.k,.str t.rl.n t.rl.a,.str t.to.n t.to.a,e.sp,e.av,wS t.leaf]:=by
 rw[<-h.is,AS]at a;have c:i<F.length:=by
  rcases lu i F.length with h|h
  ·exact h
  ·rw[qp h]at a;cases a
 rw[j0 c]at a;obtain rfl:F[i].t=t:=by simpa using a
 obtain⟨b,o,d,g,_,j,_⟩:=(h.gl.rs lF).at' i c;exact⟨b,o,F[i],c,sx c,rfl,h.ok _ (sx c),d,g,j⟩
def PT(tg:SS->SS->List SS)(C:Nat->Ev.Call)(f:Fo):Prop:=
 ∀(j:Nat),f.depth+1<=j->∀(F:Fo) (v:AV) (es:List TE) (H0:Hp) (ob kd n i p c:Nat) (rl to:SS) (av w:AV) (pre post:List TN) (d:List Nat) (g:Fo) (H:Hp) (qr:AV->pD) (q:pD) (Q:pL) (k:Nat),vR tg H0 v es F->es.length<=32->F.dK 0 0=pre++f.dK p c++post->pre.length=p ->
  n-i<k->n=i+f.len->d.length=i->n<=1000->g.len+f.size<=1000->p+f.size<=1000->f.Rt Nm->Gl 1 H0 av n (aJ (d++f.ixs p))->H0.nx<=ob->ob<H.nx->H.get ob=aB 0 [uN kd,.str rl.n rl.a,.str to.n to.a,w]->zC (λb=>b=ob) H0 H w g->Fm No H0 H ->
  (∀w H,zC (λb=>b=ob) H0 H w (g.app f)->H.get ob=aB 0 [uN kd,.str rl.n rl.a,.str to.n to.a,w]->ob<H.nx->Fm No H0 H->Ok (q (iN ((p+f.size))) H) Q) ->
  Ok (BU (C j) qr q v (.ptr ob 0) av (iN n) k (iN p) (iN i) H) Q
theorem zjr(N:PT tg C I)(O:I.depth+1<=j){es:List TE}{kd p c:Nat}{rl to:SS}{pre post:List TN}(n:vR tg H sv es J)(q:es.length<=32)(s:J.dK 0 0=pre++(Fo.cons kd rl to I .nil).dK p c++post)(G:pre.length=p)(P:I.Rt Nm)(Q:kd<4->I=.nil):Ok (C (j+1) (.f 200) [sv,iN p] H) λr H'=>∃cs,r=.aX [.agg cs,iN ((p+1+I.size)),.bool true]/\iM (λb=>H.nx<=b) H' (.cons kd rl to I .nil) cs/\Fm No H H':=by
 rw[lk (zpi ..)];unfold VQ;have u:(J.dK 0 0)[p]? =some ⟨kd,rl,to,I.ixs (p+1),if kd<4 then some c else none⟩:=by rw[s,sR,AM om,G,gq];rfl
 have z:(J.dK 0 0).length=es.length:=by rw[<-n.is,vu]
 have R:p+1+I.size<=32:=by have:=congrArg List.length s;rw[z,nj,nj,Fo.fJ,G,Fo.size,Fo.size]at this;omega
 have S:Fm No H (aH H (aB 0 [uN 0,zS,zS,.aA])):=fm;obtain⟨b,o,e,hi,_,K,l,W,e2,L⟩:=n.at u;have T:=(n.fm S).gl.bF;have A:¬es.length<=p:=om;have B:¬32<es.length:=om;refine gW T A B ?_;unfold YD;simp only at L;have f:=l.gl.bF;have U:=Fo.jA I;rw[K,Fo.pO]at f;refine gW W L f ?_;rw[dD];have g:=l.gl;rw[K,Fo.pO]at g;simp only at g;obtain⟨H1,E⟩:∃H1,H1=((aH ((aH H (aB 0 [uN 0,zS,zS,.aA]))) (aB 0 [uN 0,zS,zS,.aA,.aA,iN 0])).put (H.nx+1) (aB 0 [uN kd,.str rl.n rl.a,.str to.n to.a,e.sp,e.av,wS (if kd<4 then some c else none)])).put H.nx (aB 0 [uN kd,.str rl.n rl.a,.str to.n to.a,.aA]):=⟨_,rfl⟩;rw[<-E];have V:Fm No H H1:=om;have n1:H1.nx=H.nx+1+1:=om;have D:J.dK 0 0=(pre++[⟨kd,rl,to,I.ixs (p+1),if kd<4 then some c else none⟩])++I.dK (p+1) c++post:=by rw[s,Fo.dK,Fo.dK];simp
 refine N j O J sv es H H.nx kd I.len 0 (p+1) c rl to e.av .aA (pre++[⟨kd,rl,to,I.ixs (p+1),if kd<4 then some c else none⟩]) post [] .nil H1 _ _ _ bT n q D om lf om rfl om (by simp only[Fo.len];omega) om P ?_ om om om (zC.nil _ _ _) V λw d a t b2 f2=>?_
 ·grind
 unfold JG;obtain⟨cs,X,Y⟩:=a.ex;obtain⟨j,rfl⟩:∃m,j=m+1:=⟨j-1,om⟩;obtain⟨w',Z,M,_,d2⟩:=Yg (k:=j+1) om X;have nw:∀b,In w' b->H.nx<=b/\¬b=H.nx:=λb hb=>a.nw b om;have i:∀x y:cZ,∃cs,AV.aX [.agg [uN kd,.str rl.n rl.a,.str to.n to.a,w'],iN ((p+1+I.size)),.bool true]=.aX [.agg cs,iN ((p+1+I.size)),.bool true]/\iM (λb=>H.nx<=b) ((d.put H.nx x).put H.nx y) (.cons kd rl to I .nil) cs/\Fm No H ((d.put H.nx x).put H.nx y):=λx y=>by have F:Fm (λb=>b=H.nx) d ((d.put H.nx x).put H.nx y):=((Fm.refl (λb=>b=H.nx) d).put _ _ om).put _ _ om;exact⟨_,rfl,⟨w',cs,[],rfl,M.fm F om,om,(Y.dR F om).mono om,rfl⟩,om⟩
 refine dI t ?_;refine Ok.veE Z ?_;rcases M.is with⟨h,_⟩|⟨_,_,_,_,_,h,_⟩
 ·subst h;refine dS t C4 ?_;exact Ok.ret (i _ _)
 ·subst h;refine dS t C4 ?_;exact Ok.ret (i _ _)
theorem z0a:∀f:Fo,PT tg C f:=by
 intro f
 induction f with
 |nil=>intro j hj F v es H0 ob kd n i p c rl to av w pre post d g H qr q Q k V l hF W hk X z A B D E G i1 I J t K L;obtain⟨k,rfl⟩:∃m,k=m+1:=⟨k-1,om⟩;show Ok (BV (C j) _ _ _ _ _ _ (BU (C j) _ _ _ _ _ _ k) _ _ H) Q;unfold BV;simp only[Fo.len]at X;have e:¬i<n:=om;refine dI e ?_;refine L w H ?_ J I K;rw[Fo.yP];exact t
 |cons k1 r1 t1 a r iha ihr=>
  intro j hj F v es H0 ob kd n i p c rl to av w pre post d g H qr q Q k V l hF W hk X z A B D E G i1 I J t K L;obtain⟨k,rfl⟩:∃m,k=m+1:=⟨k-1,om⟩;show Ok (BV (C j) _ _ _ _ _ _ (BU (C j) _ _ _ _ _ _ k) _ _ H) Q;unfold BV;simp only[Fo.len]at X;simp only[Fo.depth]at hj;simp only[Fo.size]at B D;have e:i<n:=om;obtain⟨b2,o2,e1,e2,_,e3⟩:=(G.no K).at (i:=i) (x:=iN p) (by simp[aJ,Fo.ixs,<-z]);refine dI e ?_;unfold YE;refine dS e1 e3 ?_;unfold YF;obtain⟨j,rfl⟩:∃m,j=m+1:=⟨j-1,om⟩;have fx:Fm No H (aH H (aB 0 [uN 0,zS,zS,.aA])):=fm;have N:k1<4->a=.nil:=λh4=>by
   rcases E.1 with h|h|h|h|h|h
   ·grind
   ·grind
   ·grind
   ·omega
   ·omega
   ·omega
  have O:F.dK 0 0=pre++(Fo.cons k1 r1 t1 a .nil).dK p c++(r.dK (p+1+a.size) (c+if k1<4 then 1 else a.lv)++post):=by rw[hF,Fo.dK,Fo.dK,Fo.dK];simp
  have n0:=om;refine aS ?_;refine Ok.ve (zjr iha (j:=j) om (V.fm om) l O W E.2.1 N) ?_;rintro _ o ⟨cs,rfl,c1,Y⟩;have y:=c1;obtain⟨s,ca2,cr,rfl,g1,g2,g3,g4⟩:=c1;obtain rfl:cr=[]:=g4;have n2:=Y.nx;simp only[np]at n2;have k2:o.get H.nx=aB 0 [uN 0,zS,zS,.aA]:=(Y.keep gz).trans g5;have P:o.get ob=aB 0 [uN kd,.str rl.n rl.a,.str to.n to.a,w]:=((fx.trans Y).keep I).trans J;unfold SS.v at y ⊢;refine dI k2 ?_;unfold YG;refine dI P ?_;have R:Fm No H (aH (o.put H.nx (aB 0 [uN k1,.str r1.n r1.a,.str t1.n t1.a,s])) (aB 0 [uN k1,.str r1.n r1.a,.str t1.n t1.a,s])):=om;have fB:Fm (λb=>b=H.nx) o (aH (o.put H.nx (aB 0 [uN k1,.str r1.n r1.a,.str t1.n t1.a,s])) (aB 0 [uN k1,.str r1.n r1.a,.str t1.n t1.a,s])):=((Fm.refl (λb=>b=H.nx) o).put _ _ om).push _;have hnw:∀b,In w b->b<H.nx:=λb u=>by
   obtain⟨cs,d1,_⟩:=t.ex
   grind
  have S:iM (λb=>H0.nx<=b/\¬In w b/\¬b=ob) (aH (o.put H.nx (aB 0 [uN k1,.str r1.n r1.a,.str t1.n t1.a,s])) (aB 0 [uN k1,.str r1.n r1.a,.str t1.n t1.a,s])) (.cons k1 r1 t1 a .nil) [uN k1,.str r1.n r1.a,.str t1.n t1.a,s]:=
   (y.dR fB λb u he=>by simp only[np]at u;omega).mono om
  refine Ok.ve ((t.no R).add S (λb u=>gx) gx (by simp[Fo.len]) (by simp only[Fo.len];omega)) ?_;rintro w' Z ⟨w4,f4,n4,hw4⟩;simp only[np,nq]at n4;have o4:Z.get ob=aB 0 [uN kd,.str rl.n rl.a,.str to.n to.a,w]:=by rw[f4.get ob gx (λM=>(t.nw ob M).2 rfl),R.keep I];exact J
  subst hw4;refine dS o4 C4 ?_;unfold NG;refine aS ?_;have f6:Fm No H0 Z:=(K.trans R).then f4 λc hc M=>by have:=(t.nw c M).1;omega
  have e9:d++(Fo.cons k1 r1 t1 a r).ixs p=(d++[p])++r.ixs (p+1+a.size):=by simp[Fo.ixs]
  rw[e9]at G;have T:F.dK 0 0=(pre++(Fo.cons k1 r1 t1 a .nil).dK p c)++r.dK (p+1+a.size) (c+if k1<4 then 1 else a.lv)++post:=om;refine ihr (j+1) om F v es H0 ob kd n (i+1) (p+1+a.size) (c+if k1<4 then 1 else a.lv) rl to av _ (pre++(Fo.cons k1 r1 t1 a .nil).dK p c) post (d++[p]) (g.app (.cons k1 r1 t1 a .nil)) _ qr q Q k V l T ?_ om om om A ?_ om E.2.2 G i1 om om (w4.dR ((Fm.refl (λb=>b=ob) Z).put ob _ om) λb u=>.inl u) om λw5 H5 q1 q2 q3 q4=>?_
  ·rw[nj,Fo.fJ,W];simp only[Fo.size];omega
  ·rw[Fo.lU];simp only[Fo.len];omega
  ·have U:p+(Fo.cons k1 r1 t1 a r).size=p+1+a.size+r.size:=by simp only[Fo.size];omega
   rw[U]at L;rw[Fo.qG]at q1;exact L w5 H5 q1 q2 q3 q4
theorem zlz:∀(l:List fe) (c i:Nat) (h:i<l.length),(zW l c)[i]? =some ⟨l[i].1,l[i].2.1,l[i].2.2.1,l[i].2.2.2,if l[i].1<4 then some (c+jM (l.take i))else none⟩
 | [],_,_,h=>by simp at h
 |(k,rl,to,as')::l,c,0,_=>by simp[zW,jM]
 |(k,rl,to,as')::l,c,i+1,h=>by rw[zW,xu,zlz l _ i (by simpa using h),qx,Bn];simp only[zx];congr 3;congr 1;omega
theorem QL(l:List fe)(i:Nat)(h:i<l.length):jM (l.take (i+1))=jM (l.take i)+if l[i].1<4 then 1 else 0:=by rw[nh h,MZ,Bn];show _+(0+_)=_;omega
theorem vR.node(h:vR tg H sv F I)(d:I.Rt Nm)(q:i<F.length):∃(a:i<(I.jC 0).length) (b o:Nat) (e:TE),e∈F/\e.t=⟨(I.jC 0)[i].1,(I.jC 0)[i].2.1,(I.jC 0)[i].2.2.1,(I.jC 0)[i].2.2.2,if(I.jC 0)[i].1<4 then some (jM ((I.jC 0).take i))else none⟩/\e.Ok tg H/\aG 6 sv (iN i)=.val (.ptr b o)/\b<H.nx /\ eY (H.get b) o 6=some [uN ((I.jC 0)[i].1),.str (I.jC 0)[i].2.1.n (I.jC 0)[i].2.1.a,.str (I.jC 0)[i].2.2.1.n (I.jC 0)[i].2.2.1.a,e.sp,e.av,wS (if(I.jC 0)[i].1<4 then some (jM ((I.jC 0).take i))else none)]:=by
 have r:F.length=(I.jC 0).length:=by have:=congrArg List.length h.is;rw[vu,Fo.fJ]at this;rw[this,Fo.kI]
 have a:i<(I.jC 0).length:=om;have g:=Ct I 0 0 d;have c:=zlz (I.jC 0) 0 i a;rw[g,nr]at c;obtain⟨b,o,e,_,j,k,l,m,n,p⟩:=h.at c;exact⟨a,b,o,e,j,k,l,m,n,p⟩
theorem Te{O:Ev.Call}{v:AV}{es:List TE}{f:Fo}{Hb:Hp}(d:vR tg Hb v es f)(g:f.Rt Nm)(p:es.length<=1000){q:pD}{Q:pL}(l:∀H,Fm No Hb H->Ok (q (iN (f.lv)) H) Q):∀(k i:Nat) (H:Hp),i<=es.length->es.length-i<k->Fm No Hb H->Ok (DY O q v (iN (es.length)) k (iN ((jM ((f.jC 0).take i)))) (iN i) H) Q
 |0,i,_,_,h,_=>om
 |k+1,i,H,hi,hk,hf=>by
  show Ok (NO O _ _ _ (DY O _ _ _ k) _ _ H) Q;unfold NO;by_cases a:i<es.length
  ·refine dI a ?_;unfold NM;obtain⟨j,b,o,e,_,_,_,m,x,c⟩:=(d.fm hf).node g a;have s:jM ((f.jC 0).take i)<=1000:=AL AG g2;have ih:=λH' r=>Te (O:=O) d g p l k (i+1) H' om om r;rw[QL _ _ j]at ih;by_cases n:(f.jC 0)[i].1<4
   ·rw[sB n]at c ih;unfold wS at c;refine dS m c ?_;unfold YX;rw[Nat.max_eq_right om];refine aS ?_;exact ih _ (hf.trans fm)
   ·rw[sy n]at c ih;unfold wS at c;have t:eP (lT .add).f (.int .i64 (.negSucc 0)) (iN 1)=.val (iN 0):=rfl;refine gW m c t ?_;unfold YX;rw[Nat.max_eq_left om];refine aS ?_;exact ih _ (hf.trans fm)
  ·refine dI a ?_;have u:i=es.length:=om;have w:es.length=(f.jC 0).length:=by
    have:=congrArg List.length d.is;rw[vu,Fo.fJ]at this;rw[this,Fo.kI]
   rw[u,w,aj,Il f 0 g];exact l H hf
theorem zl8{k:Nat}(b:1<=k)(a:vR tg H sv F I)(c:I.Rt Nm)(g:F.length<=32):Ok (C k (.f 142) [sv] H) λw H'=>w=iN (I.lv)/\Fm No H H':=by obtain⟨j,rfl⟩:=aO b;rw[lk (zpc ..)];unfold VK;have e:=a.gl.bF;refine dI e ?_;rw[dD];refine Te a c om (λh d=>?_) bT 0 H (vy _) lf (Fm.refl _ _);unfold NN;exact Ok.ret ⟨rfl,d⟩
theorem Gl.pre{α:Type}{f:α->List AV}{l:List α}(c:∀x,(f x).length=z)(h:Gl z H sv l.length (l.flatMap f))(p:i<l.length):∃w,kM z sv none (some (iN i)) none=.val w/\Rs z f H w (l.take i):=by
 have g:=h.rs c;rcases h.is with⟨_,r⟩|⟨b,o,e,q,L,rfl,_,_,_,_,s⟩
 ·omega
 ·refine⟨_,R2 z b o _ i e om om,?_,λk d=>?_⟩
  ·rw[sY,lh om];rfl
  ·rw[sY]at d;obtain⟨t,u,a,j,y,m,n⟩:=g.at' k om;rw[sD _ _ _ _ _ _ _ _ om]at a;cases a;refine⟨b,_,by rw[sD _ _ _ _ _ _ _ _ om],j,⟨_,_,_,_,rfl⟩,?_,?_⟩
   ·rw[yl];exact m
   ·rw[yl];exact n
variable{W:List SS}
theorem Uz(t:iO C)(z:15<=j)(h:Gl 1 H' sv W.length (W.flatMap sC))(u:W.Nodup)(d:∀s∈W,Nm s)(A:W.length<=1000){qr:pD}(x:∀H,Fm No H' H->Ok (V H) U):∀(k i:Nat) (H:Hp),i<=W.length->W.length-i<k->Fm No H' H->Ok (DZ (C j) qr V sv sv (iN W.length) k (iN i) H) U
 |0,i,_,_,h,_=>om
 |k+1,i,H,hi,hk,hf=>by
  show Ok (YZ (C j) _ _ _ _ _ (DZ (C j) _ _ _ _ _ k) _ H) U;unfold YZ;by_cases a:i<W.length
  ·refine dI a ?_;unfold NQ;obtain⟨b,o,F,J,_,_,G⟩:=((h.no hf).rs (f:=sC) λ_=>rfl).at' i a;have B:cB (H.get b) o=.val (.str W[i].n W[i].a):=G 0 Nat.zero_lt_one;have D:=d _ (sx a);have E:iM (λ_=>True) H (Fo.cons 2 W[i] sE .nil .nil) [uN 2,.str W[i].n W[i].a,zS,.aA]:=⟨.aA,[],[],rfl,Gl.nil 4 H,λ_ _=>trivial,rfl,rfl⟩;have e:(Fo.cons 2 W[i] sE .nil .nil).Ok1:=⟨rfl,⟨.inr (.inl ⟨rfl,D,rfl,rfl⟩),trivial,trivial⟩,by simp[Fo.depth],by simp[Fo.size]⟩;refine dS F B ?_;refine Ok.ve (L8 t (k:=j) om E e) ?_;rintro _ K ⟨rfl,y⟩;obtain⟨w,I,p⟩:=((h.no hf).no y).pre (f:=sC) (λ_=>rfl) a;have g:W[i]∉W.take i:=λd=>by
    obtain⟨m,r,c⟩:=ku d;rw[sY]at r;rw[yl]at c;exact lEL.1 u m i om a om c
   have n:=Yf (k:=j) om p (by rw[sY];omega) g;refine dS I n ?_;unfold zwz;refine aS ?_;exact Uz t z h u d A x k (i+1) _ om om (hf.trans y)
  ·refine dI a ?_;exact x H hf
theorem zj4(b:iO C){k:Nat}(c:16<=k)(h:Gl 1 H sv W.length (W.flatMap sC))(d:0<W.length)(e:W.Nodup)(f:∀s∈W,Nm s)(g:W.length<=1000):Ok (C k (.f 203) [sv] H) λw H'=>w=.bool true/\Fm No H H':=by obtain⟨j,rfl⟩:=aO c;rw[lk (zpe ..)];unfold VM;have a:=h.bF;refine dI a ?_;rw[dD];refine Uz b om h e f g (λm i=>?_) bT 0 H (vy _) lf (Fm.refl _ _);unfold YY;refine dS a d ?_;exact Ok.ret ⟨rfl,i⟩
theorem zyu:iQ true (zT (.bool false) (.bool (decide (0<0))))=.val (.bool false):=id rfl
theorem RR(x:iO C){j:Nat}(y:16<=j){v:AV}{es:List TE}{f:Fo}{Hb:Hp}(z:vR tg Hb v es f)(A:f.Rt Nm)(F:es.length<=32)(l:∀e∈es,e.t.k=3->0<(tg e.t.rl e.t.to).length/\(tg e.t.rl e.t.to).Nodup/\(∀s∈tg e.t.rl e.t.to,Nm s)/\(tg e.t.rl e.t.to).length<=100){qr:pD}{q:pH}{Q:pL}(G:∀H,Fm No Hb H->Ok (q H) Q):∀(k i:Nat) (H:Hp),i<=es.length->es.length-i<k->Fm No Hb H->Ok (zw (C j) qr q v (iN (es.length)) k (iN ((jM ((f.jC 0).take i)))) (iN i) H) Q
 |0,i,_,_,h,_=>om
 |k+1,i,H,hi,hk,hf=>by
  show Ok (NP (C j) _ _ _ _ (zw (C j) _ _ _ _ k) _ _ H) Q;unfold NP;by_cases d:i<es.length
  ·simp(disch:=go_size)only[go_sem,rB,rI,rK,rL,rN,rS,r6,d];rw[kE FY];unfold FY;obtain⟨u,b,o,e,n,B,w,D,O,g⟩:=(z.fm hf).node A d;have J:jM ((f.jC 0).take i)<=1000:=AL AG g2;have ih:=λH' I=>RR x y z A F l (qr:=qr) G k (i+1) H' om om I;rw[QL _ _ u]at ih;have a:=w.sp;rw[B]at a;simp only at a;by_cases E:(f.jC 0)[i].1<4
   ·rw[sB E]at g ih;unfold wS at g;have p:=ae (show(f.jC 0)[i].1<=3 by omega);simp(disch:=go_size)only[go_sem,rB,rI,rK,rL,rN,rS,r6,D,g,p];rw[kE tM];unfold tM;rcases a with⟨m,c⟩|⟨m,c⟩
    ·have r:=ae m;have K:=c.bF;obtain⟨g0,g1,g2,g3⟩:=l e n om;rw[B]at g0 g1 g2 g3;have nb:iQ true (zT (.bool true) (.bool (decide (0<(tg (f.jC 0)[i].2.1 (f.jC 0)[i].2.2.1).length))))=.val (.bool false):=by rw[j7 g0];rfl
     simp(disch:=go_size)only[go_sem,rB,rI,rK,rL,rN,rS,r6,r,K,nb];have L:Fm No H ((aH H (aB 0 [uN 0,zS,zS,.aA,.aA,iN 0])).put H.nx (aB 0 [uN ((f.jC 0)[i].1),.str (f.jC 0)[i].2.1.n (f.jC 0)[i].2.1.a,.str (f.jC 0)[i].2.2.1.n (f.jC 0)[i].2.2.1.a,e.sp,e.av,iN ((jM ((f.jC 0).take i)))])):=by(repeat(first|exact Fm.refl _ _|assumption|refine Fm.push ?_ _|refine Fm.up2 ?_ (by go_size)|refine Fm.aN ?_ _ _ om))
     refine Ok.ve (zj4 x (k:=j) y (c.no L) g0 g1 g2 (AL g3 (by decide))) ?_;rintro _ P ⟨rfl,R⟩;simp(disch:=go_size)only[go_sem,rB,rI,rK,rL,rN,rS,r6];unfold G0;simp(disch:=go_size)only[go_sem,rB,rI,rK,rL,rN,rS,r6]
     grind
    ·rw[c];simp(disch:=go_size)only[go_sem,rB,rI,rK,rL,rN,rS,r6,m,zyu];unfold G0;simp(disch:=go_size)only[go_sem,rB,rI,rK,rL,rN,rS,r6];exact ih _ (hf.trans (by(repeat(first|exact Fm.refl _ _|assumption|refine Fm.push ?_ _|refine Fm.up2 ?_ (by go_size)|refine Fm.aN ?_ _ _ (by go_size)))))
   ·rw[sy E]at g ih;unfold wS at g;have t:¬(f.jC 0)[i].1<=3:=om;have m:¬(f.jC 0)[i].1=3:=om;have M:eP (lT .neq).f (.int .i64 (.negSucc 0)) (.int .i64 (.negSucc 0))=.val (.bool false):=rfl;simp(disch:=go_size)only[go_sem,rB,rI,rK,rL,rN,rS,r6,D,g,t];rw[kE tM];unfold tM;rcases a with⟨N,c⟩|⟨_,c⟩
    ·grind
    ·rw[c];simp(disch:=go_size)only[go_sem,rB,rI,rK,rL,rN,rS,r6,m,zyu,M];unfold G0;simp(disch:=go_size)only[go_sem,rB,rI,rK,rL,rN,rS,r6];exact ih _ (hf.trans (by(repeat(first|exact Fm.refl _ _|assumption|refine Fm.push ?_ _|refine Fm.up2 ?_ (by go_size)|refine Fm.aN ?_ _ _ om))))
  ·simp(disch:=go_size)only[go_sem,rB,rI,rK,rL,rN,rS,r6,d]
   grind
theorem z8q(y:iO C){k:Nat}(W:17<=k)(o:vR tg H sv F I)(m:I.Ok1)(B:I.qE)(D:∀e∈F,e.t.k=3->0<(tg e.t.rl e.t.to).length/\(tg e.t.rl e.t.to).Nodup/\(∀s∈tg e.t.rl e.t.to,Nm s)/\(tg e.t.rl e.t.to).length<=100):Ok (C k (.f 141) [sv] H) λw H'=>w=iN 0/\Fm No H H':=by
 obtain⟨j,rfl⟩:=aO W;rw[lk (zpd ..)];unfold VL;have b:=m.one;have z:=m.rt;have R:=m.dp;have hs:=m.sz;have X:F.length=I.size:=by have:=congrArg List.length o.is;rwa [vu,Fo.fJ]at this
 obtain⟨kd,rl,to,a,d⟩:∃kd rl to a,I=.cons kd rl to a .nil:=by
  cases I with
  |nil=>cases b
  |cons k rl to a r=>
   cases r with
   |nil=>exact⟨_,_,_,_,rfl⟩
   |cons _ _ _ _ _=>simp[Fo.len]at b
 have E:kd<4->a=.nil:=λh4=>by
  subst d;rcases z.1 with h|h|h|h|h|h
  ·grind
  ·grind
  ·grind
  ·omega
  ·omega
  ·omega
 have Y:I.size=1+a.size:=by rw[d];simp only[Fo.size];omega
 have Z:a.depth+1<=8:=by rw[d]at R;simp only[Fo.depth]at R;omega
 have es:a.Rt Nm:=by rw[d]at z;exact z.2.1
 obtain⟨i,rfl⟩:∃i,j=i+1:=⟨j-1,om⟩;refine Ok.ve (zjr (z0a a) (j:=i) om o om (kd:=kd) (p:=0) (c:=0) (rl:=rl) (to:=to) (pre:=[]) (post:=[]) om rfl es E) ?_;rintro _ H1 ⟨cs,rfl,L,T⟩;rw[<-d]at L;have n:=L;obtain⟨t,g,l,a',U,ca,cCr,rfl,g1,g2,g3⟩:=L.one b;have hl:=(o.fm T).gl.bF;have e0:0+1+a.size=F.length:=om;rw[e0];refine dI hl ?_;have S:Fm No H1 ((aH H1 (aB 0 [uN 0,zS,zS,.aA])).put H1.nx (aB 0 [uN t,.str g.n g.a,.str l.n l.a,U])):=by(repeat(first|exact Fm.refl _ _|assumption|refine Fm.push ?_ _|refine Fm.up2 ?_ (by go_size)|refine Fm.aN ?_ _ _ om))
 refine Ok.ve (L8 y (k:=i+1) om (n.fm S) m) ?_;rintro _ V ⟨rfl,M⟩;simp(disch:=go_size)only[go_sem,seval];have k2:V.get H1.nx=aB 0 [uN t,.str g.n g.a,.str l.n l.a,U]:=(M.keep gz).trans om;have G:=S.trans M;rw[kE FW];unfold FW;refine dI k2 ?_;refine Ok.ve (zoo y (k:=i+1) om ((n.fm G).mono λ_ _ _=>trivial) m) ?_;rintro _ N ⟨ds,rfl,O,A⟩;rw[Fo.qJ I B]at O;have n2:=M.nx;have n3:=A.nx;simp only[np,nq]at n2;have k3:=(A.keep (show H1.nx<V.nx by omega)).trans k2;have f:=O;obtain⟨P,u,x,a3,Q,ca3,bVJ,rfl,_,_,_⟩:=O.one b;refine dI k3 ?_;have J:Fm No N ((aH N (aB 0 [uN 0,zS,zS,.aA])).put N.nx (aB 0 [uN P,.str u.n u.a,.str x.n x.a,Q])):=by(repeat(first|exact Fm.refl _ _|assumption|refine Fm.push ?_ _|refine Fm.up2 ?_ (by go_size)|refine Fm.aN ?_ _ _ om))
 refine Ok.ve (z2l y (k:=i+1) om (f.fm J) (n.fm ((G.trans A).trans J)) m m rfl) ?_;rintro _ H4 ⟨rfl,f4⟩;simp(disch:=go_size)only[go_sem,seval];have q:=((((T.trans G).trans A).trans J).trans f4);have K:=(o.fm q).gl.bF;rw[kE FX];unfold FX;simp(disch:=go_size)only[go_sem,seval,K];rw[dD];refine RR y (j:=i+1) om (o.fm q) z om D (λH5 f5=>?_) bT 0 H4 om lf om;unfold CC;exact Ok.ret ⟨rfl,om⟩
variable {α:Type}
def fB(k:Nat)(a b:Bool):Bool:=if k=4 then a||b else if k=5 then a&&b else a&& !b
theorem QM(k:Nat):∀(l:List Bool) (x:Bool),sf k (x::l)=l.foldl (fB k) x
 | [],x=>by show(if k=4 then x||[].any id else if k=5 then x&&[].all id else x&& ![].any id)=x;simp
 |y::l,x=>by
  rw[uh,<-QM k l];show(if k=4 then x||(y::l).any id else if k=5 then x&&(y::l).all id else x&& !(y::l).any id)=(if k=4 then fB k x y||l.any id else if k=5 then fB k x y&&l.all id else fB k x y&& !l.any id);unfold fB;by_cases a:k=4
  ·simp[a,Bool.or_assoc]
  ·by_cases b:k=5
   ·simp[b,Bool.and_assoc]
   ·simp[a,b,Bool.and_assoc]
structure Dr(R:Hp->AV->(α->Bool)->Prop):Prop where
 fm:∀{H H' v p},R H v p->Fm No H H'->R H' v p
 eq:∀{H v p q},R H v p->(∀x,p x=q x)->R H v q
structure IZ(R:Hp->AV->(α->Bool)->Prop)(C:Nat->Ev.Call)(H0:Hp)(gs:Nat->AV):Prop where
 fn:∀k,4<=k->k<=6->∃f c,gs k=.fn f [] c/\lV 64 (.fn f [] c) (.fn f [] c)=true
 op:∀k,4<=k->k<=6->∀j,5<=j->∀H u v p q,Fm No H0 H->R H u p->R H v q->Ok (oV (C j) (gs k) [u,v] H) λw H'=>R H' w (λx=>fB k (p x) (q x))/\Fm No H H'
def Dl(R:Hp->AV->(α->Bool)->Prop)(H0:Hp)(a:AV)(F:Fo)(V:α->Nat->SS->SS->Bool):Prop:=
 ∀t∈F.dK 0 0,∀i,t.leaf=some i->∃b o w,aG 1 a (iN i)=.val (.ptr b o)/\b<H0.nx/\cB (H0.get b) o=.val w/\R H0 w (λx=>V x t.k t.rl t.to)
def Iu(V:α->Nat->SS->SS->Bool)(k:Nat)(rl to:SS)(a:Fo)(x:α):Bool:=if k<4 then V x k rl to else sf k (a.vl (V x))
theorem I5(c:Nat):eP (lT .geq).f (iN c) (iN 0)=.val (.bool true):=by exact congrArg (λb=>R0.val (AV.bool b)) (j7 (Int.natCast_nonneg c))
variable {R:Hp->AV->(α->Bool)->Prop}
def Au(tg:SS->SS->List SS)(R:Hp->AV->(α->Bool)->Prop)(C:Nat->Ev.Call)(kd:Nat)(a:Fo):Prop:=
 ∀(j:Nat),a.depth+9<=j->∀(F:Fo) (v vv:AV) (es:List TE) (H0 H:Hp) (p c:Nat) (rl to:SS) (pre post:List TN) (V:α->Nat->SS->SS->Bool) (gs:Nat->AV),vR tg H v es F->es.length<=32->F.dK 0 0=pre++(Fo.cons kd rl to a .nil).dK p c++post->pre.length=p->(Fo.cons kd rl to a .nil).Rt Nm->IZ R C H0 gs->Fm No H0 H ->
  Dl R H0 vv F V ->
  Ok (C j (.f 143) [v,iN p,vv,.agg [gs 4,gs 5,gs 6]] H) λw b=>R b w (Iu V kd rl to a)/\Fm No H b
def u4(tg:SS->SS->List SS)(R:Hp->AV->(α->Bool)->Prop)(C:Nat->Ev.Call)(f:Fo):Prop:=
 ∀(j:Nat),f.depth+8<=j->∀(F:Fo) (v vv u sp av lf:AV) (es:List TE) (H0 H1 H:Hp) (p c m i kd xb gb:Nat) (rl to:SS) (pre post:List TN) (V:α->Nat->SS->SS->Bool) (gs:Nat->AV) (w:AV) (pw:α->Bool) (d:List Nat) (q:pD) (Q:pL) (k:Nat),vR tg H1 v es F->es.length<=32->F.dK 0 0=pre++f.dK p c++post->pre.length=p->f.Rt Nm->IZ R C H0 gs->Fm No H0 H1->Fm No H1 H ->
  Dl R H0 vv F V->m-i<k->m=i+f.len->d.length=i->m<=1000->4<=kd->kd<=6->(0<m->Gl 1 H1 u m (aJ (d++f.ixs p))) ->
  H1.get xb=aB 0 [uN kd,.str rl.n rl.a,.str to.n to.a,sp,av,lf]->H1.get gb=aB 0 [gs 4,gs 5,gs 6]->xb<H1.nx->gb<H1.nx->R H w pw ->
  (∀w H,Fm No H1 H->R H w (λx=>(f.vl (V x)).foldl (fB kd) (pw x))->Ok (q w H) Q) ->
  Ok (yk (C j) q v vv (.ptr gb 0) (.ptr xb 0) u (iN m) k w (iN i) H) Q
theorem zvi(N:Dr R){y:Nat}{A B:SS}(hH:Au tg R C y I)(hL:u4 tg R C J):u4 tg R C (.cons y A B I J):=by
 intro j hj F v W u sp av lf es H0 H1 H p c m i kd xb D rl to pre post V gs w P d q Q k ht E hF hp X t iY G hV hk hm hd Y h4 h6 Z hx hg a r hw hq;obtain⟨k,rfl⟩:∃m,k=m+1:=⟨k-1,om⟩;show Ok (BM (C j) _ _ _ _ _ _ _ (yk (C j) _ _ _ _ _ _ _ k) _ _ H) Q;unfold BM;simp only[Fo.len]at hm;simp only[Fo.depth]at hj;have T:i<m:=om;obtain⟨b,o,e1,e2,_,e3⟩:=((Z om).no G).at (i:=i) (x:=iN p) (by simp[aJ,Fo.ixs,<-hd]);obtain⟨f4,c4,g4,q4⟩:=t.fn 4 om om;obtain⟨f5,c5,g5,q5⟩:=t.fn 5 om om;obtain⟨f6,c6,g6,q6⟩:=t.fn 6 om om;have f:=(G.keep a).trans hx;have e:=(G.keep r).trans hg;rw[g4,g5,g6]at e;refine dI T ?_;unfold NL;have O:=hH j om F v W es H0 H p c A B pre (J.dK (p+1+I.size) (c+if y<4 then 1 else I.lv)++post) V gs (ht.fm G) E (by rw[hF,Fo.dK,Fo.dK,Fo.dK];simp) hp ⟨X.1,X.2.1,trivial⟩ t om hV;rw[g4,g5,g6]at O;have U:kd=4\/kd=5\/kd=6:=om;have s4:eP (lT .sub).f (uN 4) (uN 4)=.val (uN 0):=rfl;have s5:eP (lT .sub).f (uN 5) (uN 4)=.val (uN 1):=rfl;have s6:eP (lT .sub).f (uN 6) (uN 4)=.val (uN 2):=rfl;have fin:∀(z:AV) (n:Hp),R n z (λx=>fB kd (P x) (Iu V y A B I x))->Fm No H n->Ok (yk (C j) q v W (.ptr D 0) (.ptr xb 0) u (iN m) k z (iN ((i+1))) n) Q:=by
  intro z n S f3;have e9:d++(Fo.cons y A B I J).ixs p=(d++[p])++J.ixs (p+1+I.size):=by simp[Fo.ixs]
  rw[e9]at Z;refine hL j om F v W u sp av lf es H0 H1 n (p+1+I.size) (c+if y<4 then 1 else I.lv) m (i+1) kd xb D rl to (pre++(Fo.cons y A B I .nil).dK p c) post V gs z _ (d++[p]) q Q k ht E (by rw[hF,Fo.dK,Fo.dK,Fo.dK];simp) (by rw[nj,Fo.fJ,hp];simp only[Fo.size];omega) X.2.2 t iY om hV om om om Y h4 h6 Z hx hg a r S λw4 H4 f4 r4=>hq w4 H4 f4 (N.eq r4 λx=>?_);rw[Fo.vl,uh];rfl
 have n1:=G.nx;rcases U with rfl|rfl|rfl
 ·refine lW e1 e3 f e s4 ?_;refine Ok.iC O ?_;rintro K L ⟨M,l⟩;have g:=(l.keep (show xb<H.nx by omega)).trans f;have h:=(l.keep (show D<H.nx by omega)).trans e;have s:=t.op 4 om om j om L w K P _ om (N.fm hw l) M;rw[g4]at s;refine gW g h q4 ?_;refine Ok.iC s ?_;rintro z n ⟨S,f3⟩;refine aS ?_;unfold GZ;refine aS ?_
  grind
 ·refine lW e1 e3 f e s5 ?_;refine Ok.iC O ?_;rintro K L ⟨M,l⟩;have g:=(l.keep (show xb<H.nx by omega)).trans f;have h:=(l.keep (show D<H.nx by omega)).trans e;have s:=t.op 5 om om j om L w K P _ om (N.fm hw l) M;rw[g5]at s;refine gW g h q5 ?_;refine Ok.iC s ?_;rintro z n ⟨S,f3⟩;refine aS ?_;unfold GZ;refine aS ?_
  grind
 ·refine lW e1 e3 f e s6 ?_;refine Ok.iC O ?_;rintro K L ⟨M,l⟩;have g:=(l.keep (show xb<H.nx by omega)).trans f;have h:=(l.keep (show D<H.nx by omega)).trans e;have s:=t.op 6 om om j om L w K P _ om (N.fm hw l) M;rw[g6]at s;refine gW g h q6 ?_;refine Ok.iC s ?_;rintro z n ⟨S,f3⟩;refine aS ?_;unfold GZ;refine aS ?_
  grind
theorem z1n:u4 tg R C .nil:=by intro j r F v s u sp t lf es H0 H1 H p c m i kd xb x rl to pre post V y w z d q Q k A b B D E G I e J K f L g M N O P S h l n o;obtain⟨k,rfl⟩:∃m,k=m+1:=⟨k-1,om⟩;show Ok (BM (C j) _ _ _ _ _ _ _ (yk (C j) _ _ _ _ _ _ _ k) _ _ H) Q;unfold BM;simp only[Fo.len]at f;have a:¬i<m:=om;refine dI a ?_;exact o w H e n
theorem Ys(a:Dr R){kd:Nat}(hH:∀f g i d r,I=.cons f g i d r->Au tg R C f d/\u4 tg R C r):Au tg R C kd I:=by
 intro j hj F v Y es H0 H p c rl to pre post V Z E B G Q hr y iY S;obtain⟨j,rfl⟩:∃m,j=m+1:=⟨j-1,om⟩;rw[lk (zo8 ..)];unfold VG;have z:(F.dK 0 0)[p]? =some ⟨kd,rl,to,I.ixs (p+1),if kd<4 then some c else none⟩:=by rw[G,sR,AM om,Q,gq];rfl
 obtain⟨b,o,e,hi,_,he,T,e1,e2,s⟩:=E.at z;have l:=T.gl;rw[he,Fo.pO]at l;simp only at l s;obtain⟨f4,c4,g4,q4⟩:=y.fn 4 om om;obtain⟨J,c5,g5,q5⟩:=y.fn 5 om om;obtain⟨f6,c6,g6,q6⟩:=y.fn 6 om om;have hO':=y;rw[g4,g5,g6];by_cases t:kd<4
 ·rw[sB t]at s;obtain⟨b1,o1,w,v1,v2,v3,v4⟩:=S _ (sW z) c (sB t);have K:cB (H.get b1) o1=.val w:=om;have n0:=iY.nx;unfold wS at s;refine lW e1 s I5 v1 K ?_;refine Ok.ret ⟨a.eq (a.fm v4 (iY.trans fm)) λx=>?_,fm⟩;exact(sB t).symm
 ·rw[sy t]at s;unfold wS at s;have L:eP (lT .geq).f (.int .i64 (.negSucc 0)) (iN 0)=.val (.bool false):=rfl;have n:4<=kd/\kd<=6/\2<=I.len:=by rcases hr.1 with h|h|h|h|h|h<;>omega
  obtain⟨f,g,i,d,r,D⟩:∃f g i d r,I=.cons f g i d r:=by
   cases I with
   |nil=>simp[Fo.len]at n
   |cons k rl to I r=>exact⟨_,_,_,_,_,rfl⟩
  obtain⟨h1,h2⟩:=hH f g i d r D;subst D;simp only[Fo.depth]at hj;have hsz:p+1+r.size<=32:=by have:=congrArg List.length G;rw[show(F.dK 0 0).length=es.length by rw[<-E.is,vu],nj,nj,Fo.fJ,Q]at this;simp only[Fo.size]at this;omega
  have q:=hr.2.1;have M:(Fo.cons f g i d r).len=r.len+1:=rfl;refine gW e1 s L ?_;unfold YW;obtain⟨HB,U⟩:∃HB,HB=((aH (aH H (aB 0 [.fn f4 [] c4,.fn J [] c5,.fn f6 [] c6])) (aB 0 [uN 0,zS,zS,.aA,.aA,iN 0])).put (H.nx+1) (aB 0 [uN kd,.str rl.n rl.a,.str to.n to.a,e.sp,e.av,.int .i64 (.negSucc 0)])):=⟨_,rfl⟩;rw[<-U];have fB:Fm No H HB:=om;have nB:HB.nx=H.nx+1+1:=om;have X:HB.get (H.nx+1)=aB 0 [uN kd,.str rl.n rl.a,.str to.n to.a,e.sp,e.av,.int .i64 (.negSucc 0)]:=om;have kg:HB.get H.nx=aB 0 [.fn f4 [] c4,.fn J [] c5,.fn f6 [] c6]:=om;have N:(aJ ((Fo.cons f g i d r).ixs (p+1)))=iN ((p+1))::aJ (r.ixs (p+1+1+d.size)):=rfl;rw[N,M]at l;obtain⟨b2,o2,i1,i2,_,i3⟩:=(l.no fB).head;have O:=h1 (j) om F v Y es H0 HB (p+1) c g i (pre++[⟨kd,rl,to,(Fo.cons f g i d r).ixs (p+1),none⟩]) (r.dK (p+1+1+d.size) (c+if f<4 then 1 else d.lv)++post) V Z (E.fm fB) B (by rw[G];simp[Fo.dK,t]) om ⟨q.1,q.2.1,trivial⟩ y om S;rw[g4,g5,g6]at O;refine jF X kg i1 i3 ?_;refine Ok.iC O ?_;rintro w2 H2 ⟨r2,W⟩;have A:=(W.keep om).trans X;have P:=(l.no om);obtain⟨u,j1,j2,j3,_⟩:=P.tail;refine gW A j1 j2 ?_;rw[dD];refine h2 j om F v Y u e.sp e.av (.int .i64 (.negSucc 0)) es H0 H2 H2 (p+1+1+d.size) (c+if f<4 then 1 else d.lv) r.len 0 kd (H.nx+1) H.nx rl to (pre++[⟨kd,rl,to,(Fo.cons f g i d r).ixs (p+1),none⟩]++(Fo.cons f g i d .nil).dK (p+1) c) post V Z w2 _ [] _ _ bT (E.fm om) B (by rw[G];simp[Fo.dK,t]) (by simp[Q,Fo.fJ,Fo.size];omega) q.2.2 y om om S (by have:=Fo.jA r;rw[rO];omega) om rfl (by have:=Fo.jA r;omega) n.1 n.2.1 om A om (by have:=W.nx;omega) (by have:=W.nx;omega) r2 λw4 H4 J r4=>?_;unfold JF;refine Ok.ret ⟨a.eq r4 λx=>?_,om⟩;unfold Iu;rw[sy t,Fo.vl,QM]
theorem z1o(d:Dr R):∀f:Fo,(∀b e g c r,f=.cons b e g c r->Au tg R C b c/\u4 tg R C r)/\u4 tg R C f:=by
 intro f
 induction f with
 |nil=>exact⟨λ_ _ _ _ _ h=>(by cases h),z1n⟩
 |cons k rl to a r iha ihr=>have i:Au tg R C k a:=Ys d iha.1;exact⟨λb e g c j h=>by cases h;exact⟨i,ihr.2⟩,zvi d i ihr.2⟩
def qv(_:Hp)(v:AV)(p:Unit->Bool):Prop:=v=.bool (p ())
theorem Qb:Dr qv:=⟨λh _=>h,λh e=>h.trans (by rw[e])⟩
def vp(k:Nat):AV:=if k=4 then .fn 144 [] []else if k=5 then .fn 145 [] []else .fn 146 [] []
theorem aXC(H:Hp):IZ qv C H vp:=by
 refine⟨λk _ _=>?_,λk e g j h H' u v p q f c d=>?_⟩
 ·unfold vp;split
  ·exact⟨_,_,rfl,by simp[lV,oJ,beq_eq]⟩
  ·split
   ·exact⟨_,_,rfl,by simp[lV,oJ,beq_eq]⟩
   ·exact⟨_,_,rfl,by simp[lV,oJ,beq_eq]⟩
 ·obtain⟨j,rfl⟩:∃m,j=m+1:=⟨j-1,om⟩;unfold qv at c d ⊢;subst c;subst d;have:k=4\/k=5\/k=6:=om;rcases this with rfl|rfl|rfl
  ·show Ok (C (j+1) (.f 144) [.bool (p ()),.bool (q ())] H') _;rw[lk (zpb ..)];unfold VJ;cases a:p ()<;>cases b:q ()<;>(refine aS ?_;exact Ok.ret ⟨by rw[a,b];rfl,Fm.refl _ _⟩)
  ·show Ok (C (j+1) (.f 145) [.bool (p ()),.bool (q ())] H') _;rw[lk (zpa ..)];unfold VI;cases a:p ()<;>cases b:q ()<;>(refine aS ?_;exact Ok.ret ⟨by rw[a,b];rfl,Fm.refl _ _⟩)
  ·show Ok (C (j+1) (.f 146) [.bool (p ()),.bool (q ())] H') _;rw[lk (zo9 ..)];unfold VH;cases a:p ()<;>cases b:q ()<;>(refine aS ?_;exact Ok.ret ⟨by rw[a,b];rfl,Fm.refl _ _⟩)
theorem vR.len(h:vR tg H sv F I):F.length=I.size:=by have:=congrArg List.length h.is;rwa [vu,Fo.fJ]at this
theorem zwf(A:iO C){k:Nat}(B:22<=k){es:Fo}{V:Nat->SS->SS->Bool}{b:Bool}(g:vR tg H sv F es)(c:es.Ok1)(l:es.qE)(m:∀e∈F,e.t.k=3->0<(tg e.t.rl e.t.to).length/\(tg e.t.rl e.t.to).Nodup/\(∀s∈tg e.t.rl e.t.to,Nm s)/\(tg e.t.rl e.t.to).length<=100)(D:Dl qv H h es λ_=>V)(E:aD h=.val (iN es.lv))(q:es.vl V=[b]):Ok (C k (.f 96) [sv,h] H) λw H'=>w=.aX [.bool b,iN 0]/\Fm No H H':=by
 obtain⟨j,rfl⟩:=aO B;rw[lk (zo7 ..)];unfold VF;have I:=g.len;have J:=c.sz;refine Ok.ve (z8q A (k:=j) om g c l m) ?_;rintro _ H1 ⟨rfl,x⟩;refine aS ?_;unfold zwx;refine dI E ?_;refine Ok.ve (zl8 (k:=j) om (g.fm x) c.rt om) ?_;rintro _ p ⟨rfl,K⟩;refine aS ?_;unfold zwy;have d:=x.trans K;obtain⟨kd,rl,to,a,f⟩:∃kd rl to a,es=.cons kd rl to a .nil:=by
  have:=c.one;cases es with
  |nil=>cases this
  |cons k rl to a r=>
   cases r with
   |nil=>exact⟨_,_,_,_,rfl⟩
   |cons _ _ _ _ _=>simp[Fo.len]at this
 have u:=c.dp;rw[f]at u;simp only[Fo.depth]at u;have O:=Ys Qb (z1o Qb a).1 j om es sv h F p p 0 0 rl to [] [] (λ_=>V) vp (g.fm d) om (kd:=kd) (by rw[f];simp) rfl (by rw[<-f];exact c.rt) (aXC p) (Fm.refl _ _) λt n i G=>by obtain⟨b,o,w,L,y,M,N⟩:=D t n i G;exact⟨b,o,w,L,AE y d.nx,by rw[d.keep y];exact M,N⟩
 have g4:vp 4=.fn 144 [] []:=rfl;have g5:vp 5=.fn 145 [] []:=rfl;have g6:vp 6=.fn 146 [] []:=rfl;rw[g4,g5,g6]at O;refine aS ?_;refine Ok.ve O ?_;rintro w Q ⟨z,P⟩;unfold qv at z;subst z;refine Ok.ret ⟨?_,d.trans P⟩;rw[f,Fo.vl,Fo.vl]at q;rw[show Iu (λ_=>V) kd rl to a ()=b from(List.cons.inj q).1]
open Go.Di.T Go.Sort
theorem z9h{α:Type}{f:α->List AV}(g:∀x,(f x).length=z){b q m:Nat}{e:Bool}{l:List α}(h:H.get b=aB q (N++l.flatMap f++Z))(k:b<H.nx):Rs z f H (.sl b N.length l.length m e) l:=⟨rfl,λi d=>by
 have a:=Ae g q N Z l d;refine⟨b,N.length+i*z,sD _ _ _ _ _ _ _ _ d,k,⟨_,_,_,_,rfl⟩,om,λj n=>?_⟩;rw[y7]at a;split at a
 ·have o:=Option.some.inj a;have c:j<z:=om;have p:(N++l.flatMap f++Z)[N.length+i*z+j]? =(f l[i])[j]? :=by rw[<-o,tu,sB c,iq]
  rw[h,gk,p,j0 n]
 ·cases a⟩
variable{M T:List Tu}
theorem zbg(I:uK C){k:Nat}(Y:2<=k)(J:Gl 6 H sv M.length (M.flatMap Tu.cells))(B:M.length<=1000)(y:∀t∈M,t.lo)(K:lI T)(hm:∀t,t∈M↔t∈T):Ok (C k (.f 124) [sv] H) λr H'=>Rs 6 Tu.cells H' r T/\Fm No H H'/\∀b,In r b->H.nx<=b:=by
 obtain⟨j,rfl⟩:∃j,k=j+1+1:=⟨k-2,om⟩;rw[lk (zpq ..)];refine Ok.ve (zjc (k:=j+1) om J B) ?_;intro w H1 z;refine Ok.ve ((I j).srt H1 w M z.gl B y) ?_;rintro _ n ⟨rfl,g,P,Q,g2,R⟩;have a:j6 g=T:=zj6 K om om Q;have D:=z.old R;have m:=P.length_eq;rcases g2.is with⟨rfl,s⟩|⟨b,o,e,q,L,rfl,d1,l,U,d4,V⟩
 ·have:g=[]:=lE5.1 s;subst this;have d:T=[]:=a.symm;subst d;have i:C (j+1) (.f 187) [.aA] n=.ok .aA n:=by
   rw[lk (MC ..)];rfl
  simp only[go_sem];rw[i];exact Ok.ret ⟨Rs.nil _ _ _,D,λc p=>absurd p (bt c)⟩
 ·have E:=z.nw b ⟨_,_,_,_,rfl⟩;by_cases s:g=[]
  ·subst s;have d:T=[]:=a.symm;subst d;have i:C (j+1) (.f 187) [.sl b o 0 0 e] n=.ok (.sl b o 0 0 e) n:=by
    rw[lk (MC ..)];rfl
   show Ok (ve (C (j+1) (.f 187) [.sl b o 0 0 e] n) _) _;rw[i];exact Ok.ret ⟨⟨rfl,om⟩,D,λc p=>by obtain⟨_,_,_,_,h⟩:=p;cases h;exact E⟩
  ·have f:=lIO.2 s;have F:(L.take o).length=o:=om;have hL:L=L.take o++g.flatMap Tu.cells++[]:=by rw[DN,<-U,qw]
   have i:=q4h (k:=j+1) om (H:=n) (b:=b) (q:=q) (A:=L.take o) (S:=g) (e:=e) V om f om;rw[F,a]at i;refine Ok.ve i ?_;rintro r H3 ⟨⟨u,Z,rfl,W,z2,X⟩,f3,n3⟩;rw[F]at *;have d:0<T.length:=lIO.2 λh=>by subst h;have:=(qqr (S:=g) (x:=g[0])).2 (sx f);rw[a]at this;cases this
   have N:kM 6 (.sl b o T.length u e) none (some (iN (T.length))) (some (iN (T.length)))=.val (.sl b o T.length T.length true):=by
    show(match aq T.length u none (some (iN (T.length))) (some (iN (T.length)))with|some bd=>jJ b o 6 bd true|none=>R0.bad)=_;have:aq T.length u none (some (iN (T.length))) (some (iN (T.length)))=some ⟨0,T.length,T.length⟩:=by show(match(bif Nat.ble T.length u then some T.length else none)with|none=>none|some M=>match(bif Nat.ble T.length M then some T.length else none)with|none=>none|some h=>match(some 0:Option Nat)with|none=>none|some T=>some (Bd.mk T h M))=_;rw[ble_eq,j7 W];simp only[AN,ble_eq,j7 (AF T.length)]
    rw[this];unfold jJ;simp only[beq_eq]
    grind
   have O:∀M e,aD (.sl b o T.length M e)=.val (iN (T.length)):=λ_ _=>rfl;simp only[go_sem,O,N];have G:=z9h (m:=T.length) (e:=true) yZ X om;rw[sY,lh l]at G;exact Ok.ret ⟨G,om,λc p=>by obtain⟨_,_,_,_,h⟩:=p;cases h;exact E⟩
variable {X:List aP} {o:List Nat}
theorem Vd(h:aB i Z=aB j N):i=j/\Z=N:=by
 have e:i=j:=by injection h
 refine⟨e,?_⟩;have c:=y7 i Z 0 Z.length;have d:=y7 j N 0 N.length;rw[sB om,pq,aj]at c d;rw[h,y7]at c;rw[<-h,y7]at d
 grind
variable{D E:AV}
theorem Gl.aAY{n w:Nat}(x:Gl z H sv n Z)(g:H.get w=aB 0 [h,.bU])(i:AV.bU∉Z):Gl z (H.put w (aB 0 [D,E])) sv n Z:=by
 refine⟨x.len,?_⟩;rcases x.is with x|⟨b,p,e,q,L,rfl,j,c,a,k,m⟩
 ·grind
 ·refine .inr ?_;by_cases o:b=w
  ·subst o;rw[j]at g;obtain⟨rfl,rfl⟩:=Vd g
   match p,c,a with
   |0,_,a=>exact absurd om i
   |1,_,a=>exact absurd om i
   |2,_,a=>exact⟨b,2,e,0,[D,E],rfl,om,g3,om,k,m⟩
   |p+3,c,_=>simp at c
  ·grind
theorem Gl.nm(h:Gl z H sv i Z):sv≠ .bU:=by rcases h.is with⟨rfl,_⟩|⟨b,p,e,q,L,rfl,_⟩<;>simp
theorem TE.Ok.nm{tg:SS->SS->List SS}{e:TE}(h:e.Ok tg H):AV.bU∉oH e:=by
 have a:=h.gl.nm;have b:e.sp≠ .bU:=by
  rcases h.sp with h|h
  ·exact h.2.nm
  ·grind
 unfold oH SS.v wS
 grind
theorem jK.aAY{most w:Nat}{l:List iG}(n:jK X o H sv most l)(i:H.get w=aB 0 [E,.bU]):jK X o (H.put w (aB 0 [h,D])) sv most l:=by
 obtain⟨tb,mb,lv,rfl,q,r,u,m,v⟩:=n.ex;have z:tb≠w:=λe=>by
  subst e;rw[u]at i;have:=(Vd i).2
  grind
 have A:mb≠w:=λe=>by subst e;obtain⟨es,c,g,_⟩:=m.ex;rw[g]at i;cases i
 refine⟨⟨tb,mb,lv,rfl,q,r,om,m.eq om,v.aAY i λd=>?_⟩,λe k=>?_,n.p,n.n⟩
 ·obtain⟨e,k,d⟩:=lEI.1 d;have a:=(n.ok e k).ty.nm;have b:=(n.ok e k).nd.gl.nm;unfold sM SS.v at d
  grind
 ·have f:=n.ok e k;refine⟨f.ty.aAY i λd=>?_,f.nd.gl.aAY i λd=>?_,f.nd.is,λy j=>?_⟩
  ·obtain⟨sv,_,d⟩:=lEI.1 d;trivial
  ·obtain⟨y,j,d⟩:=lEI.1 d;exact(f.nd.ok y j).nm d
  ·have j:=f.nd.ok y j;refine⟨j.gl.aAY i λd=>?_,j.sp.imp (λn=>⟨n.1,n.2.aAY i λd=>?_⟩) id⟩
   ·unfold aJ at d
    grind
   ·obtain⟨s,_,d⟩:=lEI.1 d;trivial
variable {LA LO:LP} {L:List (List Nat)}
theorem xab(n:Nat):sQ 0 n (some [])=.new (.sl n 0 0 0 true) (aB 0 []):=id rfl
theorem aNB(l:List AV):aU l 0=[]:=id rfl
structure Dp(H0 H:Hp)(mb:Nat)(rs:List (SS×bA)):Prop where
 m:oP H mb rs
 o:H0.nx<=mb/\mb<H.nx
 fm:Fm No H0 H
theorem U7{O:Ev.Call}{mb pb:Nat}(n:dB H' sv X)(o:(aF X).Nodup)(f:PrX X){s:Nat}(d:s<X.length)(y:∀H,Dp H' H mb (dM X s++X[s].gs.map λx=>(X[s].name,x))->Ok (V H) U):∀(k i:Nat) (H:Hp),i<=X[s].gs.length->X[s].gs.length-i<k->Dp H' H mb (dM X s++(X[s].gs.take i).map λx=>(X[s].name,x))->H.get pb=aB 0 [.str X[s].name.n X[s].name.a,X[s].rv]->mb<pb->pb<H.nx -> Ok (GO O V (.map mb) (.ptr pb 0) X[s].rv (iN (X[s].gs.length)) k (iN i) H) U
 |0,i,_,_,h,_,_,_,_=>om
 |k+1,i,H,hi,hk,hI,hp,hpn,hpl=>by
  show Ok (JX O _ _ _ _ _ (GO O _ _ _ _ _ k) _ H) U;unfold JX;obtain⟨G,I⟩:=hI.o;by_cases a:i<X[s].gs.length
  ·simp only[go_sem,a];unfold Zv;have z:=n.fm hI.fm;have b:=z.sp _ (sx d);obtain⟨T,J,K,Q,_,_,_,r⟩:=b.at' i a;have g:=b.rel _ (sx a);obtain⟨c0,t,u,v,_,j⟩:=x9 g;rw[j]at r;have A:=(f.r _ (sx d)).1;have B:=(f.x _ om _ (sx a)).1;refine lW K r hp xab aNB ?_;obtain⟨H1,l⟩:∃H1,H1=(Hp.mk ((aH H (aB 0 [zS,.aA,uN 0,zS,zS,.aA])).put H.nx (aB 0 [.str X[s].gs[i].r.name.n X[s].gs[i].r.name.a,X[s].gs[i].tv,c0,t,u,v])).t (H.nx+1+11)).put (H.nx+1+6) (aB 0 []):=⟨_,rfl⟩;have C:Fm No H H1:=om;have R:H1.nx=H.nx+12:=om;have k0:H1.get H.nx=aB 0 [.str X[s].gs[i].r.name.n X[s].gs[i].r.name.a,X[s].gs[i].tv,c0,t,u,v]:=om;have D:H1.get (H.nx+1+6)=aB 0 []:=om;have c:=(g.fm C).ty.src fz g.nl;rw[<-l,c];refine Ok.iC (Qo fz D om om om) ?_;rintro w e ⟨L,m,_⟩;have S:=m.nx;have E:e.get pb=aB 0 [.str X[s].name.n X[s].name.a,X[s].rv]:=(m.get pb om om).trans om;have F:=(m.get H.nx om om).trans k0;have p:Fm No H e:=om;obtain⟨M,N,P⟩:=(hI.m.fm I p).put (X[s].name,X[s].gs[i]) (GD o d a) (L.rs fz);simp only[go_sem,seval,E,F,N];unfold Ol;refine aS ?_;refine U7 n o f d y k (i+1) (e.put mb M) om om ⟨?_,om,(hI.fm.trans p).aN _ _ G⟩ ?_ hpn (by show pb<e.nx;omega)
   ·rw[nh a,AO,cu,<-sR];exact P
   ·grind
  ·simp only[go_sem,a]
   grind
theorem Sz{O:Ev.Call}{H0:Hp}{sv:AV}{mb:Nat}(c:dB H0 sv X)(d:(aF X).Nodup)(b:PrX X)(e:∀H,Dp H0 H mb (eG X)->Ok (V H) U):∀(k s:Nat) (H:Hp),s<=X.length->X.length-s<k->Dp H0 H mb (dM X s) -> Ok (CJ O V (.map mb) sv (iN (X.length)) k (iN s) H) U
 |0,i,_,_,h,_=>om
 |k+1,s,H,hi,hk,hI=>by
  show Ok (Zw O _ _ _ _ (CJ O _ _ _ _ k) _ H) U;unfold Zw;obtain⟨r,j⟩:=hI.o;have v:=b.n;by_cases a:s<X.length
  ·simp only[go_sem,a];unfold Zu;have f:=c.fm hI.fm;obtain⟨z,t,u,A,_,l,_⟩:=f.rs.at' s a;unfold yR SS.v at l;have o:=(f.sp _ (sx a)).len;have p:=(b.r _ (sx a)).1;have g:Fm No H ((aH H (aB 0 [zS,.aA])).put H.nx (aB 0 [.str X[s].name.n X[s].name.a,X[s].rv])):=by exact zL
   refine gW u l o ?_;rw[dD];refine U7 c d b a (pb:=H.nx) (λm n=>?_) bT 0 _ (vy _) lf ⟨?_,⟨r,gx⟩,hI.fm.trans g⟩ (gX _ _ _) j gx
   ·unfold md;refine aS ?_;refine Sz c d b e k (s+1) m om om ?_;have w:dM X (s+1)=dM X s++X[s].gs.map λx=>(X[s].name,x):=by
     unfold dM eG;rw[nh a,nt,AJ]
    simp_all
   ·rw[ry,List.map_nil,DN];exact hI.m.fm j g
  ·simp only[go_sem,a];have y:s=X.length:=om;refine e H ?_;have:dM X X.length=eG X:=by unfold dM;rw[aj]
   simp_all
theorem z1d{k:Nat}(n:1<=k)(l:dB H sv X)(a:bV X):Ok (C k (.f 174) [.agg [sv]] H) λr H'=>∃b,r=.map b/\oP H' b (eG X)/\b<H'.nx/\Fm No H H':=by
 obtain⟨j,rfl⟩:=aO n;rw[lk (zq0 ..)];unfold WG;have f:Fm No H (aH (aH H (aB 0 [sv])) (.map [] 0)):=by exact sw
 have d:=l.fm f;have g:=d.rs.len;have m:=a.pr.n;refine dI g ?_;rw[dD];refine Sz (H0:=aH H (aB 0 [sv])) (sv:=sv) (mb:=H.nx+1) (l.fm (by exact fh)) a.al a.pr (λo c=>?_) bT 0 _ (vy _) lf ⟨⟨[],0,by simp(disch:=first|go_size|omega)only[go_sem],?_,λi e p h=>by cases h⟩,⟨gx,gx⟩,by exact fh⟩
 ·unfold gV;exact Ok.ret ⟨_,rfl,c.m,c.o.2,Fm.trans (by exact fh) c.fm⟩
 ·rfl
def Iv(t:Tu)(y:jW):Bool:=decide (y.sp.n=t.x.n/\y.sp.a=t.x.a)&&decide (y.rl.n=t.z.n/\y.rl.a=t.z.a)
def cN(X:List aP)(t:Tu):Nat:=bif t.ok then(match kQ X t.a t.c with|none=>6|some g=>bif g.r.types.any (Iv t)then 0 else 11)else 6
theorem zy9(t:Tu)(ts:List jW):ts.any (Iv t)=decide ((⟨t.x,t.z⟩:jW)∈ts):=by
 rw[lU1,gp,lIE];have h:∀y:jW,Iv t y=true↔y=⟨t.x,t.z⟩:=λy=>by
  unfold Iv;rw[sA,gp,gp,<-pE,<-pE];constructor
  ·rintro ⟨a,b⟩;cases y;simp only at a b;rw[a,b]
  ·simp_all
 simp_all
theorem xam{k:Nat}(n:6<=k){b:Nat}(c:bV X)(o:oP H b (eG X))(p:b<H.nx)(t:Tu):Ok (C k (.f 175) [.map b,.agg t.cells] H) λr H'=>r=iN ((cN X t))/\Fm No H H':=by
 obtain⟨j,rfl⟩:=aO n;rw[lk (zqz ..)];unfold WF;have q:pU 6 H.nx (.agg t.cells)=.new (.ptr H.nx 0) (aB 0 t.cells):=id rfl;have s:aB 0 t.cells=aB 0 [.str t.a.n t.a.a,.str t.b.n t.b.a,.str t.c.n t.c.a,.str t.x.n t.x.a,.str t.y.n t.y.a,.str t.z.n t.z.a]:=id rfl;refine dS q s ?_;refine Ok.ve (zju (k:=j) om t _) ?_;rintro _ H1 ⟨rfl,y⟩;have e:Fm No H H1:=om;unfold cN;cases t.ok with
 |false=>exact Ok.ret ⟨rfl,e⟩
 |true=>
  unfold Zt;have g1:H1.get H.nx=aB 0 [.str t.a.n t.a.a,.str t.b.n t.b.a,.str t.c.n t.c.a,.str t.x.n t.x.a,.str t.y.n t.y.a,.str t.z.n t.z.a]:=(y.keep gx).trans om;have d:=o.fm p e;by_cases a:(t.a,t.c)∈(eG X).map kq
  ·obtain⟨v,f,i⟩:=d.find .aA a;rw[vC]at a i;obtain⟨x,l,z⟩:=li c.al c.sp a;have u:=i _ z;simp only[go_sem,seval,g1,f];refine Ok.ve (SO (k:=j) om u (by have:=QG c.pr.sml l;show x.r.types.length<=1000;omega) ⟨t.x,t.z⟩) ?_;rintro _ A ⟨rfl,B⟩;rw[l];simp only;rw[zy9];by_cases m:(⟨t.x,t.z⟩:jW)∈x.r.types
   ·rw[j7 m];exact Ok.ret ⟨rfl,om⟩
   ·rw[sT m];exact Ok.ret ⟨rfl,om⟩
  ·have f:=d.miss .aA a;rw[vC]at a;have w:kQ X t.a t.c=none:=by
    have:=E9 c.al c.sp t.a t.c;rw[sT a]at this;cases h:kQ X t.a t.c with
    |none=>rfl
    |some g=>rw[h]at this;cases this
   rw[w];simp only[go_sem,seval,g1,f];exact Ok.ret ⟨rfl,e⟩
theorem Qv(d:6<=j){b:Nat}(e:bV X)(m:oP H' b (eG X))(n:b<H'.nx)(f:Rs 6 Tu.cells H' sv T)(o:T.length<=40){qr:AV->pD}(p:∀(i:Nat) (h:i<T.length) H,cN X T[i]≠0->(∀t∈T.take i,cN X t=0)->Fm No H' H->Ok (qr (iN i) (iN ((cN X T[i]))) H) U)(r:∀H,(∀t∈T,cN X t=0)->Fm No H' H->Ok (V H) U):∀(k i:Nat) (H:Hp),i<=T.length->T.length-i<k->(∀t∈T.take i,cN X t=0)->Fm No H' H -> Ok (Ee (C j) qr V (.map b) sv (iN (T.length)) k (iN i) H) U
 |0,i,_,_,h,_,_=>om
 |k+1,i,H,hi,hk,ha,hf=>by
  show Ok (ZC (C j) _ _ _ _ _ (Ee (C j) _ _ _ _ _ k) _ H) U;unfold ZC;by_cases a:i<T.length
  ·refine dI a ?_;unfold Oo;obtain⟨z,A,w,B,x⟩:=(f.fm hf).oG a;have u:Fm No H ((aH H (aB 0 [zS,zS,zS,zS,zS,zS])).put H.nx (aB 0 T[i].cells)):=fm;refine jF w x yZ y0 ?_;refine Ok.ve (xam d e om (by have:=hf.nx;(go_size)) T[i]) ?_;rintro _ H1 ⟨rfl,y⟩;have c:=(hf.trans u).trans y;by_cases g:cN X T[i]=0
   ·rw[g];refine aS ?_;unfold md;refine aS ?_;refine Qv d e m n f o p r k (i+1) H1 om om (λt s=>?_) c;rw[nh a,lAJ,lAK]at s
    grind
   ·refine dI g ?_
    grind
  ·refine dI a ?_
   grind
def fb(X:List aP):List Tu->Nat×Nat
 | []=>(0,0)
 |t::l=>if cN X t=0 then((fb X l).1+1,(fb X l).2)else(0,cN X t)
theorem Pi:∀{l:List Tu},(∀t∈l,cN X t=0)->fb X l=(l.length,0)
 | [],_=>rfl
 |t::l,h=>by unfold fb;rw[sB (h t vA),Pi λu a=>h u (DQ _ a)];rfl
theorem Vs:∀{l:List Tu} {i:Nat} (h:i<l.length),cN X l[i]≠0->(∀t∈l.take i,cN X t=0)->fb X l=(i,cN X l[i])
 | [],_,h,_,_=>by simp at h
 |t::l,0,_,h0,_=>by unfold fb;simp_all
 |t::l,i+1,h,h0,ha=>by unfold fb;rw[sB (ha t g3),Vs (l:=l) (i:=i) (by simpa using h) (by simpa using h0) λu a=>ha u (by rw[qx];exact DQ _ a)];rfl
theorem z1p(d:iO C)(e:fG C)(g:qM C)(m:pP C)(n:pZ LA LO C){k:Nat}(o:1004<=k)(B:dB H sv X)(v:f8 X)(p:Rs 6 Tu.cells H h T)(q:T.length<=40):Ok (C k (.f 122) [.agg [sv],h] H) λr H'=>r=.aX [iN ((fb X T).1),iN ((fb X T).2)]/\Fm No H H':=by
 obtain⟨j,rfl⟩:=aO o;rw[lk (zq3 ..)];unfold WJ;refine aS ?_;have f:Fm No H (aH H (aB 0 [sv])):=fm;refine Ok.ve (zzc d e g m n (k:=j) om om v) ?_;rintro _ H1 ⟨rfl,x⟩;have D:=om;have g0:H1.get H.nx=aB 0 [sv]:=(x.keep gz).trans g5;refine aS ?_;unfold ZB;refine dI g0 ?_;refine Ok.ve (z1d (k:=j) om om v.val) ?_;rintro _ y ⟨b,rfl,z,A,F⟩;have E:=om;have c:=p.len;refine dI c ?_;rw[dD];refine Qv om v.val z A om q (λi s t u a w=>?_) (λt a w=>?_) bT 0 y om lf om om
 ·rw[Vs s u a];exact Ok.ret ⟨rfl,om⟩
 ·rw[Pi a];unfold ZA;refine dI c ?_;exact Ok.ret ⟨rfl,om⟩
variable{Y:List G3}
theorem MB.put{w:Nat}{es:List eT}(h:MB H' H z T es Y)(l:w<H'.nx)(f:z≠w)(k:cZ):MB H' (H.put w k) z T es Y:=
 ⟨(jR _ _ _ _ f).trans h.get,h.key,h.born,h.mem,h.nd,λi e g a c=>(h.val i e g a c).fm ((Fm.refl (· =w) H).put w k om) λx j=>by have:=h.nw i e x a j;omega,h.nw,h.dj⟩
theorem zx7(E:iO C)(F:fG C)(G:qM C)(I:pP C)(J:pZ LA LO C)(U:uK C){k:Nat}(V:1005<=k)(K:dB H sv X)(v:f8 X)(L:Gl 6 H h M.length (M.flatMap Tu.cells))(W:M.length<=40)(s:∀t∈M,t.lo)(Y:lI T)(Z:∀t,t∈M↔t∈T)(hll:T.length<=20)(hf:(fb X M).2=0):Ok (C k (.f 88) [.agg [sv],h] H) λr H'=>∃t b o tl Hb es u,r=.aX [.agg [t,.map b],iN 0]/\lG X o/\jK X o H' t (ke X o) tl/\tl.length<300/\MB Hb H' b T es u/\b<H'.nx/\Fm No H H':=by
 obtain⟨j,rfl⟩:=aO V;rw[lk (zpu ..)];unfold V3;have x:Fm No H (aH (aH H (aB 0 [sv])) (aB 0 [.bQ,.bU])):=by(repeat refine Fm.push ?_ _);exact Fm.refl _ _
 refine aS ?_;refine Ok.ve (z1p E F G I J (k:=j) om (K.fm x) v ((L.no x).rs yZ) W) ?_;rintro _ H1 ⟨rfl,p⟩;rw[hf];have O:=x.trans p;have n1:=p.nx;simp only[np]at n1;have k0:H1.get H.nx=aB 0 [sv]:=(p.keep g1).trans g6;unfold Zb;simp only[go_sem,seval,k0];refine Ok.ve (zzb E F G I J (k:=j) om (K.fm O) v) ?_;rintro _ a ⟨t,o,tl,rfl,B,f,D⟩;have n2:=D.nx;have P:=O.trans D;have y:tl.length<300:=by have:=congrArg List.length f.p;rw[vu,Bi]at this;have:=v.len;omega
 obtain⟨tb,_,_,rfl,_⟩:=f.ex;have cm:vJ (.map a.nx)=some [.map a.nx]:=rfl;have ct:vJ (.ptr tb 0)=some [.ptr tb 0]:=rfl;have ag:∀T:List AV,bJ (some T)=.val (.agg T):=λ_=>rfl;refine gW cm ct ag ?_;have Q:Fm No a ((aH (aH a (.map [] 0)) (aB 0 [.bQ,.bU])).put (a.nx+1) (aB 0 [.ptr tb 0,.map a.nx])):=by repeat first|exact Fm.refl _ _|assumption|refine Fm.push ?_ _|refine Fm.aN ?_ _ _ om
 refine Ok.ve (zbg U (k:=j) om (L.no (P.trans Q)) om s Y Z) ?_;rintro rv n ⟨g4,q,l⟩;have n4:=q.nx;simp only[np,nq]at n4 l;have e0:=g4.len;have kb:n.get a.nx=.map [] 0:=(q.keep g1).trans g6;have R:n.get (a.nx+1)=aB 0 [.ptr tb 0,.map a.nx]:=(q.keep gx).trans g5;refine dI e0 ?_;rw[dD];refine Qe (H0:=n) (b:=a.nx) (tv:=.ptr tb 0) g4 (λc m v=>by have:=l c m;omega) R om om om om (λN es u hM w=>?_) bT 0 n [] [] (vy _) lf ⟨kb,rfl,λi e v=>by simp at v,λt v=>by simp at v,uB,λi e g v=>by simp at v,λi e c v=>by simp at v,λi j e e' c _ v=>by simp at v⟩ (Fm.refl _ _);unfold Jn;have n5:=w.nx;have z:=(w.get (a.nx+1) om om).trans R;have A:=Q.trans q;have d:Fm No a N:=A.then w λc m v=>om;have S:N.get (H.nx+1)=aB 0 [.bQ,.bU]:=(((p.trans D).trans d).keep gz).trans g5;refine dS z S ?_;refine Ok.ret ⟨_,a.nx,o,tl,n,es,u,rfl,B,(f.fm d).aAY S,y,hM.put om om _,by(go_size),(P.trans d).aN _ _ om⟩
def ef(X:List aP)(g:G3):Bool:=s8 g&&decide ((g.1.1,g.2)∈aF X)
theorem zk4(u:iO C)(x:fG C)(y:qM C)(z:pP C)(A:pZ LA LO C)(B:uK C){k:Nat}(D:1006<=k)(W:dB H sv X)(v:f8 X)(U:Gl 6 H h M.length (M.flatMap Tu.cells))(E:M.length<=40)(f:∀t∈M,t.lo)(F:lI T)(G:∀t,t∈M↔t∈T)(d:T.length<=20)(I:(fb X M).2=0)(g:G3)(J:ef X g=true->jy X Y (gK X T)/\g∈Y):Ok (C k (.f 38) [.agg [sv],h,.agg (gC g)] H) λr H'=>∃w,r=.aX [w,iN ((if ef X g then 0 else 6))]/\Ac 3 gC H H' w (if ef X g then iU (gK X T) g else[])/\dX w=.val (iN ((if ef X g then iU (gK X T) g else[]).length)):=by
 obtain⟨j,rfl⟩:=aO D;rw[lk (zpy ..)];unfold V7;have K:gC g=[.str g.1.1.n g.1.1.a,.str g.1.2.n g.1.2.a,.str g.2.n g.2.a]:=rfl;rw[K];have Z:Fm No H (aH (aH H (aB 0 [sv])) (aB 0 [.str g.1.1.n g.1.1.a,.str g.1.2.n g.1.2.a,.str g.2.n g.2.a])):=by(repeat refine Fm.push ?_ _);exact Fm.refl _ _
 refine aS ?_;refine Ok.ve (zx7 u x y z A B (k:=j) om om v om E f F G d I) ?_;rintro _ H1 ⟨t,b,o,tl,Hb,es,gs,rfl,_,c,e,N,O,q⟩;have L:=q.nx;simp only[np]at L;obtain⟨tb,_,_,rfl,_⟩:=c.ex;have n:H1.get (H.nx+1)=aB 0 [.str g.1.1.n g.1.1.a,.str g.1.2.n g.1.2.a,.str g.2.n g.2.a]:=(q.keep gz).trans g5;have p:Fm No H1 ((aH H1 (aB 0 [.bQ,.bU])).put H1.nx (aB 0 [.ptr tb 0,.map b])):=om;unfold Zf;refine dI n ?_;refine Ok.ve (znk (k:=j) om (c.fm p) v.val e g) ?_;rintro _ P ⟨rfl,s⟩;have a:=p.trans s;have m:P.get H1.nx=aB 0 [.ptr tb 0,.map b]:=(s.keep gx).trans om;have i:=(a.keep om).trans n;rw[show(s8 g&&decide ((g.1.1,g.2)∈aF X))=ef X g from rfl];cases V:ef X g with
 |false=>exact Ok.ret ⟨.aA,rfl,Ac.nil _ _ om,rfl⟩
 |true=>unfold N2;obtain⟨Q,R⟩:=J V;simp only[go_sem,seval,m,i];refine Ok.ve (Ux (k:=j) om (N.fm a O) om d (c.fm a) v.val e Q R) ?_;rintro _ H3 ⟨w,rfl,S,l⟩;exact Ok.ret ⟨w,rfl,S.trans om,l⟩
end Go.Di
end
noncomputable section
namespace Go.Di
open Go.Ev
variable {X:List aP} {o:List Nat}
variable{D:List (SS×SS)}{E:Hp}{F:Nat}{M:pL}{N:pH}{O:Ev.Call}{qr:pD}{sv:AV}
theorem zn1{g:SS×SS}(f:Rs 2 pC E sv D)(d:E.get F=aB 0 (pC g))(t:D.length<=900000)(j:g∈D->∀i:Nat,Ok (qr (iN i) E) M)(m:g∉D->Ok (N E) M):∀(k i:Nat),i<=D.length->D.length-i<k->g∉D.take i->Ok (D2 O qr N sv (.ptr F 0) (iN D.length) k (iN i) E) M
 |0,i,_,h,_=>om
 |k+1,i,hi,hk,hm=>by
  show Ok (Y5 O _ _ _ _ _ (D2 O _ _ _ _ _ k) _ E) M;unfold Y5;by_cases a:i<D.length
  ·refine dI a ?_;unfold NI;obtain⟨b,o,r,_,s⟩:=f.oG a;have c:dL (eqFields [(p1,⟨bH⟩,0),(p1,⟨bH⟩,1)]) (.agg (pC g)) (.agg (pC D[i]))=some (decide (g=D[i])):=y9 g D[i];have g2:∀x:SS×SS,(pC x).length=2:=λ_=>rfl;have p:∀x:SS×SS,List.take 2 (pC x)=pC x:=λ_=>rfl;by_cases h:g=D[i]
   ·rw[j7 h]at c;refine dG r s d g2 p c dk ?_;exact j (by rw[h];exact sx a) i
   ·rw[sT h]at c;refine dG r s d g2 p c dk ?_;unfold zw3;refine aS ?_;refine zn1 f d t j m k (i+1) om om λn=>?_;rw[nh a,lAJ,lAK]at n;exact n.elim hm h
  ·refine dI a ?_;exact m (by rw[AQ om]at hm;exact hm)
theorem zwq{k:Nat}(s:2<=k)(c:Rs 2 pC E sv D)(o:D.length<=900000)(g:SS×SS):Ok (C k (.f 71) [sv,.agg (pC g)] E) λr H'=>r=.bool (decide (g∈D))/\Fm No E H':=by
 obtain⟨j,rfl⟩:∃j,k=j+1+1:=⟨k-2,om⟩;rw[lk (zpl ..)];unfold VT;have d:∀n,pU 2 n (.agg (pC g))=.new (.ptr n 0) (aB 0 (pC g)):=λ_=>rfl;have g2:∀x:SS×SS,(pC x).length=2:=λ_=>rfl;have p:∀x:SS×SS,List.take 2 (pC x)=pC x:=λ_=>rfl;have f:Fm No E (aH E (aB 0 (pC g))):=fm;have a:Fm No E (aH (aH E (aB 0 (pC g))) (aB 0 (pC g))):=fm;have e:Ok (C (j+1) (.f 136) [sv,.agg (pC g)] (aH E (aB 0 (pC g)))) λr H'=>Fm No E H'/\((g∈D/\∃i:Nat,r=iN i)\/(g∉D/\r=.int .i64 (.negSucc 0))):=by rw[lk (zpm ..)];unfold VU;have q:=c.len;refine dS d q ?_;rw[dD];refine zn1 (g:=g) (c.fm a) g5 o (λh i=>Ok.ret ⟨a,.inl ⟨h,i,rfl⟩⟩) (λh=>?_) bT 0 (vy _) lf g3;unfold NX;exact Ok.ret ⟨a,.inr ⟨h,rfl⟩⟩
 refine gW d g2 p ?_;refine Ok.ve e ?_;rintro _ H1 ⟨m,⟨h,i,rfl⟩|⟨h,rfl⟩⟩
 ·rw[j7 h];refine dI I5 ?_;exact Ok.ret ⟨rfl,m⟩
 ·rw[sT h];have b:eP (lT .geq).f (.int .i64 (.negSucc 0)) (iN 0)=.val (.bool false):=rfl;refine dI b ?_;exact Ok.ret ⟨rfl,m⟩
def bC(b:Bool):List AV:=[.bool b]
variable{J:List Bool}
theorem zn2(d:Rs 1 bC E sv J)(m:J.length<=900000)(e:J.any id=true->∀i:Nat,Ok (qr (iN i) E) M)(f:J.any id=false->Ok (N E) M):∀(k i:Nat),i<=J.length->J.length-i<k->(J.take i).any id=false->Ok (D1 O qr N sv (.bool true) (iN J.length) k (iN i) E) M
 |0,i,_,h,_=>om
 |k+1,i,hi,hk,hm=>by
  show Ok (YH O _ _ _ _ _ (D1 O _ _ _ _ _ k) _ E) M;unfold YH;by_cases a:i<J.length
  ·refine dI a ?_;unfold zw1;obtain⟨b,o,j,_,_,_,n⟩:=d.at' i a;have c:cB (E.get b) o=.val (.bool J[i]):=n 0 Nat.zero_lt_one;have g:∀x:Bool,iQ false (zT (.bool true) (.bool x))=.val (.bool x):=λx=>by cases x<;>rfl
   cases h:J[i]with
   |true=>rw[h]at c;refine gW j c g ?_;exact e (lIE.2 ⟨_,sx a,h⟩) i
   |false=>rw[h]at c;refine gW j c g ?_;unfold zw2;refine aS ?_;refine zn2 d m e f k (i+1) om om ?_;rw[nh a,pg,hm,h];rfl
  ·refine dI a ?_;exact f (by rw[AQ om]at hm;exact hm)
theorem zwr{k:Nat}(e:2<=k)(b:Rs 1 bC E sv J)(c:J.length<=900000):Ok (C k (.f 94) [sv,.bool true] E) λr H'=>r=.bool (J.any id)/\Fm No E H':=by
 obtain⟨j,rfl⟩:∃j,k=j+1+1:=⟨k-2,om⟩;rw[lk (zpj ..)];unfold VR;rw[Qh];rw[lk (zpk ..)];unfold VS;have d:=b.len;refine dI d ?_;rw[dD];refine Ok.ve (R:=λr H'=>H'=E/\((J.any id=true/\∃i:Nat,r=iN i)\/(J.any id=false/\r=.int .i64 (.negSucc 0)))) (zn2 b c (λh i=>Ok.ret ⟨rfl,.inl ⟨h,i,rfl⟩⟩) (λh=>?_) bT 0 (vy _) lf g3) ?_
 ·unfold NH;exact Ok.ret ⟨rfl,.inr ⟨h,rfl⟩⟩
 rintro _ _ ⟨rfl,⟨h,i,rfl⟩|⟨h,rfl⟩⟩
 ·rw[h];refine dI I5 ?_;exact Ok.ret ⟨rfl,Fm.refl _ _⟩
 ·rw[h];have a:eP (lT .geq).f (.int .i64 (.negSucc 0)) (iN 0)=.val (.bool false):=rfl;refine dI a ?_;exact Ok.ret ⟨rfl,Fm.refl _ _⟩
theorem zoc{k:Nat}(a:1<=k){l:List iG}(h:jK X o E sv F l):C k (.f 60) [sv] E=.ok (iN F) E:=by obtain⟨j,rfl⟩:=aO a;rw[lk (zpn ..)];unfold VV;obtain⟨tb,mb,lv,rfl,c,_,b,_⟩:=h.ex;have e:iQ false (eN (.ptr tb 0) .bQ)=.val (.bool false):=rfl;simp(disch:=go_size)only[go_sem,seval,e];unfold zw4;simp(disch:=go_size)only[go_sem,seval,b]
open Go.Di.T Go.Sort
variable{U:List G3}{h:AV}
theorem Qr(d:Rs 3 gC E sv U)(c:Rs 3 gC E h U)(g:U.length<=900000)(e:Ok (N E) M):∀(k i:Nat),i<=U.length->U.length-i<k->Ok (D5 O qr N sv h k (iN i) E) M
 |0,i,_,w=>om
 |k+1,i,hi,hk=>by
  show Ok (Ze O _ _ _ _ (D5 O _ _ _ _ k) _ E) M;unfold Ze;have f:=c.len;by_cases a:i<U.length
  ·simp only[go_sem,f,a];unfold zw8;obtain⟨b,o,m,_,n⟩:=d.oG a;obtain⟨s,t,p,_,r⟩:=c.oG a;have j:=Av U[i] U[i];simp only[go_sem,m,n,p,r,j,o8];unfold jg;refine aS ?_;exact Qr d c g e k (i+1) om om
  ·simp only[go_sem,f,a];exact e
theorem Ok.is{r:R1}(h:Ok r λa b=>a=sv/\b=E):r=.ok sv E:=by obtain⟨_,_,e,rfl,rfl⟩:=h;exact e
theorem zl5{k:Nat}(c:1<=k)(a:Gl 3 E sv U.length (U.flatMap gC))(d:dX sv=.val (iN (U.length)))(b:Rs 3 gC E h U)(f:U.length<=900000)(e:Nat):C k (.f 39) [sv,iN e,h,iN e] E=.ok (.bool true) E:=by obtain⟨j,rfl⟩:=aO c;rw[lk (zpw ..)];unfold V5;refine Ok.is ?_;have g:=a.bF;have w:=b.len;simp only[go_sem,g,w,d];unfold N1;rw[dD];refine Qr (a.rs vV) b f ?_ bT 0 om lf;exact Ok.ret ⟨rfl,rfl⟩
variable {LA LO:LP}
theorem bV.ofW(a:bV X):IY X:=by
 refine⟨a.pr.sml,by rw[<-Bi];exact a.pr.len,λi h=>?_⟩;have c:i<(eG X).length:=by rw[Bi];exact h
 obtain⟨l,m,g,f,j,e⟩:=a.at c;have b:=(a.pr.x g f _ j).2.2.1;refine⟨(eG X)[i].2,by rw[GA c h];exact l,by have:=b.dp;omega,by have:=b.sz;omega,λy k p d=>?_⟩;rw[GA c h,<-e]at d;exact a.ndt ⟨f,j⟩ k p d
theorem zyg:∀(l:List Tu) (o:List (SS×SS)),(l.foldl dP o).length<=o.length+2*l.length
 | [],o=>g3
 |t::l,o=>by have a:=GC o (t.a,t.b);have b:=GC (tO o (t.a,t.b)) (t.x,t.y);have:=zyg l (dP o t);rw[uh,nk];unfold dP at *;omega
variable{I:List Tu}
theorem z0p{k:Nat}(x:22<=k)(g:dB E sv X)(v:f8 X)(s:Gl 6 E h I.length (I.flatMap Tu.cells))(y:I.length<=20):Ok (C k (.f 11) [.agg [sv],h] E) λr H'=>∃n ov i,r=.agg [sv,h,n,ov,i]/\Rs 3 gC H' i (nE (aF X) (I.foldl dP []))/\Fm No E H':=by obtain⟨j,rfl⟩:=aO x;rw[lk (zp0 ..)];unfold V9;have t:Fm No E (aH (aH E (aB 0 [sv])) (aB 0 [.aA,.aA,.aA,.aA,.aA])):=fm;refine aS ?_;refine Ok.ve (zt4 (k:=j) om (g.fm t) v.val.ofW) ?_;rintro O H1 ⟨b,ms,l,J⟩;refine Ok.ve (qv2 (k:=j) om l v.len) ?_;rintro P d ⟨K,L⟩;have a:=J.trans K;have o:=t.trans a;have A:=a.nx;simp only[np]at A;have k0:d.get E.nx=aB 0 [sv]:=(a.keep g1).trans g6;have B:d.get (E.nx+1)=aB 0 [.aA,.aA,.aA,.aA,.aA]:=(a.keep gz).trans g5;obtain⟨w,Q,rfl,M⟩:=L;refine dI k0 ?_;refine Ok.iC (A6 (k:=j) om (g.fm o) v.val.pr.sml) ?_;intro n p f;have u:=o.trans f.fm;have q3:=f.gl.cells;have k3:p.get E.nx=aB 0 [sv]:=(f.fm.keep (show E.nx<d.nx by omega)).trans k0;have eS:lV 64 (.agg [sv]) (.agg [sv])=true:=oB [sv] (by have:=g.fl;unfold Tr;simp only[lq,List.all_nil,this,nk,DP];rfl);have D:=s.cells;refine dS k3 eS ?_;refine Ok.iC (aPE (k:=j) om (g.fm u) v.val.pr.sml ((s.no u).rs yZ) y (by have:=zyg I [];simp only[DP]at this;omega)) ?_;intro i q m;have c:=f.fm.trans m.fm;have H:=m.gl.cells;have F:q.get E.nx=aB 0 [sv]:=(c.keep (show E.nx<d.nx by omega)).trans k0;have G:q.get (E.nx+1)=aB 0 [.aA,.aA,.aA,.aA,.aA]:=(c.keep (show E.nx+1<d.nx by omega)).trans B;refine dG F G eS q3 D M H ?_;have N:d.nx<=p.nx:=f.fm.nx;exact Ok.ret ⟨n,w,i,rfl,(m.rs vV).dR ((Fm.refl (· =E.nx+1) q).put _ _ λ_=>rfl) (λb z e=>by have:p.nx<=b:=m.nw b z;omega),(o.trans c).aN _ _ om⟩
theorem vw:∀s∈nmL,l9 s=true:=g4
theorem IL:∀s∈mT,l9 s=true:=g4
theorem lJ.ty{t:Tu}(b:bV X)(h:lJ X t):Nm t.a/\Nm t.c/\Nm t.x/\(t.z=sE\/Nm t.z/\(t.x,t.z)∈aF X):=by
 obtain⟨_,_,_,g,i,d⟩:=h;obtain⟨p,c,a,j,k⟩:=cL i;obtain⟨_,l,_,m⟩:=b.pr.x p c g a;have f:=m _ d;refine⟨by rw[<-j];exact(b.pr.r p c).2,by rw[<-k];exact l,f.1,?_⟩;rcases((b.ty p c g a).2 _ d).2 with e|e
 ·grind
 ·simp_all
theorem lJ.zero{t:Tu}(a:bV X)(h:lJ X t):cN X t=0:=by
 obtain⟨c,d,f,i⟩:=h.ty a;obtain⟨j,k,_,g,l,m⟩:=h;have b:t.ok=true:=by
  unfold Tu.ok Is;rw[vw _ c,vw _ d,vw _ f,IL _ j,IL _ k];rcases i with e|e
  ·rw[e];rfl
  ·rw[vw _ e.1];simp
 unfold cN;rw[b,l,AN];simp only[zy9,j7 m,AN]
def iR(l:List Tu):List (SS×SS):=l.flatMap λt=>[(t.a,t.b),(t.x,t.y)]
theorem zll:∀l:List Tu,(iR l).length=2*l.length
 | []=>rfl
 |t::l=>by show(iR l).length+1+1=2*(l.length+1);rw[zll l];omega
theorem R9{x y:SS×SS}:∀{l:List (SS×SS)},y∈rW x l->y=x\/y∈l
 | [],h=>.inl (lAK.1 h)
 |z::l,h=>by
  rw[UQ]at h;split at h
  ·simp_all
  ·rcases lE4.1 h with rfl|h
   ·simp
   ·exact(R9 h).imp_right (DQ _)
theorem Sl{x y:SS×SS}(h:y∈tO D x):y=x\/y∈D:=by
 unfold tO at h;split at h
 ·grind
 ·exact R9 h
theorem zj1{y:SS×SS}:∀{l:List Tu} {o:List (SS×SS)},y∈l.foldl dP o->y∈o\/y∈iR l
 | [],_,h=>.inl h
 |t::l,o,h=>by
  show y∈o\/y∈(t.a,t.b)::(t.x,t.y)::iR l;rcases zj1 (l:=l) (o:=dP o t) h with h|h
  ·rcases Sl h with rfl|h
   ·simp
   ·rcases Sl h with rfl|h<;>simp[*]
  ·simp[h]
variable{P:G3}
theorem qfz{o:List (SS×SS)}:P∈nE D o↔P.1∈o/\(P.1.1,P.2)∈D:=by
 unfold nE rQ;simp only[lEI,lEA,lEU,gp]
 grind
theorem z8t(c:bV X)(w:(aF X).length<13)(z:I.length<=20)(k:∀t∈I,lJ X t)(p:SS×SS):jy X (nE (aF X) (p::iR I)) (gK X I):=by
 have m:∀t∈I,(t.x,t.y)∈p::iR I:=λt b=>DQ _ (lEI.2 ⟨t,b,g3⟩);refine⟨λg d=>(qfz.1 d).2,λg d r a=>?_,?_⟩
 ·obtain⟨j,n⟩:=qfz.1 d;unfold gK at a;split at a
  ·cases a
  ·rename_i x o;obtain⟨q,s,h,u,_⟩:=cL o;obtain⟨y,v,a⟩:=lEI.1 a;have f:=(c.nd q s x h y v).1;rw[u]at f;rcases lAJ.1 a with a|a
   ·split at a
    ·rename_i i;rw[lAK.1 a];exact qfz.2 ⟨j,om⟩
    ·cases a
   ·obtain⟨t,b,a⟩:=lEI.1 a;unfold xD at a;split at a
    ·rename_i i;rw[lAK.1 a];refine qfz.2 ⟨m t b,?_⟩;rcases((k t b).ty c).2.2.2 with e|e
     ·simp_all
     ·exact e.2
    ·split at a
     ·rename_i i;rw[lAK.1 a];exact qfz.2 ⟨om,c.tg i.2.2.2⟩
     ·cases a
 ·have j:=MJ (aF X) (p::iR I);have n:(p::iR I).length*(aF X).length<=41*12:=uj (by rw[nk,zll];omega) om;omega
theorem xbp(a:bV X)(d:∀t∈I,lJ X t)(e:P∈nE (aF X) (I.foldl dP [])):ef X P=true:=by
 obtain⟨i,b⟩:=qfz.1 e;obtain⟨q,c,x,j,k,m⟩:=qes.1 b;have f:P.1.2∈mT:=by
  rcases zj1 i with h|h
  ·cases h
  ·obtain⟨t,n,h⟩:=lEI.1 h;have:=d t n;rcases lE4.1 h with h|h
   ·rw[h];exact this.1
   ·rw[lAK.1 h];exact this.2.1
 unfold ef s8;rw[j7 b,<-k,<-m,vw _ (a.pr.r q c).2,vw _ (a.pr.x q c x j).2.1,IL _ f];rfl
theorem bV.aBK(f:bV X)(a b c:SS):(iK X a b c).Nodup:=by
 unfold iK;split
 ·simp
 ·rename_i g i;obtain⟨p,j,d,_⟩:=cL i;refine Fq (List.Pairwise.filter _ (f.ty p j g d).1) λx d y h e=>?_;unfold jw at d h;cases x;cases y;simp_all
theorem PP{R:G3->List G3}(a:∀g∈U,∀r∈R g,r∈U):∀(n i:Nat) {l:List G3},wE U l->wE U (eV R n i l)
 |0,_,_,h=>h
 |n+1,i,l,h=>by
  unfold eV;split
  ·exact PP a n _ (h.add (a _ (h.sub _ (sx _))))
  ·exact h
theorem MR(a:jy X U (gK X I))(b:P∈U):(iU (gK X I) P).length<=500:=
 AL (PP a.cl _ _ (wE.one b)).len a.n
end Go.Di
end
noncomputable section
namespace Go.Di
open Go.Ev
variable {X:List aP} {o:List Nat}
def jP(X:List aP)(o:List Nat)(g:G3):Nat:=o.getD (dA X g.1.1 g.2) 0
theorem ztn(f:bV X)(a b c:SS):∀s∈iK X a b c,Nm s:=λs d=>by
 unfold iK at d;split at d
 ·cases d
 ·rename_i x g;obtain⟨p,h,e,_,_⟩:=cL g;unfold fZ at d;obtain⟨t,i,rfl⟩:=lEA.1 d;exact((f.pr.x p h x e).2.2.2 t (lEU.1 i).1).1
structure Ql(X:List aP)(a:SS)(e:TE):Prop where
 tg:e.t.k=3->0<(iK X a e.t.rl e.t.to).length/\(iK X a e.t.rl e.t.to).Nodup/\(∀s∈iK X a e.t.rl e.t.to,Nm s)/\(iK X a e.t.rl e.t.to).length<=100
 len:(iK X a e.t.rl e.t.to).length<=100
 k:e.t.k<256
structure IW(X:List aP)(o:List Nat)(g:G3)(H:Hp)(e:iG)(x:bA):Prop where
 st:e.st=jP X o g
 fx:kQ X g.1.1 g.2=some x
 rt:x.r.rule.Rt
 tb:vR (iK X g.1.1) H e.nv e.es x.r.rule.fo.flat
 ln:e.es.length<=32
 nd:∀t∈e.es,Ql X g.1.1 t
theorem Ye{k:Nat}(u:6<=k){H:Hp}{t:AV}{most:Nat}{l:List iG}(h:jK X o H t most l)(b:bV X)(v:l.length<300){g:G3}(d:(g.1.1,g.2)∈aF X):Ok (C k (.f 62) [t,.str g.1.1.n g.1.1.a,.str g.2.n g.2.a] H) λr H1=>∃(e:iG) (x:bA),r=.aX [.agg (sM e),iN 0]/\Fm No H H1/\IW X o g H1 e x:=by
 refine Nk u h b v g.1.1 g.2 (λn e H1 _ w j=>?_) λh=>absurd d h;obtain⟨x,s,E⟩:=li b.al b.sp d;have m:e.p=(g.1.1,x):=by have:=congrArg (λl=>l[dA X g.1.1 g.2]?) h.p;simp only[AS,E,j0 n,ug,AH]at this;rw[j.p];exact this
 obtain⟨p,f,i,F,_⟩:=cL s;have c:=(b.pr.x p f x i).2.2.1;have a:=j.ok.nd;rw[m]at a;refine⟨e,x,rfl,w,⟨j.st.trans (h.n _ n).2,s,c,a,?_,λy q=>⟨λA=>?_,wi b.pr.sml _ _ _,?_⟩⟩⟩
 ·have:=a.len;have:=Fo.jQ x.r.rule.fo;have:=c.sz;have:=x.r.rule.pN;simp only at *;omega
 ·have D:=Fo.nN (λk rl to=>k=3->iK X g.1.1 rl to≠[]) _ 0 0 (Fo.pG _ _ (x.r.rule.yV (λk rl to=>k=3->iK X g.1.1 rl to≠[]) false λz B h=>F▸(b.nd p f x i z B).2 h)) y.t (by rw[<-a.is];exact ik q) A;exact⟨lIO.2 D,b.aBK _ _ _,ztn b _ _ _,wi b.pr.sml _ _ _⟩
 ·exact Fo.nN (λk _ _=>k<256) _ 0 0 (Fo.lS Nm _ (x.r.rule.wJ c.fit)).k y.t (by rw[<-a.is];exact ik q)
noncomputable section
variable {α:Type} [DecidableEq α]
def qQ(f:(G3->α)->G3->α)(V:G3->α)(g:G3):G3->α:=λh=>if h=g then f V g else V h
def nQ(f:(G3->α)->G3->α):List G3->(G3->α)->(G3->α)×Bool
 | [],V=>(V,false)
 |g::l,V=>((nQ f l (qQ f V g)).1,decide (f V g≠V g)||(nQ f l (qQ f V g)).2)
def rep(f:(G3->α)->G3->α)(l:List G3):Nat->(G3->α)->(G3->α)×Nat
 |0,V=>(V,0)
 |n+1,V=>if(nQ f l V).2 then((rep f l n (nQ f l V).1).1,(rep f l n (nQ f l V).1).2+1)else((nQ f l V).1,1)
def bq(f:(G3->α)->G3->α)(G:List G3)(st:G3->Nat):Nat->Nat->(G3->α)->(G3->α)×Nat×Nat×Nat
 |0,_,V=>(V,0,0,0)
 |d+1,n,V=>
  let l:=G.filter λg=>decide (st g=n)
  if l=[]then bq f G st d (n+1) V
  else
   let r:=rep f l bT V
   let z:=bq f G st d (n+1) r.1
   (z.1,z.2.1+1,z.2.2.1+r.2,z.2.2.2+r.2*l.length)
structure jx(f:(G3->α)->G3->α)(G:List G3)(st:G3->Nat)(A:Nat->(G3->α)->Prop)(mu:Nat->(G3->α)->Nat)(B:Nat):Prop where
 go:∀n V,A n V->(nQ f (G.filter λg=>decide (st g=n)) V).2=true->A n (nQ f (G.filter λg=>decide (st g=n)) V).1/\mu n (nQ f (G.filter λg=>decide (st g=n)) V).1<mu n V
 up:∀n V,A n V->(nQ f (G.filter λg=>decide (st g=n)) V).2=false->A (n+1) (nQ f (G.filter λg=>decide (st g=n)) V).1
 bd:∀n V,A n V->mu n V<=B
end
end Go.Di
end
noncomputable section
namespace Go.Di
open Go.Ev
variable {X:List aP} {o:List Nat} {α:Type} [DecidableEq α]
def p8(a b s p e c:Nat):List AV:=[iN a,iN b,iN s,iN p,iN e,iN c]
structure Lkr(C:Nat->Ev.Call)(j:Nat)(f:(G3->α)->G3->α)(G:List G3)(rD:AV)(xb:Nat)(W:Nat->Prop)(Hz:Hp)(Inv:(G3->α)->Hp->Prop):Prop where
 lk:∀V H g,g∈G->Inv V H->Fm W Hz H->Ok (oV (C j) rD [.agg (gC g)] H) λr H'=>r=.bool (decide (f V g≠V g))/\Inv (qQ f V g) H'/\Fm (λb=>W b/\b≠xb) H H'
 put:∀V H H',Inv V H->Fm (λb=>b=xb) H H'->Fm W Hz H->Inv V H'
 xb:W xb
 lt:∀b,W b->b<Hz.nx
variable{D:(G3->α)->G3->α}{J:pL}{N:pD}{U:List G3}{h:(G3->α)->Hp->Prop}{ov sv:AV}
theorem aOa{j:Nat}{l:List G3}{xb a b s p c0:Nat}{W:Nat->Prop}{t H1:Hp}(n:Lkr C j D U sv xb W t h)(f:∀g∈l,g∈U)(E:Gl 3 H1 ov l.length (l.flatMap gC))(o:∀b,In ov b->t.nx<=b)(z:Fm W t H1)(q:l.length<=1000):∀(k i:Nat) (V:G3->α) (c:Bool) (e:Nat) (H:Hp),i<=l.length->l.length-i<k->e+(l.length-i)<=10000000000->h V H->H.get xb=aB 0 (p8 a b s p e c0)->Fm W H1 H -> (∀H,h (nQ D (l.drop i) V).1 H->H.get xb=aB 0 (p8 a b s p (e+(l.length-i)) c0)->Fm W H1 H->Ok (N (.bool (c||(nQ D (l.drop i) V).2)) H) J) -> Ok (BK (C j) N (.ptr xb 0) sv ov (iN l.length) k (.bool c) (iN i) H) J
 |0,i,_,_,_,_,_,Inv,_,_,_,_,_=>om
 |k+1,i,V,c,e,H,hi,hk,K,hI,hx,hf,hq=>by
  show Ok (JA (C j) _ _ _ _ _ (BK (C j) _ _ _ _ _ k) _ _ H) J;unfold JA;by_cases d:i<l.length
  ·have X:=n.lt _ n.xb;have nz:=z.nx;have n1:=hf.nx;obtain⟨bb,oo,Y,d2,d0,L,_⟩:=((E.fm hf λb u Inv=>by have:=o b u;have:=n.lt b Inv;omega).rs vV).at' i d;have gt:List.take 3 (gC l[i])=gC l[i]:=rfl;have F:gC l[i]=[.str l[i].1.1.n l[i].1.1.a,.str l[i].1.2.n l[i].1.2.a,.str l[i].2.n l[i].2.a]:=rfl;have r:Fm W t H:=z.then hf λ_ _ Inv=>Inv;rw[F]at L;unfold p8 at hx;refine dI d ?_;unfold NK;have I:Fm (λb=>b=xb) H (((aH H (aB 0 [zS,zS,zS])).put H.nx (aB 0 (gC l[i]))).put xb (aB 0 (p8 a b s p (e+1) c0))):=(((Fm.refl _ _).push _).aN _ _ (AF _)).put _ _ λ_=>rfl;have m:Fm W H (((aH H (aB 0 [zS,zS,zS])).put H.nx (aB 0 (gC l[i]))).put xb (aB 0 (p8 a b s p (e+1) c0))):=(Fm.refl W H).then I λ_ _ Inv=>Inv▸n.xb;have O:=n.lk V _ l[i] (f _ (sx d)) (n.put _ _ _ hI I r) (r.then m λ_ _ Inv=>Inv);unfold p8 at O m;rw[F]at O m;refine gW Y L hx ?_;refine Ok.ve O ?_;rintro _ x ⟨rfl,Z,M⟩;have Q:l.drop i=l[i]::l.drop (i+1):=iP d;have A:x.get xb=aB 0 (p8 a b s p (e+1) c0):=(M.get xb gx λInv=>Inv.2 rfl).trans (gX _ _ _);have B:Fm W H1 x:=(hf.then m λ_ _ Inv=>Inv).then M λ_ _ Inv=>Inv.1;have fin:∀v:Bool,v=(c||decide (D V l[i]≠V l[i]))->Ok (GU (C j) (BK (C j) N (.ptr xb 0) sv ov (iN l.length) k) (.bool v) (iN i) x) J:=λv P=>by
    unfold GU;refine aS ?_;refine aOa n f E o z q k (i+1) (qQ D V l[i]) v (e+1) x om om om Z A B λR S T G=>?_;have:=hq R (by rw[Q];exact S) (by rw[T];congr 2;omega) G;rw[Q]at this;subst P;rw[Bool.or_assoc];exact this
   cases u:decide (D V l[i]≠V l[i])with
   |true=>refine aS ?_;exact fin true (by rw[u,Bool.or_true])
   |false=>refine aS ?_;exact fin c (by rw[u,Bool.or_false])
  ·refine dI d ?_;have K:i=l.length:=om;subst K;have:=hq H (by rw[rq];exact hI) (by rw[gq];exact hx) hf;rw[rq]at this;simpa [nQ] using this
variable{F:Nat->(G3->α)->Prop}{I:AV}
theorem Qj{j:Nat}{A:G3->Nat}{c:Nat->(G3->α)->Nat}{B n:Nat}(x:jx D U A F c B){l:List G3}(d:l=U.filter λg=>decide (A g=n)){xb a b s c0:Nat}{W:Nat->Prop}{r H1:Hp}(t:Lkr C j D U I xb W r h)(y:Gl 3 H1 sv l.length (l.flatMap gC))(i:∀b,In sv b->r.nx<=b)(Q:Fm W r H1)(K:l.length<=1000){q:pH}:∀(k:Nat) (V:G3->α) (p e:Nat) (H:Hp),F n V->c n V+1<k->p+c n V+1<=10000000000->e+(c n V+1)*l.length<=10000000000->h V H->H.get xb=aB 0 (p8 a b s p e c0)->Fm W H1 H -> (∀H,(rep D l k V).2<=c n V+1->F (n+1) (rep D l k V).1->h (rep D l k V).1 H->H.get xb=aB 0 (p8 a b s (p+(rep D l k V).2) (e+(rep D l k V).2*l.length) c0)->Fm W H1 H->Ok (q H) J) -> Ok (ye (C j) q (.ptr xb 0) I sv k (.bool true) H) J
 |0,_,_,_,_,_,Inv,_,_,_,_,_,_=>om
 |k+1,V,p,e,H,hA,hk,hp,he,hI,hx,hf,hq=>by
  show Ok (BL (C j) _ _ _ _ (ye (C j) _ _ _ _ k) _ H) J;unfold BL;unfold p8 at hx;have G:=y.bF;refine aS ?_;unfold YP;have N:Fm (λb=>b=xb) H (H.put xb (aB 0 (p8 a b s (p+1) e c0))):=(Fm.refl _ _).put _ _ om;have f:Fm W H (H.put xb (aB 0 (p8 a b s (p+1) e c0))):=(Fm.refl W H).then N λ_ _ Inv=>Inv▸t.xb;have E:Fm W r H:=om;have X:=t.put _ _ _ hI N E;have g1:(H.put xb (aB 0 (p8 a b s (p+1) e c0))).get xb=aB 0 (p8 a b s (p+1) e c0):=gX _ _ _;refine dS hx G ?_;rw[dD];refine aOa (p:=p+1) (s:=s) (a:=a) (b:=b) (c0:=c0) t om y i Q K bT 0 V false e _ om lf om X g1 (hf.trans f) λz L O M=>?_;rw[pq,uk];have u:rep D l (k+1) V=if(nQ D l V).2 then((rep D l k (nQ D l V).1).1,(rep D l k (nQ D l V).1).2+1)else((nQ D l V).1,1):=rfl
  cases v:(nQ D l V).2 with
  |true=>
   rw[v,sB rfl]at u;rw[u]at hq;have o:=x.go n V hA;rw[<-d]at o;obtain⟨Z,a2⟩:=o v;have Y:(c n (nQ D l V).1+1)*l.length<=c n V*l.length:=vL _ a2;refine Qj x d t y i Q K k (nQ D l V).1 (p+1) (e+l.length) z Z om om om L O M λP m4 R S x4 T=>hq P om R S ?_ T
   grind
  |false=>
   rw[v,sy g3]at u;rw[u]at hq;have o:=x.up n V hA;rw[<-d]at o;obtain⟨k,rfl⟩:∃m,k=m+1:=⟨k-1,om⟩;show Ok (BL (C j) _ _ _ _ (ye (C j) _ _ _ _ k) _ z) J;unfold BL;refine aS ?_;refine hq z om (o v) L ?_ M
   grind
theorem P0{j:Nat}(y:6<=j){H1:Hp}{b wb most n:Nat}{tl:List iG}(z:jK X o H1 sv most tl)(A:bV X)(l:tl.length<300)(B:H1.get wb=aB 0 [sv,.map b])(m:wb<H1.nx)(D:Gl 3 H1 ov U.length (U.flatMap gC))(E:∀g∈U,(g.1.1,g.2)∈aF X)(R:U.length<=1000)(S:∀w H,Ac 3 gC H1 H w (U.filter λg=>decide (jP X o g=n))->Ok (N w H) J):∀(k i:Nat) (w:AV) (H:Hp),i<=U.length->U.length-i<k->Ac 3 gC H1 H w ((U.take i).filter λg=>decide (jP X o g=n)) -> Ok (BJ (C j) N (.ptr wb 0) (iN n) ov (iN U.length) k w (iN i) H) J
 |0,i,_,_,_,h,_=>om
 |k+1,i,w,H,hi,hk,hA=>by
  show Ok (Jz (C j) _ _ _ _ _ (BJ (C j) _ _ _ _ _ k) _ _ H) J;unfold Jz;by_cases c:i<U.length
  ·have s:=hA.fm;have n1:=s.nx;obtain⟨bb,oo,Z,d2,d0,q,_⟩:=((D.no s).rs vV).at' i c;have w1:=(s.keep m).trans B;have F:gC U[i]=[.str U[i].1.1.n U[i].1.1.a,.str U[i].1.2.n U[i].1.2.a,.str U[i].2.n U[i].2.a]:=rfl;have I:Fm No H ((aH H (aB 0 [zS,zS,zS])).put H.nx (aB 0 (gC U[i]))):=fm;have O:=Ye (k:=j) y (z.fm (s.trans I)) A l (E _ (sx c));rw[F]at q I O;refine dI c ?_;unfold YN;refine gW Z q w1 ?_;refine Ok.ve O ?_;rintro _ f ⟨e,x,rfl,P,v⟩;have G:=P.nx;simp only[np,nq]at G;have k2:f.get H.nx=aB 0 [.str U[i].1.1.n U[i].1.1.a,.str U[i].1.2.n U[i].1.2.a,.str U[i].2.n U[i].2.a]:=(P.keep gz).trans om;have V:sM e=[.str e.p.1.n e.p.1.a,.str e.p.2.r.name.n e.p.2.r.name.a,iN (e.n),iN (e.st),e.tv,e.nv]:=rfl;have W:Fm No f ((aH f (aB 0 [zS,zS,iN 0,iN 0,.aA,.aA])).put f.nx (aB 0 (sM e))):=fm;have Q:=v.st;rw[V]at W ⊢;have K:(U.take (i+1)).filter (λg=>decide (jP X o g=n))=(U.take i).filter (λg=>decide (jP X o g=n))++[U[i]].filter (λg=>decide (jP X o g=n)):=by rw[nh c,lg]
   have Y:((U.take i).filter λg=>decide (jP X o g=n)).length<=1000:=AL (ou _ _) om;have next:∀(p:AV) (r:Hp),Ac 3 gC H1 r p ((U.take (i+1)).filter λg=>decide (jP X o g=n))->Ok (GT (C j) (BJ (C j) N (.ptr wb 0) (iN n) ov (iN U.length) k) p (iN i) r) J:=λp r T=>by unfold GT;refine aS ?_;exact P0 y z A l B m D E R S k (i+1) p r om om T
   by_cases d:e.st=n
   ·have a:=d;rw[Q]at a;rw[dm,sB (by simpa using a),List.filter_nil]at K;refine dS d k2 ?_;have L:Fm No H (aH ((aH f (aB 0 [zS,zS,iN 0,iN 0,.aA,.aA])).put f.nx (aB 0 [.str e.p.1.n e.p.1.a,.str e.p.2.r.name.n e.p.2.r.name.a,iN (e.n),iN (e.st),e.tv,e.nv])) (aB 0 (gC U[i]))):=om;rw[d]at L;have M:=(hA.no L).add U[i] 48 rfl om om;rw[F]at M;refine Ok.ve M ?_
    grind
   ·have a:=d;rw[Q]at a;rw[dm,sy (by simpa using a),List.filter_nil,DN]at K;refine dS d k2 ?_
    grind
  ·refine dI c ?_
   grind
variable{mu:Nat->(G3->α)->Nat}
theorem Jm{j:Nat}(K:6<=j){B:Nat}(x:jx D U (jP X o) F mu B)(hB:B<=1000){Hx c:Hp}{b wb most:Nat}{tl:List iG}(L:jK X o Hx sv most tl)(M:bV X)(m:tl.length<300)(Q:Gl 3 Hx ov U.length (U.flatMap gC))(N:∀g∈U,(g.1.1,g.2)∈aF X)(O:U.length<=1000)(hm:most<=1000){xb y z c0:Nat}{W:Nat->Prop}(i:Lkr C j D U I xb W c h)(f:Fm No Hx c)(E:∀b,W b->Hx.nx<=b)(P:c.get wb=aB 0 [sv,.map b])(a:wb<c.nx)(r:¬W wb){q:pH}:∀(k n:Nat) (V:G3->α) (s p e:Nat) (H:Hp),n<=most->most-n<k->F n V->s<=n->p<=2000*n->e<=2000000*n->h V H->H.get xb=aB 0 (p8 y z s p e c0)->Fm W c H -> (∀H,h (bq D U (jP X o) (most-n) n V).1 H->H.get xb=aB 0 (p8 y z (s+(bq D U (jP X o) (most-n) n V).2.1) (p+(bq D U (jP X o) (most-n) n V).2.2.1) (e+(bq D U (jP X o) (most-n) n V).2.2.2) c0)->s+(bq D U (jP X o) (most-n) n V).2.1<=1000->p+(bq D U (jP X o) (most-n) n V).2.2.1<=2000000->e+(bq D U (jP X o) (most-n) n V).2.2.2<=2000000000->Fm W c H->Ok (q H) J) -> Ok (t8 (C j) q ov (.ptr xb 0) I (.ptr wb 0) (iN most) k (iN n) H) J
 |0,n,_,_,_,_,_,_,Inv,_,_,_,_,_,_,_,_=>om
 |k+1,n,V,s,p,e,H,hnm,hk,hA,hs,hp,he,hI,hx,hf,hq=>by
  show Ok (YQ (C j) _ _ _ _ _ _ (t8 (C j) _ _ _ _ _ _ k) _ H) J;unfold YQ;by_cases rD:n<most
  ·have hxl:=i.lt _ i.xb;have nz:=hf.nx;have S:Fm No Hx H:=om;have e0:=(Q.no S).bF;obtain⟨d,hd⟩:∃d,most-n=d+1:=⟨most-n-1,om⟩;have hd2:most-(n+1)=d:=om;rw[hd]at hq;refine dI rD ?_;unfold YM;refine dI e0 ?_;rw[dD];refine P0 K (L.fm S) M m (n:=n) (by rw[hf.get _ a r];exact P) (AE a nz) (Q.no S) N O (λw v A=>?_) bT 0 .aA H (vy _) lf (Ac.nil 3 _ (Fm.refl _ _));have f2:=A.fm;have i2:=i.put _ _ _ hI (f2.mono λ_ _ Inv=>Inv.elim) hf;have x2:=(f2.keep om).trans hx;have e2:=A.bF;have T:Fm W c v:=om;have G:=x.up n V hA;generalize hl:(U.filter λg=>decide (jP X o g=n))=l at *;have u:l.length<=1000:=om;have hst:bq D U (jP X o) (d+1) n V=if l=[]then bq D U (jP X o) d (n+1) V else((bq D U (jP X o) d (n+1) (rep D l bT V).1).1,(bq D U (jP X o) d (n+1) (rep D l bT V).1).2.1+1,(bq D U (jP X o) d (n+1) (rep D l bT V).1).2.2.1+(rep D l bT V).2,(bq D U (jP X o) d (n+1) (rep D l bT V).1).2.2.2+(rep D l bT V).2*l.length):=by
    rw[<-hl];rfl
   unfold Jy;by_cases h0:l=[]
   ·subst h0;refine dI e2 ?_;unfold zr;refine aS ?_;exact Jm K x hB L M m Q N O hm i f E P a r k (n+1) V s p e v om om (G rfl) om om om i2 x2 T om
   ·have Y:¬l.length=0:=om;have x2':=x2;unfold p8 at x2;refine dS e2 Y ?_;unfold YO;refine dI x2 ?_;rw[dD];have Z:Fm (λb=>b=xb) v (v.put xb (aB 0 (p8 y z (s+1) p e c0))):=(Fm.refl _ _).put _ _ om;have fpW:Fm W c (v.put xb (aB 0 (p8 y z (s+1) p e c0))):=T.then Z λ_ _ Inv=>Inv▸i.xb;have hbd:=x.bd n V hA;have hmul:(mu n V+1)*l.length<=1001*1000:=uj om u;refine Qj x hl.symm i (H1:=v.put xb (aB 0 (p8 y z (s+1) p e c0))) (A.gl.fm Z λb R Inv=>by have:=A.nw b R;omega) (λb R=>by have:=A.nw b R;omega) fpW u bT V p e _ hA lf om om (i.put _ _ _ i2 Z T) (gX _ _ _) (Fm.refl _ _) λH3 m3 a3 i3 x3 f3=>?_;have hml:(rep D l bT V).2*l.length<=1001*1000:=uj om u;unfold zr;refine aS ?_;refine Jm K x hB L M m Q N O hm i f E P a r k (n+1) (rep D l bT V).1 (s+1) (p+(rep D l bT V).2) (e+(rep D l bT V).2*l.length) H3 om om a3 om om om i3 x3 om ?_
    grind
  ·refine dI rD ?_;have he':n=most:=om;subst he';rw[gq]at hq;exact hq H hI hx (by show s+0<=_;omega) (by show p+0<=_;omega) (by show e+0<=_;omega) hf
theorem Lkr.up{j:Nat}{xb:Nat}{W:Nat->Prop}{H H':Hp}(Inv:Lkr C j D U sv xb W H h)(a:Fm No H H'):Lkr C j D U sv xb W H' h:=by have u:∀{c},Fm W H' c->Fm W H c:=λb=>(a.mono λ_ _ Inv=>Inv.elim).then b λ_ _ Inv=>Inv;exact⟨λV c g k d e=>Inv.lk V c g k d (u e),λV c l d m e=>Inv.put V c l d m (u e),Inv.xb,λb n=>AE (Inv.lt b n) a.nx⟩
theorem zlb{k:Nat}(Q:7<=k){B:Nat}(y:jx D U (jP X o) F mu B)(z:B<=1000){Hx H:Hp}{b most:Nat}{tl:List iG}(q:jK X o Hx sv most tl)(f:bV X)(e:tl.length<300)(E:Gl 3 Hx ov U.length (U.flatMap gC))(A:∀g∈U,(g.1.1,g.2)∈aF X)(d:U.length<=1000)(J:most<=1000){xb s u c0:Nat}{W:Nat->Prop}(c:Lkr C (k-1) D U I xb W H h)(v:Fm No Hx H)(i:∀b,W b->Hx.nx<=b){V:G3->α}(K:F 0 V)(L:h V H)(M:H.get xb=aB 0 (p8 s u 0 0 0 c0)):Ok (C k (.f 91) [.agg [sv,.map b],ov,.ptr xb 0,I] H) λr H'=>r=.aX []/\h (bq D U (jP X o) most 0 V).1 H'/\H'.get xb=aB 0 (p8 s u (bq D U (jP X o) most 0 V).2.1 (bq D U (jP X o) most 0 V).2.2.1 (bq D U (jP X o) most 0 V).2.2.2 c0)/\(bq D U (jP X o) most 0 V).2.2.2<=2000000000/\Fm W H H':=by obtain⟨j,rfl⟩:=aO (show 1<=k by omega);rw[lk (zo1 ..)];unfold VA;have a:Fm No H (aH H (aB 0 [sv,.map b])):=fm;have O:Fm W H (aH H (aB 0 [sv,.map b])):=a.mono λ_ _ Inv=>Inv.elim;have P:=zoc (k:=j) om (q.fm (v.trans a));have m:Lkr C j D U I xb W H h:=c;have n:=c.lt _ c.xb;refine dI P ?_;rw[dD];refine Jm (j:=j) om y z q f e E A d J (m.up a) (v.trans a) i (b:=b) (uR _ _) (qh _) (λInv=>by have:=c.lt _ Inv;omega) bT 0 V 0 0 0 _ (vy _) lf K (AF _) (vy _) (vy _) (c.put _ _ _ L (a.mono λ_ _ Inv=>Inv.elim) (Fm.refl _ _)) ((a.keep n).trans M) (Fm.refl _ _) λR w x2 _ _ l N=>?_;rw[um]at w x2 l;simp only[nr]at x2 l;exact Ok.ret ⟨rfl,w,x2,l,O.then N λ_ _ Inv=>Inv⟩
structure rM{α:Type}(ky:α->AV)(z:AV)(vf:α->AV)(H:Hp)(b:Nat):Prop where
 ex:∃(es:List eT) (c:Nat) (gs:List α),H.get b=.map es c/\es.map eT.key=gs.map ky/\es.map eT.val=gs.map vf/\gs.Nodup/\∀g,g∉gs->vf g=z
variable {α:Type} [DecidableEq α] {ky:α->AV} {z:AV} {vf:α->AV} {H H':Hp} {b:Nat} {e:AV->AV->Option Bool} {s:Option Nat}
theorem rM.eq(h:rM ky z vf H b)(a:H'.get b=H.get b):rM ky z vf H' b:=by obtain⟨es,c,d,e,f⟩:=h.ex;exact⟨es,c,d,a.trans e,f⟩
theorem rM.nil{c:Nat}(h:H.get b=.map [] c):rM ky z (λ_=>z) H b:=⟨[],c,[],h,rfl,rfl,uB,λ_ _=>rfl⟩
theorem rM.look(h:rM ky z vf H b)(j:∀p q,e (ky p) (ky q)=some (decide (p=q)))(k:∀p,gr s (ky p)=true)(p:α):mX ⟨e,s⟩ z false H (.map b) (ky p)=.val (vf p):=by
 obtain⟨es,c,a,l,m,n,t,o⟩:=h.ex;obtain⟨g1,g2⟩:=iW j p es a 0 m;show(match(match H.get b with| .map es _=>some es|_=>none)with|some es=>pW false z (bif gr s (ky p)then vU e (ky p) es 0 else none)|none=>.bad)=_;rw[l,k];simp only[AN];by_cases f:p∈a
 ·obtain⟨x,r,x2⟩:=g2 f;rw[x2];have d:(a.findIdx λq=>decide (q=p))<a.length:=by rw[List.findIdx_lt_length];exact⟨p,f,g3⟩
  have g:(es.map eT.val)[a.findIdx λq=>decide (q=p)]? =some x.val:=by rw[AS,r];rfl
  have i:=List.findIdx_getElem (p:=λq=>decide (q=p)) (xs:=a) (w:=d);rw[n,AS,j0 d]at g;simp only[mE]at i;rw[i]at g;exact congrArg R0.val (Option.some.inj g).symm
 ·rw[g1 f,o p f];rfl
theorem rM.upd(h:rM ky z vf H b)(M:∀p q,e (ky p) (ky q)=some (decide (p=q)))(E:∀p,gr s (ky p)=true)(N:∀p,bL (ky p) (ky p)=true)(p:α)(x:AV):∃k,jN ⟨e,s⟩ H (.map b) (ky p) x=.ok .undef (H.put b k)/\rM ky z (λq=>if q=p then x else vf q) (H.put b k) b:=by
 obtain⟨es,c,l,I,u,J,v,K⟩:=h.ex;obtain⟨g1,g2⟩:=iW M p es l 0 u;by_cases m:p∈l
 ·obtain⟨y,A,x2⟩:=g2 m;generalize C:(l.findIdx λq=>decide (q=p))=n at *;have d:n<l.length:=by rw[<-C,List.findIdx_lt_length];exact⟨p,m,g3⟩
  have r:=List.findIdx_getElem (p:=λq=>decide (q=p)) (xs:=l) (w:=by rw[C];exact d);simp only[mE,C]at r;have t:y.key=ky p:=by
   have G:(es.map eT.key)[n]? =some y.key:=by rw[AS,A];rfl
   rw[u,AS,j0 d,r]at G;exact(Option.some.inj G).symm
  refine⟨.map (es.set n ⟨ky p,x,y.born⟩) c,?_,⟨_,_,l,gX _ _ _,?_,?_,v,λg j=>?_⟩⟩
  ·have B:fN ⟨e,s⟩ (ky p) es=some (some ⟨n,y⟩):=by
    show(bif gr s (ky p)then vU e (ky p) es 0 else none)=_;rw[E,x2,nr];rfl
   unfold jN;simp only[I,B,t,N,AN]
  ·apply yh λi=>?_;rw[<-u,qj];by_cases o:i=n
   ·subst o;rw[List.getElem?_set_self (by rw[vu];exact(lAL.1 A).1),AS,A];simp[t]
   ·rw[List.getElem?_set_ne (λh=>o h.symm)]
  ·apply yh λi=>?_;rw[qj,AS];by_cases o:i=n
   ·subst o;rw[List.getElem?_set_self (by rw[vu];exact(lAL.1 A).1),j0 d,r];simp
   ·rw[List.getElem?_set_ne (λh=>o h.symm),J,AS];cases D:l[i]? with
    |none=>rfl
    |some g=>
     have f:¬g=p:=λf=>o (by
      obtain⟨l1,L⟩:=lAL.1 D;rcases Nat.lt_trichotomy i n with h|h|h
      ·exact absurd (L.trans (f.trans r.symm)) (lEL.1 v i n l1 d h)
      ·exact h
      ·exact absurd (r.trans (f.symm.trans L.symm)) (lEL.1 v n i d l1 h))
     simp[f]
  ·rw[sy (λh:g=p=>j (h▸m))];exact K g j
 ·refine⟨.map (es++[⟨ky p,x,c⟩]) (c+1),?_,⟨_,_,l++[p],gX _ _ _,?_,?_,?_,λg j=>?_⟩⟩
  ·have B:fN ⟨e,s⟩ (ky p) es=some none:=by
    show(bif gr s (ky p)then vU e (ky p) es 0 else none)=_;rw[E,g1 m];rfl
   unfold jN;simp only[I,B]
  ·simp[u]
  ·rw[AO,AO,J];congr 1
   ·exact qy λg j=>(sy (λh:g=p=>m (h▸j))).symm
   ·simp
  ·rw[lI2];exact⟨v,g3,λa O b F=>by rw[lAK]at F;subst F;exact λh=>m (h▸O)⟩
  ·rw[lAJ,lAK,not_or]at j;rw[sy j.2];exact K g j.1
variable {T:List Tu} {u:SS×SS} {t:AV} {wb vb lb rb sb qb mb most:Nat} {tl:List iG} {W:Nat->Prop}
def rA(V:Nat->SS->SS->Bool)(l:List TN):List Bool:=l.flatMap λt=>if t.leaf=none then[]else[V t.k t.rl t.to]
theorem Cs(V:Nat->SS->SS->Bool)(l m:List TN):rA V (l++m)=rA V l++rA V m:=nt
theorem Fo.Rt.leaf{rl to:SS}{a r:Fo}{N:SS->Prop}(h:(Fo.cons wb rl to a r).Rt N)(b:wb<4):a=.nil:=by
 rcases h.1 with h|h|h|h|h|h
 ·exact h.2.2.2
 ·exact h.2.2.2
 ·exact h.2.2.2
 ·omega
 ·omega
 ·omega
theorem Ii(V:Nat->SS->SS->Bool):∀(f:Fo) (p c:Nat),f.Rt Nm->(rA V (f.dK p c)).length=f.lv
 | .nil,_,_,_=>rfl
 | .cons k rl to a r,p,c,h=>by
  rw[Fo.dK,show ∀(x:TN) l,rA V (x::l)=rA V [x]++rA V l from λx l=>Cs V [x] l,Cs,nj,nj,Ii V a _ _ h.2.1,Ii V r _ _ h.2.2,Fo.lv];by_cases b:k<4
  ·rw[sB b,sB b,h.leaf b];simp[rA,Fo.lv]
  ·rw[sy b,sy b];simp[rA]
theorem EO(V:Nat->SS->SS->Bool):∀(f:Fo) (p c:Nat),f.Rt Nm->∀t∈f.dK p c,∀i,t.leaf=some i->c<=i/\(rA V (f.dK p c))[i-c]? =some (V t.k t.rl t.to)
 | .nil,_,_,_,t,b,_,_=>by cases b
 | .cons k rl to a r,p,c,h,t,b,i,hi=>by
  rw[Fo.dK]at b ⊢;rw[show ∀(x:TN) l,rA V (x::l)=rA V [x]++rA V l from λx l=>Cs V [x] l,Cs];have g:=Ii V a (p+1) c h.2.1;by_cases d:k<4
  ·have j:=h.leaf d;subst j;rw[sB d]at b ⊢;have e:∀x y,rA V [⟨k,rl,to,x,some y⟩]=[V k rl to]:=λ_ _=>rfl;rw[e];rcases lE4.1 b with rfl|b
   ·cases hi;exact⟨AF _,g3⟩
   ·rcases lAJ.1 b with b|b
    ·cases b
    ·obtain⟨q1,q2⟩:=EO V r _ _ h.2.2 t b i hi;rw[sB d]at q1 q2 ⊢;refine⟨om,?_⟩;rw[AM g2];simp only[Fo.dK,rA,List.flatMap_nil,au,xx];rw[show i-c-1=i-(c+1)by omega];exact q2
  ·rw[sy d]at b ⊢;have e:∀x,rA V [⟨k,rl,to,x,none⟩]=[]:=λ_=>rfl;rw[e,au];rcases lE4.1 b with rfl|b
   ·cases hi
   ·rcases lAJ.1 b with b|b
    ·obtain⟨q1,q2⟩:=EO V a _ _ h.2.1 t b i hi;refine⟨q1,?_⟩;rw[sX (lAL.1 q2).1];exact q2
    ·obtain⟨q1,q2⟩:=EO V r _ _ h.2.2 t b i hi;rw[sy d]at q1 q2 ⊢;refine⟨om,?_⟩;rw[AM om,g,show i-c-a.lv=i-(c+a.lv)by omega];exact q2
def ej(X:List aP)(T:List Tu)(u:SS×SS)(g:G3)(V:G3->Bool)(k:Nat)(rl to:SS):Bool:=decide (u∈qq T g k)||((wV X T g k rl to).map V).any id
def jV(X:List aP)(T:List Tu)(u:SS×SS)(V:G3->Bool)(g:G3):Bool:=match kQ X g.1.1 g.2 with
 |none=>false
 |some x=>x.r.rule.val (ej X T u g V)
structure LkE(X:List aP)(o:List Nat)(T:List Tu)(u:SS×SS)(t:AV)(b wb vb lb rb sb qb mb most:Nat)(tl:List iG)(W:Nat->Prop)(H:Hp):Prop where
 hx:∃(Hx Hb:Hp) (es:List eT) (gs:List G3),jK X o Hx t most tl/\MB Hb Hx b T es gs/\b<Hx.nx/\Fm No Hx H/\∀c,W c->Hx.nx<=c
 w:H.get wb=aB 0 [t,.map b]
 v:H.get vb=aB 0 [.map mb]
 l:H.get lb=aB 0 [.fn 93 [] [.ptr qb 0]]
 r:H.get rb=aB 0 [.fn 95 [] []]
 s:H.get sb=aB 0 [.fn 97 [] []]
 q:∃c0 c1 c2 c3,H.get qb=aB 0 [c0,c1,c2,c3,u.1.v,u.2.v]
 lt:wb<H.nx/\vb<H.nx/\lb<H.nx/\rb<H.nx/\sb<H.nx/\qb<H.nx/\mb<H.nx
 nw:¬W wb/\¬W vb/\¬W lb/\¬W rb/\¬W sb/\¬W qb
 wm:W mb
theorem LkE.fm(h:LkE X o T u t b wb vb lb rb sb qb mb most tl W H)(f:Fm W H H'):LkE X o T u t b wb vb lb rb sb qb mb most tl W H':=by obtain⟨l1,e,l3,l4,l5,l6,z⟩:=h.lt;obtain⟨g,i,j,k,l,m⟩:=h.nw;obtain⟨Hx,Hb,es,n,p,x2,q,r,a⟩:=h.hx;obtain⟨c0,s,v,w,x⟩:=h.q;have nx:=f.nx;exact⟨⟨Hx,Hb,es,n,p,x2,q,r.then f λc y d=>by have:=a c d;omega,a⟩,(f.get _ l1 g).trans h.w,(f.get _ e i).trans h.v,(f.get _ l3 j).trans h.l,(f.get _ l4 k).trans h.r,(f.get _ l5 l).trans h.s,⟨c0,s,v,w,(f.get _ l6 m).trans x⟩,⟨om,om,om,om,om,om,om⟩,h.nw,h.wm⟩
theorem LkE.no(h:LkE X o T u t b wb vb lb rb sb qb mb most tl W H)(f:Fm No H H'):LkE X o T u t b wb vb lb rb sb qb mb most tl W H':=h.fm (f.mono λ_ _ h=>h.elim)
theorem LkE.ta(h:LkE X o T u t b wb vb lb rb sb qb mb most tl W H):jK X o H t most tl:=by obtain⟨Hx,Hb,es,d,a,x2,e,c,f⟩:=h.hx;exact a.fm c
theorem LkE.mM(h:LkE X o T u t b wb vb lb rb sb qb mb most tl W H):∃(Hb:Hp) (es:List eT) (a:List G3),MB Hb H b T es a/\b<H.nx:=by obtain⟨Hx,Hb,es,a,e,x2,c,d,f⟩:=h.hx;exact⟨Hb,es,a,x2.fm d c,AE c d.nx⟩
abbrev vN(V:G3->Bool)(H:Hp)(b:Nat):Prop:=rM p9 (.bool false) (λg=>.bool (V g)) H b
theorem xaw{k:Nat}(q:3<=k){a:List (SS×SS)}{rl:List Bool}(n:Rs 2 pC H z a)(d:a.length<=900000)(o:Rs 1 bC H t rl)(e:rl.length<=900000)(b:∃c0 g i l,H.get qb=aB 0 [c0,g,i,l,u.1.v,u.2.v]):Ok (oV (C k) (.fn 93 [] [.ptr qb 0]) [z,t] H) λr H'=>r=.bool (decide (u∈a)||rl.any id)/\Fm No H H':=by
 obtain⟨j,rfl⟩:=aO (show 1<=k by omega);show Ok (C (j+1) (.f 93) [z,t,.ptr qb 0] H) _;rw[lk (zo6 ..)];unfold VE;obtain⟨c0,g,i,l,b⟩:=b;unfold SS.v at b;have m:=zwq (k:=j) om n d u;unfold pC SS.v at m;refine dI b ?_;refine Ok.ve m ?_;rintro _ H1 ⟨rfl,f⟩;by_cases h:u∈a
 ·rw[j7 h];refine aS ?_;exact Ok.ret ⟨rfl,f⟩
 ·rw[sT h];refine aS ?_;refine Ok.ve (zwr (k:=j) om (o.fm f) e) ?_;rintro _ s ⟨rfl,p⟩;exact Ok.ret ⟨by rw[uk],f.trans p⟩
variable {V:G3->Bool}
theorem Qf{j:Nat}(d:LkE X o T u t b wb vb lb rb sb qb mb most tl W H')(m:vN V H' mb)(n:Rs 3 gC H' sv U)(v:U.length<=1000)(p:∀w H,Ac 1 bC H' H w (U.map V)->Ok (N w H) J):∀(k i:Nat) (w:AV) (H:Hp),i<=U.length->U.length-i<k->Ac 1 bC H' H w ((U.take i).map V) -> Ok (GV (C j) N (.ptr vb 0) sv (iN U.length) k w (iN i) H) J
 |0,i,_,_,_,h,_=>om
 |k+1,i,w,H,hi,hk,hA=>by
  show Ok (JD (C j) _ _ _ _ (GV (C j) _ _ _ _ k) _ _ H) J;unfold JD;by_cases a:i<U.length
  ·have f:=hA.fm;obtain⟨G,I,A,Q,r⟩:=(n.fm f).oG a;have F:List.take 3 (gC U[i])=gC U[i]:=rfl;have c:=d.no f;obtain⟨_,K,_,_,_,_,L⟩:=c.lt;have x:=c.v;have g:Fm No H ((aH H (aB 0 [zS,zS,zS])).put H.nx (aB 0 (gC U[i]))):=fm;have y:gC U[i]=[.str U[i].1.1.n U[i].1.1.a,.str U[i].1.2.n U[i].1.2.a,.str U[i].2.n U[i].2.a]:=rfl;have l:=(m.eq ((f.trans g).keep (d.lt.2.2.2.2.2.2))).look (e:=kX) (s:=some 3) ji (λ_=>rfl) U[i];unfold p9 at l;rw[y]at r g l;refine dI a ?_;unfold YU;refine jF A r x l ?_;have z:(U.take (i+1)).map V=(U.take i).map V++[V U[i]]:=by rw[nh a,AO,cu]
   refine Ok.ve ((hA.no (g.push (aB 0 [.bool (V U[i])]))).add (V U[i]) 1 rfl (by rw[vu,sY];omega) (by rw[vu,sY];omega)) ?_;intro B D E;unfold YV;refine aS ?_;exact Qf d m n v p k (i+1) B D om om (by rw[z];exact E)
  ·refine dI a ?_;rw[AQ om]at hA;exact p w H hA
theorem zmm{α β:Type}{f:α->List β}{n:Nat}(h:∀x,(f x).length<=n):∀l:List α,(l.flatMap f).length<=n*l.length
 | []=>vy _
 |x::l=>by have:=zmm h l;have:=h x;rw[DM,nj,nk,Nat.mul_succ];omega
theorem zz6(a:T.length<=20)(g:G3)(k:Nat):(qq T g k).length<=20:=by
 unfold qq;split
 ·have:=zmm (f:=ek) (n:=1) (λx=>by unfold ek;split<;>simp) (rY T g);have:(rY T g).length<=T.length:=ou _ _;omega
 ·exact vy _
variable{E:G3}
theorem Qc{j:Nat}(hj:4<=j){l:List TE}{s:Nat}(L:LkE X o T u t b wb vb lb rb sb qb mb most tl W H')(Y:vN V H' mb)(g:T.length<=20)(Z:H'.get s=aB 0 (gC E))(v:s<H'.nx)(hv:Rs 6 oH H' sv l)(x:∀e∈l,e.Ok (iK X E.1.1) H'/\Ql X E.1.1 e)(hn:l.length<=100)(hq:∀w H,Ac 1 bC H' H w (rA (ej X T u E V) (l.map TE.t))->Ok (N w H) J):∀(k i:Nat) (w:AV) (H:Hp),i<=l.length->l.length-i<k->(rA (ej X T u E V) ((l.take i).map TE.t)).length<=i->Ac 1 bC H' H w (rA (ej X T u E V) ((l.take i).map TE.t)) -> Ok (yi (C j) N (.ptr wb 0) (.ptr vb 0) (.ptr lb 0) (.ptr s 0) sv (iN l.length) k w (iN i) H) J
 |0,i,_,_,_,h,_,_=>om
 |k+1,i,w,H,hi,hk,hl,hA=>by
  show Ok (JE (C j) _ _ _ _ _ _ _ (yi (C j) _ _ _ _ _ _ _ k) _ _ H) J;unfold JE;by_cases d:i<l.length
  ·have y:=hA.fm;have nx:=y.nx;obtain⟨bb,oo,e1,e2,Q⟩:=(hv.fm y).oG d;obtain⟨o1,o2⟩:=x _ (sx d);have a:=L.no y;have kw:=a.w;have kl:=a.l;obtain⟨l1,l2,l3,l4,l5,l6,l7⟩:=a.lt;have kg:=(y.keep v).trans Z;have z:oH l[i]=[uN (l[i].t.k),.str l[i].t.rl.n l[i].t.rl.a,.str l[i].t.to.n l[i].t.to.a,l[i].sp,l[i].av,wS l[i].t.leaf]:=rfl;have eg:gC E=[.str E.1.1.n E.1.1.a,.str E.1.2.n E.1.2.a,.str E.2.n E.2.a]:=rfl;have e4:rA (ej X T u E V) ((l.take (i+1)).map TE.t)=rA (ej X T u E V) ((l.take i).map TE.t)++if l[i].t.leaf=none then[]else[ej X T u E V l[i].t.k l[i].t.rl l[i].t.to]:=by
    rw[nh d,AO,Cs,cu];simp[rA]
   have r:Fm No H ((aH H (aB 0 [uN 0,zS,zS,.aA,.aA,iN 0])).put H.nx (aB 0 (oH l[i]))):=fm;have next:∀(F:AV) (p:Hp),Ac 1 bC H' p F (rA (ej X T u E V) ((l.take (i+1)).map TE.t))->Ok (GX (C j) (yi (C j) N (.ptr wb 0) (.ptr vb 0) (.ptr lb 0) (.ptr s 0) sv (iN l.length) k) F (iN i) p) J:=λF p h2=>by
    unfold GX;refine aS ?_;refine Qc hj L Y g Z v hv x hn hq k (i+1) F p om om ?_ h2
    grind
   rw[e4]at next
   refine dI d ?_;unfold YR;cases D:l[i].t.leaf with
   |none=>
    rw[D]at z next
    rw[sB rfl,DN]at next
    have M:wS none=.int .i64 (.negSucc 0):=rfl;have q:eP (lT .lss).f (.int .i64 (.negSucc 0)) (iN 0)=.val (.bool true):=rfl;rw[z,M]at Q r;refine gW e1 Q q ?_
    grind
   |some c=>
    rw[D]at z next
    rw[sy g3]at next
    have M:wS (some c)=iN c:=rfl;have q:eP (lT .lss).f (iN c) (iN 0)=.val (.bool false):=by exact congrArg (λb=>R0.val (AV.bool b)) (sT (Int.not_lt.2 (Int.natCast_nonneg c)))
    rw[M]at z;obtain⟨Hb,es,gs,R,S⟩:=a.mM;have O:=RJ (X:=X) (e:=l[i]) (g:=E) (t:=t) (k:=j) om (R.fm r S) om g (o1.fm om) o2.len o2.k;have m:=(r.keep (show s<H.nx by omega)).trans kg;have A:=(r.keep l1).trans kw;rw[z]at Q r O m A;rw[eg]at kg m O;refine gW e1 Q q ?_;unfold YT;refine dS A m ?_;refine Ok.ve O ?_;rintro _ p ⟨uv,rv,rfl,n,U⟩;have e7:=n.bF;refine dI e7 ?_;rw[dD];have I:=r.trans n.fm;have hrl:=HL (X:=X) E l[i].t.k l[i].t.rl l[i].t.to g;refine Qf (a.no I) (Y.eq ((y.trans I).keep L.lt.2.2.2.2.2.2)) (n.rs vV) om (λw3 H3 G=>?_) bT 0 .aA p om lf (Ac.nil 1 _ om);unfold JB;have B:=a.no (I.trans G.fm);have P:=B.l;refine dI P ?_;have hul:=zz6 g E l[i].t.k;refine Ok.ve (xaw (k:=j) om ((Ac.rs (f:=pC) (λ_=>rfl) U).fm G.fm) om (Ac.rs (f:=bC) (λ_=>rfl) G) om B.q) ?_;rintro _ H4 ⟨rfl,f4⟩;refine aS ?_;have fA:Fm No H (aH H4 (aB 0 [.bool (ej X T u E V l[i].t.k l[i].t.rl l[i].t.to)])):=((I.trans G.fm).trans f4).push _;refine Ok.ve ((hA.no fA).add (ej X T u E V l[i].t.k l[i].t.rl l[i].t.to) 1 rfl om om) ?_
    grind
  ·refine dI d ?_
   grind
variable{M:Nat->SS->SS->Bool}
theorem xau{F:Fo}(a:F.Rt Nm)(h:Rs 1 bC H z (rA M (F.dK 0 0))):Dl qv H z F λ_=>M:=λt c i d=>by obtain⟨_,q⟩:=EO M F 0 0 a t c i d;rw[um]at q;obtain⟨l1,e⟩:=lAL.1 q;obtain⟨b,o,f,g,_,_,j⟩:=h.at' i l1;refine⟨b,o,.bool (rA M (F.dK 0 0))[i],f,g,j 0 Nat.zero_lt_one,?_⟩;unfold qv;rw[e]
variable{O:bA}
theorem z9f(i:iO C){k:Nat}(n:23<=k){e:iG}(a:IW X o E H e O)(d:Rs 1 bC H z (rA M (e.es.map TE.t))):Ok (oV (C k) (.fn 95 [] []) [e.nv,z] H) λr H'=>r=.bool (O.r.rule.val M)/\Fm No H H':=by obtain⟨j,rfl⟩:=aO (show 1<=k by omega);show Ok (C (j+1) (.f 95) [e.nv,z] H) _;rw[lk (zo5 ..)];unfold VD;have f:=a.rt.ok1.flat;have h:=d.len;rw[a.tb.is]at d h;rw[Ii M _ 0 0 f.rt]at h;refine Ok.ve (zwf i (k:=j) om a.tb f (Fo.y8 _) (λy l=>(a.nd y l).tg) (xau f.rt d) h (b:=O.r.rule.val M) (by rw[Fo.yL _ (O.r.rule.wJ a.rt.fit),Ru.aEi _ a.rt.fit])) ?_;rintro _ H1 ⟨rfl,m⟩;refine aS ?_;exact Ok.ret ⟨rfl,m⟩
theorem z8v{k:Nat}(a:1<=k)(x y:Bool)(H:Hp):C k (.f 97) [.bool x,.bool y] H=.ok (.bool (decide (x=y))) H:=by
 obtain⟨j,rfl⟩:=aO a;rw[lk (zo4 ..)];unfold VC;have e:iQ false (zT (.bool x) (.bool y))=.val (.bool (decide (x=y))):=by cases x<;>cases y<;>rfl
 simp(disch:=go_size)only[go_sem,seval,e]
theorem j9(hN:iO C){k:Nat}(hk:24<=k)(hV:bV X)(I:tl.length<300)(hT:T.length<=20)(g:LkE X o T u t b wb vb lb rb sb qb mb most tl W H)(hm:vN V H mb)(J:(E.1.1,E.2)∈aF X):Ok (oV (C k) (.fn 138 [] [.ptr wb 0,.ptr vb 0,.ptr lb 0,.ptr rb 0,.ptr sb 0]) [.agg (gC E)] H) λr H'=>r=.bool (decide (jV X T u V E≠V E))/\vN (qQ (jV X T u) V E) H' mb/\Fm (λc=>c=mb) H H':=by
 obtain⟨j,rfl⟩:=aO om;show Ok (C (j+1) (.f 138) [.agg (gC E),.ptr wb 0,.ptr vb 0,.ptr lb 0,.ptr rb 0,.ptr sb 0] H) _;rw[lk (zo2 ..)];unfold Pv;have K:gC E=[.str E.1.1.n E.1.1.a,.str E.1.2.n E.1.2.a,.str E.2.n E.2.a]:=rfl;have F:Fm No H (aH H (aB 0 (gC E))):=fm;have kw:=(g.no F).w;have O:=Ye (k:=j) om (g.no F).ta hV I J;rw[K]at F kw O ⊢;refine dI kw ?_;refine Ok.ve O ?_;rintro _ d ⟨e,x,rfl,U,a⟩;have n2:=U.nx;simp only[np]at n2;have et:sM e=[.str e.p.1.n e.p.1.a,.str e.p.2.r.name.n e.p.2.r.name.a,iN (e.n),iN (e.st),e.tv,e.nv]:=rfl;have z:Fm No d ((aH d (aB 0 [zS,zS,iN 0,iN 0,.aA,.aA])).put d.nx (aB 0 (sM e))):=fm;have kx:=gX (aH d (aB 0 [zS,zS,iN 0,iN 0,.aA,.aA])) d.nx (aB 0 (sM e));have e0:=a.tb.gl.bF;rw[et]at z kx ⊢;refine dI e0 ?_;rw[dD];generalize hHz:((aH d (aB 0 [zS,zS,iN 0,iN 0,.aA,.aA])).put d.nx (aB 0 [.str e.p.1.n e.p.1.a,.str e.p.2.r.name.n e.p.2.r.name.a,iN (e.n),iN (e.st),e.tv,e.nv]))=Hz at *;have nz:Hz.nx=d.nx+1:=om;have A:=(F.trans U).trans z;have i:=g.no A;have B:vN V Hz mb:=hm.eq (A.keep g.lt.2.2.2.2.2.2);have kg:Hz.get H.nx=aB 0 (gC E):=((U.trans z).keep om).trans om;refine Qc (j:=j) om i B hT kg om ((a.tb.gl.rs lF).fm z) (λy v=>⟨(a.tb.ok y v).fm z,a.nd y v⟩) (by have:=a.ln;omega) (λw H3 h3=>?_) bT 0 .aA Hz om (by rw[rO];have:=a.ln;omega) (vy _) (Ac.nil 1 _ om);have G:=h3.fm;have n3:=om;have l:=i.no G;have L:vN V H3 mb:=B.eq (G.keep i.lt.2.2.2.2.2.2);have M:=(G.keep (show d.nx<Hz.nx by omega)).trans kx;have kr:=l.r;unfold GY;refine dS kr M ?_;have N:IW X o E H3 e x:=⟨a.st,a.fx,a.rt,a.tb.fm om,a.ln,a.nd⟩;refine Ok.ve (z9f hN (k:=j) om N (Ac.rs (f:=bC) (λ_=>rfl) h3)) ?_;rintro _ p ⟨rfl,Y⟩;have P:jV X T u V E=x.r.rule.val (ej X T u E V):=by unfold jV;rw[a.fx]
 rw[<-P];have D:=l.no Y;have m:vN V p mb:=L.eq (Y.keep l.lt.2.2.2.2.2.2);have ks:=D.s;have kv:=D.v;have n:=((G.trans Y).keep (show H.nx<Hz.nx by omega)).trans kg;have Q:=m.look (e:=kX) (s:=some 3) ji (λ_=>rfl) E;unfold p9 at Q;rw[K]at n Q;refine jF ks kv n Q ?_;have fin:∀y:Bool,y=decide (jV X T u V E=V E)->Ok (cd (.bool y) (R1.ok (AV.bool false) p) (JC (C j) (AV.ptr vb 0) (AV.ptr H.nx 0) (AV.bool (jV X T u V E)) p)) λr H'=>r=AV.bool (decide (jV X T u V E≠V E))/\vN (qQ (jV X T u) V E) H' mb/\Fm (λc=>c=mb) H H':=λy v=>by
  have f04:Fm No H p:=om;cases y with
  |true=>
   have S:=of_decide_eq_true v.symm;refine aS ?_;refine Ok.ret ⟨om,?_,om⟩;have:qQ (jV X T u) V E=V:=funext λh=>by
    unfold qQ
    grind
   rw[this];exact m
  |false=>
   have S:=of_decide_eq_false v.symm;obtain⟨bk,Z,u2⟩:=m.upd (e:=kX) (s:=some 3) ji (λ_=>rfl) zyl E (.bool (jV X T u V E));unfold p9 at Z;rw[K]at Z;refine aS ?_;unfold JC;refine gW kv n Z ?_;refine Ok.ret ⟨om,?_,om⟩;have:(λq=>if q=E then AV.bool (jV X T u V E)else AV.bool (V q))=λq=>.bool (qQ (jV X T u) V E q):=funext λq=>by
    unfold qQ
    grind
   grind
 have sm:=z8v (k:=j) om (jV X T u V E) (V E) p;refine Ok.iC (R:=λr H'=>r=.bool (decide (jV X T u V E=V E))/\H'=p) ?_ ?_
 ·rw[sm];exact Ok.ret ⟨rfl,rfl⟩
 rintro _ _ ⟨rfl,rfl⟩;have:=fin _ rfl;cases hd:decide (jV X T u V E=V E)with
 |true=>rw[hd]at this;simp(disch:=go_size)only[go_sem,seval]at this ⊢;exact this
 |false=>rw[hd]at this;simp(disch:=go_size)only[go_sem,seval]at this ⊢;exact this
variable {G:List G3}
theorem z0i(q:bV X)(k:∀t∈T,lJ X t)(c:kQ X E.1.1 E.2=some O){y:Nd}(l:y∈O.r.rule.nodes false){r:G3}(a:r∈wV X T E y.k y.rl y.to):(⟨dA X E.1.1 E.2,dA X r.1.1 r.2,y.neg⟩:Edge)∈eh X:=by
 obtain⟨p,m,d,i,n⟩:=cL c;refine qqr.2 (qpi.2 (lEI.2 ⟨p,m,lEI.2 ⟨O,d,lEI.2 ⟨y,l,?_⟩⟩⟩));refine lEA.2 ⟨(r.1.1,r.2),?_,by rw[<-i,<-n];rfl⟩;rw[i];unfold eo;rcases lAJ.1 a with a|a
 ·split at a
  ·rename_i b;rw[sy om,sB b,lAK.1 a];exact lAK.2 rfl
  ·cases a
 ·obtain⟨t,o,a⟩:=lEI.1 a;unfold xD at a;split at a
  ·rename_i b;rw[sB b.1,lAK.1 a];obtain⟨_,_,_,j,e,f⟩:=k t o;have h:=b.2.1;unfold bR at h;rw[<-h]at c;rw[show(t.a,t.b)=((t.a,t.b):SS×SS)from rfl]at c;have:j=O:=by
    have:some j=some O:=e.symm.trans c;exact Option.some.inj this
   subst this;unfold dT;exact lEA.2 ⟨⟨t.x,t.z⟩,lEU.2 ⟨f,by simpa using b.2.2⟩,rfl⟩
  ·split at a
   ·rename_i b;rw[sy om,sy om,sB b.1,lAK.1 a];exact lEA.2 ⟨t.x,b.2.2.2,rfl⟩
   ·cases a
theorem z8u(a:lG X o)(b:bV X)(c:∀t∈T,lJ X t)(d:kQ X E.1.1 E.2=some O){y:Nd}(e:y∈O.r.rule.nodes false){r:G3}(f:r∈wV X T E y.k y.rl y.to):jP X o r<=jP X o E/\(y.neg=true->jP X o r<jP X o E):=by
 have:=a.fit.2 _ (z0i b c d e f);unfold cP at this;unfold jP;simp only at this;split at this
 ·exact⟨om,λ_=>om⟩
 ·rename_i h;exact⟨om,λi=>absurd i h⟩
theorem zuz(j:lG X o)(f:bV X)(k:∀t∈T,lJ X t){a:G3->Bool}(b:∀r,V r=true->a r=true)(c:∀r,jP X o r<jP X o E->V r=a r):jV X T u V E=true->jV X T u a E=true:=by
 unfold jV;cases i:kQ X E.1.1 E.2 with
 |none=>exact id
 |some x=>
  obtain⟨p,q,e,_,_⟩:=cL i;have d:=(f.pr.x p q x e).2.2.1;refine(Ru.mono x.r.rule false d.fit λy l=>⟨λh=>?_,λm=>?_⟩).1
  ·unfold ej at h ⊢;rw[ny]at h ⊢;refine h.imp id λh=>?_;rw[uq]at h ⊢;obtain⟨r,s,v⟩:=lIE.1 h;exact lIE.2 ⟨r,s,b r v⟩
  ·unfold ej;congr 2;exact qy λr n=>c r ((z8u j f k i l n).2 m)
def vr(X:List aP)(o:List Nat)(T:List Tu)(u:SS×SS)(G:List G3)(n:Nat)(V:G3->Bool):Prop:=
 (∀g,n<jP X o g->V g=false)/\∀g,jP X o g=n->V g=true->jV X T u V g=true
def muS(X:List aP)(o:List Nat)(G:List G3)(n:Nat)(V:G3->Bool):Nat:=(G.filter λg=>decide (jP X o g=n)).countP λg=> !V g
theorem zyf(h:vr X o T u G wb V)(b:jP X o E=wb):∀r,V r=true->qQ (jV X T u) V E r=true:=λr a=>by
 unfold qQ;split
 ·next e=>subst e;exact h.2 _ b a
 ·exact a
theorem z8s(f:lG X o)(i:bV X)(j:∀t∈T,lJ X t)(h:vr X o T u G wb V)(l:jP X o E=wb):vr X o T u G wb (qQ (jV X T u) V E):=by
 have c:=zyf h l;have d:∀k,jP X o k=wb->∀r,jP X o r<jP X o k->V r=qQ (jV X T u) V E r:=λk m r a=>by unfold qQ;rw[sy λe:r=E=>by rw[e]at a;omega]
 refine⟨λr a=>?_,λr a b=>?_⟩
 ·unfold qQ;rw[sy λe:r=E=>by rw[e]at a;omega];exact h.1 r a
 ·refine zuz f i j c (d r a) ?_;unfold qQ at b;split at b
  ·next e=>rw[e];exact b
  ·exact h.2 r a b
theorem O8(i:lG X o)(j:bV X)(m:∀t∈T,lJ X t):∀(l:List G3) {V:G3->Bool},(∀g∈l,jP X o g=wb)->vr X o T u G wb V -> vr X o T u G wb (nQ (jV X T u) l V).1/\(∀r,V r=true->(nQ (jV X T u) l V).1 r=true)/\((nQ (jV X T u) l V).2=true->∃g∈l,V g=false/\(nQ (jV X T u) l V).1 g=true)/\((nQ (jV X T u) l V).2=false->(nQ (jV X T u) l V).1=V)
 | [],V,_,h=>⟨h,λ_ h=>h,λh=>absurd h Bool.false_ne_true,λ_=>rfl⟩
 |g::l,V,hl,h=>by
  have f:=hl g vA;obtain⟨v,p,w,y⟩:=O8 i j m l (λx q=>hl x (DQ _ q)) (z8s i j m h f);have d:=zyf h f;refine⟨v,λr s=>p r (d r s),λa=>?_,λa=>?_⟩
  ·have a:(decide (jV X T u V g≠V g)||(nQ (jV X T u) l (qQ (jV X T u) V g)).2)=true:=a;by_cases c:jV X T u V g=V g
   ·rw[sT (λh=>h c),uk]at a;obtain⟨k,z,k2,k3⟩:=w a;refine⟨k,DQ _ z,?_,k3⟩;cases b:V k with
    |false=>rfl
    |true=>rw[d k b]at k2;cases k2
   ·refine⟨g,vA,?_,p g ?_⟩
    ·cases b:V g with
     |false=>rfl
     |true=>exact absurd ((h.2 g f b).trans b.symm) c
    ·have:qQ (jV X T u) V g g=jV X T u V g:=sB rfl;rw[this];cases b:V g with
     |false=>rw[b]at c;simpa using c
     |true=>exact h.2 g f b
  ·have a:(decide (jV X T u V g≠V g)||(nQ (jV X T u) l (qQ (jV X T u) V g)).2)=false:=a;rw[AU]at a;have c:=of_decide_eq_false a.1;have e:qQ (jV X T u) V g=V:=funext λr=>by
    unfold qQ;split
    ·next e=>rw[e];exact Classical.not_not.1 c
    ·rfl
   rw[show(nQ (jV X T u) (g::l) V).1=(nQ (jV X T u) l (qQ (jV X T u) V g)).1 from rfl,y a.2,e]
theorem Yy{α:Type}{p q:α->Bool}:∀{l:List α},(∀x∈l,p x=true->q x=true)->(∃x∈l,q x=true/\p x=false)->l.countP p<l.countP q
 | [],_,⟨_,h,_⟩=>by cases h
 |a::l,h,⟨x,b,h1,h2⟩=>by
  have e:l.countP p<=l.countP q:=List.countP_mono_left λx b=>h x (DQ _ b);rw[List.countP_cons,List.countP_cons];have c:=h a vA;rcases lE4.1 b with rfl|b
  ·rw[h1,h2];simp;omega
  ·have:=Yy (λx b=>h x (DQ _ b)) ⟨x,b,h1,h2⟩;cases d:p a with
   |true=>rw[c d];simp;omega
   |false=>cases q a<;>simp<;>omega
theorem zm6(e:lG X o)(f:bV X)(h:∀t∈T,lJ X t)(j:G.length<=1000):jx (jV X T u) G (jP X o) (vr X o T u G) (muS X o G) 1000:=by
 have i:∀n,∀g∈G.filter (λg=>decide (jP X o g=n)),jP X o g=n:=λn g a=>of_decide_eq_true (lEU.1 a).2;refine⟨λn V b d=>?_,λn V b d=>?_,λn V _=>?_⟩
 ·obtain⟨k,l,m,_⟩:=O8 e f h _ (i n) b;refine⟨k,Yy (λg _ a=>?_) ?_⟩
  ·cases c:V g with
   |false=>rfl
   |true=>rw[l g c]at a;cases a
  ·obtain⟨g,p,q,r⟩:=m d;exact⟨g,p,by rw[q];rfl,by rw[r];rfl⟩
 ·obtain⟨_,_,_,s⟩:=O8 e f h _ (i n) b;rw[s d];refine⟨λg a=>b.1 g om,λg a c=>?_⟩;rw[b.1 g om]at c;cases c
 ·exact AL AG (AL (ou _ _) j)
variable {LA LO:LP} {g:G3}
theorem xag(a:lG X o):ke X o<=(aF X).length:=by unfold ke kf;refine z09 λx b=>?_;obtain⟨y,c,rfl⟩:=lEA.1 b;obtain⟨i,d,rfl⟩:=ku c;rw[sY]at d;rw[yl];have:=a.lo i om;rw[vt,j0 om,Option.getD_some]at this;omega
def ip(g:G3)(u:SS×SS):List AV:=uN 1::(gC g++pC u)
theorem zwk(l:iO C)(m:fG C)(n:qM C)(p:pP C)(q:pZ LA LO C){k:Nat}(K:1006<=k)(s:dB H sv X)(h:f8 X)(y:ef X g=true)(z:(l9 u.1&&l9 u.2)=true):Ok (C k (.f 89) [.agg [sv],.agg (ip g u)] H) λr H'=>r=iN 0/\Fm No H H':=by
 obtain⟨j,rfl⟩:=aO (show 1<=k by omega);rw[lk (zo0 ..)];unfold Vz;have A:ip g u=[uN 1,.str g.1.1.n g.1.1.a,.str g.1.2.n g.1.2.a,.str g.2.n g.2.a,.str u.1.n u.1.a,.str u.2.n u.2.a]:=rfl;have c:Fm No H (aH (aH H (aB 0 [sv])) (aB 0 (ip g u))):=fm;have v:=zzc l m n p q (k:=j) om (s.fm c) h;rw[A]at c v ⊢;refine aS ?_;refine Ok.ve v ?_;rintro _ H1 ⟨rfl,b⟩;have k0:H1.get H.nx=aB 0 [sv]:=(b.keep g1).trans g6;have B:H1.get (H.nx+1)=aB 0 [uN 1,.str g.1.1.n g.1.1.a,.str g.1.2.n g.1.2.a,.str g.2.n g.2.a,.str u.1.n u.1.a,.str u.2.n u.2.a]:=(b.keep gz).trans g5;refine aS ?_;unfold YL;refine dI k0 ?_;have w:=c.trans b;refine Ok.ve (zzb l m n p q (k:=j) om (s.fm w) h) ?_;rintro _ G ⟨t,o,tl,rfl,_,a,i⟩;have D:=b.nx;simp only[np]at D;have d:tl.length<300:=by have:=congrArg List.length a.p;rw[vu,Bi]at this;have:=h.len;omega
 have k2:=(i.keep (show H.nx+1<H1.nx by omega)).trans B;have e:=znk (k:=j) om a h.val d g;rw[show(s8 g&&decide ((g.1.1,g.2)∈aF X))=ef X g from rfl,y]at e;have E:gC g=[.str g.1.1.n g.1.1.a,.str g.1.2.n g.1.2.a,.str g.2.n g.2.a]:=rfl;rw[E]at e;refine dI k2 ?_;refine Ok.ve e ?_;rintro _ I ⟨rfl,x⟩;have k3:=(x.keep (show H.nx+1<G.nx by have:=i.nx;omega)).trans k2;have f:=TA (k:=j) om u.1 u.2 I;rw[z]at f;unfold SS.v at f;refine dI k3 ?_;refine Ok.ve f ?_;rintro _ L ⟨rfl,J⟩;have F:kj true=0:=rfl;refine dI F ?_;unfold zww;exact Ok.ret ⟨rfl,(w.trans i).trans (x.trans J)⟩
theorem zcb{k:Nat}(q:1<=k){Hx Hb:Hp}{xb:Nat}{es:List eT}(s:jK X o Hx t most tl)(d:MB Hb Hx b T es G)(v:b<Hx.nx)(p:Fm No Hx H)(w:Hx.nx<=xb/\xb<H.nx)(e:∃c0 h i l,H.get qb=aB 0 [c0,h,i,l,u.1.v,u.2.v])(g:qb<H.nx/\qb≠xb):Ok (C k (.f 92) [.agg [t,.map b],.fn 93 [] [.ptr qb 0],.fn 95 [] [],.fn 97 [] []] H) λr H'=>r=.fn 138 [] [.ptr H.nx 0,.ptr (H.nx+5) 0,.ptr (H.nx+1) 0,.ptr (H.nx+2) 0,.ptr (H.nx+3) 0] /\ LkE X o T u t b H.nx (H.nx+5) (H.nx+1) (H.nx+2) (H.nx+3) qb (H.nx+4) most tl (λc=>c=H.nx+4\/c=xb) H'/\vN (λ_=>false) H' (H.nx+4)/\Fm No H H':=by
 obtain⟨j,rfl⟩:=aO q;rw[lk (zo3 ..)];unfold VB;have z:∀n f x y,lM n (.fn f x y)=.new (.ptr n 0) (aB 0 [.fn f x y]):=λ_ _ _ _=>rfl;refine dI z ?_;generalize a:((aH (aH (aH (aH (aH (aH H (aB 0 [t,.map b])) (aB 0 [.fn 93 [] [.ptr qb 0]])) (aB 0 [.fn 95 [] []])) (aB 0 [.fn 97 [] []])) (.map [] 0)) (aB 0 [.bU])).put (H.nx+5) (aB 0 [.map (H.nx+4)]))=H';have f:Fm No H H':=by rw[<-a];exact fm
 have n:H'.nx=H.nx+6:=by rw[<-a];rfl
 have k0:H'.get H.nx=aB 0 [t,.map b]:=by rw[<-a];simp(disch:=first|go_size|omega)only[go_sem,seval]
 have A:H'.get (H.nx+1)=aB 0 [.fn 93 [] [.ptr qb 0]]:=by rw[<-a];simp(disch:=first|go_size|omega)only[go_sem,seval]
 have k2:H'.get (H.nx+2)=aB 0 [.fn 95 [] []]:=by rw[<-a];simp(disch:=first|go_size|omega)only[go_sem,seval]
 have k3:H'.get (H.nx+3)=aB 0 [.fn 97 [] []]:=by rw[<-a];simp(disch:=first|go_size|omega)only[go_sem,seval]
 have B:H'.get (H.nx+4)=.map [] 0:=by rw[<-a];simp(disch:=first|go_size|omega)only[go_sem,seval]
 have D:H'.get (H.nx+5)=aB 0 [.map (H.nx+4)]:=by rw[<-a];simp(disch:=go_size)only[go_sem,seval]
 obtain⟨c0,h,i,l,e⟩:=e;have nx:=p.nx;exact Ok.ret ⟨rfl,⟨⟨Hx,Hb,es,G,s,d,v,p.trans f,λc E=>om⟩,k0,D,A,k2,k3,⟨c0,h,i,l,(f.keep g.1).trans e⟩,⟨om,om,om,om,om,om,om⟩,⟨om,om,om,om,om,om⟩,.inl rfl⟩,rM.nil B,f⟩
theorem zu0(l:iO C){j:Nat}(m:24<=j){xb:Nat}(n:bV X)(d:tl.length<300)(p:T.length<=20)(q:∀g∈G,(g.1.1,g.2)∈aF X)(k:LkE X o T u t b wb vb lb rb sb qb mb most tl (λc=>c=mb\/c=xb) H)(x:xb<H.nx)(a:mb≠xb):Lkr C j (jV X T u) G (.fn 138 [] [.ptr wb 0,.ptr vb 0,.ptr lb 0,.ptr rb 0,.ptr sb 0]) xb (λc=>c=mb\/c=xb) H (λV H=>vN V H mb):=by obtain⟨l1,z,l3,l4,l5,l6,w⟩:=k.lt;refine⟨λV s g v e f=>?_,λV s y e h f=>e.eq (h.get _ (AE w f.nx) a),.inr rfl,λc i=>by rcases i with rfl|rfl<;>omega⟩;refine(j9 l m n d p (k.fm f) e (q g v)).mono λr H' h=>⟨h.1,h.2.1,h.2.2.mono λc _ i=>?_⟩;subst i;exact⟨.inl rfl,a⟩
abbrev r9(X:List aP)(o:List Nat)(T:List Tu)(u:SS×SS)(g:G3):(G3->Bool)×Nat×Nat×Nat:=bq (jV X T u) (iU (gK X T) g) (jP X o) (ke X o) 0 λ_=>false
def vc(X:List aP)(o:List Nat)(T:List Tu)(u:SS×SS)(g:G3):List AV:=
 p8 (iU (gK X T) g).length (cO (gK X T) (iU (gK X T) g)) (r9 X o T u g).2.1 (r9 X o T u g).2.2.1 (r9 X o T u g).2.2.2 (cO (gK X T) (iU (gK X T) g)+(iU (gK X T) g).length+(r9 X o T u g).2.2.2)
theorem Uh(V:iO C)(hE:fG C)(hO:qM C)(hS:pP C)(hR:pZ LA LO C)(hT:uK C){k:Nat}(hk:1010<=k){l m:List Tu}(hX:dB H sv X)(h:f8 X)(hv:Gl 6 H ov m.length (m.flatMap Tu.cells))(hn:m.length<=40)(W:∀t∈m,t.lo)(hl:lI l)(hm:∀t,t∈m↔t∈l)(n:l.length<=20)(hf:(fb X m).2=0)(F:∀t∈l,lJ X t)(P:jy X U (gK X l))(Y:g∈U)(hd:ef X g=true)(hu:(l9 u.1&&l9 u.2)=true):Ok (C k (.f 37) [.agg [sv],ov,.agg (ip g u)] H) λr H'=>∃o,lG X o/\r=.aX [.agg (vc X o l u g),iN 0]/\Fm No H H':=by
 obtain⟨j,rfl⟩:=aO om;rw[lk (zoz ..)];unfold Vy;have eq:ip g u=[uN 1,.str g.1.1.n g.1.1.a,.str g.1.2.n g.1.2.a,.str g.2.n g.2.a,.str u.1.n u.1.a,.str u.2.n u.2.a]:=rfl;have Q:Fm No H (aH (aH (aH H (aB 0 [sv])) (aB 0 (ip g u))) (aB 0 [iN 0,iN 0,iN 0,iN 0,iN 0,iN 0])):=fm;have cw:=zx7 V hE hO hS hR hT (k:=j) om (hX.fm Q) h (hv.no Q) hn W hl hm n hf;rw[eq]at Q cw ⊢;simp(disch:=first|go_size|omega)only[go_sem,seval];refine Ok.ve cw ?_;rintro _ H1 ⟨t,b,o,tl,Hb,es,gs,rfl,q,A,B,L,hb,M⟩;have iY:=Q.trans M;have n1:=M.nx;simp only[np]at n1;obtain⟨tb,_,_,rfl,_⟩:=A.ex;have k0:H1.get H.nx=aB 0 [sv]:=(M.keep g1).trans g6;have k1:H1.get (H.nx+1)=aB 0 [uN 1,.str g.1.1.n g.1.1.a,.str g.1.2.n g.1.2.a,.str g.2.n g.2.a,.str u.1.n u.1.a,.str u.2.n u.2.a]:=(M.keep g1).trans g6;have k2:H1.get (H.nx+2)=aB 0 [iN 0,iN 0,iN 0,iN 0,iN 0,iN 0]:=(M.keep gz).trans g5;have R:Fm No H1 ((aH H1 (aB 0 [.bQ,.bU])).put H1.nx (aB 0 [.ptr tb 0,.map b])):=fm;simp(disch:=first|go_size|omega)only[go_sem,seval];rw[kE FU];unfold FU;have qc:=zwk (g:=g) (u:=u) V hE hO hS hR (k:=j) om (hX.fm (iY.trans R)) h hd hu;rw[eq]at qc;simp(disch:=go_size)only[go_sem,seval,k0,k1];refine Ok.ve qc ?_;rintro _ T ⟨rfl,N⟩;have n3:=N.nx;simp only[np,nq]at n3;have kw:T.get H1.nx=aB 0 [.ptr tb 0,.map b]:=(N.keep gz).trans g5;have G:=((R.trans N).keep (show H.nx+1<H1.nx by omega)).trans k1;have Z:=((R.trans N).keep (show H.nx+2<H1.nx by omega)).trans k2;have p:=R.trans N;have eg:gC g=[.str g.1.1.n g.1.1.a,.str g.1.2.n g.1.2.a,.str g.2.n g.2.a]:=rfl;have tc:=Ux (k:=j) om (L.fm p hb) om n (A.fm p) h.val B P Y;rw[eg]at tc;simp(disch:=first|go_size|omega)only[go_sem,seval];rw[kE FV];unfold FV;simp(disch:=go_size)only[go_sem,seval,kw,G];refine Ok.ve tc ?_;rintro _ i ⟨gv,rfl,D,_⟩;have E:=D.fm;have n4:=E.nx;have I:=(E.keep (show H1.nx<T.nx by omega)).trans kw;have J:=(E.keep (show H.nx+1<T.nx by omega)).trans G;have k23:=(E.keep (show H.nx+2<T.nx by omega)).trans Z;have e0:=D.bF;simp(disch:=go_size)only[go_sem,seval,e0,J,I];have hG:∀x∈iU (gK X l) g,(x.1.1,x.2)∈aF X:=λx hx=>P.dc _ ((PP P.cl _ _ (wE.one Y)).sub x hx);have hGn:=MR P Y;have hmn:=xag q;have h13:=h.len;have hrc:=O4 (Fz (X:=X) h.val n) (iU (gK X l) g);generalize hHs:(Hp.mk ((aH i (aB 0 [iN 0,iN 0,iN 0,iN 0,iN 0,iN 0])).put i.nx (aB 0 [iN (iU (gK X l) g).length,iN (cO (gK X l) (iU (gK X l) g)),iN 0,iN 0,iN 0,iN 0])).t (i.nx+1))=Hs;have S:Fm No i Hs:=om;have n5:Hs.nx=i.nx+1:=om;have ks:Hs.get i.nx=aB 0 (p8 (iU (gK X l) g).length (cO (gK X l) (iU (gK X l) g)) 0 0 0 0):=by rw[<-hHs];exact gX _ _ _
 have kw5:=(S.keep (show H1.nx<i.nx by omega)).trans I;have k15:=(S.keep (show H.nx+1<i.nx by omega)).trans J;have K:=A.fm (p.trans E);have bAh:=L.fm (p.trans E) hb;have lc:=zcb (u:=u) (xb:=i.nx) (k:=j) om K bAh om S ⟨om,om⟩ ⟨_,_,_,_,k15⟩ ⟨om,om⟩;refine Ok.iC lc ?_;rintro _ H4 ⟨rfl,O,hm4,f6⟩;have n6:=om;have cDw:=O.lt;have kw6:=(f6.keep (show H1.nx<Hs.nx by omega)).trans kw5;simp(disch:=go_size)only[go_sem,seval,kw6];refine Ok.iC (zlb (k:=j) om (zm6 (u:=u) q h.val F om) om K h.val B D.gl hG om om (zu0 V om h.val B n hG O om om) om om ⟨om,om⟩ hm4 ((f6.keep om).trans ks)) ?_;rintro _ H5 ⟨rfl,_,kx,hev,f7⟩;have n7:=om;have k27:=(f7.get (H.nx+2) om om).trans (((S.trans f6).keep (show H.nx+2<i.nx by omega)).trans k23);have hsp:=hev;unfold p8 at kx;simp(disch:=first|go_size|omega)only[go_sem,seval];rw[kE Br];unfold Br;have s60:∀a b c d e f x y z ov w s:AV,aY [a,b,c,d,e,f] 0 [x,y,z,ov,w,s]=[x,y,z,ov,w,s]:=λ_ _ _ _ _ _ _ _ _ _ _ _=>rfl;simp(disch:=go_size)only[go_sem,rB,rI,rK,rL,rN,rS,r6,kx,k27,zyk,s60,nk,DP];have f05:Fm No H H5:=om;refine⟨_,_,rfl,o,q,rfl,?_⟩
 grind
open Go.Di.T Go.Sort
variable {l:List Tu}
structure FOK(X:List aP)(l:List Tu):Prop where
 ok:f8 X
 n:l.length<=20
 lo:∀t∈l,t.lo
 fit:∀t∈l,lJ X t
 asc:lI l
theorem FOK.fb(h:FOK X l)(a:∀t,t∈T↔t∈l):(fb X T).2=0:=by rw[Pi λt b=>(h.fit t ((a t).1 b)).zero h.ok.val]
structure Env(X:List aP)(l:List Tu)(H:Hp)(sv v av ov gv:AV)(b7 b9:Nat):Prop where
 k7:H.get b7=aB 0 [sv]
 k9:H.get b9=aB 0 [sv,v,av,ov,gv]
 n7:b7<H.nx
 n9:b9<H.nx
 sH:dB H sv X
 gl:Gl 6 H v l.length (l.flatMap Tu.cells)
theorem Env.fm(h:Env X l H sv z t ov I wb vb)(f:Fm No H H'):Env X l H' sv z t ov I wb vb:=
 ⟨(f.keep h.n7).trans h.k7,(f.keep h.n9).trans h.k9,AE h.n7 f.nx,AE h.n9 f.nx,h.sH.fm f,h.gl.no f⟩
attribute [grind .] Env.fm
theorem Env.wd(h:Env X l H sv z t ov I wb vb):WdR X l H [sv,z,t,ov,I]:=⟨_,_,_,_,_,rfl,h.sH,h.gl.rs yZ,λ_=>h.gl.lt⟩
theorem FOK.stk(h:FOK X l)(b:ef X g=true):jy X (nE (aF X) (g.1::iR l)) (gK X l)/\g∈nE (aF X) (g.1::iR l)/\(g.1.1,g.2)∈aF X:=by
 have a:(g.1.1,g.2)∈aF X:=by unfold ef at b;simp_all
 exact⟨z8t h.ok.val h.ok.len h.n h.fit _,qfz.2 ⟨vA,a⟩,a⟩
variable {L:List (List Nat)}
end Go.Di
end
noncomputable section
namespace Go.Di
open Go.Ev
variable {X:List aP} {l:List Tu}
def Df:SS:=⟨4,1919251317⟩
theorem xa6:∀m,m<5->∃s:SS,([AV.str 1 49,.str 1 50,.str 1 51,.str 1 52,.str 4 1953460082]:List AV)[m]? =some (.str s.n s.a)/\s∈mT:=λm a=>by
 match m,a with
 |0,_=>exact⟨⟨1,49⟩,rfl,g4⟩
 |1,_=>exact⟨⟨1,50⟩,rfl,g4⟩
 |2,_=>exact⟨⟨1,51⟩,rfl,g4⟩
 |3,_=>exact⟨⟨1,52⟩,rfl,g4⟩
 |4,_=>exact⟨⟨4,1953460082⟩,rfl,g4⟩
def aX8(G:List G3)(r:AV):Prop:=(∃cs:List AV,cs.length=6/\r=.aX [.agg cs,.bool false])\/(∃c1 c2 c3 c4 c5,r=.aX [.agg [uN 2,c1,c2,c3,c4,c5],.bool true])\/∃g∈G,∃s∈mT,r=.aX [.agg (ip g (Df,s)),.bool true]
theorem QX{O:Ev.Call}{H:Hp}{c d:Nat}{x y z v w s h i j k l m:AV}(n:H.get c=aB 0 [x,y,z,v,w,s])(o:H.get d=aB 0 [h,i,j,k,l,m]):Ok (GS O (.ptr d 0) (.ptr c 0) H) λr H'=>r=.aX [.agg [x,y,z,v,w,s],.bool true]/\Fm (λb=>b=d) H H':=by unfold GS;have g:∀a b c d e f x y z v w s:AV,aY [a,b,c,d,e,f] 0 [x,y,z,v,w,s]=[x,y,z,v,w,s]:=λ_ _ _ _ _ _ _ _ _ _ _ _=>rfl;simp(disch:=go_size)only[go_sem,rB,rI,rK,rL,rN,rS,r6,n,o,g,nk,DP];exact⟨_,_,rfl,rfl,(Fm.refl _ _).put _ _ λ_=>rfl⟩
variable{h:List G3}
theorem xb6{k:Nat}(J:1<=k){H:Hp}{p q n:Nat}{a b c d u:AV}(E:Rs 3 gC H u h)(S:p<256)(T:q<256)(U:n<256):Ok (C k (.f 34) [.agg [uN p,uN q,uN n],.agg [a,b,c,d,u]] H) λr H'=>aX8 h r/\Fm No H H':=by
 obtain⟨j,rfl⟩:=aO J;rw[lk (zoy ..)];unfold Vx;have t:=E.len;have K:Fm No H (aH (aH (aH H (aB 0 [uN p,uN q,uN n])) (aB 0 [a,b,c,d,u])) (aB 0 [uN 0,zS,zS,zS,zS,zS])):=fm;have i:∀a b c d e f x y z v w s:AV,aY [a,b,c,d,e,f] 0 [x,y,z,v,w,s]=[x,y,z,v,w,s]:=λ_ _ _ _ _ _ _ _ _ _ _ _=>rfl;by_cases I:h.length=0
 ·have A:=ae I;simp(disch:=first|go_size|omega)only[go_sem,rB,rI,rK,rL,rN,rS,r6,t,A,i,nk,DP];refine⟨_,_,rfl,.inl ⟨[uN 0,zS,zS,zS,zS,zS],rfl,rfl⟩,?_⟩;exact fm
 ·have L:0<h.length:=om;simp(disch:=first|go_size|omega)only[go_sem,rB,rI,rK,rL,rN,rS,r6,t,I];unfold YK;have M:=ah q L;obtain⟨O,P,F,V,m⟩:=(E.fm K).oG M;have l:h[q%h.length]∈h:=om;generalize h[q%h.length]=g at m l;replace m:eY (Hp.get _ O) P 3=some [.str g.1.1.n g.1.1.a,.str g.1.2.n g.1.2.a,.str g.2.n g.2.a]:=m;have B:∀a b c d e f x:AV,aY [a,b,c,d,e,f] 0 [x]=[x,b,c,d,e,f]:=λ_ _ _ _ _ _ _=>rfl;have D:∀a b c d e f x y:AV,aY [a,b,c,d,e,f] 4 [x,y]=[a,b,c,d,x,y]:=λ_ _ _ _ _ _ _ _=>rfl;have N:(bK (aU [zS] 5) [(0,1,(.str 1 49)),(1,1,(.str 1 50)),(2,1,(.str 1 51)),(3,1,(.str 1 52)),(4,1,(.str 4 1953460082))])=some [.str 1 49,.str 1 50,.str 1 51,.str 1 52,.str 4 1953460082]:=id rfl;obtain⟨s,Q,R⟩:=xa6 (n%5) om;rw[N];by_cases o:p%2=1
  ·simp(disch:=first|go_size|omega)only[go_sem,rB,rI,rK,rL,rN,rS,r6,t,F,m,o,B];refine(QX (by simp(disch:=first|omega|exact ti rfl|simp only[np,nq];first|done|omega)only[go_sem,rB,rI,rK,rL,rN,rS,r6];rfl) (by simp(disch:=first|omega|exact ti rfl|simp only[np,nq];first|done|omega)only[go_sem,rB,rI,rK,rL,rN,rS,r6];rfl)).mono λr H' G=>⟨.inr om,?_⟩;refine Fm.then ?_ G.2 om;exact fm
  ·simp(disch:=first|go_size|omega)only[go_sem,rB,rI,rK,rL,rN,rS,r6,t,F,m,o,i,Q,D];refine(QX (by simp(disch:=first|omega|exact ti rfl|simp only[np,nq];first|done|omega)only[go_sem,rB,rI,rK,rL,rN,rS,r6];rfl) (by simp(disch:=first|omega|exact ti rfl|simp only[np,nq];first|done|omega)only[go_sem,rB,rI,rK,rL,rN,rS,r6];rfl)).mono λr H' G=>⟨.inr (.inr ⟨g,l,s,R,G.1⟩),?_⟩;refine Fm.then ?_ G.2 om;exact fm
variable {o:List Nat} {T:List Tu} {u:SS×SS} {g:G3}
def b8(tb:List G3)(t:Tu):Bool:=tb.any λk=>decide (k.1=(t.a,t.b))
def cn(tb:List G3):Nat->List Tu->List Tu
 |_,[]=>[]
 |n,t::l=>if b8 tb t=false/\0<n then cn tb (n-1) l else t::cn tb n l
theorem KV(tb:List G3):∀(n:Nat) (l:List Tu),List.Sublist (cn tb n l) l
 |_,[]=>.slnil
 |n,t::l=>by
  unfold cn;split
  ·exact(KV tb _ l).cons _
  ·exact(KV tb _ l).cons₂ _
theorem M1{β:Type}(tb:List G3){f:Tu->List β}(a:∀t,b8 tb t=false->f t=[]):∀(n:Nat) (l:List Tu),(cn tb n l).flatMap f=l.flatMap f
 |_,[]=>rfl
 |n,t::l=>by
  unfold cn;split
  ·next h=>rw[M1 tb a,DM,a t h.1,au]
  ·rw[DM,DM,M1 tb a]
theorem KW(tb:List G3){f:Tu->Bool}(a:∀t,b8 tb t=false->f t=false):∀(n:Nat) (l:List Tu),(cn tb n l).filter f=l.filter f
 |_,[]=>rfl
 |n,t::l=>by
  unfold cn;split
  ·next h=>rw[KW tb a,dm,a t h.1];rfl
  ·rw[dm,dm,KW tb a]
theorem Va(a:g∈h){t:Tu}(tb:b8 h t=false):g.1≠(t.a,t.b):=λe=>by have:b8 h t=true:=lIE.2 ⟨g,a,j7 e⟩;rw[this]at tb;cases tb
theorem zk7(b:g∈h)(n q:Nat)(rl to:SS):wV X (cn h n l) g q rl to=wV X l g q rl to:=by unfold wV;rw[M1 h λt c=>?_];have a:=Va b c;unfold xD bR;rw[sy λtb=>a (by rw[<-tb.2.1]),sy λtb=>a (by rw[<-(Prod.ext_iff.1 tb.2.1).1])]
theorem z0z(b:g∈h)(n q:Nat):qq (cn h n l) g q=qq l g q:=by unfold qq rY;rw[KW h λt c=>?_];have a:=Va b c;unfold bR;exact sT λtb=>a (by rw[<-tb])
theorem Sn(a:g∈h)(n:Nat):gK X (cn h n l) g=gK X l g:=by
 unfold gK;split
 ·rfl
 ·congr 1;funext y;exact zk7 a _ _ _ _
theorem z95(a:g∈h)(n:Nat)(V:G3->Bool):jV X (cn h n l) u V g=jV X l u V g:=by
 unfold jV;split
 ·rfl
 ·congr 1;funext q rl to;unfold ej;rw[zk7 a,z0z a]
theorem O1(R:G3->List G3):∀(n i:Nat) (l:List G3),∀k∈l,k∈eV R n i l
 |0,_,_,_,h=>h
 |n+1,i,l,k,h=>by
  unfold eV;split
  ·obtain⟨s,e⟩:=Ge (R l[i]) l;exact O1 R n _ _ _ (by rw[e];exact uw _ h)
  ·exact h
theorem UB{R b:G3->List G3}:∀(n i:Nat) (l:List G3),(∀k∈eV R n i l,b k=R k)->eV b n i l=eV R n i l
 |0,_,_,_=>rfl
 |n+1,i,l,h=>by
  unfold eV at h ⊢;by_cases a:i<l.length
  ·rw[dif_pos a]at h ⊢;rw[dif_pos a];obtain⟨s,e⟩:=Ge (R l[i]) l;rw[h l[i] (O1 R _ _ _ _ (by rw[e];exact uw _ (sx a)))];exact UB n _ _ h
  ·rw[dif_neg a,dif_neg a]
theorem KU(n:Nat):iU (gK X (cn (iU (gK X l) g) n l)) g=iU (gK X l) g:=UB _ _ _ λk a=>Sn a n
theorem z01(n:Nat):cO (gK X (cn h n l)) h=cO (gK X l) h:=by unfold cO;congr 1;exact qy λk a=>by rw[Sn a]
noncomputable section
variable {α:Type} [DecidableEq α] {f f':(G3->α)->G3->α}
theorem UX:∀(l:List G3) (V:G3->α),(∀V,∀k∈l,f' V k=f V k)->nQ f' l V=nQ f l V
 | [],_,_=>rfl
 |k::l,V,h=>by
  have e:=h V k vA;have es:qQ f' V k=qQ f V k:=by unfold qQ;rw[e]
  have ih:=UX l (qQ f V k) λV x a=>h V x (DQ _ a);unfold nQ;rw[es,ih,e]
theorem Us{l:List G3}(h:∀V,∀k∈l,f' V k=f V k):∀(n:Nat) (V:G3->α),rep f' l n V=rep f l n V
 |0,_=>rfl
 |n+1,V=>by unfold rep;rw[UX l V h,Us h n]
theorem TP{G:List G3}{a:G3->Nat}(h:∀V,∀k∈G,f' V k=f V k):∀(d n:Nat) (V:G3->α),bq f' G a d n V=bq f G a d n V
 |0,_,_=>rfl
 |d+1,n,V=>by have e:∀V,rep f' (G.filter λg=>decide (a g=n)) bT V=rep f (G.filter λg=>decide (a g=n)) bT V:=λV=>Us (λV k b=>h V k (lEU.1 b).1) _ V;unfold bq;simp only[e,TP h d]
end
theorem z00(n:Nat):vc X o (cn (iU (gK X l) g) n l) u g=vc X o l u g:=by
 have e:r9 X o (cn (iU (gK X l) g) n l) u g=r9 X o l u g:=by unfold r9;rw[KU];exact TP (λV k a=>z95 a n V) _ _ _
 unfold vc;rw[e,KU,z01]
end Go.Di
end
