/-
 For StrataTurns: functions in direct style, their contracts, and the plain mathematics, part 7 of 10. No conditions beyond those that each theorem states.
-/
import Derived.Test.YtighkibjecdbnaaGreatConF
set_option linter.unusedSimpArgs false
set_option linter.unusedVariables false
open Nat renaming reduceAdd->rB,reduceMul->rI,reduceSub->rK,reduceLeDiff->rL,reduceEqDiff->rN,reduceShiftRight->rS,reduceAnd->r6
section
namespace Go.Di
open Go.Ev Go.Di.T
variable {C:Nat->Ev.Call} {LA LO:LP}
variable {H H' H0:Hp} {N a j k n tb z:Nat} {S:Nat->Prop} {aR:Nat->List Nat} {col:Nat->Nat} {cs l:List AV} {o:List Nat}
structure aEk(H:Hp)(col:Nat->Nat)(cs:List AV)(out:List (List Nat)):Prop where
 len:cs.length=out.length
 at':∀(i:Nat) (c:AV) (o:List Nat),cs[i]? =some c->out[i]? =some o->(∃b q n m e,c=.sl b q n m e)/\Gl 1 H c o.length (aI o)/\∀ b,In c b->col b=5
structure TMd(H0:Hp)(aR:Nat->List Nat)(s:TS)(col:Nat->Nat)(tb:Nat)(H:Hp)(nx:Nat->AV)(sv ov:AV)(cs:List AV):Prop where
 fm:Fm No H0 H
 base:∀ b,b<H0.nx->col b=9
 ge:H0.nx<=tb
 lt:tb<H.nx
 ct:col tb=0
 get:H.get tb=TB nx s sv ov
 z8:∀ v,v<256->Gl 1 H (nx v) (aR v).length (aI (aR v))/\∀ b,In (nx v) b->col b=10+v
 stk:Gs 1 H sv s.stk.length (aI s.stk)
 xH:∀ b,In sv b->col b=2
 out:Gl 1 H ov cs.length cs
 ouc:∀ b,In ov b->col b=4
 css:aEk H col cs s.out
def TM(H0:Hp)(aR:Nat->List Nat)(s:TS)(col:Nat->Nat)(tb:Nat)(H:Hp):Prop:=∃ nx sv ov cs,TMd H0 aR s col tb H nx sv ov cs
theorem aEk.keep{col a:Nat->Nat}{d:List (List Nat)}(h:aEk H col cs d)(k:H.nx<=H'.nx)(l:∀ b,b<H.nx->col b=5->H'.get b=H.get b)(m:∀ b,b<H.nx->a b=col b):aEk H' a cs d:=
 ⟨h.len,fun i c o n p=>by obtain⟨g0,g,j⟩:=h.at' i c o n p;exact⟨g0,g.keep k fun b e f=>l b f (j b e),fun b e=>(m b (g.lt e)).trans (j b e)⟩⟩
theorem TMd.step{s:TS}{nx:Nat->AV}{sv ov:AV}(h:TMd H0 aR s col tb H nx sv ov cs)(f:Fm S H H')(o:∀ b,b<H.nx->S b->b=tb\/col b=2\/col b=3){d:Nat->Nat}(j:∀ b,b<H.nx->d b=col b){s':TS}{l:AV}(r:H'.get tb=TB nx s' l ov)(i:Gs 1 H' l s'.stk.length (aI s'.stk))(m:∀ b,In l b->d b=2)(t:s'.out=s.out):TMd H0 aR s' d tb H' nx l ov cs:=by
 have x:∀ b,b<H0.nx->¬ S b:=fun b a i=>by
  have g:b<H.nx:=lq a h.fm.nx;rcases o b g i with e|e|e
  ·have:=h.ge;omega
  ·rw[h.base b a]at e;cases e
  ·rw[h.base b a]at e;cases e
 have n:∀{c:Nat},c≠0->c≠2->c≠3->∀ b,b<H.nx->col b=c->H'.get b=H.get b:=fun{c} u y z b a k=>f.get b a fun i=>by
  rcases o b a i with e|e|e
  ·rw[e,h.ct]at k;exact u k.symm
  ·omega
  ·omega
 exact{
  fm:=h.fm.then f fun b a i=>absurd i (x b a)
  base:=fun b a=>(j b (lq a h.fm.nx)).trans (h.base b a)
  ge:=h.ge
  lt:=lq h.lt f.nx
  ct:=(j tb h.lt).trans h.ct
  get:=r
  z8:=fun v w=>by obtain⟨p,q⟩:=h.z8 v w;exact⟨p.keep f.nx fun b a g=>n (c:=10+v) (by omega) (by omega) (by omega) b g (q b a),fun b a=>(j b (p.lt a)).trans (q b a)⟩
  stk:=i
  xH:=m
  out:=h.out.keep f.nx fun b a g=>n (c:=4) (by omega) (by omega) (by omega) b g (h.ouc b a)
  ouc:=fun b a=>(j b (h.out.lt a)).trans (h.ouc b a)
  css:=t▸h.css.keep f.nx (n (c:=5) (by omega) (by omega) (by omega)) j}
def qs9(col:Nat->Nat)(H:Hp)(k:Nat):Nat->Nat:=fun b=>if b<H.nx then col b else k
theorem qb2{k b:Nat}(h:b<H.nx):qs9 col H k b=col b:=kz h
theorem qgy{k b:Nat}(h:H.nx<=b):qs9 col H k b=k:=lu (by omega)
theorem zbb(A:aV C)(B:1<=k){s:TS}(d:TM H0 aR s col tb H){v:Nat}(N:v<256)(u:s.cnt<=256)(D:s.stk.length<=256):Ok (C k (.f 143) [.ptr tb 0,.int .i64 (.ofNat v)] H) fun r H'=>r=.aX []/\∃ f,(∀b,b<H.nx->f b=col b)/\TM H0 aR (s.enter v) f tb H'/\Fm (fun b=>b=tb\/col b=2) H H':=by
 obtain⟨j,rfl⟩:=aU B;rw[(A j).zDd];unfold zDd zza;obtain⟨nx,sv,ov,cs,d⟩:=d;have F:=d.get;have w:=d.stk;have i:=d.xH;simp(disch:=first|go_size|omega)only[go_sem,rB,rI,rK,rL,rN,rS,r6,qg,pq,F];have m:∀ b,In sv b->b≠tb:=fun b a e=>by have:=i b a;rw[e,d.ct]at this;cases this
 refine Ok.ve (Gs.append (z:=1) (n:=s.stk.length) (l:=aI s.stk) (w.keep ?_ fun b a o=>?_) ?_ ?_ ?_) ?_
 ·simp only[np,nq];omega
 ·rw[qcr _ _ _ (by simp only[nq];omega)];simp only[zms,eB _ _ _ _ (m b a)]
 ·rfl
 ·omega
 ·omega
 rintro r H1 ⟨⟨J,K,L,M,rfl⟩,y,q,t⟩;have o:=d.lt;have G:H1.get tb=TB nx {s with cnt:=s.cnt+1,num:=upd s.num v (s.cnt+1),low:=upd s.low v (s.cnt+1),on:=upd s.on v true} sv ov:=by rw[q.get tb (by simp only[np,nq];omega) fun a=>m tb a rfl,qcr _ _ _ (by simp only[nq];omega),dL]
 simp only[go_sem,qg,pq,G];have I:Fm (fun b=>b=tb\/col b=2) H H1:=by refine Fm.then (S:=fun b=>b=tb\/col b=2) (Fm.push ?_ _) q fun c O E=>Or.inr (i c E);exact((((Fm.refl _ _).put tb _ fun _=>Or.inl rfl).put tb _ fun _=>Or.inl rfl).put tb _ fun _=>Or.inl rfl).put tb _ fun _=>Or.inl rfl
 have x:=I.put tb (TB nx {s with cnt:=s.cnt+1,num:=upd s.num v (s.cnt+1),low:=upd s.low v (s.cnt+1),on:=upd s.on v true} (.sl J K (s.stk.length+1) L M) ov) fun _=>Or.inl rfl;have p:=q.nx;simp only[np,nq]at p t;refine Ok.ret ⟨rfl,qs9 col H 2,fun b a=>qb2 a,⟨nx,_,ov,cs,d.step x (fun b _ h=>h.imp id Or.inl) (fun b a=>qb2 a) (dL _ _ _) ?_ ?_ rfl⟩,x⟩
 ·have e:aI s.stk++[.int .i64 (.ofNat v)]=aI (s.stk++[v]):=by simp[aI]
  rw[e]at y;show Gs 1 _ _ (s.stk++[v]).length (aI (s.stk++[v]));rw[ku];refine y.keep (lh _) fun b a _=>eB _ _ _ _ fun e=>?_;subst e;rcases t b a with g|g
  ·exact m b g rfl
  ·omega
 ·intro b a;rcases t b a with g|g
  ·rw[qb2 (w.lt g)];exact i b g
  ·exact qgy (by omega)
theorem qkq(z b o n m:Nat)(e:Bool)(h:a<=n)(c:n<=m)(d:a<m):kL z (.sl b o n m e) (some (.int .i64 (.ofNat a))) none none=.val (.sl b (o+a*z) (n-a) (m-a) e):=by
 show(match bounds n m (some (.int .i64 (.ofNat a))) none none with|some bd=>iI b o z bd e|none=>R0.bad)=_;have:bounds n m (some (.int .i64 (.ofNat a))) none none=some ⟨a,n,m⟩:=by show(match(bif Nat.ble a n then some a else none)with|none=>none|some l=>some (Bd.mk l n m))=_;rw[ble_eq,qw h];rfl
 rw[this];show(bif Nat.beq m a then _ else R0.val (.sl b (o+a*z) (n-a) (m-a) e))=_;rw[beq_eq,uA (by omega)];rfl
theorem q9k(z b o n m:Nat)(e:Bool)(h:k<=n)(a:n<=m)(c:0<m):kL z (.sl b o n m e) none (some (.int .i64 (.ofNat k))) none=.val (.sl b o k m e):=by
 show(match bounds n m none (some (.int .i64 (.ofNat k))) none with|some bd=>iI b o z bd e|none=>R0.bad)=_;have:bounds n m none (some (.int .i64 (.ofNat k))) none=some ⟨0,k,m⟩:=by show(match(bif Nat.ble k m then some k else none)with|none=>none|some h=>match(some 0:Option Nat)with|none=>none|some l=>some (Bd.mk l h m))=_;rw[ble_eq,qw (by omega)];rfl
 rw[this];show(bif Nat.beq m 0 then _ else R0.val (.sl b (o+0*z) (k-0) (m-0) e))=_;rw[beq_eq,uA (by omega),lAS];rfl
theorem Gs.from{v:AV}(h:Gs 1 H v n l)(k:a<n):∃ w,kL 1 v (some (.int .i64 (.ofNat a))) none none=.val w/\(∃b o n m e,w=.sl b o n m e)/\Rl H w (l.drop a):=by
 have g:=h.rl;have p:l.length=n:=by have:=h.len;omega
 rcases h.is with⟨rfl,c⟩|⟨b,o,m,e,q,L,rfl,c,r,s,t,u,j⟩
 ·omega
 ·refine⟨_,qkq 1 b o n m e (by omega) c (by omega),⟨_,_,_,_,_,rfl⟩,?_,fun i f=>?_⟩
  ·show R0.val (.int .i64 (.ofNat (n-a)))=_;simp_all
  ·rw[xx]at f;refine⟨b,o+a*1+i,by rw[uT _ _ _ _ _ _ _ _ (by omega)];simp only[qg],j,?_⟩;obtain⟨x,y,d,_,z⟩:=g.at' (a+i) (by omega);rw[uT _ _ _ _ _ _ _ _ (by omega)]at d;cases d;have:o+a*1+i=o+(a+i)*1:=by omega
   simp_all
theorem Gs.upto{v:AV}(h:Gs z H v n l)(a:k<=n)(i:0<n):∃ b o m e,kL z v none (some (.int .i64 (.ofNat k))) none=.val (.sl b o k m e)/\Gs z H (.sl b o k m e) k (l.take (k*z))/\∀ c,In (.sl b o k m e) c->In v c:=by
 rcases h.is with⟨rfl,d⟩|⟨b,o,m,e,q,L,rfl,d,j,p,r,s,t⟩
 ·omega
 ·refine⟨b,o,m,e,q9k z b o n m e a d (by omega),?_,fun c f=>?_⟩
  ·exact Gs.cut h a
  ·obtain⟨_,_,_,_,g⟩:=f;cases g;exact⟨_,_,_,_,rfl⟩
theorem ztv(b:aV C)(c:1<=k){s:TS}(a:TM H0 aR s col tb H){v:Nat}(f:v<256)(d:s.low v<s.num v):C k (.f 144) [.ptr tb 0,.int .i64 (.ofNat v)] H=.ok (.aX []) H:=by obtain⟨j,rfl⟩:=aU c;rw[(b j).zDe];unfold zDe zp0;obtain⟨nx,sv,ov,cs,a⟩:=a;have e:=a.get;simp(disch:=omega)only[go_sem,seval,qg,pq,e,d]
def aDe(on:Nat->Bool):List Nat->Nat->Bool
 | [],x=>on x
 |k::r,x=>aDe (upd on k false) r x
theorem zlr:∀(l:List Nat) (a:Nat->Bool) (x:Nat),aDe a l x=if x∈l then false else a x
 | [],a,x=>by simp[aDe]
 |k::r,a,x=>by
  rw[aDe,zlr r];by_cases h:x∈r
  ·simp[h]
  ·by_cases e:x=k
   ·subst e;simp[h,upd_same]
   ·simp[h,e,upd_ne _ _ e]
theorem zad{O:Ev.Call}{nx:Nat->AV}{sv ov:AV}{tb:Nat}{comp:List Nat}{w:AV}{s:TS}(g:∀ x∈comp,x<256)(p:comp.length<900000){H1:Hp}(j:Rl H1 w (aI comp)){q:pD}{Q:pH}(d:∀ i b o,i<comp.length->aG 1 w (.int .i64 (.ofNat i))=.val (.ptr b o)->b≠tb)(f:tb<H1.nx)(l:∀ H e,(∀x,e x=if x∈comp then false else s.on x)->H.get tb=TB nx {s with on:=e} sv ov->Fm (fun b=>b=tb) H1 H->Ok (q H) Q):∀(k i:Nat) (H:Hp) (a:Nat->Bool),comp.length-i<k->i<=comp.length->H.get tb=TB nx {s with on:=a} sv ov->Fm (fun b=>b=tb) H1 H->(∀x,aDe a (comp.drop i) x=if x∈comp then false else s.on x) -> Ok (qus O q (.ptr tb 0) w (.int .i64 (.ofNat comp.length)) k (.int .i64 (.ofNat i)) H) Q
 |0,i,H,a,h,_,_,_,_=>by omega
 |k+1,i,H,a,h,hi,hg,hF,ho=>by
  show Ok (q33 O _ _ _ _ (qus O _ _ _ _ k) _ H) Q;unfold q33;by_cases c:i<comp.length
  ·obtain⟨b,o,m,t,n⟩:=j.at' i (by rw[lV];exact c);rw[qid]at n;have u:comp[i]<256:=g _ (lg _);have r:H.get b=H1.get b:=hF.get b t (d i b o c m);simp only[go_sem,qg,pq,c];unfold zfc;simp(disch:=omega)only[go_sem,seval,qg,pq,m,r,n,hg];unfold zfd;simp(disch:=go_size)only[go_sem,rB,rI,rK,rL,rN,rS,r6,qg,pq];refine zad g p j d f l k (i+1) _ (upd a comp[i] false) (by omega) (by omega) (dL _ _ _) (hF.put _ _ fun _=>rfl) fun x=>?_;rw[<-ho x,uo c];rfl
  ·simp only[go_sem,qg,pq,c];have:i=comp.length:=by omega
   subst this;rw[lEE]at ho;exact l H a (fun x=>ho x) hg hF
theorem Gl.zG{v:AV}(h:Gl 1 H v n l){i b o:Nat}(a:i<n)(e:aG 1 v (.int .i64 (.ofNat i))=.val (.ptr b o)):In v b:=by
 rcases h.is with⟨rfl,c⟩|⟨d,f,g,q,L,rfl,_⟩
 ·omega
 ·rw[uT _ _ _ _ _ _ _ _ a]at e;cases e;exact⟨_,_,_,_,rfl⟩
theorem Gl.aEy{z w n:Nat}{v:AV}{l x:List AV}(h:Gl z H v n l)(i:x.length=z)(c:(n+1)*w<=1099511627776)(a:n+1<=1099511627776):Ok (lI z w H v (some ⟨1,x⟩)) fun b H'=>b=.sl H.nx 0 (n+1) (n+1) false/\Gl z H' b (n+1) (l++x)/\Fm (In v) H H'/\H'.nx=H.nx+1:=by obtain⟨H',d,e,j,f,g⟩:=h.append (w:=w) (k:=1) (x:=x) (by omega) (by omega) c a;exact⟨_,H',d,rfl,e,f,g⟩
theorem TMd.aNn{s:TS}{nx:Nat->AV}{sv ov:AV}(h:TMd H0 aR s col tb H nx sv ov cs)(f:Fm S H H')(F:∀ b,b<H.nx->S b->b=tb\/col b=4){d:Nat->Nat}(t:∀ b,b<H.nx->d b=col b){s':TS}{y j c:AV}(J:H'.get tb=TB nx s' y j)(p:Gs 1 H' y s'.stk.length (aI s'.stk))(u:∀ b,In y b->In sv b)(G:s'.out=s.out++[o])(z:Gl 1 H' j (cs++[c]).length (cs++[c]))(A:∀ b,In j b->d b=4)(B:∃ b q n m e,c=.sl b q n m e)(C:Gl 1 H' c o.length (aI o))(D:∀ b,In c b->d b=5):TMd H0 aR s' d tb H' nx y j (cs++[c]):=by
 have N:∀ b,b<H0.nx->¬ S b:=fun b a p=>by
  have r:b<H.nx:=lq a h.fm.nx;rcases F b r p with e|e
  ·have:=h.ge;omega
  ·rw[h.base b a]at e;cases e
 have I:∀{c:Nat},c≠0->c≠4->∀ b,b<H.nx->col b=c->H'.get b=H.get b:=fun{c} E O b a w=>f.get b a fun p=>by
  rcases F b a p with e|e
  ·rw[e,h.ct]at w;exact E w.symm
  ·omega
 have g:=h.css.keep f.nx (I (c:=5) (by omega) (by omega)) t;exact{
  fm:=h.fm.then f fun b a p=>absurd p (N b a)
  base:=fun b a=>(t b (lq a h.fm.nx)).trans (h.base b a)
  ge:=h.ge
  lt:=lq h.lt f.nx
  ct:=(t tb h.lt).trans h.ct
  get:=J
  z8:=fun v K=>by obtain⟨k,l⟩:=h.z8 v K;exact⟨k.keep f.nx fun b a r=>I (c:=10+v) (by omega) (by omega) b r (l b a),fun b a=>(t b (k.lt a)).trans (l b a)⟩
  stk:=p
  xH:=fun b a=>(t b (h.stk.lt (u b a))).trans (h.xH b (u b a))
  out:=z
  ouc:=A
  css:=⟨by rw[G,ku,ku,g.len];rfl,fun i L M k l=>by
   rw[G]at l;rcases xe i cs.length with x|x
   ·rw[qx x]at k;rw[qx (by rw[<-g.len];exact x)]at l;exact g.at' i L M k l
   ·rw[ug x]at k;rw[ug (by rw[<-g.len];exact x),<-g.len]at l;have E:i-cs.length=0:=by
     have:=(ql.1 k).1;simp_all
    rw[E]at k l;cases k;cases l;exact⟨B,C,D⟩⟩}
theorem zmf(L:aV C)(hO:pI C)(hS:nV C)(hR:oZ LA LO C)(hk:300<=k){s:TS}(m:TM H0 aR s col tb H){v:Nat}(hv:v<256)(hl:¬ s.low v<s.num v){pre f:List Nat}(M:s.stk=pre++v::f)(hp:v∉pre)(hst:s.stk.length<=256)(Q:∀ x∈s.stk,x<256)(E:s.out.length<=256):Ok (C k (.f 144) [.ptr tb 0,.int .i64 (.ofNat v)] H) fun r H'=>r=.aX []/\∃(comp:List Nat) (q:Nat->Bool) (t:Nat->Nat),comp.Perm (v::f)/\comp.Pairwise (· <= ·)/\(∀x,q x=if x∈comp then false else s.on x) /\ (∀b,b<H.nx->t b=col b)/\TM H0 aR {s with stk:=pre,on:=q,out:=s.out++[comp]} t tb H'/\Fm (fun b=>b=tb\/col b=4) H H':=by
 obtain⟨j,rfl⟩:∃ j,k=j+2:=⟨k-2,by omega⟩;rw[(L (j+1)).zDe];unfold zDe zp0;obtain⟨nx,sv,ov,cs,m⟩:=m;have N:=m.get;have U:=m.stk;have hlen:s.stk.length=pre.length+1+f.length:=by rw[M];simp;omega
 simp(disch:=omega)only[go_sem,seval,qg,pq,N,hl];unfold zfb;simp(disch:=first|go_size|omega)only[go_sem,rB,rI,rK,rL,rN,rS,r6,qg,pq,N];refine Ok.ve (zvi L (k:=j+1) (by omega) U.rl (by omega) M hp) ?_;rintro r H1 ⟨rfl,rfl⟩;obtain⟨w,e1,⟨wb,wo,wn,wm,we,rfl⟩,e2⟩:=U.from (a:=pre.length) (by omega);have ed:(aI s.stk).drop pre.length=aI (v::f):=by unfold aI;simp_all
 rw[ed]at e2;simp only[go_sem,qg,pq,N,e1]
 -- the component, sorted
 rw[(L j).zDk];unfold zDk zy5;simp only[go_sem,qg,pq];generalize D:aN H1 (aB 0 [.sl wb wo wn wm we])=H2;have n2:H2.nx=H1.nx+1:=by rw[<-D];rfl
 have f2:Fm No H1 H2:=by rw[<-D];exact(Fm.refl _ _).push _
 have V:H2.get H1.nx=aB 0 [.sl wb wo wn wm we]:=by rw[<-D,jA]
 refine Ok.ve (zon L hO hS hR (k:=j+1) (l:=v::f) (by simp;omega) (by simp) (by simp;omega) (e2.fm f2) V (by omega)) ?_;rintro a9 Y ⟨comp,P,c2,B,c4,f3⟩;have u:Fm No H1 Y:=f2.trans f3;have hcl:comp.length=f.length+1:=by rw[P.length_eq];rfl
 have W:(v::f).length=comp.length:=by rw[P.length_eq]
 rw[W]at B;have G:∀ b,In a9 b->H1.nx<=b:=fun b d=>by have:=c4 b d;omega
 have e3:=B.bS;simp only[go_sem,qg,pq,e3];unfold zfe;rw[bW];have I:=m.lt;refine zad (s:=s) (sv:=sv) (ov:=ov) (nx:=nx) (comp:=comp) (fun x hx=>Q x (by rw[M];exact xf _ (P.mem_iff.1 hx))) (by omega) B.rl (fun i b o R e d=>?_) (lq I u.nx) (fun H4 q ho F T=>?_) bL 0 Y s.on (by rw[bZ];omega) (by omega) ((u.keep I).trans N) (Fm.refl _ _) fun x=>?_
 ·have:=G b (B.zG R e);omega
 ·-- the rest
  unfold q31;obtain⟨b5,o5,m5,e5,e6,Z,e8⟩:=U.upto (k:=pre.length) (by omega) (by omega);rw[qg]at Z;have e9:(aI s.stk).take pre.length=aI pre:=by unfold aI;rw[<-List.map_take,M,List.take_left]
  rw[e9]at Z;simp only[go_sem,qg,pq,F,e6];have c3f:vL a9=true:=B.flat;rcases B.is with⟨_,h0⟩|⟨K,o9,e9',q9,L9,rfl,_⟩
  ·omega
  simp(disch:=go_size)only[go_sem,seval,qg,pq,F];have J:∀ b,In sv b->b≠tb:=fun b d e=>by have:=m.xH b d;rw[e,m.ct]at this;cases this
  have y:∀ b,In ov b->b≠tb:=fun b d e=>by have:=m.ouc b d;rw[e,m.ct]at this;cases this
  have A:Fm (fun b=>b=tb) H1 H4:=(u.mono fun _ _ h=>h.elim).trans (T.mono fun _ _ h=>h);have hn4:=A.nx;have nn4:=T.nx;have aLG:cs.length<=256:=by rw[m.css.len];exact E
  refine Ok.ve (Gl.aEy (z:=1) (n:=cs.length) (l:=cs) (m.out.keep ?_ fun b d p=>?_) ?_ ?_ ?_) ?_
  ·simp only[np,nq];omega
  ·rw[qcr _ _ _ (by simp only[nq];omega),eB _ _ _ _ (y b d)];exact A.get b p (y b d)
  ·rfl
  ·omega
  ·omega
  rintro r H5 ⟨rfl,h1,h2,h3⟩;simp only[np,nq]at h1 h3;have gt:H5.get tb=TB nx {s with on:=q} (.sl b5 o5 pre.length m5 e5) ov:=by rw[h2.get tb (by simp only[np,nq];omega) fun d=>y tb d rfl,qcr _ _ _ (by simp only[nq];omega),dL]
  simp only[go_sem,qg,pq,gt];have c9':H1.nx<=K:=G K ⟨_,_,_,_,rfl⟩;have f5:Fm (fun b=>b=tb\/col b=4) H1 H5:=by refine Fm.then (S:=fun b=>b=tb\/col b=4) (Fm.push (Fm.put (A.mono fun _ _ h=>Or.inl h) tb _ fun _=>Or.inl rfl) _) h2 fun c hc R=>Or.inr (m.ouc c R)
  have O:=f5.put tb (TB nx {s with on:=q} (.sl b5 o5 pre.length m5 e5) (.sl (H4.nx+1) 0 (cs.length+1) (cs.length+1) false)) fun _=>Or.inl rfl;refine Ok.ret ⟨rfl,comp,q,fun b=>if b<H1.nx then col b else if b=K then 5 else 4,P,c2,ho,fun b d=>kz d,⟨nx,_,_,_,m.aNn (c:=.sl K o9 comp.length comp.length e9') (o:=comp) O (fun b _ h=>h) (fun b d=>kz d) (dL _ _ _) ?_ e8 rfl ?_ ?_ ⟨_,_,_,_,_,rfl⟩ ?_ ?_⟩,O⟩
  ·refine Z.keep O.nx fun b d p=>O.get b p fun h=>?_;rcases h with h|h
   ·exact J b (e8 b d) h
   ·have:=m.xH b (e8 b d);rw[h]at this;cases this
  ·rw[ku];refine h1.keep (lh _) fun b d _=>eB _ _ _ _ fun e=>?_;obtain⟨_,_,_,_,g⟩:=d;cases g;omega
  ·rintro b ⟨_,_,_,_,g⟩;cases g;rw[lu (by omega),lu (by omega)]
  ·refine B.keep (by show Y.nx<=H5.nx;omega) fun b d p=>?_;have X:b=K:=by obtain⟨_,_,_,_,g⟩:=d;cases g;rfl
   subst X;rw[eB _ _ _ _ (by omega),h2.get b (by simp only[np,nq];omega) fun d=>by have:=m.out.lt d;omega,qcr _ _ _ (by simp only[nq];omega),eB _ _ _ _ (by omega)];exact T.get b (by omega) (by show b≠tb;omega)
  ·rintro b ⟨_,_,_,_,g⟩;cases g;rw[lu (by omega),kz rfl]
 ·rw[zlr];rfl
def vW(fr:List (Nat×Nat)):List AV:=(fr.map fun p=>[AV.int .i64 (.ofNat p.1),AV.int .i64 (.ofNat p.2)]).flatten
theorem qg3(b:List (Nat×Nat)):(vW b).length=b.length*2:=by
 induction b with
 |nil=>rfl
 |cons a l ih=>simp[vW]at ih ⊢;omega
theorem qd4(l:List (Nat×Nat))(p:Nat×Nat):vW (l++[p])=vW l++[.int .i64 (.ofNat p.1),.int .i64 (.ofNat p.2)]:=by simp[vW]
theorem za2(a b:Nat):pK nN (.int .i64 (.ofNat a)) [.int .i64 (.ofNat b)]=.val (.int .i64 (.ofNat (min a b))):=by rw[q64];congr 2;simp only[qi];omega
theorem Gs.aCf{v:AV}{l:List (Nat×Nat)}{u i:Nat}(h:Gs 2 H v (l.length+1) (vW (l++[(u,i)]))):∃b o,aG 2 v (.int .i64 (.ofNat l.length))=.val (.ptr b o)/\In v b/\b<H.nx/\bK (H.get b) o=.val (.int .i64 (.ofNat u))/\bK (H.get b) (o+1)=.val (.int .i64 (.ofNat i)) /\ ∀a:Nat,∃B,uK (H.get b) (o+1) [.int .i64 (.ofNat a)]=some B/\∀ H':Hp,H.nx<=H'.nx->H'.get b=B->Gs 2 H' v (l.length+1) (vW (l++[(u,a)])):=by
 have c:=qg3 l;rcases h.is with⟨_,f⟩|⟨b,o,m,e,q,L,rfl,f,g,F,n,D,p⟩
 ·omega
 ·have w:(l.length+1)*2<=m*2:=um _ f;have g0:∀ j x,(vW (l++[(u,i)]))[j]? =some x->j<(l.length+1)*2->L[o+j]? =some x:=fun j x k r=>by
   rw[<-n,lAE,kz r,ae]at k;exact k
  have y:=g0 (l.length*2) (.int .i64 (.ofNat u)) (by rw[qd4,ug (by omega),c,lEM];rfl) (by omega);have z:=g0 (l.length*2+1) (.int .i64 (.ofNat i)) (by rw[qd4,ug (by omega),c,show l.length*2+1-l.length*2=1 by omega];rfl) (by omega);refine⟨b,o+l.length*2,uT _ _ _ _ _ _ _ _ (by omega),⟨_,_,_,_,rfl⟩,p,by rw[g,qbx,y],by rw[g,qbx,show o+l.length*2+1=o+(l.length*2+1)by omega,z],fun a=>?_⟩;refine⟨_,by rw[g,qgm,kz (by show o+l.length*2+1+1<=L.length;omega)],fun H' s t=>⟨by rw[qg3,ku];rfl,.inr ⟨b,o,m,e,q,_,rfl,f,t,?_,?_,D,lq p s⟩⟩⟩
  ·unfold aY;simp only[ku,ry,xx,gz,uk];omega
  ·have A:(l.length+1)*2=l.length*2+1+1:=by omega
   unfold aY;have C:(L.take (o+l.length*2+1)).length=o+l.length*2+1:=by rw[ry];omega
   rw[rf,xm (by omega),List.drop_take,show o+l.length*2+1-o=l.length*2+1 by omega,qd4];have d:((L.drop o).take (l.length*2+1)).length=l.length*2+1:=by rw[ry,xx];omega
   rw[A,lED,uh (by omega),d,show l.length*2+1+1-(l.length*2+1)=1 by omega];have E:(L.drop o).take (l.length*2+1)=vW l++[.int .i64 (.ofNat u)]:=by
    have:((L.drop o).take ((l.length+1)*2)).take (l.length*2+1)=(vW (l++[(u,i)])).take (l.length*2+1):=by rw[n]
    rw[List.take_take,yz (by omega)]at this;rw[this,qd4,lED,uh (by omega),c,show l.length*2+1-l.length*2=1 by omega];rfl
   simp_all
structure WS(H0:Hp)(N:Nat)(aR:Nat->List Nat)(s:TS)(fr:List (Nat×Nat))(col:Nat->Nat)(tb:Nat)(v:AV)(H:Hp):Prop where
 tm:TM H0 aR s col tb H
 ti:TI N aR s fr
 fr:Gs 2 H v fr.length (vW fr)
 fc:∀ b,In v b->col b=3
def Le(s s':TS):Prop:=(∀x,0<s.num x->0<s'.num x)/\s.cnt<=s'.cnt
theorem Le.refl(s:TS):Le s s:=⟨fun _ h=>h,lh _⟩
theorem Le.trans{a b c:TS}(h:Le a b)(k:Le b c):Le a c:=⟨fun x d=>k.1 x (h.1 x d),rq h.2 k.2⟩
theorem Le.look(s:TS)(v k:Nat):Le s (s.look v k):=by unfold TS.look;split<;>exact⟨fun _ h=>h,lh _⟩
theorem Le.enter(s:TS)(b:s.num k=0):Le s (s.enter k):=⟨fun x a=>by
 show 0<upd s.num k (s.cnt+1) x;by_cases e:x=k
 ·simp_all
 ·rw[upd_ne _ _ e];exact a,lE1 _⟩
structure q7t(N:Nat)(aR:Nat->List Nat):Prop where
 le:N<=256
 lt:∀ u,∀k∈aR u,k<N
 len:∀ u,(aR u).length<200000
theorem ztq(s:TS)(v k:Nat):(s.look v k).cnt=s.cnt:=by unfold TS.look;split<;>rfl
theorem z04(Y:aV C){j:Nat}(Z:1<=j){H0:Hp}{N:Nat}{aR:Nat->List Nat}(G:q7t N aR){tb:Nat}{l:List (Nat×Nat)}{u f fo:Nat}{v:AV}{s0:TS}{q1 q2:pB}{Q:pH}(hp:aG 2 v (.int .i64 (.ofNat l.length))=.val (.ptr f fo))(A:∀ v' H' s' I a,WS H0 N aR s' I a tb v' H'->Le s0 s'->2*(N-s'.cnt)+I.length<2*(N-s0.cnt)+(l.length+1)->Ok (q1 v' H') Q)(D:∀ H' s' a,WS H0 N aR s' (l++[(u,(aR u).length)]) a tb v H'->Le s0 s'->s'.cnt=s0.cnt->Ok (q2 v H') Q):∀(k i:Nat) (s:TS) (col:Nat->Nat) (H:Hp),(aR u).length-i<k->WS H0 N aR s (l++[(u,i)]) col tb v H->Le s0 s->s.cnt=s0.cnt -> Ok (quy (C j) q1 q2 (.ptr tb 0) (.ptr f fo) k v H) Q
 |0,i,s,col,H,h,_,_,_=>by omega
 |k+1,i,s,col,H,h,hW,hle,hcnt=>by
  show Ok (q4c (C j) _ _ _ _ (quy (C j) _ _ _ _ k) _ H) Q;unfold q4c;have w:=hW.ti;have J:(l++[(u,i)]).length=l.length+1:=by simp
  have hF:=hW.fr;rw[J]at hF;obtain⟨b,o,e1,e2,e3,e4,e5,e6⟩:=hF.aCf;rw[hp]at e1;cases e1;obtain⟨nx,sv,ov,cs,m⟩:=hW.tm;have U:=m.get;have sW:u∈s.stk:=w.lQ (by rw[pV];simp);have huN:u<N:=w.l6 u sW;have hN:=G.le;have hu:u<256:=by omega
  obtain⟨n1,n2⟩:=m.z8 u hu;have n3:=n1.bS;have hil:i<=(aR u).length:=(w.frE (u,i) (xf _ (gq.2 rfl))).1;have hne:f≠tb:=fun e=>by have:=hW.fc f e2;rw[e,m.ct]at this;cases this
  by_cases V:i<(aR u).length
  ·simp(disch:=omega)only[go_sem,qg,pq,e4,e5,U,n3,V,yw];unfold q77;obtain⟨b2,o2,m1,m2,m3⟩:=n1.rl.at' i (by rw[lV];exact V);rw[qid]at m3;obtain⟨B,w1,w2⟩:=e6 (i+1);have hk:(aR u)[i]? =some (aR u)[i]:=by simp[V]
   generalize hkk:(aR u)[i]=x at *;have hxN:x<N:=G.lt u x (uB hk);have hx:x<256:=by omega
   have hi2:i<900000:=by have:=G.len u;omega
   simp(disch:=go_size)only[go_sem,rB,rI,rK,rL,rN,rS,r6,qg,pq,e4,e5,U,m1,m3,w1,yw];have E:(H.put f B).get tb=TB nx s sv ov:=by rw[eB _ _ _ _ (Ne.symm hne)];exact U
   have fB:Fm (fun c=>c=tb\/col c=3) H (H.put f B):=(Fm.refl _ _).put _ _ fun _=>Or.inr (hW.fc f e2);have gF:Gs 2 (H.put f B) v (l.length+1) (vW (l++[(u,i+1)])):=w2 _ (lh _) (dL _ _ _);have bDR:Gs 1 (H.put f B) sv s.stk.length (aI s.stk):=m.stk.keep (lh _) fun c d _=>eB _ _ _ _ fun e=>by have p:=m.xH c d;rw[e,hW.fc f e2]at p;cases p
   have q:TMd H0 aR s col tb (H.put f B) nx sv ov cs:=m.step fB (fun c _ h=>h.imp id Or.inr) (fun _ _=>rfl) E bDR m.xH rfl;by_cases W:s.num x=0
   ·simp only[go_sem,qg,pq,W];have tE:TI N aR (s.enter x) ((l++[(u,i+1)])++[(x,0)]):=w.enter W hxN (Or.inr ⟨l,u,i,rfl,hk,rfl⟩);have K:=tE.oL;have K:s.cnt+1<=N:=K;have hsl:s.stk.length<=N:=by have p:=w.kV;have h2:=w.oL;omega
    refine Ok.ve (zbb Y Z ⟨nx,sv,ov,cs,q⟩ hx (by omega) (by omega)) ?_;rintro r H2 ⟨rfl,a,c1,⟨R,F,T,cs2,y⟩,f2⟩;have hv2:∀ c,In v c->c<H.nx:=fun c d=>hF.lt d;have L:Gs 2 H2 v (l.length+1) (vW (l++[(u,i+1)])):=gF.fm f2 fun c d=>by
     rintro (e|e)
     ·have:=hW.fc c d;rw[e,m.ct]at this;cases this
     ·have:=hW.fc c d;rw[e]at this;cases this
    have M:∀ c,In v c->a c=3:=fun c d=>(c1 c (hv2 c d)).trans (hW.fc c d);have fl:l.length<=N:=by have p:=w.aAe;rw[J]at p;omega
    simp(disch:=first|go_size|omega)only[go_sem,rB,rI,rK,rL,rN,rS,r6];refine Ok.ve (Gs.append (z:=2) (n:=l.length+1) (l:=vW (l++[(u,i+1)])) (L.fm ((Fm.refl No _).push _) fun _ _ h=>h) rfl (by omega) (by omega)) ?_;rintro r H3 ⟨⟨b',o',m',e',rfl⟩,a1,a2,a3⟩;have t:Fm (fun c=>a c=3) H2 H3:=Fm.then (S:=fun c=>a c=3) ((Fm.refl _ _).push _) a2 fun c _ d=>M c d;have n23:=t.nx;simp only[np]at a3;have ht2:H3.get tb=TB R (s.enter x) F T:=(t.get tb y.lt fun e=>by rw[y.ct]at e;cases e).trans y.get;have hs3:Gs 1 H3 F (s.enter x).stk.length (aI (s.enter x).stk):=y.stk.keep n23 fun c d hlt=>t.get c hlt fun e=>by have:=y.xH c d;rw[e]at this;cases this
    refine A _ _ (s.enter x) ((l++[(u,i+1)])++[(x,0)]) (qs9 a H2 3) ⟨⟨R,F,T,cs2,y.step t (fun c _ h=>Or.inr (Or.inr h)) (fun c d=>qb2 d) ht2 hs3 (fun c d=>by rw[qb2 (y.stk.lt d)];exact y.xH c d) rfl⟩,tE,?_,?_⟩ (hle.trans (Le.enter s W)) ?_
    ·rw[qd4];simpa using a1
    ·intro c d;rcases a3 c d with g|g
     ·rw[qb2 (L.lt g)];exact M c g
     ·exact qgy (by omega)
    ·show 2*(N-(s.cnt+1))+((l++[(u,i+1)])++[(x,0)]).length<_;simp only[ku,gz,uk];omega
   ·simp(disch:=go_size)only[go_sem,rB,rI,rK,rL,rN,rS,r6,qg,pq,W];have O:0<s.num x:=by omega
    have tL:=w.look hk O;unfold zfv;have hfr:∀ i',(l++[(u,i')]).length=l.length+1:=fun i'=>by simp
    cases X:s.on x with
    |false=>
     have P:s.look u x=s:=by unfold TS.look;rw[X];rfl
     rw[P]at tL;simp(disch:=omega)only[go_sem,qg,pq,E,X];refine z04 Y Z G hp A D k (i+1) s col _ (by omega) ⟨⟨nx,sv,ov,cs,q⟩,tL,?_,hW.fc⟩ hle hcnt;simp_all
    |true=>
     have P:s.look u x={s with low:=upd s.low u (min (s.low u) (s.num x))}:=by unfold TS.look;rw[X];rfl
     have r0:bK ((H.put f B).get f) fo=.val (.int .i64 (.ofNat u)):=by obtain⟨b3,o3,e7,e8,e9,e10,_⟩:=gF.aCf;simp_all
     rw[dL]at r0;simp(disch:=omega)only[go_sem,qg,pq,E,X,r0,za2,yw];rw[<-P];have fT:Fm (fun c=>c=tb\/col c=3) (H.put f B) ((H.put f B).put tb (TB nx (s.look u x) sv ov)):=(Fm.refl _ _).put _ _ fun _=>Or.inl rfl;refine z04 Y Z G hp A D k (i+1) (s.look u x) col _ (by omega) ⟨⟨nx,sv,ov,cs,q.step fT (fun c _ h=>h.imp id Or.inr) (fun _ _=>rfl) (dL _ _ _) ?_ m.xH (by rw[P])⟩,tL,?_,hW.fc⟩ (hle.trans (Le.look s u x)) ((ztq s u x).trans hcnt)
     ·have:(s.look u x).stk=s.stk:=by rw[P]
      rw[this];exact q.stk.keep (lh _) fun c d _=>eB _ _ _ _ fun e=>by have p:=m.xH c d;rw[e,m.ct]at p;cases p
     ·rw[hfr];exact gF.keep (lh _) fun c d _=>eB _ _ _ _ fun e=>by have p:=hW.fc c d;rw[e,m.ct]at p;cases p
  ·simp(disch:=omega)only[go_sem,qg,pq,e4,e5,U,n3,V,yw];have:i=(aR u).length:=by omega
   subst this;exact D H s col hW hle hcnt
theorem zsc{α:Type}(f:Nat->α)(i:Nat):upd f i (f i)=f:=funext fun j=>by
 by_cases e:j=i
 ·rw[e,upd_same]
 ·rw[upd_ne _ _ e]
theorem ztf{a b:List Nat}(d:a.Perm b)(e:b.Nodup)(h:a.Pairwise (· <= ·)):a.Pairwise (· < ·):=by have c:a.Pairwise (· ≠ ·):=d.nodup_iff.2 e;exact(h.and c).imp fun⟨f,g⟩=>Nat.lt_of_le_of_ne f g
def aMz(H0:Hp)(N:Nat)(aR:Nat->List Nat)(s:TS)(l:List (Nat×Nat))(u tb:Nat)(v:AV)(H1:Hp):Prop:=
 ∃(s1:TS) (uQ:Nat->Nat),TM H0 aR s1 uQ tb H1/\Gs 2 H1 v (l.length+1) (vW (l++[(u,(aR u).length)]))/\(∀c,In v c->uQ c=3)/\(l=[]->TI N aR s1 []) /\
  (∀l' up jj,l=l'++[(up,jj)]->up<256/\TI N aR {s1 with low:=upd s1.low up (min (s1.low up) (s1.low u))} l)/\Le s s1/\s1.cnt=s.cnt
theorem z2n(J:aV C)(O:pI C)(P:nV C)(Q:oZ LA LO C)(R:300<=j)(S:q7t N aR){l:List (Nat×Nat)}{u:Nat}{v:AV}{s:TS}(b:WS H0 N aR s (l++[(u,(aR u).length)]) col tb v H):Ok (C j (.f 144) [.ptr tb 0,.int .i64 (.ofNat u)] H) fun r H1=>r=.aX []/\aMz H0 N aR s l u tb v H1:=by
 have a:=b.ti;have B:(l++[(u,(aR u).length)]).length=l.length+1:=by simp
 have z:=b.fr;rw[B]at z;have D:u∈s.stk:=a.lQ (by rw[pV];simp);have T:=S.le;have m:∀ x∈s.stk,x<256:=fun x A=>lq (a.l6 x A) T;have n:∀{w up y},l=w++[(up,y)]->up∈gK l:=fun{w up y} e=>by rw[e,pV];simp
 have f:∀{x},x∈gK l->x∈s.stk:=fun{x} A=>a.lQ (by rw[pV];exact vz _ A);by_cases t:s.low u<s.num u
 ·refine⟨_,_,ztv J (by omega) b.tm (m u D) t,rfl,s,col,b.tm,z,b.fc,fun e=>?_,fun w up y e=>?_,Le.refl _,rfl⟩
  ·subst e;exact absurd t a.root
  ·subst e;exact⟨m _ (f (n rfl)),a.pop t⟩
 ·obtain⟨pre,L,G⟩:=List.append_of_mem D;have g:=a.nd;rw[G]at g;have p:u∉pre:=fun h=>(yh.1 g).2.2 u h u qy rfl;have i:=(yh.1 g).2.1;have U:=a.oL;have V:=a.kV;have E:s.stk.length<=256:=by omega
  have F:s.out.length<=256:=by
   have W:s.out.length<=s.out.flatten.length:=by
    have:∀(o:List (List Nat)),(∀c∈o,c≠[])->o.length<=o.flatten.length:=fun o=>by
     induction o with
     |nil=>intro _;exact lh _
     |cons c o ih=>intro h;have W:=ih fun c d=>h c (uu _ d);have h2:0<c.length:=lA5.2 (h c qy);rw[bz,ku,gz];omega
    refine this _ fun c d e=>?_;obtain⟨_,r,hr,_⟩:=a.oN c d;simp_all
   omega
  refine(zmf J O P Q R b.tm (m u D) t G p E m F).mono ?_;rintro r H1 ⟨rfl,comp,I,q,M,c2,c3,c4,t1,f1⟩;have K:=a.leave t G M (ztf M i c2) I c3;refine⟨rfl,_,q,t1,?_,?_,?_,?_,⟨fun _ h=>h,lh _⟩,rfl⟩
  ·obtain⟨_,_,_,_,hM⟩:=b.tm;exact z.fm f1 fun c d=>by
    rintro (e|e)
    ·have:=b.fc c d;rw[e,hM.ct]at this;cases this
    ·have:=b.fc c d;rw[e]at this;cases this
  ·exact fun c d=>(c4 c (z.lt d)).trans (b.fc c d)
  ·rintro rfl;exact K
  ·intro w up y e;have k:=n e;refine⟨m _ (f k),?_⟩;have X:=a.top k;have Y:=a.jT up (f k);have Z:min (s.low up) (s.low u)=s.low up:=yz (by omega);rw[Z,zsc];exact K
theorem zsa(hC:aV C)(hO:pI C)(hS:nV C)(hR:oZ LA LO C)(hj:300<=j)(G:q7t N aR){l:List (Nat×Nat)}{u U V:Nat}{v:AV}{s:TS}{W:pB}{Q:pH}(hp:aG 2 v (.int .i64 (.ofNat l.length))=.val (.ptr U V))(n:WS H0 N aR s (l++[(u,(aR u).length)]) col tb v H)(X:∀ Y H' s' w,WS H0 N aR s' l w tb Y H'->Le s s'->s'.cnt=s.cnt->Ok (W Y H') Q):Ok (quz (C j) W (.ptr tb 0) v (.ptr U V) H) Q:=by
 unfold quz;have I:(l++[(u,(aR u).length)]).length=l.length+1:=by simp
 have Z:=n.fr;rw[I]at Z;obtain⟨b,o,e1,e2,e3,e4,e5,_⟩:=Z.aCf;rw[hp]at e1;cases e1;have hlen:l.length<=256:=by have f:=n.ti.aAe;have h2:=n.ti.kV;have h3:=n.ti.oL;have h4:=G.le;omega
 have bPh:u<256:=by have:=n.ti.l6 u (n.ti.lQ (by rw[pV];simp));have:=G.le;omega
 simp only[go_sem,qg,pq,e4,yw];refine Ok.ve (z2n hC hO hS hR hj G n) ?_;rintro r H1 ⟨rfl,a,E,⟨nx,sv,ov,cs,g⟩,z,M,h0,f,q,m⟩;have g1:=g.get;have B:=z.bS;obtain⟨O,P,R,S,D,F,e9⟩:=z.upto (k:=l.length) (by omega) (by omega);have J:(vW (l++[(u,(aR u).length)])).take (l.length*2)=vW l:=by rw[qd4,List.take_append_of_le_length (by rw[qg3];exact lh _),uh (by rw[qg3];exact lh _)]
 rw[J]at F;have p:∀ c,In (.sl O P l.length R S) c->E c=3:=fun c t=>M c (e9 c t);rcases List.eq_nil_or_concat l with rfl|⟨A,⟨up,jj⟩,d⟩
 ·have D:kL 2 v none (some (.int .i64 (.ofNat 0))) none=.val (.sl O P 0 R S):=D;have B:aF v=.val (.int .i64 (.ofNat 1)):=B;simp(disch:=first|go_size|omega)only[go_sem,rB,rI,rK,rL,rN,rS,r6,qg,pq,B,D];exact X _ H1 a E ⟨⟨nx,sv,ov,cs,g⟩,h0 rfl,F,p⟩ q m
 ·rw[List.concat_eq_append]at d;obtain⟨bRk,T⟩:=f A up jj d;have hll:l.length=A.length+1:=by rw[d];simp
  have x:=F;rw[d,ku]at x;obtain⟨b6,o6,k1,k2,k3,k4,k5,_⟩:=Gs.aCf (l:=A) (u:=up) (i:=jj) x;have y:0<l.length:=by omega
  have K:l.length-1=A.length:=by omega
  have L:aG 2 (.sl O P l.length R S) (.int .i64 (.ofNat A.length))=.val (.ptr b6 o6):=by simp_all
  simp(disch:=go_size)only[go_sem,rB,rI,rK,rL,rN,rS,r6,qg,pq,B,D,y,K,L,k4,g1,za2,yw,iq];have fT:Fm (fun c=>c=tb\/E c=3) H1 (H1.put tb (TB nx {a with low:=upd a.low up (min (a.low up) (a.low u))} sv ov)):=(Fm.refl _ _).put _ _ fun _=>Or.inl rfl;refine X _ _ {a with low:=upd a.low up (min (a.low up) (a.low u))} E ⟨⟨nx,sv,ov,cs,g.step fT (fun c _ h=>h.imp id Or.inr) (fun _ _=>rfl) (dL _ _ _) ?_ g.xH rfl⟩,T,?_,p⟩ ⟨q.1,q.2⟩ m
  ·exact g.stk.keep (lh _) fun c t _=>eB _ _ _ _ fun e=>by have f:=g.xH c t;rw[e,g.ct]at f;cases f
  ·exact F.keep (lh _) fun c t _=>eB _ _ _ _ fun e=>by have f:=p c t;rw[e,g.ct]at f;cases f
theorem qwl(p:aV C)(r:pI C)(t:nV C)(w:oZ LA LO C){j:Nat}(x:300<=j){H0:Hp}{N:Nat}{aR:Nat->List Nat}(e:q7t N aR){tb:Nat}{s0:TS}{q:pD}{Q:pH}(y:∀ H' s' a,TM H0 aR s' a tb H'->TI N aR s' []->Le s0 s'->Ok (q H') Q):∀(k:Nat) (v:AV) (H:Hp) (s:TS) (f:List (Nat×Nat)) (col:Nat->Nat),2*(N-s.cnt)+f.length<k->WS H0 N aR s f col tb v H->Le s0 s -> Ok (qr0 (C j) q (.ptr tb 0) k v H) Q
 |0,v,H,s,f,col,h,_,_=>by omega
 |k+1,v,H,s,f,col,h,hW,hle=>by
  show Ok (zfw (C j) _ _ (qr0 (C j) _ _ k) _ H) Q;unfold zfw;have m:=hW.fr.bS;rcases List.eq_nil_or_concat f with rfl|⟨l,⟨u,i⟩,E⟩
  ·have m:aF v=.val (.int .i64 (.ofNat 0)):=m;simp only[go_sem,qg,pq,m];exact y H s col hW.tm hW.ti hle
  ·rw[List.concat_eq_append]at E;have n:f.length=l.length+1:=by rw[E];simp
   rw[n]at m h;have G:l.length<=256:=by have T:=hW.ti.aAe;have U:=hW.ti.kV;have V:=hW.ti.oL;have W:=e.le;omega
   have I:0<l.length+1:=by omega
   unfold q76;have D:=hW.fr;rw[n]at D;rw[E]at D hW;obtain⟨b,o,F,k2,X,Y,Z,_⟩:=D.aCf;simp(disch:=go_size)only[go_sem,rB,rI,rK,rL,rN,rS,r6,qg,pq,m,F,iq];unfold zfx;rw[bW];have R:=e.len u;refine z04 p (by omega) e F (fun J H' s' z a d c S=>?_) (fun H' s' a d c K=>?_) bL i s col H (by rw[bZ];omega) hW (Le.refl s) rfl
   ·exact qwl p r t w x e y k J H' s' z a (by omega) d (hle.trans c)
   ·refine zsa p r t w x e F d fun L M O A B g P=>?_;exact qwl p r t w x e y k L M O l A (by omega) B ((hle.trans c).trans g)
theorem zse(g:aV C)(o:pI C)(p:nV C)(q:oZ LA LO C)(t:301<=k)(m:q7t N aR){s:TS}(u:TM H0 aR s col tb H)(i:TI N aR s []){r:Nat}(w:r<N)(n:s.num r=0):Ok (C k (.f 115) [.ptr tb 0,.int .i64 (.ofNat r)] H) fun v H'=>v=.aX []/\∃ s' a,TM H0 aR s' a tb H'/\TI N aR s' []/\Le s s'/\0<s'.num r:=by
 obtain⟨j,rfl⟩:=aU t;rw[(g j).zCu];have F:=m.le;have A:=i.oL;have B:=i.kV;refine Ok.ve (zbb g (k:=j) (by omega) u (v:=r) (by omega) (by omega) (by omega)) ?_;rintro x H1 ⟨rfl,E,G,⟨nx,sv,ov,cs,b⟩,I⟩;unfold q75 zv5;rw[bW];have tE:TI N aR (s.enter r) ([]++[(r,0)]):=i.enter n w (Or.inl ⟨rfl,rfl⟩);have l:Fm No H1 (aN H1 (aB 0 [.int .i64 (.ofNat r),.int .i64 (.ofNat 0)])):=(Fm.refl _ _).push _;have D:WS H0 N aR (s.enter r) ([]++[(r,0)]) (qs9 E H1 3) tb (.sl H1.nx 0 1 1 true) (aN H1 (aB 0 [.int .i64 (.ofNat r),.int .i64 (.ofNat 0)])):=by refine⟨⟨nx,sv,ov,cs,b.step l (fun c _ h=>h.elim) (fun c f=>qb2 f) ((l.keep b.lt).trans b.get) (b.stk.fm l fun _ _ h=>h) (fun c f=>by rw[qb2 (b.stk.lt f)];exact b.xH c f) rfl⟩,tE,⟨rfl,.inr ⟨H1.nx,0,1,true,0,_,rfl,lh _,jA _ _,rfl,rfl,Or.inl rfl,dC _⟩⟩,?_⟩;rintro c ⟨_,_,_,_,e⟩;cases e;exact qgy (lh _)
 refine qwl g o p q (by omega) m (s0:=s.enter r) (fun H' s' a y z d=>?_) bL _ _ (s.enter r) ([]++[(r,0)]) _ ?_ D (Le.refl _)
 ·exact Ok.ret ⟨rfl,s',a,y,z,(Le.enter s n).trans d,d.1 r (by show 0<upd s.num r (s.cnt+1) r;rw[upd_same];omega)⟩
 ·rw[bZ];show 2*(N-(s.cnt+1))+1<1000000;omega
def iB(es:List Edge)(u:Nat):List Nat:=(es.filter fun e=>decide (e.f=u)).map Edge.t
theorem zdw(a:List Edge)(e:Edge)(u:Nat):iB (a++[e]) u=if e.f=u then iB a u++[e.t]else iB a u:=by
 unfold iB;by_cases h:e.f=u
 ·simp[h]
 ·simp[h]
theorem q1k(a:List Edge)(u:Nat):(iB a u).length<=a.length:=by unfold iB;rw[pz];exact bu _ _
theorem qcp{d:List Edge}{u k:Nat}:k∈iB d u↔∃ e∈d,e.f=u/\e.t=k:=by unfold iB;simp only[qj,xg,yc];exact⟨fun⟨e,⟨a,b⟩,c⟩=>⟨e,a,b,c⟩,fun⟨e,a,b,c⟩=>⟨e,⟨a,b⟩,c⟩⟩
def s00:TS:=⟨fun _=>0,fun _=>0,fun _=>false,[],0,[]⟩
theorem TB0:aB 0 (List.replicate 256 (.aA)++List.replicate 512 (.int .i64 (.ofNat 0))++List.replicate 256 (.bool false)++[.aA]++[.int .i64 (.ofNat 0)]++[.aA])=TB (fun _=>.aA) s00 .aA .aA:=by
 refine congrArg (aB 0) ?_
 kernel_rfl
theorem qpd{O:Ev.Call}{a:List Edge}(m:a.length<200000){v:AV}{tb:Nat}{H0:Hp}(D:iH H0 v a)(E:∀ e∈a,e.f<256/\e.t<256){Q:pH}{q:pD}(F:∀ H nx col,TMd H0 (iB a) s00 col tb H nx .aA .aA []->Ok (q H) Q):∀(k i:Nat) (H:Hp) (nx:Nat->AV) (col:Nat->Nat),a.length-i<k->i<=a.length->TMd H0 (iB (a.take i)) s00 col tb H nx .aA .aA [] -> Ok (qu3 O q (.ptr tb 0) v (.int .i64 (.ofNat a.length)) k (.int .i64 (.ofNat i)) H) Q
 |0,i,H,nx,col,h,_,_=>by omega
 |k+1,i,H,nx,col,h,hi,hM=>by
  show Ok (q4j O _ _ _ _ (qu3 O _ _ _ _ k) _ H) Q;unfold q4j;by_cases f:i<a.length
  ·simp only[go_sem,qg,pq,f];unfold zga;obtain⟨b,o,T,Y,U⟩:=(D.fm hM.fm).at f;obtain⟨V,Z⟩:=E a[i] (lg _);obtain⟨I,z⟩:=hM.z8 a[i].f V;have G:=hM.get;have j:=hM.lt;have L:=q1k (a.take i) a[i].f;have M:(a.take i).length<=a.length:=by rw[ry];omega
   simp(disch:=first|omega|exact ti rfl)only[go_sem,seval,qg,pq,T,U,Edge.cells,G,gz,uk];have r:Fm No H (Hp.put ⟨((aN H (aB 0 [.int .i64 (.ofNat 0),.int .i64 (.ofNat 0),.bool false])).put H.nx (aB 0 [.int .i64 (.ofNat a[i].f),.int .i64 (.ofNat a[i].t),.bool a[i].s])).t,H.nx+1+14⟩ (H.nx+1+9) (aB 0 [.int .i64 (.ofNat a[i].t)])):=by(repeat(first|exact Fm.refl _ _|assumption|refine Fm.push ?_ _|refine Fm.fC ?_ (by go_size)|refine Fm.aD ?_ _ _ (by go_size)))
   obtain⟨H',e,A,_,B,nx'⟩:=(I.no r).append (k:=1) (w:=8) (x:=[.int .i64 (.ofNat a[i].t)]) (by omega) rfl (by omega) (by omega);refine Ok.xW e ?_;have N:H'.nx=H.nx+1+14+1:=nx';have s:¬ In (nx a[i].f) tb:=fun p=>by have:=z tb p;rw[hM.ct]at this;omega
   have n:∀ c,In (nx a[i].f) c->c<H.nx:=fun c d=>I.lt d;have P:H'.get tb=TB nx s00 .aA .aA:=(B.get tb (by omega) s).trans ((r.keep j).trans G);have R:Fm (In (nx a[i].f)) H H':=(r.mono fun _ _ h=>h.elim).trans B;have k2:H'.get H.nx=aB 0 [.int .i64 (.ofNat a[i].f),.int .i64 (.ofNat a[i].t),.bool a[i].s]:=by rw[B.get H.nx (by omega) fun p=>xq _ (n _ p),eB _ _ _ _ (by omega),zms,dL]
   simp only[go_sem,seval,qg,pq,P,k2];unfold zgc;simp(disch:=go_size)only[go_sem,rB,rI,rK,rL,rN,rS,r6,qg,pq];have t:a.take (i+1)=a.take i++[a[i]]:=lw f;refine qpd m D E F k (i+1) _ (upd nx a[i].f (.sl (H.nx+1+14) 0 ((iB (a.take i) a[i].f).length+1) ((iB (a.take i) a[i].f).length+1) false)) (qs9 col H (10+a[i].f)) (by omega) (by omega) ?_;have y:Fm (fun c=>c=tb\/In (nx a[i].f) c) H (H'.put tb (TB (upd nx a[i].f (.sl (H.nx+1+14) 0 ((iB (a.take i) a[i].f).length+1) ((iB (a.take i) a[i].f).length+1) false)) s00 .aA .aA)):=(R.mono fun _ _ h=>Or.inr h).put _ _ fun _=>Or.inl rfl;exact{
    fm:=hM.fm.then y fun c d h=>by
     rcases h with h|h
     ·have:=hM.ge;omega
     ·have:=z c h;rw[hM.base c d]at this;omega
    base:=fun c d=>(qb2 (lq d hM.fm.nx)).trans (hM.base c d)
    ge:=hM.ge
    lt:=lq j y.nx
    ct:=(qb2 j).trans hM.ct
    get:=dL _ _ _
    z8:=fun u K=>by
     rw[t,zdw];by_cases l:a[i].f=u
     ·subst l;rw[kz rfl,upd_same];refine⟨?_,?_⟩
      ·have S:aI (iB (a.take i) a[i].f++[a[i].t])=aI (iB (a.take i) a[i].f)++[.int .i64 (.ofNat a[i].t)]:=by simp[aI]
       rw[S,ku];refine A.keep (lh _) fun c d _=>eB _ _ _ _ ?_;obtain⟨_,_,_,_,g⟩:=d;cases g;omega
      ·rintro c ⟨_,_,_,_,g⟩;cases g;exact qgy (by show H.nx<=H.nx+1+14;omega)
     ·rw[lu l,upd_ne _ _ fun e=>l e.symm];obtain⟨J,C⟩:=hM.z8 u K;refine⟨J.fm y fun c d h=>?_,fun c d=>(qb2 (J.lt d)).trans (C c d)⟩;rcases h with h|h
      ·have:=C c d;rw[h,hM.ct]at this;omega
      ·have W:=C c d;have X:=z c h;omega
    stk:=Gs.nil _ _
    xH:=fun c d=>by obtain⟨_,_,_,_,g⟩:=d;cases g
    out:=Gl.nil _ _
    ouc:=fun c d=>by obtain⟨_,_,_,_,g⟩:=d;cases g
    css:=⟨rfl,fun i c o h=>by cases h⟩}
  ·simp only[go_sem,qg,pq,f];have:i=a.length:=by omega
   subst this;rw[uz]at hM;exact F H nx col hM
structure qdv(N:Nat)(aR:Nat->List Nat)(out:List (List Nat)):Prop where
 scc:∀ c∈out,c.Pairwise (· < ·)/\∃ r∈c,∀x,x∈c↔Rc aR r x/\Rc aR x r
 nd:out.flatten.Nodup
 all:∀ x,x∈out.flatten↔x<N
structure mX(H0 H:Hp)(v:AV)(cs:List AV)(out:List (List Nat)):Prop where
 gl:Gl 1 H v cs.length cs
 len:cs.length=out.length
 new:∀ b,In v b->H0.nx<=b
 at':∀(i:Nat) (c:AV) (o:List Nat),cs[i]? =some c->out[i]? =some o->(∃b q n m e,c=.sl b q n m e)/\Gl 1 H c o.length (aI o)/\∀ b,In c b->H0.nx<=b/\¬ In v b
theorem qib(f:aV C)(g:pI C)(l:nV C)(m:oZ LA LO C){j:Nat}(n:301<=j){H0:Hp}{N:Nat}{aR:Nat->List Nat}(c:q7t N aR){tb:Nat}{q:pD}{Q:pH}(o:∀ H s col,TM H0 aR s col tb H->TI N aR s []->(∀x,x<N->0<s.num x)->Ok (q H) Q):∀(k i:Nat) (H:Hp) (s:TS) (col:Nat->Nat),N-i<k->i<=N->TM H0 aR s col tb H->TI N aR s []->(∀x,x<i->0<s.num x) -> Ok (q8c (C j) q (.ptr tb 0) (.int .i64 (.ofNat N)) k (.int .i64 (.ofNat i)) H) Q
 |0,i,H,s,col,h,_,_,_,_=>by omega
 |k+1,i,H,s,col,h,hi,hM,hT,hx=>by
  show Ok (zge (C j) _ _ _ (q8c (C j) _ _ _ k) _ H) Q;unfold zge;have y:=c.le;by_cases a:i<N
  ·simp only[go_sem,qg,pq,a];unfold zgd;have d:∃ nx sv ov,H.get tb=TB nx s sv ov:=by obtain⟨nx,sv,ov,cs,h⟩:=hM;exact⟨nx,sv,ov,h.get⟩
   obtain⟨nx,sv,ov,d⟩:=d;by_cases u:s.num i=0
   ·simp(disch:=omega)only[go_sem,seval,qg,pq,d,u];refine Ok.ve (zse f g l m n c hM hT a u) ?_;rintro r H' ⟨rfl,s',b,v,w,t,z⟩;unfold qu4;simp(disch:=go_size)only[go_sem,rB,rI,rK,rL,rN,rS,r6,qg,pq];exact qib f g l m n c o k (i+1) H' s' b (by omega) (by omega) v w fun x p=>by
     by_cases e:x=i
     ·simp_all
     ·exact t.1 x (hx x (by omega))
   ·simp(disch:=go_size)only[go_sem,rB,rI,rK,rL,rN,rS,r6,qg,pq,d,u];unfold qu4;simp(disch:=go_size)only[go_sem,rB,rI,rK,rL,rN,rS,r6,qg,pq];exact qib f g l m n c o k (i+1) H s col (by omega) (by omega) hM hT fun x p=>by
     by_cases e:x=i
     ·rw[e];omega
     ·exact hx x (by omega)
  ·simp only[go_sem,qg,pq,a];have:i=N:=by omega
   subst this;exact o H s col hM hT hx
theorem TI.parts{s:TS}(h:TI N aR s [])(b:∀ x,x<N->0<s.num x):qdv N aR s.out:=by refine⟨h.oN,h.oG,fun x=>⟨fun a=>(h.lT x a).2.2,fun a=>?_⟩⟩;have:=h.vis x (b x a);rw[h.empty]at this;simp_all
theorem ztg(K:aV C)(Q:pI C)(R:nV C)(S:oZ LA LO C)(y:302<=k){m:List Edge}(z:n<=256)(d:m.length<200000)(A:∀ e∈m,e.f<n/\e.t<n){v:AV}(L:iH H v m):Ok (C k (.f 76) [.agg [.int .i64 (.ofNat n),v]] H) fun r H'=>∃ cs out,qdv n (iB m) out/\mX H H' r cs out/\Fm No H H':=by
 obtain⟨j,rfl⟩:=aU y;rw[(K j).zCe];unfold zCe zzv;have I:=L.len;simp(disch:=first|go_size|omega)only[go_sem,rB,rI,rK,rL,rN,rS,r6,qg,pq,I,TB0];unfold zgf;rw[bW];generalize p:aN H (aB 0 [.int .i64 (.ofNat n),v])=H1;have U:H1.nx=H.nx+1:=by rw[<-p];rfl
 have O:Fm No H H1:=by rw[<-p];exact(Fm.refl _ _).push _
 have V:H1.get H.nx=aB 0 [.int .i64 (.ofNat n),v]:=by rw[<-p,jA]
 have J:TMd H1 (iB (m.take 0)) s00 (fun b=>if b<H1.nx then 9 else 0) (H.nx+1) (aN H1 (TB (fun _=>.aA) s00 .aA .aA)) (fun _=>.aA) .aA .aA []:={
  fm:=(Fm.refl _ _).push _
  base:=fun b a=>kz a
  ge:=by omega
  lt:=by rw[np];omega
  ct:=lu (by omega)
  get:=by rw[<-U];exact jA _ _
  z8:=fun u _=>⟨Gl.nil _ _,fun c q=>by obtain⟨_,_,_,_,g⟩:=q;cases g⟩
  stk:=Gs.nil _ _
  xH:=fun c q=>by obtain⟨_,_,_,_,g⟩:=q;cases g
  out:=Gl.nil _ _
  ouc:=fun c q=>by obtain⟨_,_,_,_,g⟩:=q;cases g
  css:=⟨rfl,fun i c o h=>by cases h⟩}
 have W:q7t n (iB m):=⟨z,fun u k y=>by obtain⟨e,t,_,rfl⟩:=qcp.1 y;exact(A e t).2,fun u=>lAZ (q1k m u) d⟩;refine qpd d (L.fm O) (fun e t=>⟨lq (A e t).1 z,lq (A e t).2 z⟩) (fun M nx col N=>?_) bL 0 _ _ _ (by rw[bZ];omega) (gy _) J;unfold q4i;have X:M.get H.nx=aB 0 [.int .i64 (.ofNat n),v]:=(N.fm.keep (by omega)).trans V;simp only[go_sem,qg,pq,X];unfold zwh;rw[bW];refine qib K Q R S (j:=j) (by omega) W (fun H3 s B D E F=>?_) bL 0 M s00 col (by rw[bZ];omega) (gy _) ⟨_,_,_,_,N⟩ (TI.init _ _) fun x F=>absurd F (ak _);unfold zgb;obtain⟨Z,sv,ov,cs,l⟩:=D;have Y:=l.get;simp only[go_sem,qg,pq,Y];have f:∀{b c:Nat},c≠9->B b=c->H.nx<=b:=fun{b c} q h=>by
  rcases xe b H1.nx with a|a
  ·have:=l.base b a;omega
  ·omega
 refine Ok.ret ⟨cs,s.out,TI.parts E F,⟨l.out,l.css.len,fun b a=>f (c:=4) (by omega) (l.ouc b a),fun i c o w T=>?_⟩,O.trans l.fm⟩;obtain⟨a1,a2,P⟩:=l.css.at' i c o w T;exact⟨a1,a2,fun b a=>⟨f (c:=5) (by omega) (P b a),fun G=>by have w:=P b a;rw[l.ouc b G]at w;cases w⟩⟩
end Go.Di
end
section
namespace Go.Di
open Go.Ev Go.Di.T Go.Sort
variable {C:Nat->Ev.Call} {LA LO:LP}
variable {H H' H0:Hp} {S:Nat->Prop} {aR:Nat->List Nat} {cs l:List AV} {gv:AV} {i j k m n:Nat} {ins:List Nat}
structure Cv where
 b:Nat
 q:Nat
 n:Nat
 m:Nat
 e:Bool
 o:List Nat
def Cv.v(c:Cv):AV:=.sl c.b c.q c.n c.m c.e
theorem Cv.ex:∀(cs:List AV) (a:List (List Nat)),cs.length=a.length->(∀(i:Nat) (c:AV) (o:List Nat),cs[i]? =some c->a[i]? =some o->∃ b q n m e,c=.sl b q n m e)->∃ d:List Cv,d.map Cv.v=cs/\d.map Cv.o=a
 | [],[],_,_=>⟨[],rfl,rfl⟩
 | [],_::_,h,_=>by simp at h
 |_::_,[],h,_=>by simp at h
 |c::cs,o::a,h,hp=>by obtain⟨d,j,k⟩:=Cv.ex cs a (by simpa using h) fun i c o f g=>hp (i+1) c o (by simpa using f) (by simpa using g);obtain⟨b,q,n,m,e,rfl⟩:=hp 0 c o rfl rfl;exact⟨⟨b,q,n,m,e,o⟩::d,by simp[j,Cv.v],by simp[k]⟩
def hdI(l:List Nat):Int:=.ofNat (l.headD 0)
theorem q0r{H:Hp}:∀{l:List AV} {zs:List Int},l.length=zs.length->(∀i (h:i<l.length) (a:i<zs.length),headA H l[i]=some zs[i])->qpw H l=some zs
 | [],[],_,_=>rfl
 | [],_::_,h,_=>by simp at h
 |_::_,[],h,_=>by simp at h
 |v::l,z::zs,h,k=>by unfold qpw;have b:headA H v=some z:=k 0 (by simp) (by simp);rw[b,q0r (l:=l) (zs:=zs) (by simpa using h) fun i h a=>k (i+1) (by simpa using h) (by simpa using a)]
theorem zt0{b o n m:Nat}{x:Bool}{z:Int}(a:0<n)(h:bK (H.get b) o=.val (.int .i64 z)):headA H (.sl b o n m x)=some z:=by unfold headA;simp only[blt_eq,qw a,uC,h]
theorem q6a(zs:List Int)(h:0<zs.length):(cB zs h).toList.Perm (List.finRange zs.length)/\(cB zs h).toList.Pairwise (fun i j=>zs[i]<=zs[j]):=by
 letI:Inhabited (Fin zs.length):=⟨⟨0,h⟩⟩
 have g:SWO (aAv zs):={
  irrefl:=fun x=>by unfold aAv;simp
  trans:=fun x y z=>by unfold aAv;simp only[yc];omega
  ntrans:=fun x y z=>by unfold aAv;simp only[yt];omega}
 obtain⟨⟨e,_,c⟩,f⟩:=pdq_sorts (aAv zs) g (Array.finRange zs.length) 0 (Array.finRange zs.length).size (Go.Lib.bitLen (Array.finRange zs.length).size) true true (gy _) (lh _) (Or.inl rfl);change (cB zs h).size=_ at e;change ((cB zs h).extract _ _).toList.Perm _ at c;change SortedIn _ _ _ (cB zs h)at f;refine⟨?_,?_⟩
 ·rw[show(cB zs h).extract 0 (Array.finRange zs.length).size=cB zs h by rw[<-e];exact Array.extract_size,show(Array.finRange zs.length).extract 0 (Array.finRange zs.length).size=Array.finRange zs.length from Array.extract_size]at c;have k:(Array.finRange zs.length).toList=List.finRange zs.length:=Array.toList_ofFn;rwa [k]at c
 ·rw[uf];intro i j l m d;have a:i<(cB zs h).size:=by simpa using l
  have b:j<(cB zs h).size:=by simpa using m
  have:=f i j (gy _) d (by omega);rw[getElem!_pos _ i a,getElem!_pos _ j b]at this;unfold aAv at this;simp_all
theorem zvb(hS:nV C){v:AV}{p:List (List Nat)}(J:mX H0 H v cs p)(hn:cs.length<900000)(X:1<=cs.length)(hk:1<=k)(K:∀ o∈p,o≠[]/\∀ x∈o,x<1000)(Y:p.flatten.Nodup):Ok (C k (.f 112) [v,.fn 113 [] []] H) fun r H'=>r=.aX []/\∃ M g,g.Perm p/\g.Pairwise (fun a b=>a.headD 0<b.headD 0)/\mX H0 H' v M g/\(∀c∈M,c∈cs)/\Fm (In v) H H':=by
 obtain⟨k,rfl⟩:∃ j,k=j+1:=⟨k-1,by omega⟩;obtain⟨d,u,G⟩:=Cv.ex cs p J.len fun i c o S g2=>(J.at' i c o S g2).1;have hel:d.length=cs.length:=by rw[<-u,pz]
 have N:∀ c∈d,Gl 1 H c.v c.o.length (aI c.o)/\∀ b,In c.v b->H0.nx<=b/\¬ In v b:=fun c s=>by obtain⟨i,I,rfl⟩:=yj s;exact(J.at' i d[i].v d[i].o (by rw[<-u];simp[I]) (by rw[<-G];simp[I])).2
 have O:∀ c∈d,c.o≠[]/\∀ x∈c.o,x<1000:=fun c s=>K c.o (by rw[<-G];exact qj.2 ⟨c,s,rfl⟩);rcases J.gl.is with⟨_,h0⟩|⟨b,o,e,q,L,rfl,S,g2,g3,g4,g5⟩
 ·omega
 have hLl:L.length=o+cs.length:=by have:=congrArg List.length g3;rw[xx]at this;omega
 let zs:List Int:=d.map fun c=>hdI c.o
 have hzl:zs.length=d.length:=by simp[zs]
 have f:0<zs.length:=by omega
 have D:∀ i (h:i<zs.length),zs[i]=hdI (d[i]'(by omega)).o:=fun i h=>by simp[zs]
 have hOk:aG9 zs:=⟨f,by omega,fun z hz=>by
  obtain⟨c,s,rfl⟩:=qj.1 hz;obtain⟨V,x2⟩:=O c s;unfold hdI;cases F:c.o with
  |nil=>exact absurd F V
  |cons a l=>rw[F]at x2;have:=x2 a qy;simp only[List.headD_cons,qi];omega⟩
 have hhd:qpw (H.put b .dead) cs=some zs:=q0r (by omega) fun i h h'=>by
  have U:d[i]'(by omega)∈d:=lg _;obtain⟨W,k2⟩:=N _ U;obtain⟨V,_⟩:=O _ U;have hci:cs[i]=(d[i]'(by omega)).v:=by simp[<-u]
  rw[hci,D i h'];generalize d[i]'(by omega)=c at W k2 V;unfold hdI;cases F:c.o with
  |nil=>exact absurd F V
  |cons a l=>
   rw[F]at W;obtain⟨b1,o1,e1,_,e2,e3⟩:=Gl.head W;unfold Cv.v at e1 k2 ⊢;have hcn:c.n=l.length+1:=by
    have A:=W.bS;have T:R0.val (.int .i64 (.ofNat c.n))=R0.val (.int .i64 (.ofNat (a::l).length)):=A;have h4:(c.n:Int)=l.length+1:=by simpa using T
    omega
   rw[uT _ _ _ _ _ _ _ _ (by omega)]at e1;obtain⟨rfl,rfl⟩:=e1;have hcb:c.b≠b:=fun e'=>(k2 c.b ⟨_,_,_,_,rfl⟩).2 ⟨_,_,_,_,by rw[e']⟩;refine zt0 (by omega) ?_;rw[eB _ _ _ _ hcb];simpa using e3
 let ix:Fin zs.length->Cv:=fun i=>d[i.1]'(by have:=i.2;omega)
 obtain⟨hp,hs⟩:=q6a zs f;have t:((cB zs f).toList.map ix).Perm d:=by
  have X:=hp.map ix;have A:(List.finRange zs.length).map ix=d:=by
   apply List.ext_getElem
   ·simp[hzl]
   ·intro i X A;simp[ix]
  rwa [A]at X
 have hV:((cB zs f).toList.map fun i:Fin zs.length=>cs.getD i.1 .undef)=((cB zs f).toList.map ix).map Cv.v:=by rw[nz];refine lA8 fun i _=>?_;have I:=i.2;rw[kw,lL (by omega)];simp[<-u,ix]
 have P:((cB zs f).toList.map ix).Pairwise fun a b=>hdI a.o<=hdI b.o:=by rw[lAM];refine hs.imp fun{i j} h=>?_;rw[Fin.getElem_fin,Fin.getElem_fin,D,D]at h;exact h
 have hsz:(cB zs f).size=zs.length:=by have:=hp.length_eq;simpa using this
 generalize hR:(cB zs f).toList.map ix=R at t hV P;have B:(R.map Cv.v).length=cs.length:=by rw[pz,t.length_eq,hel]
 have hst:storeAt H b o (R.map Cv.v) (.aX [])=.ok (.aX []) (H.put b (aB q (aY L o (R.map Cv.v)))):=qch _ _ _ _ _ _ _ S (by omega);have hr:qow H b o cs.length=some (.ok (.aX []) (H.put b (aB q (aY L o (R.map Cv.v))))):=by unfold qow;rw[S,qb7,kz (by omega),g3,uh (lh _)];simp only[hhd,dif_pos hOk,hV,hst];rw[hsz,lEL];rfl
 rw[(hS k).aVF _ _ _ _ _ _ _ hr];have Q:aY L o (R.map Cv.v)=L.take o++R.map Cv.v:=by unfold aY;rw[uy (by omega),ut]
 have E:(R.map Cv.o).Perm p:=by have:=t.map Cv.o;rwa [G]at this
 have hF:Fm (In (.sl b o cs.length cs.length e)) H (H.put b (aB q (aY L o (R.map Cv.v)))):=(Fm.refl _ _).put _ _ fun _=>⟨_,_,_,_,rfl⟩;have F:(L.take o).length=o:=by rw[ry];omega
 refine Ok.ret ⟨rfl,R.map Cv.v,R.map Cv.o,E,?_,⟨?_,by simp,J.new,fun i c o' A T=>?_⟩,fun c s=>?_,hF⟩
 ·have m:(R.map Cv.o).flatten.Nodup:=(E.flatten).nodup_iff.2 Y;have n:∀ l∈R.map Cv.o,l≠[]:=fun l Z=>(K l (E.mem_iff.1 Z)).1;have w:(R.map Cv.o).Pairwise fun a b=>a.headD 0<=b.headD 0:=by
   rw[lAM];refine P.imp fun{x y} h=>?_;unfold hdI at h;simp only[qi]at h;omega
  generalize R.map Cv.o=g at m n w
  induction g with
  |nil=>exact List.Pairwise.nil
  |cons a l ih=>
   rw[ou]at w ⊢;rw[bz,yh]at m;refine⟨fun c s=>?_,ih m.2.1 (fun l Z=>n l (uu _ Z)) w.2⟩;refine Nat.lt_of_le_of_ne (w.1 c s) fun e=>?_;have ha:=n a qy;have hc':=n c (uu _ s);cases a with
   |nil=>exact ha rfl
   |cons x a=>
    cases c with
    |nil=>exact hc' rfl
    |cons y c=>have e:x=y:=e;exact m.2.2 x qy y (ny.2 ⟨y::c,s,qy⟩) e
 ·rw[Q,B];refine⟨by rw[B,qg],.inr ⟨b,o,e,q,_,rfl,dL _ _ _,?_,?_,g4,lq g5 hF.nx⟩⟩
  ·rw[ku,F];omega
  ·rw[xm (by omega),uy (by omega),og]
 ·have I:i<R.length:=by
   have:=(ql.1 A).1;simpa using this
  have s:c=(R[i]).v:=by rw[xw,lL I]at A;exact(Option.some.inj A).symm
  have ho':o'=(R[i]).o:=by rw[xw,lL I]at T;exact(Option.some.inj T).symm
  have U:R[i]∈d:=t.mem_iff.1 (lg _);subst s;subst ho';obtain⟨q1,q2⟩:=N _ U;exact⟨⟨_,_,_,_,_,rfl⟩,q1.fm hF fun b' hb' h=>(q2 b' hb').2 h,q2⟩
 ·obtain⟨x,hx,rfl⟩:=qj.1 s;rw[<-u];exact qj.2 ⟨x,t.mem_iff.1 hx,rfl⟩
theorem zvc(a:nV C)(f:5<=k){v:AV}(c:Gl 1 H v n l)(d:n=0)(H:Hp):C k (.f 112) [v,.fn 113 [] []] H=.ok (.aX []) H:=by
 obtain⟨k,rfl⟩:∃ j,k=j+1:=⟨k-1,by omega⟩;rcases c.is with⟨rfl,_⟩|⟨b,o,e,q,L,rfl,_⟩
 ·exact(a k).aGN H
 ·subst d;exact(a k).aV0 _ _ _ _ H
def fill(ins:List Nat)(o:List Nat)(i:Nat):List Nat:=o.foldl (fun a x=>a.set x i) ins
def qez:List Nat->List (List Nat)->Nat->List Nat
 |ins,[],_=>ins
 |ins,o::r,i=>qez (fill ins o i) r (i+1)
theorem qfp(i:Nat):∀(o ins:List Nat),(fill ins o i).length=ins.length
 | [],ins=>rfl
 |x::o,ins=>by show(fill (ins.set x i) o i).length=_;rw[qfp i o,ul]
theorem qp1:∀(a:List (List Nat)) (ins:List Nat) (i:Nat),(qez ins a i).length=ins.length
 | [],_,_=>rfl
 |o::r,ins,i=>by rw[qez,qp1 r,qfp]
theorem qm6(i:Nat):∀(o ins:List Nat) (x:Nat),x<ins.length->(fill ins o i)[x]? =if x∈o then some i else ins[x]?
 | [],ins,x,h=>by simp[fill]
 |y::o,ins,x,h=>by
  show(fill (ins.set y i) o i)[x]? =_;rw[qm6 i o _ x (by rw[ul];exact h)];by_cases a:x∈o
  ·simp[a]
  ·by_cases e:x=y
   ·simp_all
   ·have:¬ y=x:=fun h=>e h.symm;simp_all
theorem qp2:∀(b:List (List Nat)) (ins:List Nat) (d i x:Nat) (o:List Nat),b.flatten.Nodup->b[i]? =some o->x∈o->x<ins.length->(qez ins b d)[x]? =some (d+i)
 | [],_,_,_,_,_,_,h,_,_=>by simp at h
 |o'::r,ins,d,0,x,o,hn,h,a,c=>by
  simp at h;subst h;have e:∀(r:List (List Nat)) (ins:List Nat) (i:Nat),x<ins.length->x∉r.flatten->(qez ins r i)[x]? =ins[x]? :=fun r=>by
   induction r with
   |nil=>intros;rfl
   |cons o r ih=>intro ins i c a;rw[bz,pg,not_or]at a;rw[qez,ih _ _ (by rw[qfp];exact c) a.2,qm6 i o ins x c,lu a.1]
  rw[qez,e r _ _ (by rw[qfp];exact c) ?_,qm6 _ _ _ _ c,kz a,yw];intro f;rw[bz,yh]at hn;exact hn.2.2 x a x f rfl
 |o'::r,ins,d,i+1,x,o,hn,h,a,c=>by rw[bz,yh]at hn;rw[qez,qp2 r _ (d+1) i x o hn.2.1 (by simpa using h) a (by rw[qfp];exact c)];congr 1;omega
theorem zm1{O:Ev.Call}{c:AV}{o:List Nat}{ib nb n i:Nat}{H1:Hp}(p:Rl H1 c (aI o))(d:∀ j b q,j<o.length->aG 1 c (.int .i64 (.ofNat j))=.val (.ptr b q)->b≠nb)(l:o.length<900000)(r:∀ x∈o,x<n)(e:H1.get ib=aB 0 [.sl nb 0 n n true])(f:ib≠nb)(g:ib<H1.nx){q:pD}{Q:pH}{fin:List Nat}(s:∀ H,H.get nb=aB 0 (aI fin)->Fm (fun b=>b=nb) H1 H->Ok (q H) Q):∀(k j:Nat) (ins:List Nat) (H:Hp),o.length-j<k->j<=o.length->ins.length=n->H.get nb=aB 0 (aI ins)->Fm (fun b=>b=nb) H1 H->fill ins (o.drop j) i=fin -> Ok (qu2 O q (.ptr ib 0) (.int .i64 (.ofNat i)) c (.int .i64 (.ofNat o.length)) k (.int .i64 (.ofNat j)) H) Q
 |0,j,ins,H,h,_,_,_,_,_=>by omega
 |k+1,j,ins,H,h,hj,hl,hg,hF,hf=>by
  show Ok (q4g O _ _ _ _ _ (qu2 O _ _ _ _ _ k) _ H) Q;unfold q4g;by_cases a:j<o.length
  ·obtain⟨b,y,t,z,u⟩:=p.at' j (by rw[lV];exact a);rw[qid]at u;have v:H.get b=H1.get b:=hF.get b z (d j b y a t);have w:H.get ib=aB 0 [.sl nb 0 n n true]:=(hF.get ib g f).trans e;have A:o[j]<n:=r _ (lg _);simp only[go_sem,a];unfold zf6;have m:o[j]+1<=ins.length:=by omega
   simp(disch:=omega)only[go_sem,seval,t,v,u,w,hg,qg,pq,gz,uk,lV,m,oh];unfold zf7;simp(disch:=go_size)only[go_sem,rB,rI,rK,rL,rN,rS,r6];have hd:o.drop j=o[j]::o.drop (j+1):=uo a;rw[qjj _ _ _ (by omega)];refine zm1 p d l r e f g s k (j+1) (ins.set o[j] i) _ (by omega) (by omega) (by rw[ul];exact hl) (dL _ _ _) (hF.put _ _ fun _=>rfl) ?_;rw[hd]at hf;exact hf
  ·simp only[go_sem,a];have:j=o.length:=by omega
   subst this;rw[lEE]at hf;subst hf;exact s H hg hF
theorem mX.gH{v:AV}{d:List (List Nat)}(h:mX H0 H v cs d)(f:Fm S H H')(g:∀ b,H0.nx<=b->b<H.nx->¬ S b):mX H0 H' v cs d:=
 ⟨h.gl.keep f.nx fun b e a=>f.get b a (g b (h.new b e) a),h.len,h.new,fun i c o k l=>by obtain⟨m,n,j⟩:=h.at' i c o k l;exact⟨m,n.keep f.nx fun b e a=>f.get b a (g b (j b e).1 a),j⟩⟩
theorem mX.no{v:AV}{a:List (List Nat)}(h:mX H0 H v cs a)(f:Fm No H H'):mX H0 H' v cs a:=h.gH f fun _ _ _ h=>h
theorem za7{O:Ev.Call}{v:AV}{cs:List AV}{a:List (List Nat)}{ib nb n:Nat}{H0 H1:Hp}(t:mX H0 H1 v cs a)(u:H1.nx<=nb+2)(w:∀ b,H0.nx<=b->b<H1.nx->b≠nb->True)(F:∀ b,In v b->b≠nb)(d:∀(i:Nat) (c:AV) (b:Nat),cs[i]? =some c->In c b->b≠nb)(p:∀ o∈a,o.length<900000/\∀ x∈o,x<n)(y:a.length<900000)(r:H1.get ib=aB 0 [.sl nb 0 n n true])(f:ib≠nb)(g:ib<H1.nx){q:pD}{Q:pH}{fin:List Nat}(I:∀ H,H.get nb=aB 0 (aI fin)->Fm (fun b=>b=nb) H1 H->Ok (q H) Q):∀(k i:Nat) (ins:List Nat) (H:Hp),a.length-i<k->i<=a.length->ins.length=n->H.get nb=aB 0 (aI ins)->Fm (fun b=>b=nb) H1 H->qez ins (a.drop i) i=fin -> Ok (qny O q (.ptr ib 0) v (.int .i64 (.ofNat a.length)) k (.int .i64 (.ofNat i)) H) Q
 |0,i,ins,H,h,_,_,_,_,_=>by omega
 |k+1,i,ins,H,h,hi,hl,hg,hF,s=>by
  show Ok (q4h O _ _ _ _ (qny O _ _ _ _ k) _ H) Q;unfold q4h;have G:=t.len;by_cases m:i<a.length
  ·simp only[go_sem,m];unfold zf5;have A:Gl 1 H v cs.length cs:=t.gl.fm hF fun b z=>F b z;obtain⟨b,S,M,_,_,N⟩:=A.at (i:=i) (x:=cs[i]) (by simp);obtain⟨⟨cb,T,U,V,W,P⟩,R,X⟩:=t.at' i cs[i] a[i] (by simp) (by simp);have l:Gl 1 H cs[i] a[i].length (aI a[i]):=R.fm hF fun b z=>d i cs[i] b (by simp) z;have B:=l.bS;obtain⟨D,E⟩:=p a[i] (lg _);simp only[go_sem,M,N,B];unfold zf8;rw[bW];have C:H.get ib=aB 0 [.sl nb 0 n n true]:=(hF.get ib g f).trans r;have hd:a.drop i=a[i]::a.drop (i+1):=uo m;refine zm1 (H1:=H) l.rl (fun j b q J e=>d i cs[i] b (by simp) (l.zG J e)) D E C f (lq g hF.nx) (fin:=fill ins a[i] i) (fun K L k2=>?_) bL 0 ins H (by rw[bZ];omega) (gy _) hl hg (Fm.refl _ _) rfl;unfold q4f;simp(disch:=go_size)only[go_sem,rB,rI,rK,rL,rN,rS,r6];refine za7 t u w F d p y r f g I k (i+1) (fill ins a[i] i) K (by omega) (by omega) (by rw[qfp];exact hl) L (hF.trans k2) ?_;rw[hd]at s;exact s
  ·simp only[go_sem,m];have:i=a.length:=by omega
   subst this;rw[lEE]at s;have s:ins=fin:=s;simp_all
theorem qm2(n:Nat):List.replicate n (AV.int .i64 (.ofNat 0))=aI (List.replicate n 0):=by simp[aI]
structure aHe(H0 H:Hp)(n:Nat)(gv v:AV)(cs:List AV)(out:List (List Nat))(ins:List Nat)(lb gb ib wb:Nat):Prop where
 l:H.get lb=aB 0 [v]
 g:H.get gb=aB 0 [.int .i64 (.ofNat n),gv]
 i:H.get ib=aB 0 [.sl wb 0 n n true]
 w:H.get wb=aB 0 (aI ins)
 lt:lb<H.nx/\gb<H.nx/\ib<H.nx/\wb<H.nx
 ls:mX H0 H v cs out
 il:ins.length=n
 ix:∀(i:Nat) (o:List Nat) (x:Nat),out[i]? =some o->x∈o->ins[x]? =some i
theorem zsz(hC:aV C)(V:nV C)(hk:920<=k){gv v:AV}{g:List (List Nat)}(y:mX H0 H v cs g)(hH:H0.nx<=H.nx)(hn:n<=256)(hco:g.length<=256)(F:∀ o∈g,o≠[]/\o.length<=256/\∀ x∈o,x<n)(z:g.flatten.Nodup):Ok (C k (.f 75) [.agg [.int .i64 (.ofNat n),gv],v] H) fun r H'=>∃ M N ib W l d ins,r=.fn 114 [] [.ptr M 0,.ptr N 0,.ptr ib 0]/\d.Perm g/\d.Pairwise (fun a b=>a.headD 0<b.headD 0) /\ aHe H0 H' n gv v l d ins M N ib W/\(∀c∈l,c∈cs)/\Fm (In v) H H'/\(H.nx<=M/\H.nx<=N/\H.nx<=ib/\H.nx<=W):=by
 obtain⟨j,rfl⟩:=aU hk;rw[(hC j).zCf];unfold zCf zzu;have X:=y.len
 -- the slice is nil or not: its box
 have O:∀ nm,l9 nm v=.new (.ptr nm 0) (aB 0 [v]):=fun nm=>by rcases y.gl.is with⟨rfl,_⟩|⟨b,o,e,q,L,rfl,_⟩<;>rfl
 simp(disch:=go_size)only[go_sem,rB,rI,rK,rL,rN,rS,r6,O];generalize t:aN (aN H (aB 0 [.int .i64 (.ofNat n),gv])) (aB 0 [v])=H2;have n2:H2.nx=H.nx+2:=by rw[<-t];rfl
 have P:Fm No H H2:=by rw[<-t];exact((Fm.refl _ _).push _).push _
 have g2:H2.get H.nx=aB 0 [.int .i64 (.ofNat n),gv]:=by rw[<-t,qbi _ _ _ (by rw[np];omega),jA]
 have l2:H2.get (H.nx+1)=aB 0 [v]:=by rw[<-t];exact jA _ _
 have A:∀ b,In v b->b<H.nx:=fun b p=>y.gl.lt p;have s:Ok (C j (.f 112) [v,.fn 113 [] []] H2) fun r H'=>r=.aX []/\∃ l d,d.Perm g/\d.Pairwise (fun a b=>a.headD 0<b.headD 0)/\mX H0 H' v l d/\(∀c∈l,c∈cs)/\Fm (In v) H2 H':=by
  rcases lAW cs.length with T|T
  ·rw[zvc V (by omega) y.gl T];have:g=[]:=tq.1 (by omega);subst this;exact Ok.ret ⟨rfl,cs,[],List.Perm.refl _,List.Pairwise.nil,y.no P,fun _ h=>h,Fm.refl _ _⟩
  ·exact zvb V (y.no P) (by omega) T (by omega) (fun o G=>⟨(F o G).1,fun x h=>by have:=(F o G).2.2 x h;omega⟩) z
 refine Ok.ve s ?_;rintro r f ⟨rfl,l,d,E,hs,m,U,I⟩;have n3:=I.nx;have Q:Fm (In v) H f:=(P.mono fun _ _ h=>h.elim).trans I;have Y:f.get H.nx=aB 0 [.int .i64 (.ofNat n),gv]:=(I.get _ (by omega) fun p=>xq _ (A _ p)).trans g2;have Z:f.get (H.nx+1)=aB 0 [v]:=(I.get _ (by omega) fun p=>by have:=A _ p;omega).trans l2;have B:=m.gl.bS;have w:=m.len;have hol:d.length=g.length:=E.length_eq;rw[w]at B;have mk:=qd8 [.int .i64 (.ofNat 0)] 8 f.nx n (by omega) (by omega);rw[qdi,qm2]at mk;simp(disch:=first|go_size|omega)only[go_sem,rB,rI,rK,rL,rN,rS,r6,Y,Z,mk,B];generalize u:(aN (aN f (aB 0 (aI (List.replicate n 0)))) (aB 0 [.aA])).put (f.nx+1) (aB 0 [.sl f.nx 0 n n true])=H4;have n4:H4.nx=f.nx+2:=by rw[<-u];rfl
 have D:Fm No f H4:=by rw[<-u];exact(((Fm.refl _ _).push _).push _).aD _ _ (by omega)
 have i4:H4.get (f.nx+1)=aB 0 [.sl f.nx 0 n n true]:=by rw[<-u,dL]
 have a4:H4.get f.nx=aB 0 (aI (List.replicate n 0)):=by rw[<-u,eB _ _ _ _ (by omega),qbi _ _ _ (by rw[np];omega),jA]
 have R:H4.get (H.nx+1)=aB 0 [v]:=(D.keep (by omega)).trans Z;unfold zf9;rw[bW];have S:=m.no D;refine za7 (n:=n) S (by omega) (fun _ _ _ _=>trivial) (fun b p=>by have:=m.gl.lt p;omega) (fun i c b K p=>?_) (fun o G=>?_) (by omega) i4 (by omega) (by omega) (fun H5 k1 k2=>?_) bL 0 (List.replicate n 0) H4 (by rw[bZ];omega) (gy _) (by simp) a4 (Fm.refl _ _) rfl
 ·have hi:=(ql.1 K).1;obtain⟨_,J,_⟩:=m.at' i c d[i] K (by simp);have:=J.lt p;omega
 ·have:=F o (E.mem_iff.1 G);exact⟨by omega,this.2.2⟩
 ·unfold q8b;have n5:=k2.nx;refine Ok.ret ⟨H.nx+1,H.nx,f.nx+1,f.nx,l,d,qez (List.replicate n 0) (d.drop 0) 0,rfl,E,hs,⟨?_,?_,?_,k1,⟨by omega,by omega,by omega,by omega⟩,?_,?_,?_⟩,U,?_,by omega,by omega,by omega,by omega⟩
  ·exact(k2.get _ (by omega) (by omega)).trans R
  ·exact(k2.get _ (by omega) (by omega)).trans ((D.keep (by omega)).trans Y)
  ·exact(k2.get _ (by omega) (by omega)).trans i4
  ·exact m.gH (((D.mono fun _ _ h=>h.elim:Fm (fun b=>b=f.nx) f H4)).trans k2) fun b _ hlt=>by omega
  ·rw[qp1,uw]
  ·intro i o x h1 J;have hm:o∈d:=uB h1;have:=qp2 d (List.replicate n 0) 0 i x o (E.flatten.nodup_iff.2 z) h1 J (by rw[uw];exact(F o (E.mem_iff.1 hm)).2.2 x J);simp_all
  ·exact Q.then ((D.mono fun _ _ h=>h.elim:Fm (fun b=>b=f.nx) f H4).trans k2) fun c K h=>by omega
def bools(l:List Bool):List AV:=l.map .bool
theorem zbl(l:List Bool):(bools l).length=l.length:=by simp[bools]
theorem zoa(l:List Bool)(i:Nat)(h:i<l.length):(bools l)[i]? =some (.bool l[i]):=by simp[bools,h]
theorem qld(l:List Bool)(i:Nat)(d:Bool)(h:i<l.length):(bools l)[i]? =some (.bool (l.getD i d)):=by rw[zoa l i h];simp[h]
theorem q1e(l:List Bool)(i:Nat)(b:Bool)(h:i<l.length):aY (bools l) i [.bool b]=bools (l.set i b):=by unfold aY bools;rw[lE9,List.set_eq_take_append_cons_drop,kz (by simpa using h)];simp
structure RS(D:Nat->Prop)(H:Hp)(n:Nat)(gv:AV)(es:List Edge)(v:AV)(cs:List AV)(ins:List Nat)(lb gb ib wb:Nat):Prop where
 l:H.get lb=aB 0 [v]
 g:H.get gb=aB 0 [.int .i64 (.ofNat n),gv]
 i:H.get ib=aB 0 [.sl wb 0 n n true]
 w:H.get wb=aB 0 (aI ins)
 gl:Gl 1 H v cs.length cs
 e:iH H gv es
 lt:lb<H.nx/\gb<H.nx/\ib<H.nx/\wb<H.nx
 dl:D lb
 dg:D gb
 di:D ib
 dw:D wb
 dv:∀ b,In v b->D b
 de:∀ b,In gv b->D b
def RB(gv v:AV)(lb gb ib wb b:Nat):Prop:=b=lb\/b=gb\/b=ib\/b=wb\/In v b\/In gv b
theorem RS.rb{D:Nat->Prop}{f:List Edge}{v:AV}{c d ib e:Nat}(h:RS D H n gv f v cs ins c d ib e){b:Nat}(a:RB gv v c d ib e b):D b:=by
 rcases a with rfl|rfl|rfl|rfl|a|a
 ·exact h.dl
 ·exact h.dg
 ·exact h.di
 ·exact h.dw
 ·exact h.dv b a
 ·exact h.de b a
theorem RS.keep{D:Nat->Prop}{j:List Edge}{v:AV}{d e ib g:Nat}(h:RS D H n gv j v cs ins d e ib g)(f:Fm S H H')(c:∀ b,RB gv v d e ib g b->¬ S b):RS D H' n gv j v cs ins d e ib g:=by
 obtain⟨l,m,o,p⟩:=h.lt;have k:=f.nx;exact⟨(f.get _ l (c _ (Or.inl rfl))).trans h.l,(f.get _ m (c _ (Or.inr (Or.inl rfl)))).trans h.g,(f.get _ o (c _ (Or.inr (Or.inr (Or.inl rfl))))).trans h.i,(f.get _ p (c _ (Or.inr (Or.inr (Or.inr (Or.inl rfl)))))).trans h.w,
  h.gl.keep k fun b i a=>f.get b a (c b (Or.inr (Or.inr (Or.inr (Or.inr (Or.inl i)))))),h.e.keep k fun b i a=>f.get b a (c b (Or.inr (Or.inr (Or.inr (Or.inr (Or.inr i)))))),⟨by omega,by omega,by omega,by omega⟩,h.dl,h.dg,h.di,h.dw,h.dv,h.de⟩
theorem RS.no{D:Nat->Prop}{a:List Edge}{v:AV}{b c ib d:Nat}(h:RS D H n gv a v cs ins b c ib d)(f:Fm No H H'):RS D H' n gv a v cs ins b c ib d:=h.keep f fun _ _ h=>h
def wJ(ins:List Nat)(dn:List Bool)(w:List Bool)(e:Edge):List Bool:=
 if ins.getD e.f 0≠ins.getD e.t 0/\dn.getD (ins.getD e.t 0) true=false then w.set (ins.getD e.f 0) true else w
def waits(es:List Edge)(ins:List Nat)(dn:List Bool)(w:List Bool):List Bool:=es.foldl (wJ ins dn) w
theorem qy2(ins:List Nat)(dn:List Bool):∀(a:List Edge) (w:List Bool),(waits a ins dn w).length=w.length
 | [],w=>rfl
 |e::a,w=>by
  show(waits a ins dn (wJ ins dn w e)).length=_;rw[qy2 ins dn a];unfold wJ;split
  ·simp
  ·rfl
theorem qy4{O:Ev.Call}{D:Nat->Prop}{n:Nat}{gv:AV}{d:List Edge}{v:AV}{cs:List AV}{ins:List Nat}{lb gb ib wb G tb m:Nat}{dn:List Bool}{H1:Hp}(W:RS D H1 n gv d v cs ins lb gb ib wb)(I:d.length<200000)(M:ins.length=n)(X:∀ e∈d,e.f<n/\e.t<n)(s:∀ x<n,ins.getD x 0<m)(N:dn.length=m)(J:H1.get G=aB 0 (bools dn))(Y:G<H1.nx)(P:H1.nx<=tb){q:pD}{Q:pH}{fin:List Bool}(hq:∀ H,H.get tb=aB 0 (bools fin)->Fm No H1 H->tb<H.nx->Ok (q H) Q):∀(k i:Nat) (w:List Bool) (H:Hp),d.length-i<k->i<=d.length->w.length=m->H.get tb=aB 0 (bools w)->Fm No H1 H->tb<H.nx->waits (d.drop i) ins dn w=fin -> Ok (qnr O q (.ptr ib 0) (.sl G 0 m m true) (.sl tb 0 m m true) gv (.int .i64 (.ofNat d.length)) k (.int .i64 (.ofNat i)) H) Q
 |0,i,w,H,h,_,_,_,_,_,_=>by omega
 |k+1,i,w,H,h,hi,hw,ht,hF,hlt,r=>by
  show Ok (q4a O _ _ _ _ _ _ (qnr O _ _ _ _ _ _ k) _ H) Q;unfold q4a;by_cases p:i<d.length
  ·simp only[go_sem,p];unfold zfq;have j:=W.no hF;obtain⟨b,o,S,e2,T⟩:=j.e.at p;obtain⟨U,V⟩:=X d[i] (lg _);have t:(aI ins)[d[i].f]? =some (.int .i64 (.ofNat (ins.getD d[i].f 0))):=by rw[qm3 _ _ (by omega),kw,lL (by omega)];rfl
   have u:(aI ins)[d[i].t]? =some (.int .i64 (.ofNat (ins.getD d[i].t 0))):=by rw[qm3 _ _ (by omega),kw,lL (by omega)];rfl
   have ha:=s _ U;have hb:=s _ V;have l:(bools dn)[ins.getD d[i].t 0]? =some (.bool (dn.getD (ins.getD d[i].t 0) true)):=qld _ _ _ (by omega);have y:d.drop i=d[i]::d.drop (i+1):=uo p;rw[y]at r;have r:waits (d.drop (i+1)) ins dn (wJ ins dn w d[i])=fin:=r;obtain⟨l1,l2,l3,l4⟩:=j.lt;have z:=j.i;have A:=j.w;have K:H.get G=aB 0 (bools dn):=(hF.keep Y).trans J;generalize E:ins.getD d[i].f 0=a at *;generalize F:ins.getD d[i].t 0=c at *;have B:∀(w':List Bool) (H':Hp),wJ ins dn w d[i]=w'->H'.get tb=aB 0 (bools w')->Fm No H1 H'->tb<H'.nx->Ok (qux O (qnr O q (.ptr ib 0) (.sl G 0 m m true) (.sl tb 0 m m true) gv (.int .i64 (.ofNat d.length)) k) (.int .i64 (.ofNat i)) H') Q:=fun w' H' Z h2 h3 h4=>by
    unfold qux;simp(disch:=go_size)only[go_sem,rB,rI,rK,rL,rN,rS,r6];refine qy4 W I M X s N J Y P hq k (i+1) w' H' (by omega) (by omega) ?_ h2 h3 h4 (by rw[Z]at r;exact r);rw[<-Z];unfold wJ;split
    ·rw[ul];exact hw
    ·exact hw
   have L:Fm No H ((aN H (aB 0 [.int .i64 (.ofNat 0),.int .i64 (.ofNat 0),.bool false])).put H.nx (aB 0 [.int .i64 (.ofNat d[i].f),.int .i64 (.ofNat d[i].t),.bool d[i].s])):=by exact nA
   have C:((aN H (aB 0 [.int .i64 (.ofNat 0),.int .i64 (.ofNat 0),.bool false])).put H.nx (aB 0 [.int .i64 (.ofNat d[i].f),.int .i64 (.ofNat d[i].t),.bool d[i].s])).get tb=aB 0 (bools w):=(L.keep hlt).trans ht;by_cases g:a=c
   ·have f:wJ ins dn w d[i]=w:=by
     unfold wJ;rw[E,F,lu (by simp[g])]
    simp(disch:=first|omega|exact ti rfl)only[go_sem,seval,S,T,Edge.cells,z,A,t,u,g,qg,pq,gz,uk];exact B w _ f C (hF.trans L) (by show tb<H.nx+1;omega)
   ·cases hd:dn.getD c true with
    |true=>
     have f:wJ ins dn w d[i]=w:=by unfold wJ;rw[E,F,hd,lu (by simp)]
     rw[hd]at l;simp(disch:=first|omega|exact ti rfl)only[go_sem,seval,S,T,Edge.cells,z,A,t,u,g,K,l,qg,pq,gz,uk];exact B w _ f C (hF.trans L) (by show tb<H.nx+1;omega)
    |false=>
     have f:wJ ins dn w d[i]=w.set a true:=by unfold wJ;rw[E,F,hd,kz ⟨g,rfl⟩]
     rw[hd]at l;have R:a+1<=w.length:=by omega
     simp(disch:=go_size)only[go_sem,rB,rI,rK,rL,rN,rS,r6,S,T,Edge.cells,z,A,t,u,g,K,l,C,qg,pq,gz,uk,zbl,R,oh];rw[q1e _ _ _ (by omega)];exact B (w.set a true) _ f (dL _ _ _) ((hF.trans L).aD _ _ (by omega)) (by show tb<H.nx+1;omega)
  ·simp only[go_sem,p];have:i=d.length:=by omega
   subst this;rw[lEE]at r;have r:w=fin:=r;simp_all
def zI(dn w:List Bool)(i:Nat):Bool:= !dn.getD i true&& !w.getD i true
def qjd(dn w:List Bool)(m:Nat):Option Nat:=(List.range m).find? (zI dn w)
def jS(es:List Edge)(ins:List Nat)(m:Nat):Nat->List Bool->List Nat
 |0,_=>[]
 |k+1,dn=>match qjd dn (waits es ins dn (List.replicate m false)) m with
  |none=>jS es ins m k dn
  |some i=>i::jS es ins m k (dn.set i true)
theorem qs1{dn w:List Bool}(h:qjd dn w m=none):∀ j,j<m->zI dn w j=false:=fun j a=>by have:=lAG.1 h j (xu.2 a);simp_all
theorem qe5{dn w:List Bool}(h:qjd dn w m=some i):i<m/\zI dn w i=true/\∀ j,j<i->zI dn w j=false:=by
 have d:=lE0 h;have b:=zq h;rw[xu]at b;refine⟨b,d,fun j k=>?_⟩;unfold qjd at h;rw[List.find?_eq_some_iff_append]at h;obtain⟨_,f,n,e,o⟩:=h;have l:j∈f:=by
  have a:j∈List.range m:=xu.2 (by omega);rw[e]at a;rcases pg.1 a with g|g
  ·exact g
  ·have c:(List.range m).Pairwise (· < ·):=List.pairwise_lt_range;rw[e,yf,ou]at c;rcases qm.1 g with g|g
   ·omega
   ·have:=c.2.1.1 j g;omega
 simp_all
structure YI(C0:Ev.Call)(y bs:Nat)(cs:List AV)(ord:List Nat)(Inv:Nat->(Nat->Prop)->Hp->Prop):Prop where
 ext:∀ t D D' H H',Inv t D H->Fm (fun b=>D b/\bs<=b) H H'->(∀b,D' b->D b\/(H.nx<=b/\b<H'.nx))->Inv t D' H'
 step:∀ t i c D H,ord[t]? =some i->cs[i]? =some c->Inv t D H->Ok (C0 (.y y) [c] H) fun r H'=>r=.bool true/\Inv (t+1) D H'/\Fm (fun b=>¬ D b) H H'
theorem qzk{A:Ev.Call}{y bs:Nat}{q:List Nat}{Inv:Nat->(Nat->Prop)->Hp->Prop}{D:Nat->Prop}{n:Nat}{gv:AV}{es:List Edge}{v:AV}{cs:List AV}{ins:List Nat}{C gb ib wb a tb m t:Nat}{dn w:List Bool}(P:YI A y bs cs q Inv)(hm:m=cs.length)(R:m<900000)(S:dn.length=m)(T:w.length=m)(s:D a)(E:bs<=a)(F:a≠C){rW f:pD}{Q:pH}{H:Hp}(M:RS D H n gv es v cs ins C gb ib wb)(G:∀ b,In v b->b≠a)(l:H.get a=aB 0 (bools dn))(pN:a<H.nx)(u:H.get tb=aB 0 (bools w))(hI:Inv t D H)(c:qjd dn w m=none->Ok (f H) Q)(d:∀ p H',qjd dn w m=some p->q[t]? =some p->H'.get a=aB 0 (bools (dn.set p true))->Inv (t+1) D H'->Fm (fun b=>¬ D b\/b=a) H H'->Ok (f H') Q)(U:∀ p,qjd dn w m=some p->q[t]? =some p):∀(k i:Nat),m-i<k->i<=m->(∀j,j<i->zI dn w j=false) -> Ok (qns A rW f (.yield y) (.ptr C 0) (.sl a 0 m m true) (.sl tb 0 m m true) (.int .i64 (.ofNat m)) k (.int .i64 (.ofNat i)) H) Q
 |0,i,h,_,_=>by omega
 |k+1,i,h,hi,hj=>by
  show Ok (q4b A _ _ _ _ _ _ _ (qns A _ _ _ _ _ _ _ k) _ H) Q;unfold q4b;by_cases z:i<m
  ·have J:zI dn w i=false->Ok (q39 A (qns A rW f (.yield y) (.ptr C 0) (.sl a 0 m m true) (.sl tb 0 m m true) (.int .i64 (.ofNat m)) k) (.int .i64 (.ofNat i)) H) Q:=fun I=>by
    unfold q39;simp(disch:=go_size)only[go_sem,rB,rI,rK,rL,rN,rS,r6];exact qzk P hm R S T s E F M G l pN u hI c d U k (i+1) (by omega) (by omega) fun j hj'=>by
     by_cases e:j=i
     ·simp_all
     ·exact hj j (by omega)
   have K:=qld dn i true (by omega);have N:=qld w i true (by omega);simp only[go_sem,z];unfold zfr;cases hd:dn.getD i true with
   |true=>rw[hd]at K;simp(disch:=omega)only[go_sem,seval,l,K,qg,pq];exact J (by unfold zI;rw[hd];rfl)
   |false=>
    rw[hd]at K;cases O:w.getD i true with
    |true=>rw[O]at N;simp(disch:=omega)only[go_sem,seval,l,K,u,N,qg,pq];exact J (by unfold zI;rw[hd,O];rfl)
    |false=>
     rw[O]at N;have I:zI dn w i=true:=by unfold zI;rw[hd,O];rfl
     have B:qjd dn w m=some i:=by
      cases L:qjd dn w m with
      |none=>have:=qs1 L i z;rw[I]at this;cases this
      |some p=>
       obtain⟨p1,p2,p3⟩:=qe5 L;rcases dm p i with g|g|g
       ·simp_all
       ·rw[g]
       ·simp_all
     have V:i+1<=dn.length:=by omega
     have W:(H.put a (aB 0 (bools (dn.set i true)))).get C=aB 0 [v]:=by rw[eB _ _ _ _ (Ne.symm F)];exact M.l
     have X:Gl 1 (H.put a (aB 0 (bools (dn.set i true)))) v cs.length cs:=M.gl.keep (lh _) fun b hb _=>eB _ _ _ _ (G b hb);obtain⟨b,o,e1,_,_,e2⟩:=X.at (i:=i) (x:=cs[i]'(by omega)) (by simp);have fd:Fm (fun b=>b=a) H (H.put a (aB 0 (bools (dn.set i true)))):=(Fm.refl _ _).put _ _ fun _=>rfl;have Y:Inv t D (H.put a (aB 0 (bools (dn.set i true)))):=P.ext t D D _ _ hI (fd.mono fun b _ h=>by subst h;exact⟨s,E⟩) fun b h=>Or.inl h;simp(disch:=omega)only[go_sem,seval,l,K,u,N,qg,pq,gz,uk,zbl,V,oh];rw[q1e _ _ _ (by omega)];have Z:=M.l;simp only[go_sem,W,Z,e1,e2,zn5];refine Ok.ve (P.step t i (cs[i]'(by omega)) D _ (U i B) (lL (by omega)) Y) ?_;rintro r H' ⟨rfl,yZ,f3⟩;refine d i H' B (U i B) ?_ yZ ((fd.mono fun _ _ h=>Or.inr h).trans (f3.mono fun _ _ h=>Or.inl h));rw[f3.get a pN fun h=>h s,dL]
  ·simp only[go_sem,z];have:i=m:=by omega
   subst this;cases B:qjd dn w i with
   |none=>exact c B
   |some p=>obtain⟨p1,p2,p3⟩:=qe5 B;simp_all
theorem q1f(m:Nat):List.replicate m (AV.bool false)=bools (List.replicate m false):=by simp[bools]
theorem qkr{I:Ev.Call}{y W:Nat}{a:List Nat}{Inv:Nat->(Nat->Prop)->Hp->Prop}{D:Nat->Prop}{n:Nat}{gv:AV}{A:List Edge}{v:AV}{cs:List AV}{ins:List Nat}{M J ib X d m:Nat}(K:YI I y W cs a Inv)(L:m=cs.length)(l:m<900000)(o:D d)(q:W<=d)(r:d≠M/\d≠J/\d≠ib/\d≠X)(i:∀ b,In v b->b≠d)(s:∀ b,In gv b->b≠d)(f:A.length<200000)(u:ins.length=n)(N:∀ e∈A,e.f<n/\e.t<n)(w:∀ x<n,ins.getD x 0<m){jQ B:pD}{Q:pH}(Y:∀ H,Inv a.length D H->Ok (B H) Q):∀(k c t:Nat) (dn:List Bool) (H:Hp),m-c<k->c<=m->dn.length=m->RS D H n gv A v cs ins M J ib X->H.get d=aB 0 (bools dn)->d<H.nx->Inv t D H->t<=a.length->a.drop t=jS A ins m (m-c) dn -> Ok (qrz I jQ B (.yield y) (.ptr M 0) (.ptr J 0) (.ptr ib 0) (.sl d 0 m m true) (.int .i64 (.ofNat m)) k (.int .i64 (.ofNat c)) H) Q
 |0,c,t,dn,H,h,_,_,_,_,_,_,_,_=>by omega
 |k+1,c,t,dn,H,h,hc,hdl,hR,hdb,pN,hI,ht,ho=>by
  show Ok (zfs I _ _ _ _ _ _ _ _ (qrz I _ _ _ _ _ _ _ _ k) _ H) Q;unfold zfs;by_cases G:c<m
  ·simp only[go_sem,G];unfold zfp;have e1:=hR.l;have R:=hR.gl.bS;rw[<-L]at R;have e3:=hR.g;have e4:=hR.e.len;have mk:=qd8 [.bool false] 1 H.nx m (by omega) (by omega);rw[qdi,q1f]at mk;obtain⟨l1,l2,l3,l4⟩:=hR.lt;have fH:Fm No H (aN H (aB 0 (bools (List.replicate m false)))):=(Fm.refl _ _).push _;have S:(aN H (aB 0 (bools (List.replicate m false)))).get J=aB 0 [.int .i64 (.ofNat n),gv]:=(fH.keep l2).trans e3;simp only[go_sem,e1,R,mk,S,e4];unfold zft;rw[bW];refine qy4 hR f u N w hdl hdb pN (tb:=H.nx) (lh _) (fin:=waits A ins dn (List.replicate m false)) (fun O g1 g2 g3=>?_) bL 0 (List.replicate m false) _ (by rw[bZ];omega) (gy _) (by simp) (jA _ _) fH (dC _) rfl;unfold q38;have z:Fm No H O:=g2;have g:=hR.no z;have e5:=g.l;simp only[go_sem,e5,R];unfold zfu;rw[bW];have E:Inv t D O:=K.ext t D D _ _ hI (z.mono fun _ _ h=>h.elim) fun b h=>Or.inl h;have T:m-c=(m-(c+1))+1:=by omega
   rw[T,jS]at ho;refine qzk K L l hdl (by rw[qy2];simp) o q r.1 g i ((z.keep pN).trans hdb) (lq pN z.nx) g1 E (fun C=>?_) (fun p H3 C P k1 k2 Z=>?_) (fun p C=>?_) bL 0 (by rw[bZ];omega) (gy _) fun j hj=>absurd hj (ak _)
   ·unfold q74;simp(disch:=go_size)only[go_sem,rB,rI,rK,rL,rN,rS,r6];rw[C]at ho;exact qkr K L l o q r i s f u N w Y k (c+1) t dn O (by omega) (by omega) hdl g ((z.keep pN).trans hdb) (lq pN z.nx) E ht ho
   ·unfold q74;simp(disch:=go_size)only[go_sem,rB,rI,rK,rL,rN,rS,r6];rw[C]at ho;have F:t<a.length:=(ql.1 P).1;have U:a.drop (t+1)=jS A ins m (m-(c+1)) (dn.set p true):=by
     rw[uo F]at ho;simp_all
    refine qkr K L l o q r i s f u N w Y k (c+1) (t+1) (dn.set p true) H3 (by omega) (by omega) (by rw[ul];exact hdl) (g.keep Z ?_) k1 (lq pN (rq z.nx Z.nx)) k2 F U;rintro b hb (h|h)
    ·exact h (g.rb hb)
    ·subst h;rcases hb with e|e|e|e|e|e
     ·omega
     ·omega
     ·omega
     ·omega
     ·exact i _ e rfl
     ·exact s _ e rfl
   ·rw[C]at ho;have V:(a.drop t)[0]? =some p:=by rw[ho];rfl
    rwa [ae,yw]at V
  ·simp only[go_sem,G];have:c=m:=by omega
   subst this;rw[lEM]at ho;have V:a.drop t=[]:=ho;have:a.length<=t:=List.drop_eq_nil_iff.1 V;have:t=a.length:=by omega
   simp_all
theorem zk3(G:aV C)(I:1<=k){y z:Nat}{c:List Nat}{Inv:Nat->(Nat->Prop)->Hp->Prop}{f:List Edge}{v:AV}{i l ib A:Nat}{D:Nat->Prop}(B:YI (C (k-1)) y z cs c Inv)(m:cs.length<900000)(d:RS D H n gv f v cs ins i l ib A)(o:z<=H.nx)(g:f.length<200000)(p:ins.length=n)(J:∀ e∈f,e.f<n/\e.t<n)(q:∀ x<n,ins.getD x 0<cs.length)(O:c=jS f ins cs.length cs.length (List.replicate cs.length false))(K:Inv 0 D H):Ok (C k (.f 114) [.yield y,.ptr i 0,.ptr l 0,.ptr ib 0] H) fun r H'=>r=.aX []/\∃ L,Inv c.length L H':=by
 obtain⟨j,rfl⟩:=aU I;rw[(G j).zCw];unfold zCw zzh;have E:=d.l;have M:=d.gl.bS;obtain⟨N,P,Q,R⟩:=d.lt;have F:=qd8 [.bool false] 1 H.nx cs.length (by omega) (by omega);rw[qdi,q1f]at F;have t:Fm No H (aN H (aB 0 (bools (List.replicate cs.length false)))):=(Fm.refl _ _).push _;have u:(aN H (aB 0 (bools (List.replicate cs.length false)))).get i=aB 0 [v]:=(t.keep N).trans E;simp only[go_sem,E,M,F,u];unfold zv4;rw[bW];have a:=d.no t;have w:RS (fun b=>D b\/b=H.nx) (aN H (aB 0 (bools (List.replicate cs.length false)))) n gv f v cs ins i l ib A:=
  ⟨a.l,a.g,a.i,a.w,a.gl,a.e,a.lt,Or.inl a.dl,Or.inl a.dg,Or.inl a.di,Or.inl a.dw,fun b h=>Or.inl (a.dv b h),fun b h=>Or.inl (a.de b h)⟩
 refine qkr (D:=fun b=>D b\/b=H.nx) B rfl m (Or.inr rfl) o ⟨by omega,by omega,by omega,by omega⟩ (fun b s e=>by have:=d.gl.lt s;omega) (fun b s e=>by have:=d.e.lt s;omega) g p J q (fun H' h=>Ok.ret ⟨rfl,_,h⟩) bL 0 0 (List.replicate cs.length false) _ (by rw[bZ];omega) (gy _) (by simp) w (jA _ _) (dC _) (B.ext 0 D _ _ _ K (t.mono fun _ _ h=>h.elim) fun b h=>h.imp id fun e=>⟨by omega,by rw[np];omega⟩) (gy _) ?_;trivial
def aXI(HB H:Hp)(iv:AV)(nb n l ob:Nat)(ins:List Nat)(D:Nat->Prop):Prop:=
 (n=0/\iv=.aA)\/(iv=.sl nb 0 n n true/\H.get nb=aB 0 (aI ins)/\HB.nx<=nb/\nb<l/\¬ D nb/\nb≠ob)
structure OI(LO:LP)(HB:Hp)(L:TT AV 2)(l ob nb x2 n:Nat)(iv:AV)(cs:List AV)(out:List (List Nat))(ord:List Nat)(t:Nat)(D:Nat->Prop)(H:Hp):Prop where
 fm:Fm No HB H
 dlt:∀ b,D b->b<H.nx
 lp:H.get l=LO.blk true L
 hl:HB.nx<=l/\l<H.nx/\¬ D l
 ho:HB.nx<=ob/\ob<l/\¬ D ob
 rc:H.get x2=aB 0 [.aA,.aA]/\x2<l/\¬ D x2/\x2≠ob/\x2≠nb
 ins:∃ d9:List Nat,d9.length=n/\aXI HB H iv nb n l ob d9 D/\∀(j i:Nat) (o:List Nat) (x:Nat),j<t->ord[j]? =some i->out[i]? =some o->x∈o->d9[x]? =some j
 lv:∃(lv:AV) (os:List AV),H.get ob=aB 0 [lv,iv]/\Gl 1 H lv t os/\(∀b,In lv b->l<b/\¬ D b)/\∀(j:Nat) (w:AV),os[j]? =some w->∃ i o,ord[j]? =some i/\out[i]? =some o/\Gl 1 H w o.length (aI o)/\jM w=.val (.int .i64 (.ofNat o.length))/\∀ b,In w b->HB.nx<=b/\¬ D b/\b<l/\b≠ob/\b≠nb/\b≠x2
 cs:∀(i:Nat) (c:AV) (o:List Nat),cs[i]? =some c->out[i]? =some o->Gl 1 H c o.length (aI o)/\∀ b,In c b->HB.nx<=b/\¬ D b/\b<l/\b≠ob/\b≠nb/\b≠x2
theorem OI.ext{HB:Hp}{L:TT AV 2}{l ob nb x2 n:Nat}{iv:AV}{p:List (List Nat)}{q:List Nat}{t:Nat}{D s:Nat->Prop}(h:OI LO HB L l ob nb x2 n iv cs p q t D H)(f:Fm (fun b=>D b/\HB.nx<=b) H H')(z:∀ b,s b->D b\/(H.nx<=b/\b<H'.nx)):OI LO HB L l ob nb x2 n iv cs p q t s H':=by
 obtain⟨M,v,A⟩:=h.hl;obtain⟨N,O,B⟩:=h.ho;obtain⟨x,P,C,Q⟩:=h.rc;have k:∀ b,b<H.nx->¬ D b->¬ s b:=fun b a hd u=>(z b u).elim hd fun g=>by have:=g.1;omega
 have m:∀ b,b<H.nx->¬ D b->H'.get b=H.get b:=fun b a hd=>f.get b a fun g=>hd g.1;obtain⟨R,S,T,U⟩:=h.ins;obtain⟨lv,V,W,E,y,X⟩:=h.lv;refine⟨h.fm.then f fun c G g=>absurd G (by have:=g.2;omega),fun b a=>(z b a).elim (fun g=>lq (h.dlt b g) f.nx) fun g=>g.2,(m l v A).trans h.lp,⟨M,lq v f.nx,k l v A⟩,⟨N,O,k ob (by omega) B⟩,⟨(m x2 (by omega) C).trans x,P,k x2 (by omega) C,Q⟩,⟨R,S,?_,U⟩,⟨lv,V,(m ob (by omega) B).trans W,E.keep f.nx fun b a d=>m b d (y b a).2,fun b a=>⟨(y b a).1,k b (E.lt a) (y b a).2⟩,fun j w I=>?_⟩,fun i c o J K=>?_⟩
 ·rcases T with g|⟨Y,Z,g3,g4,F,g6⟩
  ·exact Or.inl g
  ·exact Or.inr ⟨Y,(m nb (by omega) F).trans Z,g3,g4,k nb (by omega) F,g6⟩
 ·obtain⟨i,o,a1,a2,r,a4,e⟩:=X j w I;exact⟨i,o,a1,a2,r.keep f.nx fun b a d=>m b d (e b a).2.1,a4,fun b a=>⟨(e b a).1,k b (r.lt a) (e b a).2.1,(e b a).2.2⟩⟩
 ·obtain⟨r,e⟩:=h.cs i c o J K;exact⟨r.keep f.nx fun b a d=>m b d (e b a).2.1,fun b a=>⟨(e b a).1,k b (r.lt a) (e b a).2.1,(e b a).2.2⟩⟩
theorem q0e{O:Ev.Call}{c lv:AV}{o:List Nat}{ob nb n t:Nat}{H1:Hp}(i:Gl 1 H1 c o.length (aI o))(d:∀ b,In c b->b≠nb)(l:o.length<900000)(p:∀ x∈o,x<n)(r:H1.get ob=aB 0 [lv,.sl nb 0 n n true])(e:ob≠nb)(f:ob<H1.nx)(g:aF lv=.val (.int .i64 (.ofNat t))){q:pD}{Q:pH}{fin:List Nat}(s:∀ H,H.get nb=aB 0 (aI fin)->Fm (fun b=>b=nb) H1 H->Ok (q H) Q):∀(k j:Nat) (ins:List Nat) (H:Hp),o.length-j<k->j<=o.length->ins.length=n->H.get nb=aB 0 (aI ins)->Fm (fun b=>b=nb) H1 H->fill ins (o.drop j) t=fin -> Ok (qj9 O q (.ptr ob 0) c (.int .i64 (.ofNat o.length)) k (.int .i64 (.ofNat j)) H) Q
 |0,j,ins,H,h,_,_,_,_,_=>by omega
 |k+1,j,ins,H,h,hj,hl,hg,hF,hf=>by
  show Ok (q4w O _ _ _ _ (qj9 O _ _ _ _ k) _ H) Q;unfold q4w;by_cases a:j<o.length
  ·obtain⟨b,B,u,z,v⟩:=i.rl.at' j (by rw[lV];exact a);rw[qid]at v;have w:H.get b=H1.get b:=hF.get b z (d b (i.zG a u));have y:H.get ob=aB 0 [lv,.sl nb 0 n n true]:=(hF.get ob f e).trans r;have A:o[j]<n:=p _ (lg _);have m:o[j]+1<=ins.length:=by omega
   simp only[go_sem,a];unfold q4t;simp(disch:=omega)only[go_sem,seval,u,w,v,y,g,hg,qg,pq,gz,uk,lV,m,oh];unfold q4u;simp(disch:=go_size)only[go_sem,rB,rI,rK,rL,rN,rS,r6];have hd:o.drop j=o[j]::o.drop (j+1):=uo a;rw[qjj _ _ _ (by omega)];refine q0e i d l p r e f g s k (j+1) (ins.set o[j] t) _ (by omega) (by omega) (by rw[ul];exact hl) (dL _ _ _) (hF.put _ _ fun _=>rfl) ?_;rw[hd]at hf;exact hf
  ·simp only[go_sem,a];have:j=o.length:=by omega
   subst this;rw[lEE]at hf;subst hf;exact s H hg hF
theorem z4k(hC:aV C)(hR:oZ LA LO C)(hk:2<=k){HB:Hp}{L:TT AV 2}{l ob nb x2 n:Nat}(hG:G L 5=.ptr ob 0){iv:AV}{f:List (List Nat)}{u:List Nat}{t i:Nat}{c:AV}{D:Nat->Prop}(p:OI LO HB L l ob nb x2 n iv cs f u t D H)(ht:u[t]? =some i)(Z:cs[i]? =some c)(hlen:cs.length=f.length)(hn:n<=256)(ht2:t<900)(v:∀ o∈f,o≠[]/\o.length<=256/\∀ x∈o,x<n)(hnd:∀(q:Nat) (s o:List Nat) (x:Nat),f[q]? =some s->f[i]? =some o->x∈o->x∈s->q=i)(M:∀ j,j<t->u[j]? ≠ some i):Ok (C k (.y l) [c] H) fun r H'=>r=.bool true/\OI LO HB L l ob nb x2 n iv cs f u (t+1) D H'/\Fm (fun b=>¬ D b) H H':=by
 obtain⟨k,rfl⟩:∃ j,k=j+1:=⟨k-1,by omega⟩;rw[(hR k).tV L l c H p.lp,hG];unfold tV;obtain⟨l1,l2,l3⟩:=p.hl;obtain⟨o1,o2,o3⟩:=p.ho;have hic:i<cs.length:=(ql.1 Z).1;obtain⟨o,P⟩:∃ o,f[i]? =some o:=⟨f[i]'(by omega),by simp⟩;obtain⟨g1,Q⟩:=p.cs i c o Z P;obtain⟨q1,q2,q3⟩:=v o (uB P);obtain⟨x1',x3,x4,x5⟩:=p.rc;obtain⟨K,i1,i2,i3⟩:=p.ins;obtain⟨lv,R,v1,X,v3,v4⟩:=p.lv;have hn0:¬ n=0:=fun e=>by
  cases o with
  |nil=>exact q1 rfl
  |cons x o=>have:=q3 x qy;omega
 rcases i2 with⟨e,_⟩|⟨rfl,b1,b2,b3,b4,b5⟩
 ·exact absurd e hn0
 have hl':=g1.bS;simp only[go_sem,seval,hl'];unfold q4x;rw[bW];generalize F:H.put l (LO.blk false L)=H1;have n1:H1.nx=H.nx:=by rw[<-F];rfl
 have V:Fm (fun b=>b=l) H H1:=by rw[<-F];exact(Fm.refl _ _).put _ _ fun _=>rfl
 have gl1:H1.get l=LO.blk false L:=by rw[<-F,dL]
 have N:H1.get ob=aB 0 [lv,.sl nb 0 n n true]:=(V.get ob (by omega) (by omega)).trans v1;have gn1:H1.get nb=aB 0 (aI K):=(V.get nb (by omega) (by omega)).trans b1;refine q0e (H1:=H1) (g1.fm V fun b a=>by have:=(Q b a).2.2.1;omega) (fun b a=>(Q b a).2.2.2.2.1) (by omega) q3 N (Ne.symm b5) (by omega) X.bS (fin:=fill K o t) (fun d k1 k2=>?_) bL 0 K H1 (by rw[bZ];omega) (gy _) i1 gn1 (Fm.refl _ _) rfl;unfold qhx;have n2:=k2.nx;have f2:Fm (fun b=>b=l\/b=nb) H d:=(V.mono fun _ _ h=>Or.inl h).trans (k2.mono fun _ _ h=>Or.inr h);have O:d.get ob=aB 0 [lv,.sl nb 0 n n true]:=(k2.get ob (by omega) (by omega)).trans N;have gl2:d.get l=LO.blk false L:=(k2.get l (by omega) (by omega)).trans gl1;have gc2:Gl 1 d c o.length (aI o):=g1.fm f2 fun b a=>by have:=(Q b a).2.2;omega
 obtain⟨w,w1,w2,w3,w4⟩:=qx9 hC (k:=k) (by omega) (H:=⟨d.t,d.nx+8⟩) (gc2.no ((Fm.refl _ _).up 8));have aY6:oQ 64 lv lv=true:=qck X.flat 63;have hol:0<o.length:=lA5.2 q1;rcases w2.is with⟨_,h0⟩|⟨wb,wo,we,wq,wL,rfl,_⟩
 ·omega
 simp only[go_sem,seval,O,w1,aY6];have J:Fm No d (Hp.put ⟨d.t,d.nx+8⟩ (d.nx+4) (aB 0 [.sl wb wo o.length o.length we])):=by(repeat(first|exact Fm.refl _ _|assumption|refine Fm.push ?_ _|refine Fm.fC ?_ (by go_size)|refine Fm.aD ?_ _ _ (by go_size)))
 have v22:Gl 1 d lv t R:=X.fm f2 fun b a=>by have:=(v3 b a).1;omega
 obtain⟨z,e,gl',_,S,nx'⟩:=(v22.no J).append (k:=1) (w:=24) (x:=[.sl wb wo o.length o.length we]) (by omega) rfl (by omega) (by omega);refine Ok.xW e ?_;have nx3:z.nx=d.nx+8+1:=nx';have E:∀ b,In lv b->l<b:=fun b a=>(v3 b a).1;have go3:z.get ob=aB 0 [lv,.sl nb 0 n n true]:=(S.get ob (by omega) fun a=>by have:=E _ a;omega).trans ((J.keep (by omega)).trans O);have gl3:z.get l=LO.blk false L:=(S.get l (by omega) fun a=>by have:=E _ a;omega).trans ((J.keep (by omega)).trans gl2);simp only[go_sem,seval,go3,gz,uk];have es:aY [lv,.sl nb 0 n n true] 0 [.sl (d.nx+8) 0 (t+1) (t+1) false]=[.sl (d.nx+8) 0 (t+1) (t+1) false,.sl nb 0 n n true]:=rfl;rw[es];have gl4:(z.put ob (aB 0 [.sl (d.nx+8) 0 (t+1) (t+1) false,.sl nb 0 n n true])).get l=LO.blk false L:=by rw[eB _ _ _ _ (by omega)];exact gl3
 rw[znb gl4];have f3:Fm (fun b=>b=l\/b=nb\/In lv b) H z:=(((f2.mono fun _ _ h=>h.imp id Or.inl).trans (J.mono fun _ _ h=>h.elim)).trans (S.mono fun _ _ h=>Or.inr (Or.inr h)));have W:Fm (fun b=>b=l\/b=nb\/b=ob\/In lv b) H ((z.put ob (aB 0 [.sl (d.nx+8) 0 (t+1) (t+1) false,.sl nb 0 n n true])).put l (LO.blk true L)):=
  ((f3.mono (T:=fun b=>b=l\/b=nb\/b=ob\/In lv b) fun _ _ h=>h.imp id (Or.imp id Or.inr)).put ob _ fun _=>Or.inr (Or.inr (Or.inl rfl))).put l _ fun _=>Or.inl rfl
 have n4:((z.put ob (aB 0 [.sl (d.nx+8) 0 (t+1) (t+1) false,.sl nb 0 n n true])).put l (LO.blk true L)).nx=d.nx+9:=nx3;have old:∀{x:AV} {m:Nat} {y:List AV},Gl 1 H x m y->(∀b,In x b->b<l/\b≠ob/\b≠nb/\b≠x2)->Gl 1 ((z.put ob (aB 0 [.sl (d.nx+8) 0 (t+1) (t+1) false,.sl nb 0 n n true])).put l (LO.blk true L)) x m y:=fun{x m y} hx a=>hx.fm W fun b hb'=>by
  have:=a b hb';rintro (h|h|h|h)
  ·omega
  ·omega
  ·omega
  ·have:=E _ h;omega
 refine Ok.ret ⟨rfl,⟨p.fm.then W fun c Z h=>?_,fun b a=>lq (p.dlt b a) (by omega),dL _ _ _,⟨l1,by omega,l3⟩,⟨o1,o2,o3⟩,⟨?_,x3,x4,x5⟩,⟨fill K o t,by rw[qfp];exact i1,Or.inr ⟨rfl,?_,b2,b3,b4,b5⟩,fun j q s x A I B U=>?_⟩,⟨.sl (d.nx+8) 0 (t+1) (t+1) false,R++[.sl wb wo o.length o.length we],?_,?_,?_,fun j w A=>?_⟩,fun q c' s I B=>?_⟩,W.mono fun b _ h=>?_⟩
 ·rcases h with h|h|h|h
  ·omega
  ·omega
  ·omega
  ·have:=E _ h;omega
 ·rw[W.get x2 (by omega) ?_]
  ·exact x1'
  ·rintro (h|h|h|h)
   ·omega
   ·omega
   ·omega
   ·have:=E _ h;omega
 ·rw[eB _ _ _ _ (by omega),eB _ _ _ _ b5,S.get nb (by omega) fun a=>by have:=E _ a;omega];exact(J.keep (by omega)).trans k1
 ·have hx:x<K.length:=by
   rw[i1];exact(v s (uB B)).2.2 x U
  rw[qm6 t o K x hx];rcases xe j t with g|g
  ·have h4:=i3 j q s x g I B U;rw[lu fun hxo=>?_,h4];have:q=i:=hnd q s o x B P hxo U;subst this;exact M j g I
  ·have:j=t:=by omega
   subst this;rw[ht]at I;cases I;rw[P]at B;cases B;rw[kz U]
 ·rw[eB _ _ _ _ (by omega),dL]
 ·refine gl'.keep (lh _) fun b a _=>?_;obtain⟨_,_,_,_,h⟩:=a;cases h;rw[eB _ _ _ _ (by omega),eB _ _ _ _ (by omega)]
 ·rintro b ⟨_,_,_,_,h⟩;have a:b=d.nx+8:=by cases h;rfl
  subst a;exact⟨by omega,fun h=>by have:=p.dlt _ h;omega⟩
 ·rcases xe j R.length with g|g
  ·rw[qx g]at A;obtain⟨q,s,a1,Y,a3,a4,a5⟩:=v4 j w A;exact⟨q,s,a1,Y,old a3 fun b a=>(a5 b a).2.2,a4,a5⟩
  ·rw[ug g]at A;have h0:j-R.length=0:=by
    have:=(ql.1 A).1;simpa using this
   rw[h0]at A;cases A;have hos:R.length=t:=by have:=X.len;omega
   have hjt:j=t:=by omega
   subst hjt;refine⟨i,o,ht,P,?_,w3,fun b a=>Q b (w4 b a)⟩;refine w2.keep (by show d.nx+8<=_;omega) fun b a _=>?_;obtain⟨_,_,b6,b7,b8⟩:=Q b (w4 b a);rw[eB _ _ _ _ (by omega),eB _ _ _ _ b7,S.get b (by omega) fun a=>by have:=E _ a;omega];exact J.keep (by omega)
 ·obtain⟨a1,Y⟩:=p.cs q c' s I B;exact⟨old a1 fun b a=>(Y b a).2.2,Y⟩
 ·rcases h with rfl|rfl|rfl|h
  ·exact l3
  ·exact b4
  ·exact o3
  ·exact(v3 b h).2
theorem iH.eqG{v:AV}{a:List Edge}(h:iH H v a)(n:Int):Ev.oQ 64 (.agg [.int .i64 n,v]) (.agg [.int .i64 n,v])=true:=
 qk6 [.int .i64 n,v] (by unfold Tr;rw[lEG,lEG,h.flat];rfl)
theorem zo1(a:aV C)(c:1<=k){v:AV}(h:Gl 1 H v n l):∃w,C k (.f 77) [v] H=.ok w H/\Gl 1 H w n l/\jM w=.val (.int .i64 (.ofNat n))/\(∀b,In w b->In v b):=by obtain⟨j,rfl⟩:=aU c;obtain⟨w,e,d,f,g⟩:=h.clip;refine⟨w,?_,d,f,g⟩;rw[(a j).zCg];unfold zCg zzt;simp only[go_sem,h.bS,e]
theorem qmy{c:List Edge}{ins:List Nat}{m:Nat}:∀(k:Nat) (dn:List Bool) (i:Nat),i∈jS c ins m k dn->i<m/\dn.getD i true=false
 |0,_,_,h=>by cases h
 |k+1,dn,i,h=>by
  rw[jS]at h;cases b:qjd dn (waits c ins dn (List.replicate m false)) m with
  |none=>rw[b]at h;exact qmy k dn i h
  |some p=>
   rw[b]at h;obtain⟨p1,f,_⟩:=qe5 b;rcases qm.1 h with rfl|h
   ·refine⟨p1,?_⟩;unfold zI at f;simp_all
   ·obtain⟨g,a⟩:=qmy k _ i h;refine⟨g,?_⟩;rw[kw,lAK]at a;by_cases e:p=i
    ·subst e;by_cases d:p<dn.length
     ·simp[d]at a
     ·simp[d]at a
    ·simp_all
theorem qks{a:List Edge}{ins:List Nat}{m:Nat}:∀(k:Nat) (dn:List Bool),dn.length=m->(jS a ins m k dn).Nodup
 |0,_,_=>List.nodup_nil
 |k+1,dn,hd=>by
  rw[jS];cases b:qjd dn (waits a ins dn (List.replicate m false)) m with
  |none=>exact qks k dn hd
  |some p=>obtain⟨p1,c,_⟩:=qe5 b;refine lAY.2 ⟨fun h=>?_,qks k _ (by rw[ul];exact hd)⟩;have:=(qmy k _ p h).2;simp_all
structure CR(HB H:Hp)(n:Nat)(lv iv:AV)(os:List AV)(res:List (List Nat))(ins:List Nat):Prop where
 gl:Gl 1 H lv os.length os
 cap:jM lv=.val (.int .i64 (.ofNat os.length))
 len:os.length=res.length
 at':∀(j:Nat) (w:AV) (o:List Nat),os[j]? =some w->res[j]? =some o->Gl 1 H w o.length (aI o)/\jM w=.val (.int .i64 (.ofNat o.length))/\∀ b,In w b->HB.nx<=b
 gi:Gl 1 H iv n (aI ins)
 aZf:jM iv=.val (.int .i64 (.ofNat n))
 ins:∀(j:Nat) (o:List Nat) (x:Nat),res[j]? =some o->x∈o->ins[x]? =some j
 new:∀ b,In lv b\/In iv b->HB.nx<=b
structure qlf(n:Nat)(es:List Edge)(out:List (List Nat))(ins:List Nat)(res:List (List Nat)):Prop where
 parts:qdv n (iB es) out
 asc:out.Pairwise fun a b=>a.headD 0<b.headD 0
 il:ins.length=n
 ix:∀(i:Nat) (o:List Nat) (x:Nat),out[i]? =some o->x∈o->ins[x]? =some i
 res:res=(jS es ins out.length out.length (List.replicate out.length false)).map fun i=>out.getD i []
theorem qdv.perm{b a:List (List Nat)}(h:qdv n aR b)(p:a.Perm b):qdv n aR a:=
 ⟨fun c d=>h.scc c (p.mem_iff.1 d),p.flatten.nodup_iff.2 h.nd,fun x=>p.flatten.mem_iff.trans (h.all x)⟩
theorem zai:∀(c:List (List Nat)) (i j:Nat) (a b:List Nat) (x:Nat),c.flatten.Nodup->c[i]? =some a->c[j]? =some b->x∈a->x∈b->i=j
 | [],_,_,_,_,_,_,h,_,_,_=>by simp at h
 |o::r,0,0,_,_,_,_,_,_,_,_=>rfl
 |o::r,0,j+1,a,b,x,hn,h1,h2,h3,h4=>by rw[bz,yh]at hn;simp at h1;subst h1;exact absurd rfl (hn.2.2 x h3 x (ny.2 ⟨b,uB (by simpa using h2),h4⟩))
 |o::r,i+1,0,a,b,x,hn,h1,h2,h3,h4=>by rw[bz,yh]at hn;simp at h2;subst h2;exact absurd rfl (hn.2.2 x h4 x (ny.2 ⟨a,uB (by simpa using h1),h3⟩))
 |o::r,i+1,j+1,a,b,x,hn,h1,h2,h3,h4=>by rw[bz,yh]at hn;rw[zai r i j a b x hn.2.1 (by simpa using h1) (by simpa using h2) h3 h4]
theorem qdv.sizes{a:List (List Nat)}(h:qdv n aR a)(l:n<=256):a.length<=256/\∀ o∈a,o≠[]/\o.length<=256/\∀ x∈o,x<n:=by
 have k:a.flatten.length<=n:=by have:=h.nd.length_le_of_subset (l₂:=List.range n) fun x f=>xu.2 ((h.all x).1 f);simp_all
 have d:∀ o∈a,o≠[]:=fun o b e=>by obtain⟨_,r,i,_⟩:=h.scc o b;rw[e]at i;cases i
 have g:∀(o:List (List Nat)),(∀c∈o,c≠[])->o.length<=o.flatten.length:=fun o=>by
  induction o with
  |nil=>intro _;exact lh _
  |cons c o ih=>intro h;have m:=ih fun c j=>h c (uu _ j);have p:0<c.length:=lA5.2 (h c qy);rw[bz,ku,gz];omega
 have:=g a d;refine⟨by omega,fun o b=>⟨d o b,?_,fun x f=>(h.all x).1 (ny.2 ⟨o,b,f⟩)⟩⟩;have:o.length<=a.flatten.length:=(List.sublist_flatten_of_mem b).length_le;omega
theorem zvg(hC:aV C)(hR:oZ LA LO C)(hj:10<=j){HB:Hp}{F:List Edge}(hE:∀ e∈F,e.f<n/\e.t<n)(hn:n<=256)(hlen:F.length<200000){gv v:AV}(hg:iH HB gv F){a:List (List Nat)}{u z ib M ob x2 nb:Nat}{iv:AV}{L:TT AV 2}(hg5:G L 5=.ptr ob 0)(hg2:G L 2=.ptr x2 0)(Q:aHe H0 H n gv v cs a ins u z ib M)(l:qlf n F a ins ((jS F ins a.length a.length (List.replicate a.length false)).map fun i=>a.getD i []))(p:H0.nx<=u/\H0.nx<=z/\H0.nx<=ib/\H0.nx<=M)(I:∀(i:Nat) (c:AV) (b:Nat),cs[i]? =some c->In c b->b≠u/\b≠z/\b≠ib/\b≠M)(Z:Fm No HB H)(rX:HB.nx<=ob/\ob<H0.nx)(J:HB.nx<=x2/\x2<H0.nx/\x2≠ob)(hgo:H.get ob=aB 0 [.aA,iv])(hgx:H.get x2=aB 0 [.aA,.aA])(K:(n=0/\iv=.aA/\nb=ob)\/(0<n/\iv=.sl nb 0 n n true/\H.get nb=aB 0 (aI (List.replicate n 0))/\HB.nx<=nb/\nb<H0.nx/\nb≠ob/\nb≠x2))(h0:H0.nx<=H.nx):Ok (zq6 LO (C j) L (.fn 114 [] [.ptr u 0,.ptr z 0,.ptr ib 0]) H) fun r H'=>∃ lv iv os d9,r=.aX [.agg [lv,iv],.int .i64 (.ofNat 0)] /\ CR HB H' n lv iv os ((jS F ins a.length a.length (List.replicate a.length false)).map fun i=>a.getD i []) d9/\Fm No HB H':=by
 unfold zq6;have U:=Q.ls;have aFv:=U.len;obtain⟨l1,l2,l3,l4⟩:=Q.lt;obtain⟨z1,z2⟩:=l.parts.sizes hn;have hnd:=l.parts.nd;generalize zQ:jS F ins a.length a.length (List.replicate a.length false)=ord;have hom:∀ i∈ord,i<a.length:=fun i R=>(qmy _ _ i (by rw[zQ];exact R)).1;have hon:ord.Nodup:=by rw[<-zQ];exact qks _ _ (by simp)
 have hol:ord.length<=a.length:=by have:=hon.length_le_of_subset (l₂:=List.range a.length) fun x hx=>xu.2 (hom x hx);rwa [lE4]at this
 have hgl:=Q.ls.gl;have hgH:iH H gv F:=hg.fm Z;have aFo:∀ b,In gv b->b<HB.nx:=fun b d=>hg.lt d;have aFE:∀ b,In v b->H0.nx<=b/\b<H.nx:=fun b d=>⟨U.new b d,hgl.lt d⟩;have A:Fm No H (aN H (LO.blk true L)):=(Fm.refl _ _).push _;have hRS:RS (RB gv v u z ib M) (aN H (LO.blk true L)) n gv F v cs ins u z ib M:=by refine⟨(A.keep l1).trans Q.l,(A.keep l2).trans Q.g,(A.keep l3).trans Q.i,(A.keep l4).trans Q.w,hgl.no A,hgH.fm A,⟨by rw[np];omega,by rw[np];omega,by rw[np];omega,by rw[np];omega⟩,Or.inl rfl,Or.inr (Or.inl rfl),Or.inr (Or.inr (Or.inl rfl)),Or.inr (Or.inr (Or.inr (Or.inl rfl))),fun b h=>Or.inr (Or.inr (Or.inr (Or.inr (Or.inl h)))),fun b h=>Or.inr (Or.inr (Or.inr (Or.inr (Or.inr h))))⟩
 have V:∀ b,RB gv v u z ib M b->b<H.nx/\(b<HB.nx\/H0.nx<=b):=fun b d=>by
  rcases d with rfl|rfl|rfl|rfl|h|h
  ·exact⟨l1,Or.inr p.1⟩
  ·exact⟨l2,Or.inr p.2.1⟩
  ·exact⟨l3,Or.inr p.2.2.1⟩
  ·exact⟨l4,Or.inr p.2.2.2⟩
  ·exact⟨(aFE b h).2,Or.inr (aFE b h).1⟩
  ·have:=aFo b h;exact⟨by omega,Or.inl this⟩
 have B:∀ b,HB.nx<=b->b<H0.nx->¬ RB gv v u z ib M b:=fun b g s h=>by have:=(V b h).2;omega
 have hI0:OI LO HB L H.nx ob nb x2 n iv cs a ord 0 (RB gv v u z ib M) (aN H (LO.blk true L)):=by
  refine⟨Z.trans A,fun b d=>by have:=(V b d).1;rw[np];omega,jA _ _,⟨Z.nx,dC _,fun h=>by have:=(V _ h).1;omega⟩,⟨rX.1,by omega,B ob rX.1 rX.2⟩,⟨(A.keep (by omega)).trans hgx,by omega,B x2 J.1 J.2.1,J.2.2,?_⟩,⟨List.replicate n 0,by simp,?_,fun j i o x hj=>absurd hj (ak _)⟩,⟨.aA,[],(A.keep (by omega)).trans hgo,Gl.nil _ _,fun b d=>(by obtain⟨_,_,_,_,h⟩:=d;cases h),fun j w h=>(by simp at h)⟩,fun i c o g s=>?_⟩
  ·rcases K with⟨_,_,e⟩|⟨_,_,_,_,_,_,a6⟩
   ·rw[e];exact J.2.2
   ·exact Ne.symm a6
  ·rcases K with⟨a1,a2,_⟩|⟨_,a1,a2,a3,a4,a5,a6⟩
   ·exact Or.inl ⟨a1,a2⟩
   ·exact Or.inr ⟨a1,(A.keep (by omega)).trans a2,a3,by omega,B nb a3 a4,a5⟩
  ·obtain⟨c1,c2,c3⟩:=U.at' i c o g s;refine⟨c2.no A,fun b d=>?_⟩;obtain⟨d1,d2⟩:=c3 b d;have d3:=c2.lt d;have hh:=Z.nx;refine⟨by omega,?_,d3,by omega,?_⟩
   ·rintro (e|e|e|e|e|e)
    ·exact(I i c b g d).1 e
    ·exact(I i c b g d).2.1 e
    ·exact(I i c b g d).2.2.1 e
    ·exact(I i c b g d).2.2.2 e
    ·exact d2 e
    ·have:=aFo b e;omega
   ·rcases K with⟨_,_,e⟩|⟨_,_,_,_,a4,_,_⟩
    ·exact⟨by omega,by omega⟩
    ·exact⟨by omega,by omega⟩
 have hY:YI (C (j-1)) H.nx HB.nx cs ord (OI LO HB L H.nx ob nb x2 n iv cs a ord):=by refine⟨fun t D D' H1 H2 h f hD=>h.ext f hD,fun t i c D H1 g s h=>?_⟩;have hit:t<ord.length:=(ql.1 g).1;refine z4k hC hR (by omega) hg5 h g s aFv hn (by omega) z2 (fun i' N o x e1 e2 e3 e4=>zai a i' i N o x hnd e1 e2 e4 e3) fun j' hj' e=>?_;have:=(List.getElem?_inj (by omega) hon).1 (e.trans g.symm);omega
 have hin:∀ x<n,ins.getD x 0<cs.length:=fun x hx=>by obtain⟨o,X,hxo⟩:=ny.1 ((l.parts.all x).2 hx);obtain⟨i,R⟩:=lAI.1 X;have g:=l.ix i o x R hxo;rw[kw,g];have:=(ql.1 R).1;show i<cs.length;omega
 have O:qjo (C j) (.fn 114 [] [.ptr u 0,.ptr z 0,.ptr ib 0]) [.yield H.nx] (aN H (LO.blk true L))=C j (.f 114) [.yield H.nx,.ptr u 0,.ptr z 0,.ptr ib 0] (aN H (LO.blk true L)):=rfl;refine Ok.aFN (zk3 hC (k:=j) (by omega) hY (by omega) hRS (by rw[np];have:=Z.nx;omega) hlen l.il hE hin (by rw[aFv,zQ]) hI0) ?_;rintro r H1 ⟨rfl,D',hI⟩;rw[z6a hI.lp,hg5,hg2];unfold q4v;obtain⟨d9,i1,i2,i3⟩:=hI.ins;obtain⟨lv,os,v1,v2,v3,v4⟩:=hI.lv;obtain⟨k1,k2,k3⟩:=hI.hl;obtain⟨x1',x3,x4,x5,x6⟩:=hI.rc;have fd:Fm (fun b=>b=H.nx) H1 (H1.put H.nx .dead):=(Fm.refl _ _).put _ _ fun _=>rfl;have go:(H1.put H.nx .dead).get ob=aB 0 [lv,iv]:=(fd.get ob (by omega) (by omega)).trans v1;have gx:(H1.put H.nx .dead).get x2=aB 0 [.aA,.aA]:=(fd.get x2 (by omega) (by omega)).trans x1';have gv2:Gl 1 (H1.put H.nx .dead) lv ord.length os:=v2.fm fd fun b d=>by have:=(v3 b d).1;omega
 obtain⟨w,w1,w2,w3,w4⟩:=zo1 hC (k:=j) (by omega) gv2;have W:os.length=ord.length:=by have:=v2.len;omega
 generalize hH2:H1.put H.nx .dead=H2 at *;have n2:H2.nx=H1.nx:=by rw[<-hH2];rfl
 have wsl:(w=.aA)\/∃ b o n m e,w=.sl b o n m e:=by
  rcases w2.is with⟨h,_⟩|⟨b,o,e,q,L,h,_⟩
  ·exact Or.inl h
  ·exact Or.inr ⟨_,_,_,_,_,h⟩
 have run:∃ H3,(vq (aQ 0 (.ptr ob 0)) H2 fun a3 H=>vq (aO H a3) H fun a4 H=>ve (C j (.f 77) [a4] H) fun a5 H=>vq (aQ 0 (.ptr ob 0)) H fun a6 H=>ve (jX H a6 a5) fun _ H=>vq (dQ 2 H (.ptr ob 0)) H fun a8 H=>ve (zJ 2 H (.ptr x2 0) a8) fun _ H=>
   fM (kW (kP (rV (dQ 2 H (.ptr x2 0))) (kP (some (.int .i64 (.ofNat 0))) (some [])))) H)=.ok (.aX [.agg [w,iv],.int .i64 (.ofNat 0)]) H3/\Fm (fun b=>b=ob\/b=x2) H2 H3:=by
  have P:∀ B1 B2,Fm (fun b=>b=ob\/b=x2) H2 ((H2.put ob B1).put x2 B2):=fun B1 B2=>((Fm.refl _ _).put _ _ fun _=>Or.inl rfl).put _ _ fun _=>Or.inr rfl;have es2:∀ x:AV,aY [lv,iv] 0 [x]=[x,iv]:=fun _=>rfl;have es3:∀ x:AV,aY [AV.aA,AV.aA] 0 [x,iv]=[x,iv]:=fun _=>rfl;have es4:∀ x:AV,List.take 2 [x,iv]=[x,iv]:=fun _=>rfl;rcases wsl with rfl|⟨b,o,n,m,e,rfl⟩
  ·simp(disch:=omega)only[go_sem,seval,go,w1,gx,es2,es3,es4,gz,uk,lh,oh,lAA];exact⟨_,rfl,P _ _⟩
  ·simp(disch:=omega)only[go_sem,seval,go,w1,gx,es2,es3,es4,gz,uk,lh,oh,lAA];exact⟨_,rfl,P _ _⟩
 obtain⟨H3,e3,P⟩:=run;rw[e3];have n3:=P.nx;have old:∀{x:AV} {m:Nat} {y:List AV},Gl 1 H1 x m y->(∀b,In x b->b≠H.nx/\b≠ob/\b≠x2)->Gl 1 H3 x m y:=fun{x m y} hx d=>(hx.fm fd fun b S=>(d b S).1).fm P fun b S=>by
  have:=d b S;rintro (h|h)
  ·exact this.2.1 h
  ·exact this.2.2 h
 refine Ok.ret ⟨w,iv,os,d9,rfl,⟨?_,?_,?_,fun j' w' N g s=>?_,?_,?_,fun j' N x g s=>?_,fun b d=>?_⟩,?_⟩
 ·-- the list
  have h5:Gl 1 H3 w ord.length os:=w2.fm P fun b d h=>by
   have h6:=(v3 b (w4 b d)).1;rcases h with h|h
   ·omega
   ·omega
  rw[W];exact h5
 ·rw[W];exact w3
 ·rw[W,pz]
 ·obtain⟨i,o,a1,a2,a3,a4,a5⟩:=v4 j' w' g;rw[xw,a1]at s;have s:a.getD i []=N:=Option.some.inj s;rw[kw,a2]at s;have s:o=N:=s;subst s;exact⟨old a3 fun b d=>by have:=a5 b d;exact⟨by omega,by omega,by omega⟩,a4,fun b d=>(a5 b d).1⟩
 ·rcases i2 with⟨E,Y⟩|⟨E,Y,b3,b4,b5,b6⟩
  ·have:d9=[]:=tq.1 (by omega);rw[E,Y,this];exact Gl.nil _ _
  ·rcases K with⟨_,h,_⟩|⟨_,_,_,_,_,_,a6⟩
   ·rw[E]at h;cases h
   ·rw[E];have g3:H3.get nb=aB 0 (aI d9):=(P.get nb (by omega) (by rintro (h|h);exact b6 h;exact a6 h)).trans ((fd.get nb (by omega) (by omega)).trans Y);exact⟨by rw[lV,i1,qg],.inr ⟨nb,0,true,0,_,rfl,g3,gy _,lAA,Or.inl rfl,by omega⟩⟩
 ·rcases i2 with⟨E,Y⟩|⟨E,_⟩
  ·rw[E,Y];rfl
  ·rw[E];rfl
 ·rw[xw]at g;cases X:ord[j']? with
  |none=>rw[X]at g;cases g
  |some i=>rw[X]at g;have g:a.getD i []=N:=Option.some.inj g;have R:i<a.length:=hom i (uB X);rw[kw,lL R]at g;have g:a[i]=N:=g;exact i3 j' i N x (ql.1 X).1 X (by rw[lL R,g]) s
 ·have hh:=Z.nx;rcases d with d|d
  ·have:=(v3 b (w4 b d)).1;omega
  ·rcases i2 with⟨_,Y⟩|⟨E,_,b3,_⟩
   ·rw[Y]at d;obtain⟨_,_,_,_,h⟩:=d;cases h
   ·rw[E]at d;obtain⟨_,_,_,_,h⟩:=d;cases h;exact b3
 ·refine hI.fm.then ((fd.mono (T:=fun b=>b=H.nx\/b=ob\/b=x2) fun _ _ h=>Or.inl h).trans (P.mono fun _ _ h=>Or.inr h)) fun c hc h=>?_;omega
end Go.Di
end
