/-
 For TablesOf: functions in direct style, their contracts, and the plain mathematics, part 8 of 10. No conditions beyond those that each theorem states.
-/
import Derived.Test.YtlanjbacddlobaaGreatConA
import Derived.Test.YtlanjbacddlobaaGreatConG
import Derived.Test.YtlanjbacddlobaaGreatConF
set_option linter.unusedSimpArgs false
set_option linter.unusedVariables false
open Nat renaming reduceAdd->rB,reduceMul->rI,reduceSub->rK,reduceLeDiff->rL,reduceEqDiff->rN,reduceShiftRight->rS,reduceAnd->r8
section
namespace Go.Di
open Go.Ev Go.Di.T Go.Sort
variable {i n:Nat} {ins ms o:List Nat}
def y7(e:Edge):Nat:=if e.s then 1 else 0
def Fit(n:Nat)(es:List Edge)(o:List Nat):Prop:=o.length=n/\∀ e∈es,o.getD e.t 0+y7 e<=o.getD e.f 0
def Lst(n:Nat)(es:List Edge)(o:List Nat):Prop:=∀ S,Fit n es S->∀ x,x<n->o.getD x 0<=S.getD x 0
theorem zyz{es:List Edge}{o c:List Nat}(h:Fit n es o)(l:Lst n es o)(d:Fit n es c)(f:Lst n es c):o=c:=by
 apply lXX (h.1.trans d.1.symm);intro i g j;have e:i<n:=by have:=h.1;omega
 have a:=l c d i e;have b:=f o h i e;rw[lES,lES,gp g,gp j]at a b;have a:o[i]<=c[i]:=a;have b:c[i]<=o[i]:=b;omega
theorem xdw{es:List Edge}{S:List Nat}(h:Fit n es S){a b:Nat}(c:Rc (jO es) a b):S.getD b 0<=S.getD a 0:=by
 induction c with
 |refl=>exact lEO _
 |step _ hst ih=>obtain⟨x,d,rfl,rfl⟩:=qdx.1 hst;have:=h.2 x d;omega
structure uH(n:Nat)(es:List Edge)(ins:List Nat)(i:Nat)(o:List Nat):Prop where
 len:o.length=n
 zero:∀ x,x<n->i<=ins.getD x 0->o.getD x 0=0
 up:∀ e∈es,ins.getD e.f 0<i->ins.getD e.t 0≠ins.getD e.f 0->o.getD e.t 0+y7 e<=o.getD e.f 0
 why:∀ x,x<n->ins.getD x 0<i->o.getD x 0=0\/∃ e∈es,ins.getD e.f 0=ins.getD x 0/\ins.getD e.t 0≠ins.getD x 0/\o.getD x 0=o.getD e.t 0+y7 e
 same:∀ x y,x<n->y<n->ins.getD x 0=ins.getD y 0->o.getD x 0=o.getD y 0
 bd:∀ x,x<n->o.getD x 0<=ins.getD x 0
theorem aBH(n x:Nat):(List.replicate n 0).getD x 0=0:=by rw[lES,List.getElem?_replicate];split<;>rfl
theorem uH.start(n:Nat)(es:List Edge)(ins:List Nat):uH n es ins 0 (List.replicate n 0):=
 ⟨g3,fun x _ _=>aBH n x,fun e _ h=>absurd h (lUD _),fun x _ h=>absurd h (lUD _),fun x y _ _ _=>by rw[aBH,aBH],fun x _=>by rw[aBH];omega⟩
def asks(es:List Edge)(ins o:List Nat)(i:Nat):List Nat:=(es.filter fun e=>decide (ins.getD e.f 0=i)&& !decide (ins.getD e.t 0=i)).map fun e=>o.getD e.t 0+y7 e
def iH(l:List Nat):Nat:=l.foldl max 0
theorem q3m(l:List Nat):∀ a,a<=l.foldl max a/\(∀x∈l,x<=l.foldl max a)/\(l.foldl max a=a\/l.foldl max a∈l):=by
 induction l with
 |nil=>intro a;exact⟨lEO _,fun x h=>(by cases h),Or.inl rfl⟩
 |cons y l ih=>
  intro a;obtain⟨f,d,b⟩:=ih (max a y);show a<=l.foldl max (max a y)/\(∀x∈y::l,x<=l.foldl max (max a y))/\(l.foldl max (max a y)=a\/l.foldl max (max a y)∈y::l);refine⟨om,fun x c=>?_,?_⟩
  ·rcases lI8.1 c with rfl|c
   ·omega
   ·exact d x c
  ·rcases b with b|b
   ·by_cases e:y<=a
    ·left;omega
    ·right;rw[b,show max a y=y by omega];exact lIH
   ·simp_all
theorem qz0{es:List Edge}{i x:Nat}:x∈asks es ins o i↔∃ e∈es,ins.getD e.f 0=i/\ins.getD e.t 0≠i/\x=o.getD e.t 0+y7 e:=by
 unfold asks;rw[lIB];constructor
 ·rintro ⟨e,a,rfl⟩;obtain⟨a,b⟩:=lIV.1 a;rw[lI0,lO8,lOC,lOG]at b;exact⟨e,a,b.1,b.2,rfl⟩
 ·rintro ⟨e,a,c,d,rfl⟩;exact⟨e,lIV.2 ⟨a,by rw[lI9 c,lIF d];rfl⟩,rfl⟩
def zX(o:List Nat)(v:Nat):List Nat->List Nat
 | []=>o
 |x::l=>zX (o.set x v) v l
theorem zdl(cs:List Nat)(a c v:Nat)(b:c<cs.length):(cs.set a v).getD c 0=if a=c then v else cs.getD c 0:=by
 rw[lES,lES,lXA];by_cases h:a=c
 ·simp_all
 ·simp_all
theorem qr6(v:Nat):∀(l o:List Nat),(zX o v l).length=o.length
 | [],_=>rfl
 |x::l,o=>(qr6 v l _).trans lO1
theorem q3q(v:Nat){y:Nat}:∀(l o:List Nat),y<o.length->(zX o v l).getD y 0=if y∈l then v else o.getD y 0
 | [],o,_=>by simp[zX]
 |x::l,o,h=>by
  rw[zX,q3q v l _ (by rw[lO1];exact h),zdl _ _ _ _ h];by_cases a:y∈l
  ·simp_all
  ·rw[lEU a];by_cases b:x=y
   ·simp_all
   ·rw[lEU b,lEU fun h=>(lI8.1 h).elim (fun e=>b e.symm) a]
theorem qv3(v x:Nat):∀(l o:List Nat),zX o v (l++[x])=(zX o v l).set x v
 | [],_=>rfl
 |_::l,_=>qv3 v x l _
theorem uH.step{es:List Edge}{o c:List Nat}(h:uH n es ins i o)(l:∀ e∈es,e.f<n/\e.t<n)(w:∀ x,x<n->(x∈c↔ins.getD x 0=i))(p:∀ e∈es,ins.getD e.t 0<=ins.getD e.f 0):uH n es ins (i+1) (zX o (iH (asks es ins o i)) c):=by
 have g:∀ x,x<n->(zX o (iH (asks es ins o i)) c).getD x 0=if ins.getD x 0=i then iH (asks es ins o i)else o.getD x 0:=fun x b=>by rw[q3q _ _ _ (by rw[h.len];exact b)];simp_all
 obtain⟨_,t,f⟩:=q3m (asks es ins o i) 0;refine⟨by rw[qr6,h.len],fun x b r=>?_,fun e a r q=>?_,fun x b r=>?_,fun x y b s e=>?_,fun x b=>?_⟩
 ·rw[g x b,lEU om];exact h.zero x b om
 ·obtain⟨u,v⟩:=l e a;have:=p e a;rw[g _ u,g _ v,lEU om];by_cases d:ins.getD e.f 0=i
  ·rw[lEZ d];exact t _ (qz0.2 ⟨e,a,d,om,rfl⟩)
  ·rw[lEU d];exact h.up e a om q
 ·rw[g x b];by_cases d:ins.getD x 0=i
  ·rw[lEZ d];rcases f with f|f
   ·exact Or.inl f
   ·obtain⟨e,a,m,k,j⟩:=qz0.1 f;refine Or.inr ⟨e,a,m.trans d.symm,by rw[d];exact k,?_⟩;rw[g _ (l e a).2,lEU k];exact j
  ·rw[lEU d];rcases h.why x b om with B|⟨e,a,m,k,j⟩
   ·omega
   ·refine Or.inr ⟨e,a,m,k,?_⟩;have:=p e a;rw[g _ (l e a).2,lEU om];exact j
 ·rw[g x b,g y s,e];split
  ·rfl
  ·exact h.same x y b s e
 ·rw[g x b];by_cases d:ins.getD x 0=i
  ·rw[lEZ d,d];rcases f with f|f
   ·have f:iH (asks es ins o i)=0:=f;omega
   ·obtain⟨e,a,m,k,j⟩:=qz0.1 f;have j:iH (asks es ins o i)=o.getD e.t 0+y7 e:=j;have z:=p e a;have A:=h.bd e.t (l e a).2;have:y7 e<=1:=by unfold y7;split<;>omega
    omega
  ·rw[lEU d];exact h.bd x b
theorem uH.done{es:List Edge}{a:List (List Nat)}(h:uH n es ins a.length o)(k:∀ e∈es,e.f<n/\e.t<n)(f:NmC n a ins)(p:kI n (jO es) [] a)(q:∀ e∈es,ins.getD e.t 0<=ins.getD e.f 0)(r:∀ e∈es,e.s=true->ins.getD e.f 0≠ins.getD e.t 0):Fit n es o/\Lst n es o/\∀ x,x<n->o.getD x 0<=ins.getD x 0:=by
 refine⟨⟨h.len,fun e b=>?_⟩,fun S l=>?_,?_⟩
 ·obtain⟨d,i⟩:=k e b;by_cases j:ins.getD e.t 0=ins.getD e.f 0
  ·have g:¬ e.s=true:=fun t=>r e b t j.symm;unfold y7;rw[lEU g,h.same _ _ i d j];simp
  ·exact h.up e b (f.lt d) j
 ·have s:∀ m x,ins.getD x 0=m->x<n->o.getD x 0<=S.getD x 0:=fun m=>by
   induction m using Nat.strongRecOn with
   |_ m ih=>
    intro x z c;rcases h.why x c (f.lt c)with h0|⟨e,b,h1,h2,h3⟩
    ·omega
    ·obtain⟨d,i⟩:=k e b;have u:=q e b;have v:=ih (ins.getD e.t 0) om e.t rfl i;have w:=l.2 e b;have y:=xdw l ((f.eq p c d).1 h1.symm).1;omega
  simp_all
 ·exact h.bd
def wD(n:Nat)(ms o:List Nat):Prop:=∀ i k,i<n->k<n->0<ms.getD (i*n+k) 0->o.getD k 0+(if 1<ms.getD (i*n+k) 0 then 1 else 0)<=o.getD i 0
theorem qzq(j:o.length=n)(r:∀ x∈ms,x<=3):wD n ms o↔Fit n (qcr n ms) o:=by
 constructor
 ·intro h;refine⟨j,fun e b=>?_⟩;obtain⟨t,c,rfl⟩:=lIB.1 b;obtain⟨l,m,s,p⟩:=qv5 c;have:=h t.f t.t l m p;show o.getD t.t 0+y7 (toE t)<=o.getD t.f 0;unfold y7 toE;by_cases g:t.s=1
  ·have a:=aNe c g;simp_all
  ·rw[lEU (by simpa using g)];omega
 ·intro h i k d f q;by_cases a:1<ms.getD (i*n+k) 0
  ·have:=h.2 _ (lIB.2 ⟨_,z3m a f d,rfl⟩);rw[lEZ a];exact this
  ·rw[lEU a];obtain⟨e,b,rfl,rfl⟩:=zy7 d f q;have:=h.2 e b;omega
end Go.Di
end
section
namespace Go.Di
open Go.Ev Go.Di.T Go.Sort
variable {C:Nat->Ev.Call} {LA LO:LP}
variable {H:Hp} {i k mb n:Nat} {ms o:List Nat}
theorem zol:∀(o:List Nat) (i v:Nat),i<o.length->(o.set i v).sum+o.getD i 0=o.sum+v
 |x::l,0,v,_=>g2
 |x::l,i+1,v,h=>by have:=zol l i v (by simpa using h);simp at this ⊢;omega
theorem z2q:∀(o:List Nat) (m:Nat),(∀x∈o,x<=m)->o.sum<=o.length*m
 | [],_,_=>g3
 |x::l,m,h=>by have b:=z2q l m fun y a=>h y (lIS _ a);have c:=h x lIH;rw[List.sum_cons,lEX,lOS,lUB];omega
structure RE(H1:Hp)(n a0 mb ob:Nat)(ms:List Nat):Prop where
 g0:H1.get a0=aB 0 [.int .i64 (.ofNat n),.sl mb 0 (n*n) (n*n) true]
 gm:H1.get mb=aB 0 (aI ms)
 lt:a0<H1.nx/\mb<H1.nx
 ne:a0≠ob/\mb≠ob
 len:ms.length=n*n
 n:n<=256
structure NS(n:Nat)(ms o:List Nat):Prop where
 len:o.length=n
 lst:∀ S,S.length=n->wD n ms S->∀ x,x<n->o.getD x 0<=S.getD x 0
 sm:∀ x,x<n->o.getD x 0<=n
theorem NS.sum(h:NS n ms o):o.sum<=n*n:=by
 have:=z2q o n fun x a=>by obtain⟨i,b,rfl⟩:=lXW.1 a;have:=h.sm i (by have:=h.len;omega);simp_all
 rwa [h.len]at this
structure PI(n:Nat)(ms o0 o:List Nat)(ch:Bool)(i k:Nat):Prop where
 ns:NS n ms o
 up:ch=true->o0.sum<o.sum
 no:ch=false->o=o0/\∀ i' k',i'<n->k'<n->(i'<i\/(i'=i/\k'<k))->0<ms.getD (i'*n+k') 0->o.getD k' 0+(if 1<ms.getD (i'*n+k') 0 then 1 else 0)<=o.getD i' 0
 le:o0.sum<=o.sum
def ask(n:Nat)(ms o:List Nat)(i k:Nat):Nat:=o.getD k 0+(if 1<ms.getD (i*n+k) 0 then 1 else 0)
theorem PI.keep{ms o0 o:List Nat}{f:Bool}(h:PI n ms o0 o f i k)(m:0<ms.getD (i*n+k) 0->ask n ms o i k<=o.getD i 0):PI n ms o0 o f i (k+1):=
 ⟨h.ns,h.up,fun b=>⟨(h.no b).1,fun g c j l a d=>by
  rcases a with a|⟨rfl,a⟩
  ·exact(h.no b).2 g c j l (Or.inl a) d
  ·by_cases e:c=k
   ·subst e;exact m d
   ·exact(h.no b).2 g c j l (Or.inr ⟨rfl,om⟩) d⟩,h.le⟩
theorem zsd{ms o S:List Nat}(h:NS n ms o)(c:i<n)(a:k<n)(d:0<ms.getD (i*n+k) 0)(e:S.length=n)(b:wD n ms S):ask n ms o i k<=S.getD i 0:=by have f:=b i k c a d;have g:=h.lst S e b k a;unfold ask;omega
theorem PI.raise{ms o0 o:List Nat}{d:Bool}(h:PI n ms o0 o d i k)(f:i<n)(g:k<n)(j:0<ms.getD (i*n+k) 0)(l:o.getD i 0<ask n ms o i k)(q:ask n ms o i k<=n):PI n ms o0 (o.set i (ask n ms o i k)) true i (k+1):=by
 have p:=h.ns.len;have r:=zol o i (ask n ms o i k) om;refine⟨⟨by rw[lO1];exact p,fun S a c x b=>?_,fun x b=>?_⟩,fun _=>by have:=h.le;omega,fun m=>(by cases m),by have:=h.le;omega⟩
 ·rw[zdl _ _ _ _ om];by_cases e:i=x
  ·subst e;rw[lEZ rfl];exact zsd h.ns f g j a c
  ·rw[lEU e];exact h.ns.lst S a c x b
 ·rw[zdl _ _ _ _ om];by_cases e:i=x
  ·simp_all
  ·rw[lEU e];exact h.ns.sm x b
theorem q25(o:List Nat)(i:Nat)(h:i<o.length):(aI o)[i]? =some (.int .i64 (.ofNat (o.getD i 0))):=by unfold aI;simp_all
theorem z2z{O:Ev.Call}{H1:Hp}{n e mb ob:Nat}{ms o0:List Nat}(a:RE H1 n e mb ob ms)(T:ob<H1.nx){i:Nat}(l:i<n){qr:AV->pH}{qe:pH}{Q:pS}(K:(∀S,S.length=n->wD n ms S->∃ x,x<n/\n<S.getD x 0)->∀ H,Fm (fun b=>b=ob) H1 H->Ok (qr .aA (.bool false) H) Q)(L:∀ o d H,PI n ms o0 o d i n->H.get ob=aB 0 (aI o)->Fm (fun b=>b=ob) H1 H->Ok (qe (.bool d) H) Q):∀(f k:Nat) (o:List Nat) (d:Bool) (H:Hp),n-k<f->k<=n->PI n ms o0 o d i k->H.get ob=aB 0 (aI o)->Fm (fun b=>b=ob) H1 H -> Ok (quq O qr qe (.ptr e 0) (.sl ob 0 n n true) (.int .i64 (.ofNat i)) f (.bool d) (.int .i64 (.ofNat k)) H) Q
 |0,k,o,d,H,h,_,_,_,_=>om
 |f+1,k,o,d,H,h,hk,hP,hg,hF=>by
  show Ok (zm8 O _ _ _ _ _ (quq O _ _ _ _ _ f) _ _ H) Q;unfold zm8;have g0:H.get e=aB 0 [.int .i64 (.ofNat n),.sl mb 0 (n*n) (n*n) true]:=(hF.get _ a.lt.1 a.ne.1).trans a.g0;have s:H.get mb=aB 0 (aI ms):=(hF.get _ a.lt.2 a.ne.2).trans a.gm;have N:=hP.ns.len;have W:=a.len;have P:=a.n;by_cases c:k<n
  ·have Y:i*n+k<n*n:=zqv l c;have Z:i*n<=65536:=Nat.mul_le_mul (lON (af l P)) P;have t:=q25 ms (i*n+k) om;have R:=q25 o k om;have C:=q25 o i om;have s1:=hP.ns.sm k c;have s2:=hP.ns.sm i l;have w:¬ n<o.getD i 0:=om;have next:∀(r:List Nat) (g:Bool) (H':Hp),PI n ms o0 r g i (k+1)->H'.get ob=aB 0 (aI r)->Fm (fun b=>b=ob) H1 H' ->
     Ok (qqm O qr (quq O qr qe (.ptr e 0) (.sl ob 0 n n true) (.int .i64 (.ofNat i)) f) (.ptr e 0) (.sl ob 0 n n true) (.bool g) (.int .i64 (.ofNat i)) (.int .i64 (.ofNat k)) H') Q:=fun r g H' p u v=>by
    unfold qqm;have F:H'.get e=aB 0 [.int .i64 (.ofNat n),.sl mb 0 (n*n) (n*n) true]:=(v.get _ a.lt.1 a.ne.1).trans a.g0;have G:=q25 r i (by have:=p.ns.len;omega);have s3:=p.ns.sm i l;have w:¬ n<r.getD i 0:=om;simp(disch:=omega)only[go_sem,F,u,G,w,lI1,lEW];unfold zm7;simp(disch:=omega)only[go_sem];exact z2z a T l K L f (k+1) r g H' om om p u v
   have m:0<ms.getD (i*n+k) 0->Ok (qql O qr (quq O qr qe (.ptr e 0) (.sl ob 0 n n true) (.int .i64 (.ofNat i)) f) (.ptr e 0) (.sl ob 0 n n true) (.bool d) (.int .i64 (.ofNat i)) (.int .i64 (.ofNat k)) (.int .i64 (.ofNat (ask n ms o i k))) H) Q:=fun M=>by
    unfold qql;by_cases j:o.getD i 0<ask n ms o i k
    ·have y:=qj4 o i (ask n ms o i k) om;have z:i+1<=(aI o).length:=by rw[lM];omega
     by_cases B:ask n ms o i k<=n
     ·simp(disch:=omega)only[go_sem,hg,C,j,y,z,lI1,lEW,lEX,lIT];exact next _ true _ (hP.raise l c M j B) (dL _ _ _) (hF.put _ _ fun _=>rfl)
     ·have X:(aI (o.set i (ask n ms o i k)))[i]? =some (.int .i64 (.ofNat (ask n ms o i k))):=by
       rw[q25 _ _ (by rw[lO1];omega),zdl _ _ _ _ om,lEZ rfl]
      have I:n<ask n ms o i k:=om;simp(disch:=omega)only[go_sem,hg,C,j,y,z,lI1,lEW,lEX,lIT];unfold qqm;have J:(H.put ob (aB 0 (aI (o.set i (ask n ms o i k))))).get e=aB 0 [.int .i64 (.ofNat n),.sl mb 0 (n*n) (n*n) true]:=by rw[dS _ _ _ _ (by have:=a.ne.1;omega)];exact g0
      simp(disch:=omega)only[go_sem,J,X,I,lI1,lEW];refine K (fun S U V=>⟨i,l,?_⟩) _ (hF.put _ _ fun _=>rfl);have:=zsd hP.ns l c M U V;omega
    ·simp(disch:=omega)only[go_sem,hg,C,j,lI1,lEW];exact next o d H (hP.keep fun _=>om) hg hF
   simp only[go_sem,g0,c];unfold zm6;by_cases E:ms.getD (i*n+k) 0=1
   ·have q:ask n ms o i k=o.getD k 0:=by unfold ask;rw[lEU om,lO7]
    have D:¬ 1<ms.getD (i*n+k) 0:=om;simp(disch:=omega)only[go_sem,g0,s,hg,t,R,E,lI1,lEW];unfold qqk;simp(disch:=omega)only[go_sem,g0,s,hg,t,E,lI1,lEW];rw[<-q];exact m om
   ·by_cases D:1<ms.getD (i*n+k) 0
    ·have q:ask n ms o i k=o.getD k 0+1:=by unfold ask;rw[lEZ D]
     simp(disch:=omega)only[go_sem,g0,s,hg,t,E,lI1,lEW];unfold qqk;simp(disch:=omega)only[go_sem,g0,s,hg,t,R,D,lI1,lEW];rw[<-q];exact m om
    ·simp(disch:=omega)only[go_sem,g0,s,hg,t,E,lI1,lEW];unfold qqk;simp(disch:=omega)only[go_sem,g0,s,hg,t,D,lI1,lEW];unfold qql;have A:¬(Int.ofNat (o.getD i 0)<Int.negSucc 0):=by
      simp
     simp(disch:=omega)only[go_sem,hg,C,A,lI1,lEW];exact next o d H (hP.keep fun h=>om) hg hF
  ·simp only[go_sem,g0,c];have:k=n:=om;subst this;exact L o d H hP hg hF
theorem PI.row{ms o0 o:List Nat}{a:Bool}(h:PI n ms o0 o a i n):PI n ms o0 o a (i+1) 0:=
 ⟨h.ns,h.up,fun b=>⟨(h.no b).1,fun c d e f j g=>(h.no b).2 c d e f om g⟩,h.le⟩
theorem zp1{O:Ev.Call}{H1:Hp}{n e mb ob:Nat}{ms o0:List Nat}(d:RE H1 n e mb ob ms)(m:ob<H1.nx){qr:AV->pH}{qe:pH}{Q:pS}(p:(∀S,S.length=n->wD n ms S->∃ x,x<n/\n<S.getD x 0)->∀ H,Fm (fun b=>b=ob) H1 H->Ok (qr .aA (.bool false) H) Q)(q:∀ o a H,PI n ms o0 o a n 0->H.get ob=aB 0 (aI o)->Fm (fun b=>b=ob) H1 H->Ok (qe (.bool a) H) Q):∀(f i:Nat) (o:List Nat) (a:Bool) (H:Hp),n-i<f->i<=n->PI n ms o0 o a i 0->H.get ob=aB 0 (aI o)->Fm (fun b=>b=ob) H1 H -> Ok (q05 O qr qe (.ptr e 0) (.sl ob 0 n n true) f (.bool a) (.int .i64 (.ofNat i)) H) Q
 |0,i,o,a,H,h,_,_,_,_=>om
 |f+1,i,o,a,H,h,hi,hP,hg,hF=>by
  show Ok (zm9 O _ _ _ _ (q05 O _ _ _ _ f) _ _ H) Q;unfold zm9;have g0:H.get e=aB 0 [.int .i64 (.ofNat n),.sl mb 0 (n*n) (n*n) true]:=(hF.get _ d.lt.1 d.ne.1).trans d.g0;have s:=d.n;by_cases c:i<n
  ·simp only[go_sem,g0,c];unfold zm5 z2i;rw[dD];refine z2z d m c p (fun r g H' j k l=>?_) bZ 0 o a H lf (lEV _) hP hg hF;unfold zm3;simp(disch:=go_size)only[go_sem,rB,rI,rK,rL,rN,rS,r8];exact zp1 d m p q f (i+1) r g H' om om j.row k l
  ·simp only[go_sem,g0,c];have:i=n:=om;subst this;exact q o a H hP hg hF
theorem zp0{O:Ev.Call}{H1:Hp}{n l mb ob:Nat}{ms:List Nat}(e:RE H1 n l mb ob ms)(m:ob<H1.nx){qr:AV->pH}{qe:pL}{Q:pS}(p:(∀S,S.length=n->wD n ms S->∃ x,x<n/\n<S.getD x 0)->∀ H,Fm (fun b=>b=ob) H1 H->Ok (qr .aA (.bool false) H) Q)(q:∀ o H,NS n ms o->wD n ms o->H.get ob=aB 0 (aI o)->Fm (fun b=>b=ob) H1 H->Ok (qe H) Q):∀(f:Nat) (o:List Nat) (H:Hp),n*n-o.sum+2<=f->NS n ms o->H.get ob=aB 0 (aI o)->Fm (fun b=>b=ob) H1 H -> Ok (qqj O qr qe (.ptr l 0) (.sl ob 0 n n true) f (.bool true) H) Q
 |0,o,H,h,_,_,_=>om
 |f+1,o,H,h,hN,hg,hF=>by
  show Ok (q07 O _ _ _ _ (qqj O _ _ _ _ f) _ H) Q;unfold q07;simp only[go_sem];unfold zm4 z2j;rw[dD];have z:=e.n;refine zp1 e m (o0:=o) p (fun r j H' a c d=>?_) bZ 0 o false H lf (lEV _) ⟨hN,fun h=>(by cases h),fun _=>⟨rfl,fun v w _ _ y=>om⟩,lEO _⟩ hg hF;cases j with
  |true=>have A:=a.up rfl;have B:=a.ns.sum;exact zp0 e m p q f r H' om a.ns c d
  |false=>obtain⟨f,rfl⟩:∃ g,f=g+1:=⟨f-1,om⟩;show Ok (q07 O _ _ _ _ (qqj O _ _ _ _ f) _ H') Q;unfold q07;exact q r H' a.ns (fun i k s t u=>(a.no rfl).2 i k s t (Or.inl s) u) c d
theorem NS.start(n:Nat)(ms:List Nat):NS n ms (List.replicate n 0):=
 ⟨g3,fun S _ _ x _=>by rw[aBH];omega,fun x _=>by rw[aBH];omega⟩
theorem qy3(m:qsq C)(p:1<=k){i:AV}(b:xB H i mb n ms)(B:n<13):Ok (C k (.f 8) [i] H) fun r H'=>Fm No H H'/\((∃ob o,r=.bB [.sl ob 0 n n true,.bool true]/\H'.get ob=aB 0 (aI o)/\ob<H'.nx/\NS n ms o/\wD n ms o)\/(r=.bB [.aA,.bool false]/\∀ S,S.length=n->wD n ms S->∃ x,x<n/\n<S.getD x 0)):=by
 obtain⟨j,rfl⟩:=aT p;have w:=b.hv;subst w;rw[(m j).zAg];unfold zAg z7q;have y:Fm No H (aK H (aB 0 [.int .i64 (.ofNat n),.sl mb 0 (n*n) (n*n) true])):=(Fm.refl _ _).push _;have l:=qck [.int .i64 (.ofNat 0)] 8 (H.nx+1) n om om;rw[qcv,qod]at l;simp(disch:=go_size)only[go_sem,seval,l];generalize a:aK (aK H (aB 0 [.int .i64 (.ofNat n),.sl mb 0 (n*n) (n*n) true])) (aB 0 (aI (List.replicate n 0)))=H1;have D:H1.nx=H.nx+1+1:=by rw[<-a];rfl
 have f:Fm No H H1:=by rw[<-a];exact y.push _
 have g1:H1.get H.nx=aB 0 [.int .i64 (.ofNat n),.sl mb 0 (n*n) (n*n) true]:=by rw[<-a,qbo _ _ _ gx,jQ]
 have g2:H1.get (H.nx+1)=aB 0 (aI (List.replicate n 0)):=by rw[<-a];exact jQ _ _
 have g:=b.lt;have z:RE H1 n H.nx mb (H.nx+1) ms:=⟨g1,(f.keep g).trans b.get,⟨om,om⟩,⟨om,om⟩,b.ok.len,om⟩;unfold z2k;rw[dD];have A:n*n<=12*12:=Nat.mul_le_mul om om;refine zp0 z om (fun e q d=>?_) (fun o q s t u d=>?_) bZ (List.replicate n 0) H1 lf (NS.start n ms) g2 (Fm.refl _ _)
 ·exact Ok.ret ⟨f.then d fun c v h=>om,Or.inr ⟨rfl,e⟩⟩
 ·unfold q06;have:=d.nx;exact Ok.ret ⟨f.then d fun c v h=>om,Or.inl ⟨_,o,rfl,u,om,s,t⟩⟩
end Go.Di
end
section
namespace Go.Di
open Go.Ev Go.Di.T Go.Sort
variable {C:Nat->Ev.Call}
variable {H:Hp} {i k n:Nat} {l:List AV}
theorem rdP{b q:Nat}{P:List AV}{M:List Nat}(a:H.get b=aB q (P++aI M))(h:i<M.length):bI (H.get b) (P.length+i)=.val (.int .i64 (.ofNat M[i])):=by rw[a,qb3,lIJ om,lOF];unfold aI;simp_all
theorem bCX(P:List AV)(M:List Nat)(x:Nat)(h:i<M.length):aY (P++aI M) (P.length+i) [.int .i64 (.ofNat x)]=P++aI (M.set i x):=by
 have a:(aI M).length=M.length:=lM M;unfold aY;rw[lXZ,lIW om,List.drop_append,lO0 g2];rw[show P.length+i-P.length=i by omega,show P.length+i+[AV.int .i64 (.ofNat x)].length-P.length=i+1 by simp;omega];have:aI (M.set i x)=(aI M).set i (.int .i64 (.ofNat x)):=by unfold aI;rw[lY5]
 rw[this,List.set_eq_take_append_cons_drop,lEZ om];simp
theorem xeg(P:List AV)(M:List Nat)(b:M.length=n)(h:k<=n):aY (P++aI M) (P.length+k) (aZ [.int .i64 (.ofNat 0)] (n-k))=P++aI (M.take k++List.replicate (n-k) 0):=by
 have d:(aI M).length=n:=by rw[lM,b]
 have c:aZ [.int .i64 (.ofNat 0)] (n-k)=aI (List.replicate (n-k) 0):=by rw[qcv];unfold aI;rw[List.map_replicate]
 have a:(aI (List.replicate (n-k) 0)).length=n-k:=by rw[lM,lUA]
 unfold aY;rw[c,a,lXZ,lIW om,List.drop_append,lO0 om];rw[show P.length+k-P.length=k by omega,lO0 om];have:aI (M.take k++List.replicate (n-k) 0)=(aI M).take k++aI (List.replicate (n-k) 0):=by unfold aI;rw[lID,List.map_take]
 simp_all
structure Cp(l M:List Nat)(k p:Nat):Prop where
 len:M.length=l.length
 lt:k<p
 le:p<=l.length
 same:M.drop k=l.drop k
 asc:(M.take k).Pairwise (· < ·)
 mem:∀ x,x∈M.take k↔x∈l.take p
theorem Cp.at{l M:List Nat}{k p i:Nat}(h:Cp l M k p)(c:k<=i)(a:i<l.length):M[i]'(by rw[h.len];exact a)=l[i]:=by
 have b:(M.drop k)[i-k]? =(l.drop k)[i-k]? :=by rw[h.same]
 rw[lU1,lU1,show k+(i-k)=i by omega,gp a,gp (by rw[h.len];exact a)]at b;simp_all
theorem qek{l:List Nat}{p:Nat}(h:p<l.length):l.take (p+1)=l.take p++[l[p]]:=lER h
theorem qzf{l:List Nat}{p x:Nat}(h:x∈l.take p):∃ i,∃(a:i<l.length),i<p/\l[i]=x:=by obtain⟨i,a,e⟩:=lXW.1 h;rw[lI6]at a;exact⟨i,om,om,by rw[<-e];simp⟩
theorem Cp.eq{l M:List Nat}{k p:Nat}(h:Cp l M k p)(b:p<l.length)(c:l[p]=l[p-1]'om):Cp l M k (p+1):=by
 refine⟨h.len,by have:=h.lt;omega,b,h.same,h.asc,fun x=>(h.mem x).trans ?_⟩;rw[qek b,lEY,lI3];refine⟨Or.inl,fun a=>a.elim id fun a=>?_⟩;have d:=h.lt;rw[a,c];have:l.take p=l.take (p-1)++[l[p-1]'om]:=by have:=qek (l:=l) (p:=p-1) om;rwa [show p-1+1=p by omega]at this
 exact this▸lOJ _ (lI3.2 rfl)
theorem Cp.ne{l M:List Nat}{k p:Nat}(h:Cp l M k p)(j:l.Pairwise (· <= ·))(c:p<l.length)(o:¬ l[p]=l[p-1]'om):Cp l (M.set k l[p]) (k+1) (p+1):=by
 have q:=h.lt;have d:=h.len;have g:(M.set k l[p]).take (k+1)=M.take k++[l[p]]:=by rw[qek (l:=M.set k l[p]) (p:=k) (by rw[lO1];omega),List.getElem_set_self,List.take_set_of_le (lEO k)]
 refine⟨by rw[lO1,d],om,c,?_,?_,fun x=>?_⟩
 ·rw[List.drop_set_of_lt om];have:=congrArg (List.drop 1) h.same;simp_all
 ·rw[g,lOL];refine⟨h.asc,lU4 _ _,fun a m b f=>?_⟩;rw[lI3]at f;subst f;obtain⟨i,t,n,rfl⟩:=qzf ((h.mem a).1 m);have e:=lO2.1 j;have r:l[p-1]'om<=l[p]:=e (p-1) p om c om;have s:l[i]<=l[p-1]'om:=by
   rcases lOI i (p-1)with h2|h2
   ·simp_all
   ·have:i=p-1:=om;simp_all
  omega
 ·rw[g,qek c,lEY,lEY,h.mem x]
theorem qll{O:Ev.Call}{b o n q:Nat}{e:Bool}{P:List AV}{l:List Nat}(p:l.Pairwise (· <= ·))(a:P.length=o)(u:l.length=n)(v:n<900){c0:Nat}(d:c0<n){H1:Hp}{w:pH}{Q:pS}(r:∀ M k H,Cp l M k n->H.get b=aB q (P++aI M)->Fm (fun c=>c=b) H1 H->Ok (w (.int .i64 (.ofNat k)) H) Q):∀(f k k2:Nat) (M:List Nat) (H:Hp),n-(c0+k2)<f->1<=k2->Cp l M k (c0+k2)->H.get b=aB q (P++aI M)->Fm (fun c=>c=b) H1 H -> Ok (qdd O w (.sl b o n n e) (.sl b (o+c0) (n-c0) (n-c0) e) f (.int .i64 (.ofNat k)) (.int .i64 (.ofNat k2)) H) Q
 |0,k,k2,M,H,h,_,_,_,_=>om
 |f+1,k,k2,M,H,h,h1,hC,hg,hF=>by
  show Ok (qe4 O _ _ _ (qdd O _ _ _ f) _ _ H) Q;unfold qe4;have A:=hC.lt;have B:=hC.le;have C:=hC.len;by_cases z:k2<n-c0
  ·have j:=rdP hg (i:=c0+k2) om;have s:=rdP hg (i:=c0+(k2-1)) om;rw[hC.at om om,a,<-lIP]at j;rw[hC.at om om,a,<-lIP]at s;simp only[go_sem,z];unfold qj1;have g:l[c0+k2-1]'om=l[c0+(k2-1)]'om:=by congr 1;omega
   by_cases m:l[c0+k2]'om=l[c0+k2-1]'om
   ·rw[m,g]at j;simp(disch:=go_size)only[go_sem,rB,rI,rK,rL,rN,rS,r8,lI1,j,s];unfold qde;simp(disch:=go_size)only[go_sem,rB,rI,rK,rL,rN,rS,r8];exact qll p a u v d r f k (k2+1) M H om om (hC.eq om m) hg hF
   ·have t:¬ l[c0+k2]'om=l[c0+(k2-1)]'om:=by rw[<-g];exact m
    have y:=bCX P M (i:=k) (l[c0+k2]'om) om;rw[a]at y;have D:∀ x:AV,xZ (aB q (P++aI M)) (o+k) [x]=some (aB q (aY (P++aI M) (o+k) [x])):=fun x=>by rw[qgi,lEZ];rw[lEP,lM];simp only[lEX,lIT];omega
    simp(disch:=go_size)only[go_sem,rB,rI,rK,rL,rN,rS,r8,lI1,j,s,t];rw[hg]at *;simp(disch:=go_size)only[go_sem,rB,rI,rK,rL,rN,rS,r8,D,y];unfold qde;simp(disch:=go_size)only[go_sem,rB,rI,rK,rL,rN,rS,r8];exact qll p a u v d r f (k+1) (k2+1) _ _ om om (hC.ne p om m) (dL _ _ _) (hF.put _ _ fun _=>rfl)
  ·simp only[go_sem,z];have:c0+k2=n:=om;rw[this]at hC;exact r M k H hC hg hF
theorem qse{O:Ev.Call}{b o n q:Nat}{e:Bool}{P:List AV}{l:List Nat}(y:l.Pairwise (· <= ·))(s:P.length=o)(t:l.length=n)(I:n<900){H:Hp}(u:H.get b=aB q (P++aI l))(J:b<H.nx)(j:e=true\/q=1){K:pL}{Q:pS}(L:∀ k R H',k<=n->R.length=k->R.Pairwise (· < ·)->(∀x,x∈R↔x∈l)->Gs 1 H' (.sl b o k n e) k (aI R)->Fm (fun c=>c=b) H H'->Q (.sl b o k n e) H')(m:l.Pairwise (· < ·)->Ok (K H) Q):∀(f k:Nat),n-k<f->1<=k->k<=n->(l.take k).Pairwise (· < ·) -> Ok (qd3 O (fun x H=>.ok x H) K (.sl b o n n e) f (.int .i64 (.ofNat k)) H) Q
 |0,k,h,_,_,_=>om
 |f+1,k,h,h1,hk,ha=>by
  show Ok (qf3 O _ _ _ (qd3 O _ _ _ f) _ H) Q;unfold qf3;by_cases g:k<n
  ·have w:=rdP u (i:=k) om;have C:=rdP u (i:=k-1) om;rw[s]at w C;simp only[go_sem,g];unfold qj0;by_cases G:l[k]'om=l[k-1]'om
   ·rw[G]at w;have U:=qk7 1 b o n n e (a:=k) om (lEO _) g;simp(disch:=go_size)only[go_sem,rB,rI,rK,rL,rN,rS,r8,lI1,w,C,U];unfold qj2;rw[dD];have D:Cp l l k (k+1):=by
     refine⟨rfl,om,om,rfl,ha,fun x=>?_⟩;rw[qek (p:=k) om,lEY,lI3];refine⟨Or.inl,fun z=>z.elim id fun z=>?_⟩;have:l.take k=l.take (k-1)++[l[k-1]'om]:=by simp_all
     rw[z,G];exact this▸lOJ _ (lI3.2 rfl)
    refine qll (H1:=H) y s t I (c0:=k) g (fun M d H' v A N=>?_) bZ k 1 l H lf (lEO 1) D u (Fm.refl _ _);unfold qe3;have V:=v.lt;have c2:=v.len;have W:=qk7 1 b o n n e (a:=d) om (lEO _) V;have X:=zcb 1 b o n n e (k:=d) om (lEO _) om;have T:=xeg P M (k:=d) (n:=n) om om;rw[s]at T;have E:(aZ [.int .i64 (.ofNat 0)] (n-d)).length=n-d:=by rw[qcv,lUA]
    have Y:qh1 [.int .i64 (.ofNat 0)] H' (.sl b (o+d) (n-d) (n-d) e)=.ok .undef (H'.put b (aB q (P++aI (M.take d++List.replicate (n-d) 0)))):=by show(bif Nat.beq (n-d) 0 then _ else storeAt H' b (o+d) (aZ [.int .i64 (.ofNat 0)] (n-d)) .undef)=_;rw[beq_eq,lIF om,lOZ,qb5 _ _ _ _ _ _ _ A (by rw[E,lEP,lM];omega),T]
    simp only[go_sem,W,X,Y];have F:(M.take d).length=d:=by rw[lI6];omega
    refine Ok.ret (L d (M.take d) _ om F v.asc (fun x=>by rw[v.mem x,<-t,lIN]) ?_ (N.put _ _ fun _=>rfl));refine⟨by rw[lM,F,lI1],.inr ⟨b,o,n,e,q,_,rfl,om,dL _ _ _,?_,?_,j,af J N.nx⟩⟩
    ·rw[lEP,lM,lEP,F,lUA];omega
    ·rw[lO4 om,lO0 om,lOX,lI1];unfold aI;simp_all
   ·simp(disch:=go_size)only[go_sem,rB,rI,rK,rL,rN,rS,r8,lI1,w,C,G];unfold qly;simp(disch:=go_size)only[go_sem,rB,rI,rK,rL,rN,rS,r8];refine qse y s t I u J j L m f (k+1) om om om ?_;rw[qek (p:=k) om,lOL];refine⟨ha,lU4 _ _,fun a B c S=>?_⟩;rw[lI3]at S;subst S;obtain⟨i,Z,hip,rfl⟩:=qzf B;have r:=lO2.1 y;have a1:l[k-1]'om<=l[k]'om:=r (k-1) k om om om;have a2:l[i]<=l[k-1]'om:=by
     rcases lOI i (k-1)with h2|h2
     ·exact r i (k-1) Z om h2
     ·have:i=k-1:=om;simp_all
    omega
  ·simp only[go_sem,g];have:k=n:=om;subst this;rw[<-t,lIN]at ha;exact m ha
theorem q9b(u:uZ C)(m:1<=k){v:AV}{l:List Nat}(w:l.Pairwise (· <= ·))(z:n<900)(d:Gl 1 H v n (aI l)):Ok (C k (.f 131) [v] H) fun r H'=>∃ R:List Nat,R.Pairwise (· < ·)/\(∀x,x∈R↔x∈l)/\Gs 1 H' r R.length (aI R)/\(∀b,In r b->In v b)/\Fm (In v) H H':=by
 obtain⟨j,rfl⟩:=aT m;have a:l.length=n:=by have:=d.len;rw[lM]at this;omega
 rw[(u j).kG];unfold kG qhy;have p:=d.aX;by_cases s:n<2
 ·simp only[go_sem,p,s];refine Ok.ret ⟨l,?_,fun x=>Iff.rfl,by rw[a];exact d.gs,fun b h=>h,Fm.refl _ _⟩
  match l,a with
  | [],_=>exact List.Pairwise.nil
  | [x],_=>exact lU4 _ _
  |x::y::t,h=>simp at h;omega
 ·rcases d.is with⟨_,I⟩|⟨b,o,e,q,L,rfl,g1,g2,g3,g4,g5⟩
  ·omega
  have F:(L.take o).length=o:=by rw[lI6];omega
  have G:H.get b=aB q (L.take o++aI l):=by rw[g1,<-g3,lU9]
  simp only[go_sem,p,s];unfold qjz qlz;rw[dD];have i:∀ c,c=b->In (.sl b o n n e) c:=fun c f=>by subst f;exact⟨_,_,_,_,rfl⟩
  refine qse w F a z G g5 g4 (fun k R H' m A g B D E=>?_) (fun g=>?_) bZ 1 lf (lEO 1) om ?_
  ·refine⟨R,g,B,by rw[A];exact D,fun c f=>?_,E.mono fun c _ f=>i c f⟩;obtain⟨_,_,_,_,J⟩:=f;simp_all
  ·unfold qf2;exact Ok.ret ⟨l,g,fun x=>Iff.rfl,by rw[a];exact d.gs,fun b h=>h,Fm.refl _ _⟩
  ·match l,a with
   | [],h=>simp at h;omega
   |x::t,_=>simp
theorem Gs.clip{v:AV}(h:Gs 1 H v n l):∃ w,lC 1 v none (some (.int .i64 (.ofNat n))) (some (.int .i64 (.ofNat n)))=.val w/\Rl H w l/\dA w=.val (.int .i64 (.ofNat n))/\(∀b,In w b->In v b):=by
 rcases h.is with⟨rfl,rfl⟩|⟨b,o,m,e,q,L,rfl,x,C,D,E,F,G⟩
 ·exact⟨.aA,rfl,h.rl,rfl,fun b h=>h⟩
 ·have t:lC 1 (.sl b o n m e) none (some (.int .i64 (.ofNat n))) (some (.int .i64 (.ofNat n)))=jF b o 1 ⟨0,n,n⟩ true:=by
   show(match bounds n m none (some (.int .i64 (.ofNat n))) (some (.int .i64 (.ofNat n)))with|some bd=>jF b o 1 bd true|none=>R0.bad)=_;have:bounds n m none (some (.int .i64 (.ofNat n))) (some (.int .i64 (.ofNat n)))=some ⟨0,n,n⟩:=by show(match(bif Nat.ble n m then some n else none)with|none=>none|some m=>match(bif Nat.ble n m then some n else none)with|none=>none|some h=>match(some 0:Option Nat)with|none=>none|some l=>some (Bd.mk l h m))=_;rw[ble_eq,lI9 x];simp only[lII,ble_eq,lI9 (lEO n)]
   rw[this]
  have j:∀ f,Gs 1 H (.sl b o n m f) n l->Rl H (.sl b o n n true) l:=fun f g=>by have r:=g.rl;exact⟨r.len,fun i s=>by obtain⟨y,z,k,A,B⟩:=r.at' i s;exact⟨y,z,by have u:=h.len;rw[uY _ _ _ _ _ _ _ _ om]at k ⊢;exact k,A,B⟩⟩
  rw[t];unfold jF;simp only[beq_eq];by_cases p:n=0
  ·subst p;exact⟨.sl b o 0 0 true,rfl,j e h,rfl,fun c a=>by obtain⟨_,_,_,_,d⟩:=a;cases d;exact⟨_,_,_,_,rfl⟩⟩
  ·rw[lIF p];refine⟨.sl b o n n true,?_,j e h,rfl,fun c a=>by obtain⟨_,_,_,_,d⟩:=a;cases d;exact⟨_,_,_,_,rfl⟩⟩;rfl
theorem z0b(a:aU C)(c:1<=k){v:AV}(h:Gs 1 H v n l):∃w,C k (.f 88) [v] H=.ok w H/\Rl H w l/\dA w=.val (.int .i64 (.ofNat n))/\(∀b,In w b->In v b):=by obtain⟨j,rfl⟩:=aT c;obtain⟨w,e,d,f,g⟩:=h.clip;refine⟨w,?_,d,f,g⟩;rw[(a j).zBd];unfold zBd zv7;simp only[go_sem,h.aX,e]
end Go.Di
end
section
namespace Go.Di
open Go.Ev Go.Di.T Go.Sort
variable {C:Nat->Ev.Call} {LA LO:LP}
variable {H H' H0:Hp} {aS:Nat->List Nat} {i k m n:Nat} {ins o:List Nat}
theorem zsm(a:uZ C)(b:tJ C)(c:5<=k)(H:Hp):C k (.f 130) [.aA] H=.ok (.bB []) H:=by obtain⟨k,rfl⟩:∃ j,k=j+1:=⟨k-1,om⟩;exact(a k).aHs H
def uN(ins:List Nat)(e:Edge):Bool:=e.s&&decide (ins.getD e.f 0=ins.getD e.t 0)
def jI(ins:List Nat)(es:List Edge):List Nat:=(es.filter (uN ins)).map fun e=>ins.getD e.f 0
theorem zp5(ins:List Nat)(es:List Edge)(h:i<es.length):jI ins (es.take (i+1))=jI ins (es.take i)++(if uN ins es[i]then[ins.getD es[i].f 0]else[]):=by unfold jI;rw[lER h,lU5,lID];congr 1;cases a:uN ins es[i]<;>simp[a]
theorem zp6(ins:List Nat)(es:List Edge):(jI ins es).length<=es.length:=by unfold jI;rw[lET];exact lU2 _ _
theorem zda{es:List Edge}{x:Nat}:x∈jI ins es↔∃ e∈es,e.s=true/\ins.getD e.f 0=ins.getD e.t 0/\ins.getD e.f 0=x:=by
 unfold jI uN;rw[lIB];constructor
 ·rintro ⟨e,a,rfl⟩;rw[lIV,lI0,lO8]at a;exact⟨e,a.1,a.2.1,a.2.2,rfl⟩
 ·rintro ⟨e,a,b,c,d⟩;exact⟨e,lIV.2 ⟨a,by rw[lI0,lO8];exact⟨b,c⟩⟩,d⟩
theorem qg0{O:Ev.Call}{H1:Hp}{n c:Nat}{lv iv w:AV}{es:List Edge}{ins:List Nat}(d:es.length<200000)(A:∀ e∈es,e.f<n/\e.t<n)(B:kX H1 w es)(o:Gl 1 H1 iv n (aI ins))(p:H1.get c=aB 0 [lv,iv])(f:c<H1.nx){q:pH}{Q:pS}(C:∀ v H,Gl 1 H v (jI ins es).length (aI (jI ins es))->Fm No H1 H->(∀b,In v b->H1.nx<=b)->Ok (q v H) Q):∀(k i:Nat) (v:AV) (H:Hp),es.length-i<k->i<=es.length->Gl 1 H v (jI ins (es.take i)).length (aI (jI ins (es.take i)))->(∀b,In v b->H1.nx<=b)->Fm No H1 H -> Ok (qxq O q (.ptr c 0) w (.int .i64 (.ofNat es.length)) k v (.int .i64 (.ofNat i)) H) Q
 |0,i,v,H,h,_,_,_,_=>om
 |k+1,i,v,H,h,F,hg,hnew,hF=>by
  show Ok (q6k O _ _ _ _ (qxq O _ _ _ _ k) _ _ H) Q;unfold q6k;by_cases j:i<es.length
  ·simp only[go_sem,j];unfold zk5;have D:kX H w es:=B.fm hF;have r:Gl 1 H iv n (aI ins):=o.no hF;have s:H.get c=aB 0 [lv,iv]:=(hF.keep f).trans p;have E:c<H.nx:=af f hF.nx;have F:ins.length=n:=by have:=o.len;rw[lM]at this;omega
   obtain⟨b,o1,N,e2,P⟩:=D.at j;obtain⟨r1,r2⟩:=A es[i] (lEQ _);have S:∀ x,x<n->(aI ins)[x]? =some (.int .i64 (.ofNat (ins.getD x 0))):=fun x hx=>by unfold aI;simp_all
   obtain⟨b1,o2,T,e5,_,U⟩:=r.at (S _ r1);obtain⟨b2,o3,V,e8,_,W⟩:=r.at (S _ r2);have g:=zp5 ins es j;have G:=zp6 ins (es.take i);rw[lI6]at G;have a:Fm No H ((aK H (aB 0 [.int .i64 (.ofNat 0),.int .i64 (.ofNat 0),.bool false])).put H.nx (aB 0 [.int .i64 (.ofNat es[i].f),.int .i64 (.ofNat es[i].t),.bool es[i].s])):=by exact jW
   cases l:es[i].s with
   |false=>
    have t:uN ins es[i]=false:=by unfold uN;rw[l];rfl
    rw[l]at a;rw[t]at g;simp only[go_sem,N,P,Edge.cells,l];unfold qp9;simp(disch:=go_size)only[go_sem,rB,rI,rK,rL,rN,rS,r8];rw[lEU g3,lIM]at g;refine qg0 d A B o p f C k (i+1) v _ om om (by rw[g];exact hg.no a) hnew (hF.trans a)
   |true=>
    rw[l]at a;by_cases m:ins.getD es[i].f 0=ins.getD es[i].t 0
    ·have t:uN ins es[i]=true:=by unfold uN;rw[l,lI9 m];rfl
     rw[t,lEZ rfl]at g;have u:(jI ins (es.take (i+1))).length=(jI ins (es.take i)).length+1:=by rw[g,lEP];rfl
     generalize z:(aK H (aB 0 [.int .i64 (.ofNat 0),.int .i64 (.ofNat 0),.bool false])).put H.nx (aB 0 [.int .i64 (.ofNat es[i].f),.int .i64 (.ofNat es[i].t),.bool true])=H2 at *;have I:H2.get H.nx=aB 0 [.int .i64 (.ofNat es[i].f),.int .i64 (.ofNat es[i].t),.bool true]:=by rw[<-z,dL]
     have J:H2.get c=aB 0 [lv,iv]:=(a.keep E).trans s;have K:bI (H2.get b1) o2=.val (.int .i64 (.ofNat (ins.getD es[i].f 0))):=by rw[a.keep e5];exact U
     have L:bI (H2.get b2) o3=.val (.int .i64 (.ofNat (ins.getD es[i].t 0))):=by rw[a.keep e8];exact W
     have y:Gl 1 (aK H2 (aB 0 [.int .i64 (.ofNat (ins.getD es[i].f 0))])) v (jI ins (es.take i)).length (aI (jI ins (es.take i))):=(hg.no a).no ((Fm.refl _ _).push _);obtain⟨H',X,R,_,Y,a5⟩:=y.append (w:=8) (k:=1) (x:=[.int .i64 (.ofNat (ins.getD es[i].f 0))]) om rfl om om;rw[m]at X R Y y;simp(disch:=go_size)only[go_sem,rB,rI,rK,rL,rN,rS,r8,N,P,Edge.cells,l,z,I,J,T,K,V,L,m,X];unfold qp9;simp(disch:=go_size)only[go_sem,rB,rI,rK,rL,rN,rS,r8];have M:aI (jI ins (es.take i))++[.int .i64 (.ofNat (ins.getD es[i].t 0))]=aI (jI ins (es.take (i+1))):=by rw[g,m];simp[aI]
     rw[M,<-u]at R;rw[<-u];have hn1:=hF.nx;have hn2:=a.nx;refine qg0 d A B o p f C k (i+1) _ H' om om R (fun b Z=>?_) (((hF.trans a).trans ((Fm.refl _ _).push _)).then Y fun c p h=>by have:=hnew c h;omega);obtain⟨_,_,_,_,h⟩:=Z;cases h;omega
    ·have t:uN ins es[i]=false:=by unfold uN;rw[l,lIF m];rfl
     rw[t]at g;simp(disch:=first|omega|exact ti rfl)only[go_sem,seval,N,P,Edge.cells,l,s,T,U,V,W,m];unfold qp9;simp(disch:=go_size)only[go_sem,rB,rI,rK,rL,rN,rS,r8];rw[lEU g3,lIM]at g;refine qg0 d A B o p f C k (i+1) v _ om om (by rw[g];exact hg.no a) hnew (hF.trans a)
  ·simp only[go_sem,j];have:i=es.length:=om;simp_all
theorem zz6(D:aU C)(u:uZ C)(G:tJ C)(hR:uI LA LO C)(hk:1000<=k){es:List Edge}(I:qdy n es)(hn:n<=256)(X:es.length<900){s:AV}(Y:kX H s es):Ok (C k (.f 107) [.agg [.int .i64 (.ofNat n),s]] H) fun r H'=>∃(w:AV) (a:List (List Nat)) (ins R:List Nat),r=.bB [w,.int .i64 (.ofNat 0)]/\kI n (jO es) [] a/\(∀(j:Nat) (o:List Nat) (x:Nat),a[j]? =some o->x∈o->ins[x]? =some j) /\ R.Pairwise (· < ·)/\(∀x,x∈R↔x∈jI ins es)/\Rl H' w (aI R)/\dA w=.val (.int .i64 (.ofNat R.length))/\R.length<=900/\Fm No H H':=by
 obtain⟨j,rfl⟩:=aT hk;rw[(D j).zBp];unfold zBp z6m;simp(disch:=omega)only[go_sem,seval];have Z:Fm No H (aK H (aB 0 [.int .i64 (.ofNat n),s])):=(Fm.refl _ _).push _;refine Ok.ve (xey D u G hR (k:=j) om I hn om (Y.fm Z)) ?_;rintro r H1 ⟨lv,iv,os,t,out,ins,a,rfl,T,B,U⟩;have J:=T.ord I.rng;have K:H1.get H.nx=aB 0 [.int .i64 (.ofNat n),s]:=(U.keep gx).trans (jQ _ _);have M:∀ x y:AV,aY [AV.aA,AV.aA] 0 [x,y]=[x,y]:=fun _ _=>rfl;have n1:H.nx+1<=H1.nx:=U.nx;simp(disch:=omega)only[go_sem,seval,M,lEX,lIT];generalize p:(aK H1 (aB 0 [AV.aA,AV.aA])).put H1.nx (aB 0 [lv,iv])=H2;have N:Fm No H1 H2:=by rw[<-p];exact((Fm.refl _ _).push _).aH _ _ (lEO _)
 have g2:H2.get H1.nx=aB 0 [lv,iv]:=by rw[<-p,dL]
 have l2:H1.nx<H2.nx:=by rw[<-p];show H1.nx<H1.nx+1;omega
 have O:H2.get H.nx=aB 0 [.int .i64 (.ofNat n),s]:=(N.keep om).trans K;have jU:Fm No H H2:=(Z.trans U).trans N;have z:kX H2 s es:=Y.fm jU;rw[quk];unfold qni;have e0:=z.len;simp(disch:=go_size)only[go_sem,seval,O,e0];unfold zk7;rw[dD];refine qg0 om I.rng z (B.gi.no N) g2 l2 (fun v f E f3 g=>?_) bZ 0 .aA H2 lf (lEV _) (by simpa [jI,aI] using Gl.nil 1 H2) (fun b hb=>by obtain⟨_,_,_,_,h⟩:=hb;cases h) (Fm.refl _ _);have hml:=zp6 t es;have d:Ok (C j (.f 130) [v] f) fun r H'=>r=.bB []/\∃ R:List Nat,R.Perm (jI t es)/\R.Pairwise (· <= ·)/\Gl 1 H' v (jI t es).length (aI R)/\Fm (In v) f H':=by
  rcases lXL (jI t es).length with V|V
  ·have P:jI t es=[]:=lIG.1 V;rw[P]at E ⊢;rcases E.is with⟨rfl,_⟩|⟨b,o,e,q,L,rfl,g1,g2,g3,g4,g5⟩
   ·exact⟨_,_,zsm u G om f,rfl,[],List.Perm.refl _,List.Pairwise.nil,E,Fm.refl _ _⟩
   ·obtain⟨j,rfl⟩:∃ i,j=i+1:=⟨j-1,om⟩;have g2:o<=L.length:=g2;have A:storeAt f b o [] (.bB [])=.ok (.bB []) (f.put b (aB q (aY L o []))):=qb5 _ _ _ _ _ _ _ g1 g2;have hL:aY L o []=L:=by unfold aY;simp
    rw[hL]at A;have hs:q1q f b o 0=some (.ok (.bB []) (f.put b (aB q L))):=by
     unfold q1q;have hr:iF (f.get b) o 0=some []:=by rw[g1,qbv,lEZ (show o+0<=L.length from g2)];rfl
     rw[hr];have P:qjs []=[]:=by unfold qjs;simp
     simp only[qr0,P,List.map_nil,A];rfl
    refine⟨_,_,(u j).srt _ _ _ _ _ _ _ hs,rfl,[],List.Perm.refl _,List.Pairwise.nil,?_,(Fm.refl _ _).put _ _ fun _=>⟨_,_,_,_,rfl⟩⟩;exact⟨rfl,.inr ⟨b,o,e,q,L,rfl,dL _ _ _,g2,g3,g4,g5⟩⟩
  ·exact zeb D u G (k:=j) om V om E
 refine Ok.ve d ?_;rintro r H4 ⟨rfl,R,hp,W,h4,f4⟩;refine Ok.ve (q9b u (k:=j) om W om h4) ?_;rintro r5 H5 ⟨F,l,m,h5,hin,f5⟩;obtain⟨w,w1,w2,w3,_⟩:=z0b D (k:=j) om h5;simp only[go_sem,w1];have Q:F.length<=900:=by have S:F.Nodup:=l.imp fun h=>Nat.ne_of_lt h;have:F.length<=R.length:=S.length_le_of_subset fun x hx=>(m x).1 hx;rw[hp.length_eq]at this;omega
 refine Ok.ret ⟨w,a,t,F,rfl,J,B.ins,l,fun x=>(m x).trans hp.mem_iff,w2,w3,Q,((jU.trans f3).then f4 fun c hc h=>?_).then f5 fun c hc h=>?_⟩
 ·have:=g c h;omega
 ·have:=g c h;omega
structure CB(H0:Hp)(n gb c:Nat)(gv lv iv:AV)(es:List Edge)(ins:List Nat):Prop where
 fe:kX H0 gv es
 fg:H0.get gb=aB 0 [iN n,gv]
 gl:gb<H0.nx
 fc:H0.get c=aB 0 [lv,iv]
 cl:c<H0.nx
 fi:Gl 1 H0 iv n (aI ins)
 fr:∀ e∈es,e.f<n/\e.t<n
 len:es.length<200000
structure CI(H0:Hp)(m:Nat)(L:List Edge)(H:Hp):Prop where
 ex:∃ v,H.get H0.nx=aB 0 [iN m,v]/\Gl 3 H v L.length (xd5 L)/\∀ b,In v b->H0.nx<b
 fm:Fm (fun b=>b=H0.nx) H0 H
 lt:H0.nx<H.nx
theorem CI.no{L:List Edge}(h:CI H0 m L H)(f:Fm No H H'):CI H0 m L H':=by obtain⟨v,a,b,c⟩:=h.ex;exact⟨⟨v,(f.keep h.lt).trans a,b.no f,c⟩,h.fm.then f fun _ _ h=>h.elim,af h.lt f.nx⟩
theorem CB.at{n a c:Nat}{d lv iv:AV}{es:List Edge}(h:CB H0 n a c d lv iv es ins)(f:Fm (fun b=>b=H0.nx) H0 H):kX H d es/\H.get a=aB 0 [iN n,d]/\a<H.nx/\H.get c=aB 0 [lv,iv]/\c<H.nx/\Gl 1 H iv n (aI ins):=by have g1:=h.gl;have g2:=h.cl;have g3:=f.nx;exact⟨h.fe.keep f.nx fun b g i=>f.get b i (fun e=>by have:=h.fe.lt g;omega),(f.get _ g1 om).trans h.fg,om,(f.get _ g2 om).trans h.fc,om,h.fi.fm f fun b g e=>by have:=h.fi.lt g;omega⟩
theorem zx7{a:List (List Nat)}(h:kI n aS [] a):a.length<=n:=by
 obtain⟨i,j,k,e,l⟩:=h.all;have b:∀(o:List (List Nat)),(∀c∈o,c≠[])->o.length<=o.flatten.length:=fun o=>by
  induction o with
  |nil=>intro _;exact lEO _
  |cons c o ih=>intro h;have f:=ih fun c d=>h c (lIS _ d);have g:0<c.length:=lUR.2 (h c lIH);rw[lOR,lEP,lEX];omega
 have:=b a e;omega
theorem aXL(a b:Nat):max (Int.ofNat a) (Int.ofNat b)=Int.ofNat (max a b):=by simp only[lIA];omega
theorem qv0{O:Ev.Call}{H:Hp}{v:AV}{l:List Nat}(c:Rl H v (aI l))(e:l.length<900000){q:pH}{Q:pS}(g:Ok (q (.int .i64 (.ofNat (iH l))) H) Q):∀(f i:Nat),l.length-i<f->i<=l.length->Ok (zba O q v (.int .i64 (.ofNat l.length)) f (.int .i64 (.ofNat (iH (l.take i)))) (.int .i64 (.ofNat i)) H) Q
 |0,i,h,_=>om
 |f+1,i,h,hi=>by
  show Ok (zlq O _ _ _ (zba O _ _ _ f) _ _ H) Q;unfold zlq;by_cases a:i<l.length
  ·obtain⟨b,o,m,_,d⟩:=c.at' i (by rw[lM];exact a);rw[qhz]at d;have j:=aXL (iH (l.take i)) l[i];have k:iH (l.take (i+1))=max (iH (l.take i)) l[i]:=by
    unfold iH;rw[lER a,List.foldl_append];rfl
   simp only[go_sem,a];unfold z1x;simp only[go_sem,m,d,q8u,j];unfold z1y;simp(disch:=go_size)only[go_sem,rB,rI,rK,rL,rN,rS,r8];rw[<-k];exact qv0 c e g f (i+1) om om
  ·simp only[go_sem,a];have:i=l.length:=om;simp_all
theorem zdi(d:qsq C)(e:1<=k){v:AV}{l:List Nat}(b:Rl H v (aI l))(f:l.length<900000):C k (.f 76) [v] H=.ok (.int .i64 (.ofNat (iH l))) H:=by
 obtain⟨j,rfl⟩:=aT e;have a:Ok (C (j+1) (.f 76) [v] H) fun r H'=>r=.int .i64 (.ofNat (iH l))/\H'=H:=by rw[(d j).zBc];unfold zBc z6x;have c:=b.len;rw[lM]at c;simp only[go_sem,c];unfold z10;rw[dD];refine qv0 b f ?_ bZ 0 lf (lEV _);exact Ok.ret ⟨rfl,rfl⟩
 obtain⟨r,H',h,rfl,rfl⟩:=a;exact h
theorem step_ok(b:qsq C)(c:1<=k)(e:Edge)(H:Hp):Ok (C k (.f 108) [.agg e.cells] H) fun r H'=>r=.int .i64 (.ofNat (y7 e))/\Fm No H H':=by
 obtain⟨j,rfl⟩:=aT c;rw[(b j).zBq];unfold zBq z6l Edge.cells y7;cases a:e.s with
 |true=>simp(disch:=omega)only[go_sem,seval,a];exact Ok.ret ⟨rfl,fm⟩
 |false=>simp(disch:=omega)only[go_sem,seval,a];exact Ok.ret ⟨rfl,fm⟩
theorem zzo{es:List Edge}{i c:Nat}(a:c<es.length)(b:ins.getD es[c].f 0=i)(d:¬ ins.getD es[c].t 0=i):asks (es.take (c+1)) ins o i=asks (es.take c) ins o i++[o.getD es[c].t 0+y7 es[c]]:=by unfold asks;rw[lER a,lU5,lID];simp_all
theorem xay{es:List Edge}{i c:Nat}(a:c<es.length)(h:¬(ins.getD es[c].f 0=i/\¬ ins.getD es[c].t 0=i)):asks (es.take (c+1)) ins o i=asks (es.take c) ins o i:=by unfold asks;rw[lER a,lU5,lID];simp_all
theorem zsc(es:List Edge)(ins o:List Nat)(i:Nat):(asks es ins o i).length<=es.length:=by unfold asks;rw[lET];exact lU2 _ _
theorem qrq(I:qsq C){j:Nat}{H1:Hp}{n c ob i:Nat}{J lv iv:AV}{es:List Edge}{ins o:List Nat}(K:1<=j)(L:kX H1 J es)(m:es.length<200000)(M:∀ e∈es,e.f<n/\e.t<n)(D:H1.get c=aB 0 [lv,iv])(g:c<H1.nx)(a:Gl 1 H1 iv n (aI ins))(N:H1.get ob=aB 0 (aI o))(l:ob<H1.nx)(v:o.length=n)(s:∀ x,x<n->o.getD x 0<=1000){q:pH}{Q:pS}(O:∀ w H,Gl 1 H w (asks es ins o i).length (aI (asks es ins o i))->Fm No H1 H->(∀b,In w b->H1.nx<=b)->Ok (q w H) Q):∀(f k:Nat) (w:AV) (H:Hp),es.length-k<f->k<=es.length->Gl 1 H w (asks (es.take k) ins o i).length (aI (asks (es.take k) ins o i))->(∀b,In w b->H1.nx<=b)->Fm No H1 H -> Ok (qkv (C j) q (.ptr c 0) (.sl ob 0 n n true) (.int .i64 (.ofNat i)) J (.int .i64 (.ofNat es.length)) f w (.int .i64 (.ofNat k)) H) Q
 |0,k,w,H,h,_,_,_,_=>om
 |f+1,k,w,H,h,hk,hw,hnew,hF=>by
  show Ok (q63 (C j) _ _ _ _ _ _ (qkv (C j) _ _ _ _ _ _ f) _ _ H) Q;unfold q63;by_cases d:k<es.length
  ·obtain⟨b,p,Y,e2,Z⟩:=(L.fm hF).at d;obtain⟨r1,r2⟩:=M es[k] (lEQ _);have hil:ins.length=n:=by have:=a.len;rw[lM]at this;omega
   obtain⟨b1,o1,c1,c2,_,c3⟩:=(a.no hF).at (q25 ins es[k].f om);obtain⟨b2,o2,c4,c5,_,c6⟩:=(a.no hF).at (q25 ins es[k].t om);have P:H.get c=aB 0 [lv,iv]:=(hF.keep g).trans D;have hcH:c<H.nx:=af g hF.nx;have k2:H.get ob=aB 0 (aI o):=(hF.keep l).trans N;have R:ob<H.nx:=af l hF.nx;simp only[go_sem,d];rw[qup];unfold qnm;have u:Fm No H ((aK H (aB 0 [.int .i64 (.ofNat 0),.int .i64 (.ofNat 0),.bool false])).put H.nx (aB 0 es[k].cells)):=by exact jW
   have S:=zsc (es.take k) ins o i;rw[lI6]at S;have y:¬(ins.getD es[k].f 0=i/\¬ ins.getD es[k].t 0=i)->Ok (qqf (C j) (qkv (C j) q (.ptr c 0) (.sl ob 0 n n true) (.int .i64 (.ofNat i)) J (.int .i64 (.ofNat es.length)) f) w (.int .i64 (.ofNat k)) ((aK H (aB 0 [.int .i64 (.ofNat 0),.int .i64 (.ofNat 0),.bool false])).put H.nx (aB 0 es[k].cells))) Q:=fun hn=>by unfold qqf;simp(disch:=go_size)only[go_sem,rB,rI,rK,rL,rN,rS,r8];exact qrq I K L m M D g a N l v s O f (k+1) w _ om om (by rw[xay d hn];exact hw.no u) hnew (hF.trans u)
   by_cases B:ins.getD es[k].f 0=i
   ·by_cases G:ins.getD es[k].t 0=i
    ·simp(disch:=first|omega|exact ti rfl)only[go_sem,seval,Y,Z,Edge.cells,P,c1,c3,c4,c6,B,G];have:=y fun h=>h.2 G;exact this
    ·have v4:=q25 o es[k].t om;have ho4:=s es[k].t r2;simp(disch:=first|omega|exact ti rfl)only[go_sem,seval,Y,Z,Edge.cells,P,k2,c1,c3,c4,c6,B,G,v4];generalize t:(Hp.mk ((aK H (aB 0 [.int .i64 (.ofNat 0),.int .i64 (.ofNat 0),.bool false])).put H.nx (aB 0 [.int .i64 (.ofNat es[k].f),.int .i64 (.ofNat es[k].t),.bool es[k].s])).t (H.nx+1+12))=Hx at *;have u:Fm No H Hx:=by rw[<-t];exact Fm.up2 u om
     have nx:Hx.nx=H.nx+1+12:=by rw[<-t]
     have kx:Hx.get H.nx=aB 0 [.int .i64 (.ofNat es[k].f),.int .i64 (.ofNat es[k].t),.bool es[k].s]:=by rw[<-t];exact dL _ _ _
     refine Ok.iR (step_ok I (k:=j) K es[k] Hx) ?_;rintro r E ⟨rfl,F⟩;have T:E.get H.nx=aB 0 [.int .i64 (.ofNat es[k].f),.int .i64 (.ofNat es[k].t),.bool es[k].s]:=(F.keep om).trans kx;have U:E.get ob=aB 0 (aI o):=((u.trans F).keep R).trans k2;have hst:y7 es[k]<=1:=by unfold y7;split<;>omega
     simp(disch:=omega)only[go_sem,seval,T,U,v4];generalize hz:o.getD es[k].t 0+y7 es[k]=z at *;have fP:Fm No H (E.put (H.nx+1+9) (aB 0 [AV.int .i64 (.ofNat z)])):=(u.trans F).aH _ _ om;have V:Gl 1 (E.put (H.nx+1+9) (aB 0 [AV.int .i64 (.ofNat z)])) w _ _:=hw.no fP;obtain⟨H3,a1,a2,_,a4,a5⟩:=V.append (w:=8) (k:=1) (x:=[AV.int .i64 (.ofNat z)]) om rfl om om;refine Ok.tT a1 ?_;unfold qqf;simp(disch:=go_size)only[go_sem,rB,rI,rK,rL,rN,rS,r8];have W:=zzo (o:=o) d B G;rw[hz]at W;have X:aI (asks (es.take k) ins o i)++[AV.int .i64 (.ofNat z)]=aI (asks (es.take (k+1)) ins o i):=by rw[W];simp[aI]
     have A:(asks (es.take (k+1)) ins o i).length=(asks (es.take k) ins o i).length+1:=by rw[W,lEP];rfl
     rw[X,<-A]at a2;rw[<-A];have hn1:=hF.nx;have hn2:=F.nx;refine qrq I K L m M D g a N l v s O f (k+1) _ H3 om om a2 (fun b hb=>?_) ((hF.trans fP).then a4 fun c D h=>by have:=hnew c h;omega);obtain⟨_,_,_,_,h⟩:=hb;cases h;omega
   ·simp(disch:=first|omega|exact ti rfl)only[go_sem,seval,Y,Z,Edge.cells,P,c1,c3,B];have:=y fun h=>B h.1;exact this
  ·simp only[go_sem,d];have:k=es.length:=om;subst this;rw[lIN]at hw;exact O w H hw hF hnew
theorem q2y(A:qsq C){j:Nat}(B:1<=j){H1:Hp}{n ob:Nat}{w m:AV}{l c o:List Nat}(D:Gl 1 H1 w l.length (aI l))(E:l.length<900000)(d:∀ b,In w b->b≠ob)(F:Gl 1 H1 m c.length (aI c))(r:c.length<900000)(e:∀ b,In m b->b≠ob)(g:∀ x∈c,x<n)(i:o.length=n){q:pL}{Q:pS}(G:∀ H,H.get ob=aB 0 (aI (zX o (iH l) c))->Fm (fun b=>b=ob) H1 H->Ok (q H) Q):∀(f k:Nat) (H:Hp),c.length-k<f->k<=c.length->H.get ob=aB 0 (aI (zX o (iH l) (c.take k)))->Fm (fun b=>b=ob) H1 H -> Ok (qxz (C j) q (.sl ob 0 n n true) w m (.int .i64 (.ofNat c.length)) f (.int .i64 (.ofNat k)) H) Q
 |0,k,H,h,_,_,_=>om
 |f+1,k,H,h,hk,hg,hF=>by
  show Ok (q64 (C j) _ _ _ _ _ (qxz (C j) _ _ _ _ _ f) _ H) Q;unfold q64;by_cases a:k<c.length
  ·have s:Gl 1 H m c.length (aI c):=F.fm hF e;have t:Rl H w (aI l):=(D.fm hF d).rl;obtain⟨b,p,J,_,_,K⟩:=s.at (show(aI c)[k]? =some (.int .i64 (.ofNat c[k]))from qoe c k a);have L:=g c[k] (lEQ _);have u:=zdi A (k:=j) B t E;have I:(zX o (iH l) (c.take k)).length=n:=by rw[qr6,i]
   have v:=qj4 (zX o (iH l) (c.take k)) c[k] (iH l) om;have y:c[k]+1<=(aI (zX o (iH l) (c.take k))).length:=by rw[lM];omega
   have z:(zX o (iH l) (c.take k)).set c[k] (iH l)=zX o (iH l) (c.take (k+1)):=by rw[lER a,qv3]
   simp only[go_sem,a];unfold zl3;simp(disch:=omega)only[go_sem,seval,J,K,u,hg,v,y,lI1,lEW,lEX,lIT];unfold zl4;simp(disch:=go_size)only[go_sem,rB,rI,rK,rL,rN,rS,r8];rw[z];exact q2y A B D E d F r e g i G f (k+1) _ om om (dL _ _ _) (hF.put _ _ fun _=>rfl)
  ·simp only[go_sem,a];have:k=c.length:=om;simp_all
theorem q20(F:qsq C){j:Nat}(G:1<=j){HB H0 H1:Hp}{n t c:Nat}{D lv iv:AV}{m:List AV}{es:List Edge}{ins:List Nat}{a:List (List Nat)}(hn:n<=256)(S:kX H0 D es)(p:es.length<200000)(I:∀ e∈es,e.f<n/\e.t<n)(T:H0.get t=aB 0 [.int .i64 (.ofNat n),D])(u:t<H0.nx)(U:H0.get c=aB 0 [lv,iv])(r:c<H0.nx)(k:CR HB H0 n lv iv m a ins)(v:NmC n a ins)(d:∀ o∈a,∀x∈o,x<n)(V:∀ e∈es,ins.getD e.t 0<=ins.getD e.f 0)(J:a.length<=n)(y:∀ o∈a,o.length<=n)(z:Fm No H0 H1)(K:H0.nx<H1.nx){q:pL}{Q:pS}(W:∀ o H,uH n es ins a.length o->H.get H0.nx=aB 0 (aI o)->Fm (fun b=>b=H0.nx) H1 H->Ok (q H) Q):∀(f i:Nat) (o:List Nat) (H:Hp),a.length-i<f->i<=a.length->uH n es ins i o->H.get H0.nx=aB 0 (aI o)->Fm (fun b=>b=H0.nx) H1 H -> Ok (qkw (C j) q (.ptr t 0) (.ptr c 0) (.sl H0.nx 0 n n true) lv (.int .i64 (.ofNat a.length)) f (.int .i64 (.ofNat i)) H) Q
 |0,i,o,H,h,_,_,_,_=>om
 |f+1,i,o,H,h,hi,hO,hgo,hF=>by
  show Ok (qqg (C j) _ _ _ _ _ _ (qkw (C j) _ _ _ _ _ _ f) _ H) Q;unfold qqg;by_cases hil:i<a.length
  ·have s:∀ b,b<H0.nx->H.get b=H0.get b:=fun b g=>(hF.get b om om).trans (z.keep g);have l:H0.nx<=H.nx:=by have:=hF.nx;omega
   have aEX:=k.len;have Y:kX H D es:=S.keep l fun b g d=>s b d;have gI:Gl 1 H iv n (aI ins):=k.gi.keep l fun b g d=>s b d;have gL:Gl 1 H lv m.length m:=k.gl.keep l fun b g d=>s b d;obtain⟨c1,_,_⟩:=k.at' i (m[i]'om) (a[i]'hil) g3 g3;have gC:Gl 1 H (m[i]'om) (a[i]'hil).length (aI (a[i]'hil)):=c1.keep l fun b g d=>s b d;have M:∀ b,In (m[i]'om) b->b<H0.nx:=fun b g=>c1.lt g;obtain⟨b1,o1,e1,_,_,e2⟩:=gL.at (i:=i) (x:=m[i]'om) g3;have N:∀ x,x<n->(x∈a[i]'hil↔ins.getD x 0=i):=fun x E=>by
    constructor
    ·intro h;exact v.is i _ x (gp hil) h
    ·intro h;obtain⟨j',o',Z,h2⟩:=v.all x E;have:=v.is j' o' x Z h2;rw[h]at this;subst this;simp_all
   have O:=d _ (lEQ hil);have cGA:=y _ (lEQ hil);have k1:H.get t=aB 0 [.int .i64 (.ofNat n),D]:=(s t u).trans T;have k2:H.get c=aB 0 [lv,iv]:=(s c r).trans U;have e0:=Y.len;generalize m[i]'om=cw at *;generalize a[i]'hil=co at *;simp only[go_sem,hil];unfold zl1;simp only[go_sem,e1,e2,k1,e0];unfold zl6;rw[dD];have P:∀ x,x<n->o.getD x 0<=1000:=fun x E=>by have Z:=hO.bd x E;have h2:=v.lt E;omega
   refine qrq F G Y p I k2 (af r l) gI hgo (by have:=hF.nx;omega) hO.len P (fun w X hw L A=>?_) bZ 0 .aA H lf (lEV _) (by simpa [asks,aI] using Gl.nil 1 H) (fun b g=>by obtain⟨_,_,_,_,h⟩:=g;cases h) (Fm.refl _ _);unfold qx0;have B:=gC.no L;have e3:=B.aX;simp only[go_sem,e3];unfold zl7;rw[dD];have hal:=zsc es ins o i;have R:H0.nx<H.nx:=by have:=hF.nx;omega
   refine q2y F G (H1:=X) (o:=o) hw om (fun b g=>by have:=A b g;omega) B om (fun b g=>by have:=M b g;omega) O hO.len (fun H3 g3 f3=>?_) bZ 0 X lf (lEV _) ((L.keep R).trans hgo) (Fm.refl _ _);unfold q62;simp(disch:=go_size)only[go_sem,rB,rI,rK,rL,rN,rS,r8];exact q20 F G hn S p I T u U r k v d V J y z K W f (i+1) _ H3 om om (hO.step I N V) g3 ((hF.then L fun _ _ h=>h.elim).then f3 fun _ _ h=>h)
  ·simp only[go_sem,hil];have:i=a.length:=om;subst this;exact W o H hO hgo hF
theorem zx6{es:List Edge}(f:∀ e∈es,e.f<n/\e.t<n){a:List (List Nat)}(i:kI n (jO es) [] a)(h:NmC n a ins):∀ e∈es,ins.getD e.t 0<=ins.getD e.f 0:=fun e b=>by
 obtain⟨k,l⟩:=f e b;obtain⟨j,o,c,d⟩:=h.all e.f k;rcases q2o i c d l (qdx.2 ⟨e,b,rfl,rfl⟩)with g|⟨j',c',g1,g2,g3⟩
 ·simp at g
 ·rw[h.is j o e.f c d,h.is j' c' e.t g2 g3];exact g1
theorem xc0{a:List (List Nat)}(c:kI n aS [] a)(d:∀(j:Nat) (o:List Nat) (x:Nat),a[j]? =some o->x∈o->ins[x]? =some j):NmC n a ins:=⟨fun j o y e f=>by
  rw[lES,d j o y e f];rfl,fun y g=>by
  obtain⟨l,m,h,p,q⟩:=c.all;obtain⟨o,i,b⟩:=lUI.1 (h y g);obtain⟨j,k⟩:=lX6.1 i;exact⟨j,o,k,b⟩⟩
theorem zgl(hC:aU C)(hY:qsq C)(hO:uZ C)(hS:tJ C)(hR:uI LA LO C)(hk:1002<=k){es:List Edge}(f:qdy n es)(K:n<=256)(v:es.length<900){p:AV}(L:kX H p es):Ok (C k (.f 73) [.agg [.int .i64 (.ofNat n),p]] H) fun r H'=>Fm No H H' /\ ((∃w o,r=.bB [w,.int .i64 (.ofNat 0)]/\Gl 1 H' w n (aI o)/\dA w=.val (.int .i64 (.ofNat n))/\Fit n es o/\Lst n es o/\∀ x,x<n->o.getD x 0<n) \/ (r=.bB [.aA,.int .i64 (.ofNat 12)]/\∃ e∈es,e.s=true/\Rc (jO es) e.t e.f)):=by
 obtain⟨j,rfl⟩:=aT hk;rw[(hY j).zAu];unfold zAu z7e;simp(disch:=go_size)only[go_sem,seval];have O:Fm No H (aK H (aB 0 [.int .i64 (.ofNat n),p])):=by exact kW
 refine Ok.ve (xey hC hO hS hR (k:=j) om f K om (L.fm O)) ?_;rintro r H1 ⟨lv,iv,os,fJ,out,ins,res,rfl,aHA,B,J⟩;have m:=aHA.ord f.rng;have n1:H.nx+1<=H1.nx:=J.nx;have g1:H1.get H.nx=aB 0 [.int .i64 (.ofNat n),p]:=(J.keep gx).trans (jQ _ _);have P:∀ x y a b:AV,aY [a,b] 0 [x,y]=[x,y]:=fun _ _ _ _=>rfl;have I:Fm No H1 ((aK H1 (aB 0 [.aA,.aA])).put H1.nx (aB 0 [lv,iv])):=by exact jW
 simp(disch:=omega)only[go_sem,seval,P,lEX,lIT];generalize G:(aK H1 (aB 0 [AV.aA,AV.aA])).put H1.nx (aB 0 [lv,iv])=H2 at *;have c2:H2.get H1.nx=aB 0 [lv,iv]:=by rw[<-G,dL]
 have n2:H2.nx=H1.nx+1:=by rw[<-G];rfl
 have g2:H2.get H.nx=aB 0 [.int .i64 (.ofNat n),p]:=(I.keep om).trans g1;rw[qum];unfold qnk;simp(disch:=go_size)only[go_sem,seval,g2];refine Ok.ve (zz6 hC hO hS hR (k:=j) om f K v (((L.fm O).fm J).fm I)) ?_;rintro r g ⟨wx,D,cHT,R3,rfl,hF3,aEV,bUz,E,hx3,cHn,hRl,F⟩;have Q:=hF3.uniq m;subst Q;have n3:=F.nx;have A:=((O.trans J).trans I).trans F;have R:=hx3.len;rw[lM]at R;have u:=xc0 m B.ins;have q:=xc0 m aEV;by_cases hm:R3=[]
 ·subst hm;have T:aD wx=.val (.int .i64 (.ofNat 0)):=R;simp only[go_sem,T,lOB];rw[qun];unfold qnl;have g3:g.get H.nx=aB 0 [.int .i64 (.ofNat n),p]:=(F.keep om).trans g2;have U:g.get H1.nx=aB 0 [lv,iv]:=(F.keep om).trans c2;have hd:=zx6 f.rng m u;have V:∀ e∈es,e.s=true->fJ.getD e.f 0≠fJ.getD e.t 0:=fun e i M h=>by
   obtain⟨l1,l2⟩:=f.rng e i;rw[u.same q l1,u.same q l2]at h;have:=(E _).2 (zda.2 ⟨e,i,M,h,rfl⟩);cases this
  have hL:=zx7 m;have s:=B.no (I.trans F);obtain⟨z1,z2,z3,z4,z5⟩:=m.all;have t:=s.gl.aX;rw[s.len]at t;by_cases h0:0<n
  ·have mk:=qck [.int .i64 (.ofNat 0)] 8 g.nx n om om;rw[qcv,qod]at mk;simp only[go_sem,g3,h0,mk];rw[qkx];unfold qjf;have c4:(aK g (aB 0 (aI (List.replicate n 0)))).get H1.nx=aB 0 [lv,iv]:=by rw[qbo _ _ _ om];exact U
   simp only[go_sem,c4,t];unfold q65;rw[dD];refine q20 hY (j:=j) om (HB:=aK H (aB 0 [.int .i64 (.ofNat n),p])) (H0:=g) (H1:=aK g (aB 0 (aI (List.replicate n 0)))) K (L.fm A) om f.rng g3 om U om s u (fun o N x d=>z2 x (lUI.2 ⟨o,N,d⟩)) hd hL (fun o N=>?_) ((Fm.refl _ _).push _) (lU6 _) (fun o H4 z g4 f4=>?_) bZ 0 (List.replicate n 0) _ lf (lEV _) (uH.start n es fJ) (jQ _ _) (Fm.refl _ _)
   ·have:o.length<=D.flatten.length:=(List.sublist_flatten_of_mem N).length_le;omega
   ·unfold zbc;obtain⟨d1,d2,d3⟩:=z.done f.rng u m hd V;have n4:=f4.nx;have n4':g.nx+1<=H4.nx:=n4;refine Ok.ret ⟨(A.push _).then f4 fun c hc h=>by have:=A.nx;omega,Or.inl ⟨_,o,rfl,⟨by rw[lM,z.len,lI1],.inr ⟨g.nx,0,true,0,_,rfl,g4,lEV _,lX2,Or.inl rfl,om⟩⟩,rfl,d1,d2,fun x d=>?_⟩⟩;have h1:=d3 x d;have h2:=u.lt d;omega
  ·have W:n=0:=om;subst W;simp only[go_sem,g3,lOB];rw[qkx];unfold qjf;have X:D=[]:=lIG.1 om;subst X;have Y:aD lv=.val (.int .i64 (.ofNat 0)):=t;simp only[go_sem,U,Y,lOB];unfold q65;rw[dD];show Ok (qqg (C j) _ _ _ _ _ _ (qkw (C j) _ _ _ _ _ _ 999999) _ g) _;unfold qqg;have Z:es=[]:=by
    rcases List.eq_nil_or_concat es with h|⟨l,e,h⟩
    ·exact h
    ·have:=f.rng e (by rw[h];simp);omega
   exact Ok.ret ⟨A,Or.inl ⟨_,[],rfl,Gl.nil _ _,rfl,⟨rfl,fun e i=>by rw[Z]at i;cases i⟩,fun S _ x d=>absurd d (lUD _),fun x d=>absurd d (lUD _)⟩⟩
 ·have hp:0<R3.length:=lUR.2 hm;simp only[go_sem,R,hp];obtain⟨x,d⟩:=List.exists_mem_of_ne_nil R3 hm;obtain⟨e,i,M,h1,_⟩:=zda.1 ((E x).1 d);obtain⟨l1,l2⟩:=f.rng e i;exact Ok.ret ⟨A,Or.inr ⟨rfl,e,i,M,((q.eq m l1 l2).1 h1).2⟩⟩
end Go.Di
end
section
namespace Go.Di
open Go.Ev Go.Di.T Go.Sort
def lvN(s:SS):Nat:=lvl ((s.a-12402) / 256)
theorem qru(n:Nat):lvN (gK n)=lvl n:=by unfold lvN gK lvl;simp
def aAg(n:Nat)(s:SS)(neg:Bool):Prop:=lvN s<lvl n\/(neg=false/\lvN s=lvl n)
theorem zq3{n k:Nat}{neg:Bool}(h:ql6 n k neg=true):aAg n (gK k) neg:=by unfold ql6 at h;unfold aAg;rw[qru];simpa using h
def NdL(n:Nat)(y:Nd):Prop:=(y.k=1->y.neg=false)/\(y.k=2->aAg n y.rl y.neg)/\(y.k=3->aAg n y.to y.neg)
theorem qzi{n:Nat}{neg:Bool}(a:neg=true->0<lvl n):∀ y∈(qj5 neg).nodes neg,NdL n y:=by
 unfold qj5;cases neg
 ·intro y b;simp[Ru.nodes]at b;subst b;exact⟨fun _=>rfl,fun h=>by simp at h,fun h=>by simp at h⟩
 ·intro y b;simp[Ru.nodes]at b;subst b;refine⟨fun h=>by simp at h,fun _=>.inl ?_,fun h=>by simp at h⟩;rw[qru];exact a rfl
theorem q78{L:List (List Nat)}{n:Nat}(f:n<bF L):∀(d i:Nat) (neg:Bool),(neg=true->0<lvl n)->∀ y∈(fM L n d i neg).1.nodes neg,NdL n y
 |0,i,neg,h=>by unfold fM;exact qzi h
 |d+1,i,neg,hneg=>by
  have l:At (bF L) n neg:=⟨f,lO3 _ _,hneg⟩;unfold fM;split
  ·exact qzi hneg
  split
  ·exact qzi hneg
  split
  ·have c:=qzx l;have g:=qdf (d:=sE) (lOK (fK L n i / 8) c);intro y a;simp[aAZ,Ru.nodes]at a;subst a;refine⟨fun h=>by simp at h,fun _=>?_,fun h=>by simp at h⟩;have:∀ s∈cmpL (bF L) n neg,aAg n s neg:=fun s b=>by
    obtain⟨k,e,rfl⟩:=lIB.1 b;exact zq3 (lIV.1 e).2
   simp_all
  split
  ·unfold vV;split
   ·exact qzi hneg
   ·rename_i h;have g:=qdf (d:=(⟨sE,sE⟩:ArS)) (lOK (fK L n i / 8) (show 0<(lU L n neg).length by omega));intro y a;simp only[Ru.nodes,lI3]at a;subst a;refine⟨fun h=>by simp at h,fun h=>by simp at h,fun _=>?_⟩;have:∀ s∈lU L n neg,aAg n s.to neg:=fun s b=>by
     obtain⟨i,_,b⟩:=lU7.1 b;obtain⟨t,_,b⟩:=lU7.1 b;obtain⟨j,m,rfl⟩:=lIB.1 b;have c:=(lIV.1 m).2;unfold arP at c;rw[lI0]at c;exact zq3 c.2
    exact this _ g
  ·intro y a;rw[Ru.nodes,lI8,lEY]at a;have e:vN n (fK L n i)≠1/\vN n (fK L n i)≠2/\vN n (fK L n i)≠3:=by unfold vN;split<;>(try split)<;>omega
   rcases a with rfl|a|a
   ·exact⟨fun h=>absurd h e.1,fun h=>absurd h e.2.1,fun h=>absurd h e.2.2⟩
   ·exact q78 f d _ _ hneg _ a
   ·refine q78 f d _ _ (fun h=>?_) _ a;rw[lUC,lUF]at h;rcases h with h|h
    ·exact hneg h
    ·unfold vN at h;split at h
     ·omega
     split at h
     ·omega
     ·omega
theorem zw1{L:List (List Nat)}{n:Nat}(b:n<bF L){t:jX}(h:t∈kY L n)(e:t.rl≠sE):lvN t.rl<=lvl n:=by
 unfold kY at h;rw[lEY]at h;rcases h with h|h
 ·unfold vH at h;rw[lI8]at h;rcases h with rfl|h
  ·trivial
  ·rw[lIB]at h;obtain⟨i,_,rfl⟩:=h;trivial
 ·split at h
  ·rw[lI3]at h;have a:=qdf (d:=(⟨sE,sE⟩:jX)) (lOK (fK L n 1 / 2) (qyq b));rw[<-h]at a;unfold rR at a;rw[lIB]at a;obtain⟨k,c,rfl⟩:=a;rw[lIV]at c;rw[qru];simp_all
  ·cases h
variable {L:List (List Nat)} {X:List aQ}
theorem kK.len(h:kK L X):(aF X).length=bF L:=by rw[h.all];simp
theorem kK.aGk(h:kK L X){a b:SS}(d:bD X a b<(aF X).length):lvl (bD X a b)=lvN b:=by
 have g:(aF X)[bD X a b]=(a,b):=by have:=List.findIdx_getElem (w:=d);exact of_decide_eq_true this
 have f:(aF X)[bD X a b]=prN (bD X a b):=by
  have:∀(l:List (SS×SS)) (c:bD X a b<l.length),l=(List.range (bF L)).map prN->l[bD X a b]=prN (bD X a b):=fun l c e=>by subst e;simp
  exact this _ d h.all
 rw[g]at f;have i:=congrArg Prod.snd f;have j:b=gK (bD X a b):=i
 calc lvl (bD X a b)=lvN (gK (bD X a b)):=(qru _).symm
  _=lvN b:=by rw[<-j]
theorem kK.lev(h:kK L X){e:Edge}(b:e∈goE X X)(u:e.f<(aF X).length)(v:e.t<(aF X).length):lvl e.t<=lvl e.f/\(e.s=true->lvl e.t<lvl e.f):=by
 obtain⟨g,B,b⟩:=lU7.1 b;obtain⟨x,C,b⟩:=lU7.1 b;obtain⟨y,q,b⟩:=lU7.1 b;obtain⟨p,a,rfl⟩:=lIB.1 b;obtain⟨i,n,_,_,_,_,r,l⟩:=h.x B C;have k:x.r.name=gK n:=by rw[l,qdu];rfl
 have w:lvl (bD X g.name x.r.name)=lvl n:=by rw[h.aGk u,k,qru]
 have z:lvl (bD X p.1 p.2)=lvN p.2:=h.aGk v;show lvl (bD X p.1 p.2)<=lvl (bD X g.name x.r.name)/\(y.neg=true->lvl (bD X p.1 p.2)<lvl (bD X g.name x.r.name));rw[w,z];have A:x.r.rule=(fM L n 6 2 false).1:=by rw[l,qbu];rfl
 rw[A]at q;obtain⟨D,E,F⟩:=q78 r 6 2 false (fun h=>by cases h) y q;have c:∀ s,aAg n s y.neg->lvN s<=lvl n/\(y.neg=true->lvN s<lvl n):=fun s j=>by
  rcases j with j|⟨e,j⟩
  ·omega
  ·simp_all
 unfold zR at a;split at a
 ·rename_i d;obtain⟨t,m,rfl⟩:=lIB.1 a;obtain⟨f,o⟩:=lIV.1 m;have:t∈kY L n:=by
   rw[l]at f;exact qge _ _ t f
  exact⟨zw1 r this (by simpa using o),fun h=>by rw[D d]at h;cases h⟩
 split at a
 ·rename_i d;rw[lI3]at a;subst a;exact c _ (E d)
 split at a
 ·rename_i d;obtain⟨s,_,rfl⟩:=lIB.1 a;exact c _ (F d)
 ·cases a
theorem z9n{n:Nat}{es:List Edge}{lv:Nat->Nat}(h:∀ e∈es,lv e.t<=lv e.f/\(e.s=true->lv e.t<lv e.f)):¬ ∃e∈es,e.s=true/\Rc (jO es) e.t e.f:=by
 rintro ⟨e,f,g,i⟩;have c:∀ a b,Rc (jO es) a b->lv b<=lv a:=fun a b d=>by
  induction d with
  |refl=>exact lEO _
  |step _ hc ih=>obtain⟨j,k,l,m⟩:=qdx.1 hc;have:=(h j k).1;rw[l,m]at this;omega
 have:=c _ _ i;have:=(h e f).2 g;omega
end Go.Di
end
section
namespace Go.Di
open Go.Ev Go.Di.T Go.Sort
variable {C:Nat->Ev.Call} {LA LO:LP}
theorem xev(h:aU C)(u:iL C){k:Nat}(v:22<=k){H:Hp}{sv:AV}{X:List aQ}(p:cZ H sv X)(c:dF X){i:Nat}(w:i<(aF X).length):Ok (C k (.f 74) [.agg [sv],iN i] H) fun r H'=>r=.bB [(aF X)[i].1.v,(aF X)[i].2.v,iN 0]/\Fm No H H':=by
 obtain⟨j,rfl⟩:=aT v;rw[(h j).zAv];unfold zAv z7d;simp(disch:=omega)only[go_sem,seval];have f:Fm No H (aK H (aB 0 [sv])):=by exact kW
 refine Ok.ve (qsm h u (k:=j) om (p.fm f) c) ?_;rintro _ H1 ⟨rfl,d⟩;unfold zlx;have R:=d.nx;have y:H1.get H.nx=aB 0 [sv]:=(d.keep gx).trans (jQ _ _);simp only[go_sem,y];have m:=(p.fm f).fm d;refine Ok.ve (zsn h (k:=j) om m c.pr c.al c.sp) ?_;rintro _ q ⟨ib,rfl,G,I⟩;obtain⟨mb,nb,av,iv,g,s,_,_,t,J,_,_,S,K,_⟩:=G.ex;have z:(dX X).length=(aF X).length:=by rw[<-pG,lET]
 have n:=t.len;have a:i<(dX X).length:=om;have b:i<g.length:=om;have o:¬ g.length<=i:=om;have A:¬ i<0:=lUD i;simp only[go_sem,A,s,n,o];unfold zly;obtain⟨L,M,N,T,_,_,O⟩:=t.at' i b;obtain⟨P,Q,g1,g2,_,_,g4⟩:=J.at' i a;have B:bI (q.get L) M=.val (.ptr g[i].1 g[i].2):=O 0 (by rw[qy8];omega);have D:bI (q.get P) Q=.val (.str (dX X)[i].1.n (dX X)[i].1.a):=g4 0 (by rw[zp2];omega);have E:=(K i b a).nm;simp only[go_sem,s,g1,D,N,B,E];have F:(aF X)[i]=kq (dX X)[i]:=by
  have:∀(l:List (SS×SS)) (x:i<l.length),l=(dX X).map kq->l[i]=kq (dX X)[i]:=fun l x e=>by subst e;simp
  exact this _ w (pG X).symm
 rw[F];exact Ok.ret ⟨rfl,(f.trans d).trans I⟩
def stC(q:(SS×SS)×Nat):List AV:=[q.1.1.v,q.1.2.v,iN (q.2)]
theorem zos(q:(SS×SS)×Nat):(stC q).length=3:=rfl
def stZ:List AV:=[.str 0 0,.str 0 0,iN 0]
def stL(ps:List ((SS×SS)×Nat))(i:Nat):List AV:=(ps.take i).flatMap stC++(List.replicate (ps.length-i) stZ).flatten
theorem flat3(ps:List ((SS×SS)×Nat)):(ps.flatMap stC).length=ps.length*3:=by
 induction ps with
 |nil=>rfl
 |cons a l ih=>rw[lIQ,lEP,ih,zos,lEX];omega
theorem qyw(A B:List AV)(x c:AV)(k:Nat)(a:k=A.length):aY (A++x::B) k [c]=A++c::B:=by subst a;unfold aY;simp
theorem zw8{ps:List ((SS×SS)×Nat)}{i:Nat}(h:i<ps.length):aY (aY (aY (stL ps i) (i*3) [ps[i].1.1.v]) (i*3+1) [ps[i].1.2.v]) (i*3+2) [iN (ps[i].2)]=stL ps (i+1):=by
 have a:((ps.take i).flatMap stC).length=i*3:=by rw[flat3,lI6];omega
 have e:stL ps i=(ps.take i).flatMap stC++ .str 0 0:: .str 0 0::iN 0::(List.replicate (ps.length-(i+1)) stZ).flatten:=by unfold stL;rw[show ps.length-i=ps.length-(i+1)+1 by omega,List.replicate_succ,lOR];rfl
 rw[e,qyw _ _ _ _ _ a.symm];rw[show ∀(A B:List AV) (x y:AV),A++x::y::B=(A++[x])++y::B from fun A B x y=>g3];rw[qyw _ _ _ _ _ (by simp[a])];rw[show ∀(A B:List AV) (x y z:AV),A++[x]++y::z::B=(A++[x,y])++z::B from fun A B x y z=>g3];rw[qyw _ _ _ _ _ (by simp[a])];unfold stL;rw[lER h,lIC,lIE];simp[stC]
theorem qd2(l:List AV):∀ n,aZ l n=(List.replicate n l).flatten
 |0=>rfl
 |n+1=>by show l++aZ l n=_;rw[qd2 l n,List.replicate_succ,lOR]
theorem xex(a:aU C){k:Nat}(c:1<=k){b o:Nat}{n:Int}{H H':Hp}(h:storeAt H b (o+2) [.int .i64 n] .undef=.ok .undef H'):C k (.f 75) [.ptr b o,.int .i64 n] H=.ok (.bB []) H':=by obtain⟨j,rfl⟩:=aT c;rw[(a j).zAw];unfold zAw z7c;simp only[go_sem,h]
theorem zca(A:aU C)(O:iL C){j:Nat}(P:22<=j){Hb:Hp}{sv B:AV}{X:List aQ}{r pb f n:Nat}{o:List Nat}(hX:cZ Hb sv X)(D:dF X)(hn:n=(aF X).length)(E:Gl 1 Hb B n (aI o))(R:Hb.get r=aB 0 [sv])(s:r<Hb.nx)(F:Hb.get pb=aB 0 [.sl f 0 n n true])(m:pb<Hb.nx)(e:r≠f/\pb≠f/\f<Hb.nx)(t:∀ c,In B c->c≠f)(u:∀ H,Fm (fun c=>c=f) Hb H->cZ H sv X){Q:pS}{q:pL}(hq:∀ H,Gl 3 H (.sl f 0 n n true) n (((aF X).zip o).flatMap stC)->Fm (fun c=>c=f) Hb H->Ok (q H) Q):∀(k i:Nat) (H:Hp),i<=n->n-i<k->Gl 3 H (.sl f 0 n n true) n (stL ((aF X).zip o) i)->Fm (fun c=>c=f) Hb H -> Ok (qyh (C j) q (.ptr r 0) B (.ptr pb 0) (iN n) k (iN i) H) Q
 |0,i,_,_,h,_,_=>om
 |k+1,i,H,hi,hk,hg,hf=>by
  show Ok (q7k (C j) _ _ _ _ _ (qyh (C j) _ _ _ _ _ k) _ H) Q;unfold q7k;have jL:(aF X).length<=256:=by have:=D.pr.len;rw[<-pG,lET];exact this
  have v:o.length=n:=by have:=E.len;simpa [aI] using this
  have G:((aF X).zip o).length=n:=by rw[List.length_zip];omega
  by_cases d:i<n
  ·simp only[go_sem,d];unfold zng;have p1:=(hf.get pb m e.2.1).trans F;have x1:=(hf.get r s e.1).trans R;obtain⟨b,q1,H2,l,e2,g2,f2,n2⟩:=hg.set1 d (j:=0) om ((aF X).zip o)[i].1.1.v;have I:b=f/\q1=i*3:=by rw[uY _ _ _ _ _ _ _ _ d,lEW]at l;injection l with l;injection l with a b;exact⟨a.symm,b.symm⟩
   obtain⟨rfl,rfl⟩:=I;simp only[go_sem,p1,x1,l];have J:∀ H',Fm No H H'->Fm (fun c=>c=b) Hb H':=fun H' f'=>hf.then f' fun _ _ h=>absurd h id;simp(disch:=first|go_size|omega)only[go_sem,rB,rI,rK,rL,rN,rS,r8];refine Ok.iR (xev A O (k:=j) P (u _ (J _ (by exact Fm.refl _ _))) D (i:=i) om) ?_;rintro _ V ⟨rfl,f4⟩;have p:=(show Fm No H _ by exact Fm.refl _ _).trans f4;have K:=J V p;have S:=(K.get pb m e.2.1).trans F;have g4:=hg.fm p (fun _ _ h=>h);obtain⟨b4,q4,H5,x,N,g5,W,n5⟩:=g4.set1 d (j:=0) om (aF X)[i].1.v;rw[l]at x;injection x with x;injection x with ea eb;subst ea eb;have g:∀ c,In (AV.sl b 0 n n true) c->c=b:=fun c h=>by obtain⟨_,_,_,_,h⟩:=h;cases h;rfl
   have T:=(W.get pb (by have:=K.nx;omega) (fun h=>e.2.1 (g _ h))).trans S;unfold SS.v at N g5;rw[lO7]at N;unfold SS.v;obtain⟨b5,q5,H6,y,Y,g6,Z,n6⟩:=g5.set1 d (j:=1) om (aF X)[i].2.v;rw[l]at y;injection y with y;injection y with ea eb;subst ea eb;have p6:=(Z.get pb (by have:=K.nx;omega) (fun h=>e.2.1 (g _ h))).trans T;obtain⟨b6,q6,H7,z,e7,g7,f7,n7⟩:=g6.set1 d (j:=2) om (iN ((o.getD i 0)));rw[l]at z;injection z with z;injection z with ea eb;subst ea eb;have w:Fm (fun c=>c=b) Hb H6:=((J V p).then W fun c _ h=>g c h).then Z fun c _ h=>g c h;obtain⟨vb,vo,v1,_,v3⟩:=((E.fm w t).rl).at' i (by rw[lM];omega);have L:(aI o)[i]'(by rw[lM];omega)=iN ((o.getD i 0)):=by simp[aI,lES,v,d]
   rw[L]at v3;unfold SS.v at Y g6;have cp:=xex A (k:=j) om e7;simp only[go_sem,seval,S,l,N,T,Y,p6,v1,v3,cp];unfold znh;simp(disch:=go_size)only[go_sem,rB,rI,rK,rL,rN,rS,r8];have M:=w.then f7 fun c _ h=>g c h;have hz:((aF X).zip o)[i]=((aF X)[i],o.getD i 0):=by simp[lES,v,d]
   have U:=zw8 (ps:=(aF X).zip o) (i:=i) om;rw[hz]at U;refine zca A O P hX D hn E R s F m e t u hq k (i+1) H7 om om ?_ M;rw[<-U];exact g7
  ·simp only[go_sem,d];have he:i=n:=om;subst he;have:stL ((aF X).zip o) i=((aF X).zip o).flatMap stC:=by
    unfold stL;rw[lIW om,G,lUV];simp
   simp_all
end Go.Di
end
section
namespace Go.Di
open Go.Ev Go.Di.T Go.Sort
variable {C:Nat->Ev.Call} {LA LO:LP} {L:List (List Nat)} {X:List aQ}
def esG(X:List aQ):List Edge:=j5 (sortE (goE X X))
theorem zfw{n:Nat}(ms:List Nat)(a:n<13):(qcr n ms).length<900:=by have:=z3l n ms n;have h:n*n<=12*12:=Nat.mul_le_mul om om;unfold qcr;rw[lET];omega
theorem kK.es(h:kK L X):qdy (aF X).length (esG X)/\(esG X).length<900:=by have e:esG X=qcr (aF X).length _:=h.val.same.symm;rw[e];exact⟨zdx _ _,zfw _ (by rw[h.len];exact qcp L)⟩
theorem kK.nb(h:kK L X):¬ ∃e∈esG X,e.s=true/\Rc (jO (esG X)) e.t e.f:=z9n (n:=0) (lv:=lvl) fun e a=>by have b:=h.es.1.rng e a;exact h.lev (q1s.1 (zru.1 a)) b.1 b.2
structure nG(X:List aQ)(o:List Nat):Prop where
 fit:Fit (aF X).length (esG X) o
 lst:Lst (aF X).length (esG X) o
 lt:∀ x,x<(aF X).length->o.getD x 0<(aF X).length
theorem xa5(b:aU C)(e:uZ C)(f:tJ C)(g:uI LA LO C){k:Nat}(i:1002<=k)(h:kK L X){c:AV}{H:Hp}(j:kX H c (esG X)):Ok (C k (.f 73) [.agg [iN ((aF X).length),c]] H) fun r H'=>Fm No H H' /\ ∃w o,r=.bB [w,iN 0]/\Gl 1 H' w (aF X).length (aI o)/\dA w=.val (iN ((aF X).length))/\nG X o:=by
 have s:=qcp L;refine(zgl b b e f g i h.es.1 (by rw[h.len];omega) h.es.2 j).mono fun r H' d=>⟨d.1,?_⟩;rcases d.2 with⟨w,o,l,a,m,n,p,q⟩|⟨_,a⟩
 ·exact⟨w,o,l,a,m,n,p,q⟩
 ·exact absurd a h.nb
theorem xeu(q:aU C)(F:iL C)(K:qwg C)(M:uZ C)(N:tJ C)(O:uI LA LO C){k:Nat}(P:1003<=k){H:Hp}{sv:AV}(u:cZ H sv X)(h:kK L X):Ok (C k (.f 34) [.agg [sv]] H) fun r H'=>∃ z o,r=.bB [.agg [z],iN 0]/\Gl 3 H' z (aF X).length (((aF X).zip o).flatMap stC)/\rH z=true/\nG X o/\Fm No H H':=by
 have hm:=qcp L;have Q:=h.len;obtain⟨j,rfl⟩:=aT P;rw[(q j).zAd];unfold zAd z7s;simp(disch:=first|go_size|omega)only[go_sem,seval];have f:Fm No H (aK (aK H (aB 0 [sv])) (aB 0 [.aA])):=by(repeat refine Fm.push ?_ _);exact Fm.refl _ _
 refine Ok.ve (xe4 q F K (k:=j) om (u.fm f) h.val) ?_;rintro _ H1 ⟨gv,rfl,hg,_,t,_⟩;have R:=t.nx;simp only[np]at R;have S:H1.get H.nx=aB 0 [sv]:=(t.keep g1).trans g6;have T:H1.get (H.nx+1)=aB 0 [.aA]:=(t.keep gz).trans g5;unfold zne;have G:Fm No H1 ((aK H1 (aB 0 [iN 0,.aA])).put H1.nx (aB 0 [iN ((aF X).length),gv])):=by exact jW
 simp(disch:=omega)only[go_sem,seval];refine Ok.ve (xa5 q M N O (k:=j) om h (hg.fm G)) ?_;rintro _ a ⟨J,w,o,rfl,E,_,p⟩;have U:=J.nx;simp only[np,nq]at U;have g:=G.trans J;unfold znf;have A:=E.aX;have V:=qck [.str 0 0,.str 0 0,iN 0] 40 a.nx (aF X).length om om;simp(disch:=go_size)only[go_sem,seval,A,V];unfold zni;rw[dD];generalize b:(aK (aK a (aB 0 (aZ [.str 0 0,.str 0 0,iN 0] (aF X).length))) (aB 0 [.aA])).put (a.nx+1) (aB 0 [.sl a.nx 0 (aF X).length (aF X).length true])=Hz;have s:Fm No a Hz:=by rw[<-b];repeat first|exact Fm.refl _ _|assumption|refine Fm.push ?_ _|refine Fm.aH ?_ _ _ om
 have nz:Hz.nx=a.nx+2:=by rw[<-b];rfl
 have I:Hz.get (a.nx+1)=aB 0 [.sl a.nx 0 (aF X).length (aF X).length true]:=by rw[<-b];exact dL _ _ _
 have W:Hz.get a.nx=aB 0 (aZ [.str 0 0,.str 0 0,iN 0] (aF X).length):=by rw[<-b];simp(disch:=first|go_size|omega)only[go_sem,seval]
 have Y:=((g.trans s).keep (show H.nx<H1.nx by omega)).trans S;have Z:=((g.trans s).keep (show H.nx+1<H1.nx by omega)).trans T;have hol:o.length=(aF X).length:=p.fit.1;have l:((aF X).zip o).length=(aF X).length:=by rw[List.length_zip];omega
 have gz:Gl 3 Hz (.sl a.nx 0 (aF X).length (aF X).length true) (aF X).length (stL ((aF X).zip o) 0):=by
  have e:stL ((aF X).zip o) 0=aZ [.str 0 0,.str 0 0,iN 0] (aF X).length:=by unfold stL;rw[l,qd2];rfl
  have hl:(stL ((aF X).zip o) 0).length=(aF X).length*3:=by unfold stL;rw[l];simp[stZ]
  exact⟨hl,.inr ⟨a.nx,0,true,0,_,rfl,W,lEV _,by rw[e];rfl,.inl rfl,om⟩⟩
 have d:=((f.trans t).trans g).trans s;have m:∀ H',Fm (fun c=>c=a.nx) Hz H'->Fm No H H':=fun H' v=>d.then v fun c i h=>om;have n:∀ c,In w c->c≠a.nx:=fun c i=>by have:=E.lt i;omega
 refine zca q F (j:=j) om (u.fm d) h.val rfl (E.fm s fun _ _ h=>h) Y om I om ⟨om,om,om⟩ n (fun H' v=>u.fm (m H' v)) (fun x g3 y=>?_) bZ 0 Hz (lEV _) lf gz (Fm.refl _ _);unfold q7j;have B:=(y.get (a.nx+1) om om).trans I;have D:=(y.get (H.nx+1) om om).trans Z;simp only[go_sem,seval,B,D];have g4:=g3.fm (show Fm (fun c=>c=H.nx+1) x (x.put (H.nx+1) (aB 0 [.sl a.nx 0 (aF X).length (aF X).length true]))from(Fm.refl _ _).put _ _ fun _=>rfl) fun c i h=>by obtain⟨_,_,_,_,i⟩:=i;cases i;omega
 exact Ok.ret ⟨_,o,rfl,g4,rfl,p,(m x y).aH _ _ om⟩
structure vG(H:Hp)(zv:AV)(X:List aQ)(o:List Nat):Prop where
 rs:Rs 3 stC H zv ((aF X).zip o)
 flat:rH zv=true
 len:o.length=(aF X).length
 n:(aF X).length<13
 lt:∀ x∈o,x<13
theorem vG.fm{H H':Hp}{a:AV}{o:List Nat}(h:vG H a X o)(f:Fm No H H'):vG H' a X o:=⟨h.rs.fm f,h.flat,h.len,h.n,h.lt⟩
end Go.Di
end
section
namespace Go.Di
open Go.Ev Go.Di.T Go.Sort
variable {C:Nat->Ev.Call} {LA LO:LP} {L:List (List Nat)} {X:List aQ} {o:List Nat}
variable {H:Hp} {i k m:Nat}
theorem vG.zl(h:∃ H a,vG H a X o):((aF X).zip o).length=(aF X).length:=by obtain⟨_,_,h⟩:=h;have:=h.len;simp_all
theorem vG.at'{a:AV}(h:vG H a X o)(d:i<(aF X).length):∃b p,aG 3 a (iN i)=.val (.ptr b p)/\iF (H.get b) p 3=some [.str (aF X)[i].1.n (aF X)[i].1.a,.str (aF X)[i].2.n (aF X)[i].2.a,iN ((o.getD i 0))]:=by
 have f:=h.len;have j:((aF X).zip o).length=(aF X).length:=vG.zl ⟨_,_,h⟩;obtain⟨b,p,g,_,_,c,_⟩:=h.rs.at' i om;have e:((aF X).zip o)[i]=((aF X)[i],o.getD i 0):=by simp[lES,f,d]
 rw[e]at c;exact⟨b,p,g,c⟩
theorem zbd{O:Ev.Call}{l:AV}{H0:Hp}(h:vG H0 l X o)(a b:SS){Q:pS}{qr:AV->pH}{q:pL}(y:∀ H,Fm No H0 H->bD X a b<(aF X).length->Ok (qr (iN ((o.getD (bD X a b) 0))) (iN 0) H) Q)(t:∀ H,Fm No H0 H->(a,b)∉aF X->Ok (q H) Q):∀(k i:Nat) (H:Hp),i<=(aF X).length->(aF X).length-i<k->(∀m (_:m<i) (u:m<(aF X).length),(aF X)[m]≠(a,b))->Fm No H0 H -> Ok (q03 O qr q a.v b.v l (iN ((aF X).length)) k (iN i) H) Q
 |0,i,_,_,h,_,_=>om
 |k+1,i,H,hi,hk,hn,e=>by
  show Ok (zmw O _ _ _ _ _ _ (q03 O _ _ _ _ _ _ k) _ H) Q;unfold zmw;have A:=h.n;have next:i<(aF X).length->(aF X)[i]? ≠ some (a,b)->∀ H,Fm No H0 H->Ok (zmt O (q03 O qr q a.v b.v l (iN ((aF X).length)) k) (iN i) H) Q:=fun d z H e=>by
   unfold zmt;simp(disch:=go_size)only[go_sem,rB,rI,rK,rL,rN,rS,r8];refine zbd h a b y t k (i+1) H om om (fun m f u=>?_) e;by_cases x:m=i
   ·simp_all
   ·exact hn m om u
  by_cases d:i<(aF X).length
  ·simp only[go_sem,d];unfold zmu;obtain⟨D,p,r,s⟩:=(h.fm e).at' d;unfold SS.v;have v:∀ c,Fm No H0 ((aK H (aB 0 [.str 0 0,.str 0 0,iN 0])).put H.nx c):=fun c=>e.trans (by exact jW);by_cases g:(aF X)[i].1.n=a.n/\(aF X)[i].1.a=a.a
   ·have w:=lO5 g;by_cases j:(aF X)[i].2.n=b.n/\(aF X)[i].2.a=b.a
    ·have n:=lO5 j;simp(disch:=first|omega|exact ti rfl)only[go_sem,seval,r,s,w,n];have B:(aF X)[i]=(a,b):=Prod.ext ((o8 _ _).2 g) ((o8 _ _).2 j);have C:bD X a b=i:=by
      unfold bD;rw[List.findIdx_eq d];simp_all
     simp_all
    ·simp(disch:=first|omega|exact ti rfl)only[go_sem,seval,r,s,w,j];refine next d (fun h=>j ?_) _ (v _)
     simp_all
   ·simp(disch:=first|omega|exact ti rfl)only[go_sem,seval,r,s,g];refine next d (fun h=>g ?_) _ (v _)
    simp_all
  ·simp only[go_sem,d];refine t H e fun f=>?_;obtain⟨m,f,x⟩:=lOO f;exact hn m om f x
theorem xbr(i:aU C)(l:1<=k){c:AV}(h:vG H c X o)(a b:SS):Ok (C k (.f 37) [.agg [c],a.v,b.v] H) fun r H'=>Fm No H H'/\((bD X a b<(aF X).length/\r=.bB [iN ((o.getD (bD X a b) 0)),iN 0])\/((a,b)∉aF X/\r=.bB [iN 0,iN 6])):=by
 obtain⟨j,rfl⟩:=aT l;rw[(i j).zAi];unfold zAi z7o;have f:Fm No H (aK H (aB 0 [c])):=by exact kW
 have q:((aF X).zip o).length=(aF X).length:=vG.zl ⟨_,_,h⟩;have g:=h.rs.len;rw[q]at g;simp(disch:=omega)only[go_sem,seval,g];unfold z2e;rw[dD];have s:=h.n;refine zbd (h.fm f) a b (fun n d e=>?_) (fun n d p=>?_) bZ 0 _ (lEV _) lf (fun m t=>om) (Fm.refl _ _)
 ·exact Ok.ret ⟨f.trans d,.inl ⟨e,rfl⟩⟩
 ·unfold zmv;exact Ok.ret ⟨f.trans d,.inr ⟨p,rfl⟩⟩
def mnS(o:List Nat)(i:Nat):Nat:=iH ((o.take i).map (· +1))
theorem qs4(d:aU C){j:Nat}(e:1<=j){f:AV}{H0:Hp}(h:vG H0 f X o){Q:pS}{q:pH}(g:∀ H,Fm No H0 H->Ok (q (iN ((mnS o (aF X).length))) H) Q):∀(k i:Nat) (H:Hp),i<=(aF X).length->(aF X).length-i<k->Fm No H0 H -> Ok (zbp (C j) q f (iN ((aF X).length)) k (iN ((mnS o i))) (iN i) H) Q
 |0,i,_,_,h,_=>om
 |k+1,i,H,hi,hk,hf=>by
  show Ok (zms (C j) _ _ _ (zbp (C j) _ _ _ k) _ _ H) Q;unfold zms;have l:=h.n;have m:=h.len;by_cases a:i<(aF X).length
  ·simp only[go_sem,a];unfold zmr;obtain⟨w,p,t,u⟩:=(h.fm hf).at' a;have n:o.getD i 0<13:=h.lt _ (qdf om);simp(disch:=go_size)only[go_sem,rB,rI,rK,rL,rN,rS,r8,t,u];generalize b:aK _ (aB 0 [AV.int IntKind.i64 (Int.ofNat (mnS o i)),AV.int IntKind.i64 (Int.ofNat (o.getD i 0+1))])=Hr;have r:Fm No H Hr:=by rw[<-b];exact bAY
   have s:Gl 1 Hr (.sl (H.nx+1) 0 2 2 true) 2 (aI [mnS o i,o.getD i 0+1]):=⟨rfl,.inr ⟨H.nx+1,0,true,0,_,rfl,by rw[<-b];exact jQ _ _,lEV _,rfl,.inl rfl,by rw[<-b];(go_size)⟩⟩;rw[zdi d (k:=j) e s.rl g3];have c:iH [mnS o i,o.getD i 0+1]=mnS o (i+1):=by unfold mnS;rw[lER om,lID];unfold iH;simp_all
   rw[c];unfold z2a;simp(disch:=go_size)only[go_sem,rB,rI,rK,rL,rN,rS,r8];exact qs4 d e h g k (i+1) Hr om om (hf.trans r)
  ·simp only[go_sem,a];have v:i=(aF X).length:=om;simp_all
def mnA(X:List aQ)(o:List Nat):Nat:=mnS o (aF X).length
theorem z9s{l:List Nat}(h:∀ x∈l,x<=m):iH l<=m:=by
 obtain⟨_,_,a⟩:=q3m l 0;rcases a with a|a
 ·unfold iH;omega
 ·exact h _ a
theorem vG.mn{a:AV}(h:vG H a X o):mnA X o<=13:=z9s fun x b=>by obtain⟨y,c,rfl⟩:=lIB.1 b;have:=h.lt y (lUG c);omega
theorem zs4(b:aU C)(d:2<=k){a:AV}(h:vG H a X o):Ok (C k (.f 35) [.agg [a]] H) fun r H'=>r=iN ((mnA X o))/\Fm No H H':=by
 obtain⟨j,rfl⟩:=aT d;rw[(b j).zAj];unfold zAj z7n;have f:Fm No H (aK H (aB 0 [a])):=by exact kW
 have g:((aF X).zip o).length=(aF X).length:=vG.zl ⟨_,_,h⟩;have c:=h.rs.len;rw[g]at c;simp(disch:=omega)only[go_sem,seval,c];unfold z2d;rw[dD];have i:=h.n;refine qs4 b (j:=j) om (h.fm f) (fun l e=>?_) bZ 0 _ (lEV _) lf (Fm.refl _ _);exact Ok.ret ⟨rfl,f.trans e⟩
end Go.Di
end
section
namespace Go.Di
open Go.Ev
inductive Fo where
 |nil
 |cons (k:Nat) (rl to:SS) (a r:Fo)
namespace Fo
def len:Fo->Nat
 |nil=>0
 |cons _ _ _ _ r=>r.len+1
def size:Fo->Nat
 |nil=>0
 |cons _ _ _ a r=>a.size+1+r.size
def depth:Fo->Nat
 |nil=>0
 |cons _ _ _ a r=>max (a.depth+1) r.depth
def lv:Fo->Nat
 |nil=>0
 |cons k _ _ a r=>(if k<4 then 1 else a.lv)+r.lv
def app:Fo->Fo->Fo
 |nil,g=>g
 |cons k rl to a r,g=>cons k rl to a (r.app g)
def spl(k:Nat):Fo->Fo
 |nil=>nil
 |cons k' rl to a r=>if k'=k/\(k=4\/k=5)then a.app (spl k r)else cons k' rl to a (spl k r)
def flat:Fo->Fo
 |nil=>nil
 |cons k rl to a r=>cons k rl to (spl k a.flat) r.flat
def no(k:Nat):Fo->Prop
 |nil=>True
 |cons k' _ _ _ r=>¬(k'=k/\(k=4\/k=5))/\r.no k
def pI:Fo->Prop
 |nil=>True
 |cons k _ _ a r=>a.no k/\a.pI/\r.pI
def Rt(N:SS->Prop):Fo->Prop
 |nil=>True
 |cons k rl to a r=>((k=1/\rl=sE/\to=sE/\a=nil)\/(k=2/\N rl/\to=sE/\a=nil)\/(k=3/\N rl/\N to/\a=nil)\/(k=4/\rl=sE/\to=sE/\2<=a.len)\/(k=5/\rl=sE/\to=sE/\2<=a.len)\/(k=6/\rl=sE/\to=sE/\a.len=2))/\a.Rt N/\r.Rt N
theorem rA:∀ f:Fo,f.app nil=f
 |nil=>rfl
 |cons k rl to a r=>by rw[app,rA r]
theorem jT:∀ f g:Fo,(f.app g).len=f.len+g.len
 |nil,g=>by simp[app,len]
 |cons k rl to a r,g=>by simp only[app,len,jT r g];omega
theorem sH:∀ f g:Fo,(f.app g).size=f.size+g.size
 |nil,g=>by simp[app,size]
 |cons k rl to a r,g=>by simp only[app,size,sH r g];omega
theorem p8:∀ f g:Fo,(f.app g).depth=max f.depth g.depth
 |nil,g=>by simp[app,depth]
 |cons k rl to a r,g=>by simp only[app,depth,p8 r g];omega
theorem z3q(k:Nat):∀ f g:Fo,(f.app g).no k↔f.no k/\g.no k
 |nil,g=>by simp[app,no]
 |cons k' rl to a r,g=>by simp only[app,no,z3q k r g];exact⟨fun⟨a,b,c⟩=>⟨⟨a,b⟩,c⟩,fun⟨⟨a,b⟩,c⟩=>⟨a,b,c⟩⟩
theorem z3r:∀ f g:Fo,(f.app g).pI↔f.pI/\g.pI
 |nil,g=>by simp[app,pI]
 |cons k rl to a r,g=>by simp only[app,pI,z3r r g];exact⟨fun⟨a,b,c,d⟩=>⟨⟨a,b,c⟩,d⟩,fun⟨⟨a,b,c⟩,d⟩=>⟨a,b,c,d⟩⟩
theorem aA6(N:SS->Prop):∀ f g:Fo,(f.app g).Rt N↔f.Rt N/\g.Rt N
 |nil,g=>by simp[app,Rt]
 |cons k rl to a r,g=>by simp only[app,Rt,aA6 N r g];exact⟨fun⟨a,b,c,d⟩=>⟨⟨a,b,c⟩,d⟩,fun⟨⟨a,b,c⟩,d⟩=>⟨a,b,c,d⟩⟩
theorem oG(k:Nat):∀ f:Fo,(spl k f).size<=f.size
 |nil=>lEO _
 |cons k' rl to a r=>by
  have:=oG k r;unfold spl;split
  ·rw[sH];simp only[size];omega
  ·simp only[size];omega
theorem q1p(k:Nat):∀ f:Fo,(spl k f).depth<=f.depth
 |nil=>lEO _
 |cons k' rl to a r=>by
  have:=q1p k r;unfold spl;split
  ·rw[p8];simp only[depth];omega
  ·simp only[depth];omega
theorem kD:∀ f:Fo,f.flat.size<=f.size
 |nil=>lEO _
 |cons k rl to a r=>by have:=kD a;have:=kD r;have:=oG k a.flat;simp only[flat,size];omega
theorem nL:∀ f:Fo,f.flat.depth<=f.depth
 |nil=>lEO _
 |cons k rl to a r=>by have:=nL a;have:=nL r;have:=q1p k a.flat;simp only[flat,depth];omega
theorem jC:∀ f:Fo,f.flat.len=f.len
 |nil=>rfl
 |cons k rl to a r=>by simp only[flat,len,jC r]
theorem z2r(k:Nat):∀ f:Fo,f.pI->(spl k f).pI/\(spl k f).no k
 |nil,_=>⟨trivial,trivial⟩
 |cons k' rl to a r,⟨h1,h2,h3⟩=>by
  obtain⟨b,c⟩:=z2r k r h3;unfold spl;split
  ·next h=>exact⟨(z3r _ _).2 ⟨h2,b⟩,(z3q _ _ _).2 ⟨h.1▸h1,c⟩⟩
  ·next h=>exact⟨⟨h1,h2,b⟩,h,c⟩
theorem rF:∀ f:Fo,f.flat.pI
 |nil=>trivial
 |cons k rl to a r=>by obtain⟨b,c⟩:=z2r k _ (rF a);exact⟨c,b,rF r⟩
theorem zou(k:Nat):∀ f:Fo,f.no k->spl k f=f
 |nil,_=>rfl
 |cons k' rl to a r,⟨h1,h2⟩=>by unfold spl;rw[lEU h1,zou k r h2]
theorem pK:∀ f:Fo,f.pI->f.flat=f
 |nil,_=>rfl
 |cons k rl to a r,⟨h1,h2,h3⟩=>by rw[flat,pK a h2,pK r h3,zou k a h1]
theorem vO(N:SS->Prop)(k:Nat):∀ f:Fo,f.Rt N->(spl k f).Rt N/\f.len<=(spl k f).len
 |nil,_=>⟨trivial,lEO _⟩
 |cons k' rl to a r,⟨b,h2,h3⟩=>by
  obtain⟨c,d⟩:=vO N k r h3;unfold spl;split
  ·next h=>refine⟨(aA6 _ _ _).2 ⟨h2,c⟩,?_⟩;rw[jT];simp only[len];rcases b with b|b|b|b|b|b<;>omega
  ·exact⟨⟨b,h2,c⟩,by simp only[len];omega⟩
theorem oP(N:SS->Prop):∀ f:Fo,f.Rt N->f.flat.Rt N
 |nil,_=>trivial
 |cons k rl to a r,⟨b,h2,h3⟩=>by
  have e:=oP N a h2;have i:=oP N r h3;obtain⟨l,m⟩:=vO N k _ e;rw[jC]at m;refine⟨?_,l,i⟩;have j:k=6->spl k a.flat=a.flat:=fun h=>zou k _ (by
   subst h;generalize a.flat=g
   induction g with
   |nil=>trivial
   |cons _ _ _ _ _ _ ih=>exact⟨om,ih⟩)
  rcases b with⟨rfl,b,c,rfl⟩|⟨rfl,b,c,rfl⟩|⟨rfl,b,c,rfl⟩|⟨rfl,b,c,d⟩|⟨rfl,b,c,d⟩|⟨rfl,b,c,d⟩
  ·exact .inl ⟨rfl,b,c,rfl⟩
  ·exact .inr (.inl ⟨rfl,b,c,rfl⟩)
  ·exact .inr (.inr (.inl ⟨rfl,b,c,rfl⟩))
  ·exact .inr (.inr (.inr (.inl ⟨rfl,b,c,om⟩)))
  ·exact .inr (.inr (.inr (.inr (.inl ⟨rfl,b,c,om⟩))))
  ·exact .inr (.inr (.inr (.inr (.inr ⟨rfl,b,c,by rw[j rfl,jC];exact d⟩))))
def ixs:Fo->Nat->List Nat
 |nil,_=>[]
 |cons _ _ _ a r,p=>p::ixs r (p+1+a.size)
theorem rC:∀(f:Fo) (p:Nat),(ixs f p).length=f.len
 |nil,_=>rfl
 |cons _ _ _ a r,p=>by rw[ixs,lEX,rC r,len]
end Fo
structure TN where
 k:Nat
 rl:SS
 to:SS
 args:List Nat
 leaf:Option Nat
namespace Fo
def dP:Fo->Nat->Nat->List TN
 |nil,_,_=>[]
 |cons k rl to a r,p,c=>⟨k,rl,to,ixs a (p+1),if k<4 then some c else none⟩::(dP a (p+1) c++dP r (p+1+a.size) (c+if k<4 then 1 else a.lv))
theorem gP:∀(f:Fo) (p c:Nat),(dP f p c).length=f.size
 |nil,_,_=>rfl
 |cons k rl to a r,p,c=>by rw[dP,lEX,lEP,gP a,gP r,size];omega
end Fo
end Go.Di
end
section
namespace Go.Di
open Go.Ev
variable {C:Nat->Ev.Call}
variable {H H' H0:Hp} {av:AV} {cs l:List AV} {i j k n z:Nat}
attribute [go_sem] qv9 zd3 z2u qvf q1k q31 aLj
def eD(P:Nat->Prop)(H:Hp):Fo->List AV->Prop
 | .nil,cs=>cs=[]
 | .cons k rl to a r,cs=>∃ av ca cr,cs=.int .u8 (.ofNat k)::rl.v::to.v::av::cr/\Gl 4 H av a.len ca/\(∀b,In av b->P b)/\eD P H a ca/\eD P H r cr
theorem eD.dJ{P S:Nat->Prop}{H H':Hp}(f:Fm S H H')(a:∀ b,P b->¬ S b):∀{g:Fo} {cs:List AV},eD P H g cs->eD P H' g cs
 | .nil,_,h=>h
 | .cons _ _ _ _ _,_,⟨av,ca,cr,h1,h2,h3,h4,h5⟩=>⟨av,ca,cr,h1,h2.fm f fun b c=>a b (h3 b c),h3,eD.dJ f a h4,eD.dJ f a h5⟩
theorem eD.fm{P:Nat->Prop}(f:Fm No H H'){g:Fo}(h:eD P H g cs):eD P H' g cs:=h.dJ f fun _ _ h=>h
theorem eD.mono{P Q:Nat->Prop}{H:Hp}(a:∀ b,b<H.nx->P b->Q b):∀{g:Fo} {cs:List AV},eD P H g cs->eD Q H g cs
 | .nil,_,h=>h
 | .cons _ _ _ _ _,_,⟨av,ca,cr,h1,h2,h3,h4,h5⟩=>⟨av,ca,cr,h1,h2,fun b c=>a b (h2.lt c) (h3 b c),eD.mono a h4,eD.mono a h5⟩
theorem eD.len{P:Nat->Prop}{H:Hp}:∀{g:Fo} {cs:List AV},eD P H g cs->cs.length=g.len*4
 | .nil,_,h=>by rw[show _=_ from h];rfl
 | .cons _ _ _ _ _,_,⟨av,ca,cr,h1,_,_,_,h5⟩=>by rw[h1];have:=eD.len h5;simp[Fo.len,this];omega
theorem eD.app{P:Nat->Prop}{H:Hp}:∀{f g:Fo} {cs ds:List AV},eD P H f cs->eD P H g ds->eD P H (f.app g) (cs++ds)
 | .nil,_,_,_,h,h'=>by rw[show _=_ from h];exact h'
 | .cons _ _ _ _ _,_,_,_,⟨av,ca,cr,h1,h2,h3,h4,h5⟩,h'=>⟨av,ca,_,by rw[h1];rfl,h2,h3,h4,eD.app h5 h'⟩
structure vB(X:Nat->Prop)(H0 H:Hp)(w:AV)(g:Fo):Prop where
 ex:∃ cs,Gl 4 H w g.len cs/\eD (fun b=>H0.nx<=b/\¬ In w b/\¬ X b) H g cs
 nw:∀ b,In w b->H0.nx<=b/\¬ X b
theorem notNil(b:Nat):¬ In .aA b:=fun h=>by obtain⟨_,_,_,_,h⟩:=h;cases h
theorem vB.nil(X:Nat->Prop)(H0 H:Hp):vB X H0 H .aA .nil:=⟨⟨[],Gl.nil 4 H,rfl⟩,fun b h=>absurd h (notNil b)⟩
theorem vB.dJ{X S:Nat->Prop}{w:AV}{g:Fo}(h:vB X H0 H w g)(f:Fm S H H')(i:∀ b,S b->X b\/b<H0.nx):vB X H0 H' w g:=by
 obtain⟨cs,d,c⟩:=h.ex;have e:∀ b,H0.nx<=b->¬ X b->¬ S b:=fun b d c j=>by
  rcases i b j with h|h
  ·exact c h
  ·omega
 exact⟨⟨cs,d.fm f fun b a=>e b (h.nw b a).1 (h.nw b a).2,c.dJ f fun b a=>e b a.1 a.2.2⟩,h.nw⟩
theorem vB.no{X:Nat->Prop}{w:AV}{g:Fo}(h:vB X H0 H w g)(f:Fm No H H'):vB X H0 H' w g:=h.dJ f fun _ h=>h.elim
theorem vB.add{X:Nat->Prop}{w:AV}{g f:Fo}{d:List AV}(h:vB X H0 H w g)(l:eD (fun b=>H0.nx<=b/\¬ In w b/\¬ X b) H f d)(n:∀ b,X b->b<H.nx)(o:H0.nx<=H.nx)(p:0<f.len)(u:g.len+f.len<=100000):Ok (kJ 4 64 H w (some ⟨f.len,d⟩)) fun v H'=>vB X H0 H' v (g.app f)/\Fm (In w) H H'/\H'.nx=H.nx+1/\v=.sl H.nx 0 (g.len+f.len) (g.len+f.len) false:=by
 obtain⟨cs,r,s⟩:=h.ex;obtain⟨H',e,t,_,m,nx'⟩:=r.append (k:=f.len) (w:=64) (x:=d) p l.len om om;refine⟨_,H',e,⟨⟨cs++d,by rw[Fo.jT];exact t,?_⟩,fun b j=>?_⟩,m,nx',rfl⟩
 ·have i:eD (fun b=>H0.nx<=b/\¬ In w b/\¬ X b) H (g.app f) (cs++d):=s.app l;refine(i.mono (Q:=fun b=>H0.nx<=b/\¬ In w b/\¬ X b/\b<H.nx) fun b j a=>⟨a.1,a.2.1,a.2.2,j⟩).dJ m (fun b a=>a.2.1) |>.mono fun b _ a=>⟨a.1,fun c=>?_,a.2.2.1⟩;obtain⟨_,_,_,_,c⟩:=c;simp_all
 ·obtain⟨_,_,_,_,c⟩:=j;injection c with c;subst c;exact⟨o,fun q=>by have:=n _ q;omega⟩
theorem Gl.src{v:AV}(h:Gl z H v n l):pJ z H v=some ⟨n,l⟩:=by
 have a:=h.len;rcases h.is with⟨rfl,rfl⟩|⟨b,o,e,q,L,rfl,d,g,c,i,j⟩
 ·have:l=[]:=lIG.1 (by rw[a];simp);subst this;rfl
 ·have f:o+n*z=L.length:=by rw[<-c,lIZ]at a;omega
  rw[zot z H b o n n e q L d om,c,lIW om]
theorem eD.one{P:Nat->Prop}{f:Fo}(h:eD P H f cs)(c:f.len=1):∃ k rl to a av ca,f=.cons k rl to a .nil/\cs=[.int .u8 (.ofNat k),.str rl.n rl.a,.str to.n to.a,av]/\Gl 4 H av a.len ca/\(∀b,In av b->P b)/\eD P H a ca:=by
 cases f with
 |nil=>cases c
 |cons k rl to a r=>
  cases r with
  |nil=>obtain⟨av,ca,d,e,g,i,j,l⟩:=h;obtain rfl:d=[]:=l;exact⟨k,rl,to,a,av,ca,rfl,e,g,i,j⟩
  |cons _ _ _ _ _=>simp[Fo.len]at c
theorem Gl.rule{P:Nat->Prop}{v:AV}{rl to:SS}{a r:Fo}{pre c:List AV}(h:Gl 4 H v n (pre++c))(e:pre.length=i*4)(q:eD P H (.cons k rl to a r) c):i<n/\∃ b o av ca f,aG 4 v (iN i)=.val (.ptr b o)/\b<H.nx/\In v b/\iF (H.get b) o 4=some [.int .u8 (.ofNat k),.str rl.n rl.a,.str to.n to.a,av]/\bI (H.get b) (o+3)=.val av/\c=.int .u8 (.ofNat k)::rl.v::to.v::av::f/\Gl 4 H av a.len ca/\(∀b,In av b->P b)/\eD P H a ca/\eD P H r f /\ ∀j x,[AV.int .u8 (.ofNat k),.str rl.n rl.a,.str to.n to.a,av][j]? =some x->bI (H.get b) (o+j)=.val x:=by
 obtain⟨av,ca,f,d,t,u,w,y⟩:=q;have g:=h.len;have l:i<n:=by rw[lEP,e,d]at g;simp only[lEX]at g;omega
 obtain⟨b,o,z,A,B,C,p⟩:=h.atN l;refine⟨l,b,o,av,ca,f,z,A,B,?_,?_,d,t,u,w,y,fun j x s=>?_⟩
 ·rw[C,<-e,List.drop_left,d];rfl
 ·rw[p 3 om,<-e,lES,lIJ om,lOF,d];rfl
 ·have m:j<4:=by
   rcases lOI j 4 with h|h
   ·exact h
   ·simp_all
  rw[p j m,<-e,lES,lIJ om,lOF,d]
  match j,m with
  |0,_|1,_|2,_|3,_=>cases s;rfl
theorem Fo.mP:∀ f g h:Fo,(f.app g).app h=f.app (g.app h)
 | .nil,_,_=>rfl
 | .cons k rl to a r,g,h=>by rw[Fo.app,Fo.app,Fo.app,Fo.mP r g h]
theorem Fo.eO:∀ f:Fo,f.len<=f.size
 | .nil=>lEO _
 | .cons k rl to a r=>by have:=Fo.eO r;simp only[Fo.len,Fo.size];omega
def xe6(C:Nat->Ev.Call)(f:Fo):Prop:=
 ∀(j:Nat),f.depth<=j->∀(H0:Hp) (ib ob rb kd n:Nat) (rl to:SS) (av:AV) (pre rest:List AV) (i:Nat) (w:AV) (g:Fo) (H:Hp) (q:pL) (Q:pS) (k:Nat),n-i<k->i<=n->n=i+f.len->f.Rt Nm->(kd=4\/kd=5\/¬(kd=4\/kd=5))->g.len+f.size<=1000->n<=1000 ->
  Gl 4 H0 av n (pre++rest)->pre.length=i*4->eD (fun _=>True) H0 f rest->H0.nx<=ib->H0.nx<=ob->H0.nx<=rb->ib≠ob->ob≠rb->ib<H.nx->ob<H.nx->rb<H.nx->H.get ib=aB 0 [.int .u8 (.ofNat kd),rl.v,to.v,av]->H.get ob=aB 0 [.int .u8 (.ofNat kd),rl.v,to.v,w]->H.get rb=aB 0 [.int .u8 (.ofNat 0),.str 0 0,.str 0 0,.aA] ->
  vB (fun b=>b=ib\/b=ob\/b=rb) H0 H w g->Fm No H0 H ->
  (∀w H,vB (fun b=>b=ib\/b=ob\/b=rb) H0 H w (g.app (Fo.spl kd f.flat))->H.get ob=aB 0 [.int .u8 (.ofNat kd),rl.v,to.v,w]->H.get rb=aB 0 [.int .u8 (.ofNat 0),.str 0 0,.str 0 0,.aA]->ob<H.nx->rb<H.nx->Fm No H0 H->Ok (q H) Q) ->
  Ok (qfk (C j) q (.ptr ib 0) (.ptr ob 0) k (iN i) H) Q
theorem q3n(l:aU C){a:Fo}(m:xe6 C a)(n:a.depth<=j){kd:Nat}{rl to:SS}{ca:List AV}(o:Gl 4 H av a.len ca)(p:eD (fun _=>True) H a ca)(q:a.Rt Nm)(z:a.size<=1000):Ok (C (j+1) (.f 20) [.agg [.int .u8 (.ofNat kd),.str rl.n rl.a,.str to.n to.a,av]] H) fun r H'=>∃ g i,r=.agg [.int .u8 (.ofNat kd),.str rl.n rl.a,.str to.n to.a,g]/\Gl 4 H' g (Fo.spl kd a.flat).len i/\(∀b,In g b->H.nx<=b)/\eD (fun b=>H.nx<=b) H' (Fo.spl kd a.flat) i/\Fm No H H':=by
 rw[(l j).zHe];unfold zHe z4p;simp(disch:=first|go_size|omega)only[go_sem,rB,rI,rK,rL,rN,rS,r8];unfold q48;rw[dD];obtain⟨H1,c⟩:∃ H1,H1=(aK (aK (aK H (aB 0 [.int .u8 (.ofNat kd),.str rl.n rl.a,.str to.n to.a,av])) (aB 0 [.int .u8 (.ofNat 0),.str 0 0,.str 0 0,.aA])) (aB 0 [.int .u8 (.ofNat 0),.str 0 0,.str 0 0,.aA])).put (H.nx+1+1) (aB 0 [.int .u8 (.ofNat kd),.str rl.n rl.a,.str to.n to.a,.aA]):=⟨_,rfl⟩;rw[<-c];have v:Fm No H H1:=by rw[c];repeat first|exact Fm.refl _ _|assumption|refine Fm.push ?_ _|refine Fm.aH ?_ _ _ om
 have D:H1.nx=H.nx+1+1+1:=by rw[c];simp only[np,nq]
 refine m j n H H.nx (H.nx+1+1) (H.nx+1) kd a.len rl to av [] ca 0 .aA .nil H1 _ _ bZ (by have:=Fo.eO a;rw[yR];omega) (lEV _) om q om (by simp only[Fo.len];omega) (by have:=Fo.eO a;omega) o rfl p (lEO _) om om om om om om om (by rw[c];unfold SS.v;simp(disch:=first|go_size|omega)only[go_sem,seval]) (by rw[c];exact dL _ _ _) (by rw[c];simp(disch:=first|go_size|omega)only[go_sem,seval]) (vB.nil _ _ _) v fun w h e s t A B u=>?_;unfold qwl;simp only[go_sem,seval,s,t];obtain⟨cs,x,y⟩:=e.ex;have k:Fm (fun b=>b=H.nx+1) h (h.put (H.nx+1) (aB 0 [.int .u8 (.ofNat kd),.str rl.n rl.a,.str to.n to.a,w])):=(Fm.refl _ _).put _ _ fun _=>rfl;refine Ok.ret ⟨w,cs,rfl,x.fm k fun b d f=>(e.nw b d).2 (.inr (.inr f)),fun b d=>(e.nw b d).1,(y.dJ k fun b d f=>d.2.2 (.inr (.inr f))).mono fun b _ d=>d.1,u.aH _ _ om⟩
theorem zq0(hC:aU C):∀ f:Fo,xe6 C f:=by
 intro f
 induction f with
 |nil=>intro j hj H0 ib ob rb kd n rl to av pre v i w g H q Q k hk y hn M F N O P hp I i1 i2 i3 i4 i5 b1 U b3 t z h3 J R V;obtain⟨k,rfl⟩:∃ m,k=m+1:=⟨k-1,om⟩;show Ok (qor (C j) _ _ _ (qfk (C j) _ _ _ k) _ H) Q;unfold qor;simp only[Fo.len]at hn;have A:¬ i<n:=om;have hl:=P.aX;simp only[go_sem,t,hl,A];refine V w H ?_ z h3 U b3 R;simp only[Fo.flat,Fo.spl,Fo.rA];exact J
 |cons k1 r1 t1 a r iha ihr=>
  intro j hj H0 ib ob rb kd n rl to av pre v i w g H q Q k hk y hn M F N O P hp I i1 i2 i3 i4 i5 b1 U b3 t z h3 J R V;obtain⟨k,rfl⟩:∃ m,k=m+1:=⟨k-1,om⟩;show Ok (qor (C j) _ _ _ (qfk (C j) _ _ _ k) _ H) Q;unfold qor;simp only[Fo.len]at hn;simp only[Fo.depth]at hj;simp only[Fo.size]at N;have A:i<n:=om;have hl:=P.aX;obtain⟨_,b,o,vS,ca,cr,e1,e2,e3,e4,_,e5,g1,g2,g3,g4,_⟩:=(P.no R).rule hp (I.fm R);have h1':=t;simp only[go_sem,t,hl,A];unfold q47;simp only[go_sem,t,e1,e4];obtain⟨j,rfl⟩:∃ m,j=m+1:=⟨j-1,om⟩;have fsz:(Fo.spl k1 a.flat).len<=a.size:=lI7 (Fo.eO _) (lI7 (Fo.oG _ _) (Fo.kD _));refine Ok.ve (q3n hC iha (j:=j) om (kd:=k1) g1 g3 M.2.1 om) ?_;rintro _ e ⟨W,tY,rfl,c1,c2,c3,X⟩;have n2:=X.nx;have K:=(X.keep U).trans z;have L:=(X.keep b1).trans t;have fin:∀(l:Fo) (Z:List AV) (G:Hp),Fm No H G->0<l.len->eD (fun b=>H.nx<=b) G l Z->l.app (Fo.spl kd r.flat)=Fo.spl kd (Fo.cons k1 r1 t1 a r).flat->l.len<=a.size+1 ->
    Ok (ve (kJ 4 64 G w (some ⟨l.len,Z⟩)) fun a41 H=>ve (jN H (.ptr ob 3) a41) fun _ H=>qoq (C (j+1)) (qfk (C (j+1)) q (.ptr ib 0) (.ptr ob 0) k) (iN i) H) Q:=by
   intro l Z G s hl0 hff hap hln;have hnw:∀ b,In w b->b<H.nx:=fun b p=>by obtain⟨cs,d1,_⟩:=J.ex;exact d1.lt p
   have nA:=s.nx;refine Ok.ve ((J.no s).add (hff.mono fun b _ p=>⟨om,fun y=>by have:=hnw b y;omega,om⟩) (fun b p=>om) om hl0 om) ?_;rintro w' Y ⟨w4,f4,n4,hw4⟩;have kp:∀ c,c<H.nx->(c=ib\/c=ob\/c=rb)->Y.get c=H.get c:=fun c I hx=>by rw[f4.get c om (fun y=>(J.nw c y).2 hx),s.keep I]
   have o4:=(kp ob U (.inr (.inl rfl))).trans z;subst hw4;simp only[go_sem,o4];unfold qoq;simp(disch:=go_size)only[go_sem,rB,rI,rK,rL,rN,rS,r8];have f5:Fm (fun b=>b=ob) Y (Y.put ob (aB 0 [.int .u8 (.ofNat kd),.str rl.n rl.a,.str to.n to.a,.sl G.nx 0 (g.len+l.len) (g.len+l.len) false])):=(Fm.refl _ _).put _ _ fun _=>rfl;have f6:Fm No H0 (Y.put ob (aB 0 [.int .u8 (.ofNat kd),.str rl.n rl.a,.str to.n to.a,.sl G.nx 0 (g.len+l.len) (g.len+l.len) false])):=((R.trans s).then f4 fun c I y=>by have:=(J.nw c y).1;omega).aH _ _ i2;have e5':pre++v=(pre++[.int .u8 (.ofNat k1),r1.v,t1.v,vS])++cr:=by rw[e5];simp
   refine ihr (j+1) om H0 ib ob rb kd n rl to av (pre++[.int .u8 (.ofNat k1),r1.v,t1.v,vS]) cr (i+1) _ (g.app l) _ q Q k om om om M.2.2 F (by rw[Fo.jT];omega) O (e5'▸P) (by simp[hp];omega) ?_ i1 i2 i3 i4 i5 (by simp only[nq];omega) (by simp only[nq];omega) (by simp only[nq];omega) ?_ (dL _ _ _) ?_ (w4.dJ f5 fun b p=>.inl (.inr (.inl p))) f6 ?_
   ·obtain⟨_,_,cr',d1,_,_,_,d5⟩:=I;simp_all
   ·rw[dS _ _ _ _ i4,kp ib b1 (.inl rfl)];exact h1'
   ·rw[dS _ _ _ _ (fun h=>i5 h.symm),kp rb b3 (.inr (.inr rfl))];exact h3
   ·rw[<-hap,<-Fo.mP]at V;exact V
  have f3:∀ x,Fm (fun b=>b=e.nx) e ((aK e (aB 0 [.int .u8 (.ofNat 0),.str 0 0,.str 0 0,.aA])).put e.nx x):=fun x=>((Fm.refl _ _).push _).put _ _ fun h=>rfl;have s:∀ x,Fm No H ((aK e (aB 0 [.int .u8 (.ofNat 0),.str 0 0,.str 0 0,.aA])).put e.nx x):=fun x=>(X.push _).aH _ _ n2;have B:∀ x,Gl 4 ((aK e (aB 0 [.int .u8 (.ofNat 0),.str 0 0,.str 0 0,.aA])).put e.nx x) W (Fo.spl k1 a.flat).len tY:=fun x=>c1.fm (f3 x) fun b p he=>by have:=c1.lt p;omega
  have D:∀ x,eD (fun b=>H.nx<=b) ((aK e (aB 0 [.int .u8 (.ofNat 0),.str 0 0,.str 0 0,.aA])).put e.nx x) (Fo.spl k1 a.flat) tY:=fun x=>((c3.mono (Q:=fun b=>H.nx<=b/\b<e.nx) fun b t z=>⟨z,t⟩).dJ (f3 x) fun b p he=>om).mono fun b _ p=>p.1;have el:∀ x,eD (fun b=>H.nx<=b) (aK ((aK e (aB 0 [.int .u8 (.ofNat 0),.str 0 0,.str 0 0,.aA])).put e.nx x) (aB 0 [.int .u8 (.ofNat k1),.str r1.n r1.a,.str t1.n t1.a,W])) (.cons k1 r1 t1 (Fo.spl k1 a.flat) .nil) [.int .u8 (.ofNat k1),.str r1.n r1.a,.str t1.n t1.a,W]:=fun x=>
   ⟨W,tY,[],rfl,(B x).no ((Fm.refl _ _).push _),c2,(D x).fm ((Fm.refl _ _).push _),rfl⟩
  have E:(Fo.cons k1 r1 t1 (Fo.spl k1 a.flat) .nil).len=1:=rfl;have u:k1=4\/k1=5->0<(Fo.spl k1 a.flat).len:=fun h=>by
   have z:2<=a.len:=by rcases M.1 with S|S|S|S|S|S<;>omega
   have:=(Fo.vO Nm k1 a.flat (Fo.oP Nm a M.2.1)).2;rw[Fo.jC]at this;omega
  rcases F with rfl|rfl|T
  ·by_cases d:k1=4
   ·subst d;simp(disch:=go_size)only[go_sem,rB,rI,rK,rL,rN,rS,r8,L,K,(B _).src];exact fin _ _ _ (s _) (u (.inl rfl)) (D _) (by simp[Fo.flat,Fo.spl]) om
   ·simp(disch:=go_size)only[go_sem,rB,rI,rK,rL,rN,rS,r8,L,K,d];exact fin _ _ _ ((s _).push _) (lXQ Nat.one_pos E.symm) (el _) (by simp[Fo.flat,Fo.spl,d,Fo.app]) om
  ·by_cases d:k1=5
   ·subst d;simp(disch:=go_size)only[go_sem,rB,rI,rK,rL,rN,rS,r8,L,K,(B _).src];exact fin _ _ _ (s _) (u (.inr rfl)) (D _) (by simp[Fo.flat,Fo.spl]) om
   ·simp(disch:=go_size)only[go_sem,rB,rI,rK,rL,rN,rS,r8,L,K,d];exact fin _ _ _ ((s _).push _) (lXQ Nat.one_pos E.symm) (el _) (by simp[Fo.flat,Fo.spl,d,Fo.app]) om
  ·have h4:¬ kd=4:=fun h=>T (.inl h);have h5:¬ kd=5:=fun h=>T (.inr h);simp(disch:=go_size)only[go_sem,rB,rI,rK,rL,rN,rS,r8,L,K,h4,h5];exact fin _ _ _ ((s _).push _) (lXQ Nat.one_pos E.symm) (el _) (by simp[Fo.flat,Fo.spl,h4,h5,Fo.app]) om
end Go.Di
end
