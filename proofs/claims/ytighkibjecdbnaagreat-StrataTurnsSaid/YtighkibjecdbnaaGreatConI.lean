/-
 For StrataTurns: functions in direct style, their contracts, and the plain mathematics, part 9 of 10. No conditions beyond those that each theorem states.
-/
import Derived.Test.YtighkibjecdbnaaGreatConH
set_option linter.unusedSimpArgs false
set_option linter.unusedVariables false
open Nat renaming reduceAdd->rB,reduceMul->rI,reduceSub->rK,reduceLeDiff->rL,reduceEqDiff->rN,reduceShiftRight->rS,reduceAnd->r6
section
namespace Go.Di
open Go.Ev Go.Di.T Go.Sort
variable {L:List (List Nat)} {X X':List aM} {P:SS->Prop} {n m:Nat} {r q:Ru}
def exR(r:Ru)(to:SS):Ru:=.node 6 r (.leaf 2 to sE)
inductive Tw(P:SS->Prop):Nat->Ru->Ru->Prop where
 |refl (r:Ru):Tw P 0 r r
 |ex {n:Nat} {r q:Ru} {to:SS} (h:Tw P n r q) (p:P to):Tw P (n+1) r (exR q to)
theorem Tw.depth(h:Tw P n r q):q.depth=r.depth+n:=by
 induction h with
 |refl=>rfl
 |@ex n r q to h p ih=>have:=Ru.nW q;show max q.depth 1+1=_;omega
theorem Tw.size(h:Tw P n r q):q.size=r.size+2*n:=by
 induction h with
 |refl=>rfl
 |ex h p ih=>show _+1+1=_;omega
theorem Tw.fit(h:Tw P n r q)(b:∀ s,P s->Nm s)(a:r.Fit):q.Fit:=by
 induction h with
 |refl=>exact a
 |ex h p ih=>exact⟨.inr (.inr rfl),ih a,.inr (.inl ⟨rfl,b _ p,rfl⟩)⟩
theorem Tw.nd(h:Tw P n r q){neg:Bool}{y:Nd}(a:y∈q.nodes neg):y∈r.nodes neg\/y.k=6\/y.k=2/\P y.rl:=by
 induction h with
 |refl=>exact .inl a
 |@ex n r q to h p ih=>
  rcases qm.1 a with rfl|a
  ·simp
  ·rcases pg.1 a with a|a
   ·exact ih a
   ·unfold Ru.nodes at a;simp_all
theorem Tw.any(h:Tw P n r q){f:Nd->Bool}(a:∀ y,f y=true->y.k=1\/y.k=3){neg:Bool}:(q.nodes neg).any f=(r.nodes neg).any f:=by
 have c:∀ y,y.k=6\/y.k=2->f y=false:=fun y b=>by
  cases e:f y with
  |false=>rfl
  |true=>have:=a y e;omega
 induction h with
 |refl=>rfl
 |@ex n r q to h p ih=>show((⟨6,sE,sE,neg⟩:Nd)::(q.nodes neg++[⟨2,to,sE,neg||decide (6=6)⟩])).any f=_;simp_all
theorem Ru.size_le:∀ r:Ru,r.size+1<=2 ^ r.depth
 | .leaf _ _ _=>lh _
 | .node _ a b=>by have c:=Ru.size_le a;have d:=Ru.size_le b;have e:2 ^ a.depth<=2 ^ max a.depth b.depth:=lEF (by omega) (by omega);have f:2 ^ b.depth<=2 ^ max a.depth b.depth:=lEF (by omega) (by omega);unfold Ru.size Ru.depth;omega
theorem Tw.sz(h:Tw P n r q)(a:n<=6)(b:r.size<=21)(hd:q.depth<=8):q.size<=32:=by
 rw[h.size];rw[h.depth]at hd;by_cases e:n=6
 ·have c:=Ru.size_le r;have d:2 ^ r.depth<=2 ^ 2:=lEF (by omega) (by omega);omega
 ·omega
inductive F2{α:Type}(R:α->α->Prop):List α->List α->Prop where
 |nil:F2 R [] []
 |cons {a b:α} {l m:List α} (h:R a b) (t:F2 R l m):F2 R (a::l) (b::m)
theorem F2.refl{α:Type}{R:α->α->Prop}(h:∀ a,R a a):∀ l,F2 R l l
 | []=>.nil
 |a::l=>.cons (h a) (F2.refl h l)
theorem F2.len{α:Type}{R:α->α->Prop}{l m:List α}(h:F2 R l m):l.length=m.length:=by
 induction h with
 |nil=>rfl
 |cons _ _ ih=>simp[ih]
theorem F2.mono{α:Type}{R S:α->α->Prop}{l m:List α}(h:F2 R l m)(c:∀ a b,R a b->S a b):F2 S l m:=by
 induction h with
 |nil=>exact .nil
 |cons r _ ih=>exact .cons (c _ _ r) ih
theorem F2.mem{α:Type}{R:α->α->Prop}{l m:List α}(h:F2 R l m){b:α}(c:b∈m):∃ a∈l,R a b:=by
 induction h with
 |nil=>cases c
 |cons r _ ih=>
  rcases qm.1 c with rfl|h
  ·simp_all
  ·simp_all
theorem F2.at{α:Type}{R:α->α->Prop}{l m:List α}(h:F2 R l m):∀(i:Nat) (a:i<l.length) (b:i<m.length),R l[i] m[i]:=by
 induction h with
 |nil=>intro i a;cases a
 |cons r _ ih=>
  intro i a b;cases i with
  |zero=>exact r
  |succ i=>exact ih i (by simpa using a) (by simpa using b)
theorem F2.set{α:Type}{R:α->α->Prop}{l m:List α}(h:F2 R l m):∀(i:Nat) (a:i<l.length) {b:α},R l[i] b->F2 R l (m.set i b):=by
 induction h with
 |nil=>intro i a;cases a
 |cons r t ih=>
  intro i a b c;cases i with
  |zero=>exact .cons c t
  |succ i=>exact .cons r (ih i (by simpa using a) c)
theorem F2.map{α β:Type}{R:α->α->Prop}{f c:α->β}{l m:List α}(h:F2 R l m)(d:∀ a b,R a b->f a=c b):l.map f=m.map c:=by
 induction h with
 |nil=>rfl
 |cons r _ ih=>rw[au,au,ih,d _ _ r]
theorem F2.flat{α β:Type}{R:α->α->Prop}{f c:α->List β}{l m:List α}(h:F2 R l m)(d:∀ a b,R a b->f a=c b):l.flatMap f=m.flatMap c:=by
 induction h with
 |nil=>rfl
 |cons r _ ih=>rw[xF,xF,ih,d _ _ r]
theorem F2.any{α:Type}{R:α->α->Prop}{f c:α->Bool}{l m:List α}(h:F2 R l m)(d:∀ a b,R a b->f a=c b):l.any f=m.any c:=by
 induction h with
 |nil=>rfl
 |cons r _ ih=>rw[lA6,lA6,ih,d _ _ r]
theorem F2.find{α:Type}{R:α->α->Prop}{p:α->Bool}{l m:List α}(h:F2 R l m)(c:∀ a b,R a b->p a=p b):(l.find? p=none/\m.find? p=none)\/∃ a b,l.find? p=some a/\m.find? p=some b/\R a b:=by
 induction h with
 |nil=>exact .inl ⟨rfl,rfl⟩
 |@cons a b _ _ r _ ih=>
  rw[List.find?_cons,List.find?_cons,<-c _ _ r];cases p a with
  |true=>exact .inr ⟨_,_,rfl,rfl,r⟩
  |false=>exact ih
def bAz(P:SS->Prop)(m:Nat)(x y:aT):Prop:=y.r.name=x.r.name/\y.r.types=x.r.types/\∃ n,n<=m/\Tw P n x.r.rule y.r.rule
def inG(X:List aM)(a s:SS):Prop:=(a,s)∈aJ X
def SpW(X:List aM)(m:Nat)(g h:aM):Prop:=h.name=g.name/\F2 (bAz (inG X g.name) m) g.gs h.gs
def Tn(m:Nat)(X X':List aM):Prop:=F2 (SpW X m) X X'
theorem Tn.refl(X:List aM):Tn 0 X X:=F2.refl (fun _=>⟨rfl,F2.refl (fun _=>⟨rfl,rfl,0,lh _,.refl _⟩) _⟩) X
theorem SpW.mono{g h:aM}(s:SpW X n g h)(e:n<=m):SpW X m g h:=⟨s.1,s.2.mono fun _ _ ⟨a,b,k,c,d⟩=>⟨a,b,k,rq c e,d⟩⟩
theorem Tn.names(h:Tn m X X'):X'.map aM.name=X.map aM.name:=(F2.map h fun _ _ r=>r.1.symm).symm
theorem Tn.all(h:Tn m X X'):aJ X'=aJ X:=(F2.flat h fun a b r=>by rw[r.1];exact r.2.map fun x y q=>by rw[q.1]).symm
theorem Tn.find(h:Tn m X X')(a b:SS):(mF X a b=none/\mF X' a b=none)\/∃ x y,mF X a b=some x/\mF X' a b=some y/\x.r.types=y.r.types:=by
 unfold mF;rcases F2.find h (p:=fun g=>decide (g.name=a)) fun a b r=>by simp only[r.1]with⟨e1,e2⟩|⟨g,g',e1,e2,r⟩
 ·rw[e1,e2];exact .inl ⟨rfl,rfl⟩
 ·rw[e1,e2];rcases F2.find r.2 (p:=fun x=>decide (x.r.name=b)) fun a b q=>by simp only[q.1]with⟨e3,e4⟩|⟨x,y,e3,e4,q⟩
  ·simp_all
  ·exact .inr ⟨x,y,e3,e4,q.2.1.symm⟩
theorem Tn.bBg(h:Tn m X X')(a b to:SS):pE X' a b to=pE X a b to:=by
 have e:tgP X' to=tgP X to:=by funext t;unfold tgP;rcases h.find t.sp to with⟨c,d⟩|⟨x,y,c,d,_⟩<;>rw[c,d];rfl
 unfold pE;rcases h.find a b with⟨c,d⟩|⟨x,y,c,d,r⟩<;>rw[c,d];simp only;unfold tgL;rw[e,r]
theorem Tn.xQ(h:Tn m X X'){a:aM}(b:a∈X'):∃ g∈X,SpW X m g a:=F2.mem h b
theorem Tn.rt(h:Tn m X X')(r:m<=6)(b:bX X)(a:∀ g∈X,∀x∈g.gs,x.r.rule.size<=21){c:aM}(j:c∈X'){y:aT}(l:y∈c.gs):y.r.rule.Fit/\(y.r.rule.depth<=8->y.r.rule.size<=32):=by obtain⟨g,d,t,n⟩:=h.xQ j;obtain⟨x,f,_,_,k,u,i⟩:=n.mem l;refine⟨i.fit (fun s a=>?_) (b.pr.x g d x f).2.2.1.fit,fun hd=>i.sz (by omega) (a g d x f) hd⟩;obtain⟨p,o,e⟩:=dE.1 (show(g.name,s)∈aJ X from a);obtain⟨z,q,e⟩:=qj.1 e;injection e with _ e;rw[<-e];exact(b.pr.x p o z q).2.1
theorem Tn.val(h:Tn m X X')(A:m<=6)(j:bX X)(B:∀ g∈X,∀x∈g.gs,x.r.rule.size<=21)(v:Dp X'):bX X':=by
 have t:=j.pr;refine⟨⟨by rw[<-F2.len h];exact t.n,fun n c=>?_,fun n c y d=>?_⟩,by rw[h.all];exact j.al,by rw[h.names];exact j.sp,fun n c y d=>?_,fun n c y d z p=>?_,fun n c y d=>?_⟩
 ·obtain⟨g,i,o,f⟩:=h.xQ c;rw[<-f.len,o];exact t.r g i
 ·obtain⟨g,i,o,f⟩:=h.xQ c;obtain⟨x,l,s,r,_⟩:=f.mem d;obtain⟨p1,C,_,D⟩:=t.x g i x l;obtain⟨E,F⟩:=h.rt A j B c d;rw[s,r];exact⟨p1,C,⟨E,v n c y d,F (v n c y d)⟩,D⟩
 ·obtain⟨g,i,o,f⟩:=h.xQ c;obtain⟨x,l,s,r,_⟩:=f.mem d;rw[r,h.names,h.all];exact j.ty g i x l
 ·obtain⟨g,i,o,f⟩:=h.xQ c;obtain⟨x,l,_,_,k,_,u⟩:=f.mem d;rw[h.all,h.bBg,o];rcases u.nd p with p|p|⟨p,G⟩
  ·exact j.nd g i x l z p
  ·omega
  ·exact⟨fun _=>G,fun e=>by omega⟩
 ·obtain⟨g,i,o,f⟩:=h.xQ c;obtain⟨x,l,s,r,k,_,u⟩:=f.mem d;have:=j.us g i x l;rw[s,r,u.any fun y e=>by rw[zy]at e;exact .inl e];refine⟨this.1,fun a b=>(F2.any f fun z w q=>?_).symm.trans (this.2 a b)⟩;obtain⟨_,_,_,_,H⟩:=q;exact(H.any fun y e=>by unfold dZ at e;simp at e;exact .inr e.1).symm
end Go.Di
end
section
namespace Go.Di
open Go.Ev Go.Di.T Go.Sort
variable {C:Nat->Ev.Call} {LA LO:LP} {L:List (List Nat)} {X X':List aM}
variable {H H' H1:Hp} {S:Nat->Prop} {cs l:List AV} {g:aM} {i j k n z:Nat} {qr:pB} {sv:AV}
theorem yS.of(c:Gl 6 H g.rv g.gs.length (g.gs.flatMap eP))(e:∀ x∈g.gs,pG H x):yS H g:=by refine⟨c.bS,c.flat,fun i d=>?_,e⟩;obtain⟨b,o,f,j,n,k⟩:=c.sub d;obtain⟨p,q,a,_,_,l,h⟩:=(c.rs qdj).at' i d;rw[f]at a;injection a with a;injection a with a g2;subst a g2;refine⟨b,o,f,j,h 0 (by rw[qdj];omega),h 1 (by rw[qdj];omega),?_,l⟩;rw[k 2 4 (by omega),qgg qdj g.gs i d];obtain⟨c0,r,s,t,u,m⟩:=qfh (e _ (lg d));simp_all
def Rv(X:List aM)(b:Nat):Prop:=∃ g∈X,In g.rv b
structure aAr(H:Hp)(X:List aM)(x:aT):Prop where
 ty:Rs 2 tC H x.tv x.r.types
 tc:x.tv=.aA\/∃ b o n m e,x.tv=.sl b o n m e/\n<=m/\0<n
 tn:∀ b,In x.tv b->¬ Rv X b
 ru:iG (fun b=>¬ Rv X b) H x.r.rule x.cs
structure TuI(H:Hp)(sv:AV)(X:List aM):Prop where
 rs:Rs 2 sI H sv X
 fl:vL sv=true
 gl:∀ g∈X,Gl 6 H g.rv g.gs.length (g.gs.flatMap eP)
 ns:∀ b,In sv b->¬ Rv X b
 ap:X.Pairwise fun g h=>∀ b,In g.rv b->¬ In h.rv b
 rel:∀ g∈X,∀x∈g.gs,aAr H X x
theorem TuI.sr(h:TuI H sv X):bM H sv X:=⟨h.rs,h.fl,fun g a=>yS.of (h.gl g a) fun x b=>⟨(h.rel g a x b).ty,(h.rel g a x b).tc,(h.rel g a x b).ru.mono fun _ _ _=>trivial⟩⟩
theorem aAr.gH{x:aT}(h:aAr H X x)(f:Fm S H H')(a:∀ b,¬Rv X b->¬ S b):aAr H' X x:=⟨h.ty.gH f fun b c=>a b (h.tn b c),h.tc,h.tn,h.ru.gH f a⟩
theorem TuI.fm(h:TuI H sv X)(f:Fm No H H'):TuI H' sv X:=⟨h.rs.fm f,h.fl,fun g a=>(h.gl g a).no f,h.ns,h.ap,fun g a x b=>(h.rel g a x b).gH f fun _ _ h=>h⟩
theorem j6.tu(m:j6 H sv X):TuI H sv X:=by
 have ov:∀{g h:aM},g∈X->h∈X->∀ b,g.A<=b->b<g.B->h.A<=b->b<h.B->g=h:=fun{g h} a d b n o A B=>by
  obtain⟨i,c,rfl⟩:=yj a;obtain⟨j,u,rfl⟩:=yj d;have f:=uf.1 m.ord;rcases dm i j with k|rfl|k
  ·have:=f i j c u k;omega
  ·rfl
  ·have:=f j i u c k;omega
 have t:∀{g:aM},g∈X->∀ b,g.A<=b->b<g.B->¬ In g.rv b->¬ Rv X b:=fun{g} a b n o p ⟨h,d,c⟩=>by have:=(m.rel h d).1.rQ b c;rw[ov a d b n o this.1 this.2]at p;exact p c
 refine⟨m.gl.rs qdb,m.gl.flat,fun g a=>(m.rel g a).1.gl,fun b e ⟨g,a,c⟩=>m.dj g a b e ((m.rel g a).1.rQ b c),?_,fun g a x s=>?_⟩
 ·refine m.ord.imp_of_mem fun{g h} a d f b v w=>?_;have:=(m.rel g a).1.rQ b v;have:=(m.rel h d).1.rQ b w;omega
 ·have r:=(m.rel g a).1;obtain⟨y,z,l⟩:=r.ty x s;exact⟨y,z,fun b e=>t a b (l b e).1 (l b e).2.1 (l b e).2.2,(r.ru x s).mono fun b _ q=>t a b q.1 q.2.1 q.2.2⟩
theorem zce(L:List AV)(o i:Nat)(x:List AV)(h:o+i+x.length<=L.length):(aY L (o+i) x).drop o=aY (L.drop o) i x:=by unfold aY;simp only[rf];rw[xm (by simp;omega),List.drop_take,zk,lAB,ui]
theorem Gl.aTn{v:AV}(h:Gl z H v n l){x:List AV}(c:i<n)(t:j+x.length<=z):∃b o k,aG z v (iN i)=.val (.ptr b o)/\uK (H.get b) (o+j) x=some k/\In v b/\b<H.nx/\Gl z (H.put b k) v n (aY l (i*z+j) x):=by
 have a:=h.len;rcases h.is with⟨rfl,rfl⟩|⟨b,o,e,q,L,rfl,p,r,f,s,g⟩
 ·omega
 ·have u:i*z+z<=n*z:=by
   have:(i+1)*z<=n*z:=um z c;rw[xk,zu]at this;exact this
  have w:o+n*z=L.length:=by rw[<-f,xx]at a;omega
  have d:o+i*z+j+x.length<=L.length:=by omega
  have m:i*z+j+x.length<=l.length:=by rw[a];omega
  refine⟨b,o+i*z,aB q (aY L (o+i*z+j) x),uT _ _ _ _ _ _ _ _ c,by rw[p,qgm,kz d],⟨_,_,_,_,rfl⟩,g,⟨?_,.inr ⟨b,o,e,q,_,rfl,dL _ _ _,?_,?_,s,g⟩⟩⟩
  ·rw[qdc _ _ _ m,a]
  ·rw[qdc _ _ _ d];exact r
  ·rw[ui,zce _ _ _ _ (by omega),f]
theorem q91{y:aT}:∀(l:List aT) (i:Nat) (h:i<l.length),y.r.name=l[i].r.name->y.tv=l[i].tv->(∃a b c d,y.cs=[a,b,c,d])->aY (l.flatMap eP) (i*6+2) y.cs=(l.set i y).flatMap eP
 | [],_,h,_,_,_=>by simp at h
 |x::l,0,_,e1,e2,⟨a,b,c,d,e3⟩=>by simp[aY,eP,e3,e1,e2]
 |x::l,i+1,h,e1,e2,e3=>by
  have:=q91 l i (by simpa using h) e1 e2 e3;rw[lAX,xF,xF,<-this];unfold aY;have e:(i+1)*6+2=(eP x).length+(i*6+2):=by rw[qdj];omega
  rw[e,iw,ui,iy];simp
def exG(x:aT)(to:SS)(nb:Nat):aT:=⟨⟨x.r.name,x.r.types,exR x.r.rule to⟩,x.tv,[.int .u8 (.ofNat 6),sE.v,sE.v,.sl nb 0 2 2 true]⟩
def exS(g:aM)(k:Nat)(to:SS)(nb:Nat)(h:k<g.gs.length):aM:=⟨g.name,g.gs.set k (exG g.gs[k] to nb),g.rv,g.A,g.B⟩
theorem Rs.congr{α:Type}{f:α->List AV}{v:AV}{l m:List α}(h:Rs z f H v l)(e:l.map f=m.map f):Rs z f H v m:=by
 have c:l.length=m.length:=by simpa using congrArg List.length e
 refine⟨by rw[<-c];exact h.len,fun i b=>?_⟩;have a:i<l.length:=by omega
 have d:f l[i]=f m[i]:=by have:=congrArg (fun q=>q[i]?) e;simp only[xw,lL b,lL a,lEH]at this;injection this
 rw[<-d];exact h.at' i a
theorem zxu{s k nb:Nat}{to:SS}(d:s<X.length)(f:k<X[s].gs.length)(b:Nat):Rv (X.set s (exS X[s] k to nb f)) b↔Rv X b:=by
 constructor
 ·rintro ⟨g,a,c⟩;rcases dh a with a|rfl
  ·exact⟨g,a,c⟩
  ·exact⟨X[s],lg d,c⟩
 ·rintro ⟨g,a,c⟩;obtain⟨i,h,rfl⟩:=yj a;by_cases e:i=s
  ·subst e;exact⟨_,List.mem_set d _,c⟩
  ·refine⟨X[i],?_,c⟩;have:(X.set s (exS X[s] k to nb f))[i]'(by simpa using h)=X[i]:=List.getElem_set_ne (Ne.symm e) _;rw[<-this];exact lg _
theorem zm5{α:Type}(f:aM->α){s k nb:Nat}{to:SS}(b:s<X.length)(a:k<X[s].gs.length)(e:f (exS X[s] k to nb a)=f X[s]):(X.set s (exS X[s] k to nb a)).map f=X.map f:=by rw[lE9,e,<-zf f (h:=by simpa using b),List.set_getElem_self]
theorem aAr.cg{x:aT}(h:aAr H X x)(e:∀ b,Rv X' b↔Rv X b):aAr H X' x:=⟨h.ty,h.tc,fun b a q=>h.tn b a ((e b).1 q),h.ru.mono fun b _ q p=>q ((e b).1 p)⟩
theorem TuI.ex(h:TuI H sv X)(f:Fm No H H1){s k nb:Nat}{to:SS}(n:s<X.length)(m:k<X[s].gs.length)(D:H.nx<=nb/\nb<H1.nx)(I:H1.get nb=aB 0 (X[s].gs[k].cs++xY 2 to sE)):∃b o q,aG 6 X[s].rv (iN k)=.val (.ptr b o)/\uK (H1.get b) (o+2) [.int .u8 (.ofNat 6),sE.v,sE.v,.sl nb 0 2 2 true]=some q/\b<H.nx/\Rv X b/\TuI (H1.put b q) sv (X.set s (exS X[s] k to nb m)):=by
 have t:=h.fm f;have z:=lg n;obtain⟨b,o,q,K,L,C,R,M⟩:=(t.gl X[s] z).aTn (i:=k) (j:=2) (x:=[.int .u8 (.ofNat 6),sE.v,sE.v,.sl nb 0 2 2 true]) m (by simp);have bl:=(h.gl X[s] z).lt C;have A:Fm (· =b) H1 (H1.put b q):=(Fm.refl _ _).put _ _ fun _=>rfl;have rb:Rv X b:=⟨X[s],z,C⟩;have B:∀ c,¬Rv X c->¬ c=b:=fun c a e=>a (e▸rb);have rv:=zxu (nb:=nb) (to:=to) n m;have F:=uf.1 h.ap;have J:∀ i (d:i<X.length),i≠s->∀ c,In X[i].rv c->¬ c=b:=fun i d e c a q=>by
  subst q;rcases Nat.lt_or_gt_of_ne e with E|E
  ·exact F i s d n E c a C
  ·exact F s i n d E c C a
 refine⟨b,o,q,K,L,bl,rb,(t.rs.gH A fun c a=>B c (h.ns c a)).congr (zm5 sI n m rfl).symm,h.fl,fun g u=>?_,fun c a e=>h.ns c a ((rv c).1 e),?_,fun g u x r=>?_⟩
 ·obtain⟨i,d,rfl⟩:=yj u;have l:i<X.length:=by simpa using d
  by_cases e:i=s
  ·subst e;rw[lAH];have:=q91 (y:=exG X[i].gs[k] to nb) X[i].gs k m rfl rfl ⟨_,_,_,_,rfl⟩;show Gl 6 _ X[i].rv (X[i].gs.set k _).length ((X[i].gs.set k _).flatMap eP);rw[<-this,ul];exact M
  ·rw[List.getElem_set_ne (Ne.symm e)];exact(t.gl _ (lg l)).fm A (J i l e)
 ·have:(X.map aM.rv).Pairwise fun v w=>∀ b,In v b->¬ In w b:=lAM.2 h.ap;rw[<-zm5 aM.rv n m (to:=to) (nb:=nb) rfl]at this;exact lAM.1 this
 ·obtain⟨i,d,rfl⟩:=yj u;have l:i<X.length:=by simpa using d
  by_cases e:i=s
  ·subst e;rw[lAH]at r;rcases dh (show x∈X[i].gs.set k (exG X[i].gs[k] to nb)from r)with r|rfl
   ·exact((t.rel _ z x r).gH A B).cg rv
   ·obtain⟨N,O,P,Q⟩:=(t.rel _ z _ (lg m)).gH A B;have G:¬ Rv X nb:=fun⟨g,u,d⟩=>by have:=(h.gl g u).lt d;omega
    exact⟨N,O,fun c a e=>P c a ((rv c).1 e),nb,X[i].gs[k].cs,xY 2 to sE,rfl,D.2,fun e=>G ((rv nb).1 e),(eB _ _ _ _ (B nb G)).trans I,Q.mono fun c _ q p=>q ((rv c).1 p),rfl⟩
  ·rw[List.getElem_set_ne (Ne.symm e)]at r;exact((t.rel _ (lg l) x r).gH A B).cg rv
theorem Tn.turn{m s k nb:Nat}{to:SS}(h:Tn m X X')(c:s<X'.length)(b:k<X'[s].gs.length)(d:(X'[s].name,to)∈aJ X):Tn (m+1) X (X'.set s (exS X'[s] k to nb b)):=by have j:X.length=X'.length:=F2.len h;have a:=F2.at h s (by omega) c;have e:=a.2.len;obtain⟨f,g,n,l,i⟩:=F2.at a.2 k (by omega) b;refine F2.set (F2.mono h fun _ _ r=>r.mono (lE1 m)) s (by omega) ⟨a.1,?_⟩;refine F2.set (a.mono (lE1 m)).2 k (by omega) ⟨f,g,n+1,by omega,.ex i ?_⟩;rw[<-a.1];exact d
structure aTc(c:Ev.Call):Prop where
 k:∀ s,Nm s->∀ H,c (.f 109) [s.v] H=.ok (iN 1) H
 n:∀ s,Nm s->∀ H,c (.f 71) [s.v] H=.ok (.bool true) H
abbrev qep(C:Nat->Ev.Call):Prop:=∀ k,aTc (C (k+1))
theorem zxk(i:aV C)(c:qep C)(p:2<=k){r:Ru}{P:Nat->Prop}(d:iG P H r cs)(e:r.Fit):Ok (C k (.f 141) [.agg cs] H) fun v H'=>v=iN 0/\Fm No H H':=by
 obtain⟨j,rfl⟩:∃ j,k=j+1+1:=⟨k-2,by omega⟩;rw[(i (j+1)).zGr];unfold zGr zyj;cases r with
 |leaf kd rl to=>
  obtain rfl:cs=xY kd rl to:=d;unfold xY SS.v;rcases e with⟨rfl,rfl,rfl⟩|⟨rfl,b,rfl⟩|⟨rfl,b,h⟩
  ·unfold sE;unfold qjv;simp(disch:=omega)only[go_sem,rB,rI,rK,rL,rN,rS,r6,Nat.reduceLT,and_self];unfold qjw;simp(disch:=go_size)only[go_sem,rB,rI,rK,rL,rN,rS,r6,Nat.reduceLT];exact Ok.ret ⟨rfl,by(repeat(first|exact Fm.refl _ _|assumption|refine Fm.push ?_ _|refine Fm.fC ?_ (by go_size)|refine Fm.aD ?_ _ _ (by go_size)))⟩
  ·have f:=b.ne;have a:=(c j).k rl b;unfold SS.v at a;unfold sE;unfold qjv;simp(disch:=omega)only[go_sem,rB,rI,rK,rL,rN,rS,r6,Nat.reduceLT,and_self,f];unfold qjw;simp(disch:=go_size)only[go_sem,rB,rI,rK,rL,rN,rS,r6,Nat.reduceLT,a];exact Ok.ret ⟨rfl,by(repeat(first|exact Fm.refl _ _|assumption|refine Fm.push ?_ _|refine Fm.fC ?_ (by go_size)|refine Fm.aD ?_ _ _ (by go_size)))⟩
  ·have f:=b.ne;have q:=h.ne;have a:=(c j).k rl b;have g:=(c j).k to h;unfold SS.v at a g;unfold qjv;unfold qjw;simp only[go_sem];simp(disch:=omega)only[go_sem,rB,rI,rK,rL,rN,rS,r6,Nat.reduceLT,a,g];exact Ok.ret ⟨rfl,by(repeat(first|exact Fm.refl _ _|assumption|refine Fm.push ?_ _|refine Fm.fC ?_ (by go_size)|refine Fm.aD ?_ _ _ (by go_size)))⟩
 |node kd x y=>
  obtain⟨bl,ca,cb,rfl,l,m,s,n,o⟩:=d;unfold SS.v sE;rcases e.1 with rfl|rfl|rfl<;>(
   unfold qjv;simp(disch:=omega)only[go_sem,rB,rI,rK,rL,rN,rS,r6,Nat.reduceLT,and_self];unfold qjw;simp(disch:=go_size)only[go_sem,rB,rI,rK,rL,rN,rS,r6,Nat.reduceLT];exact Ok.ret ⟨rfl,by(repeat(first|exact Fm.refl _ _|assumption|refine Fm.push ?_ _|refine Fm.fC ?_ (by go_size)|refine Fm.aD ?_ _ _ (by go_size)))⟩)
def qT:Ru->Nat->Nat×Nat
 |_,0=>(1000,1000)
 | .leaf _ _ _,_+1=>(1,1)
 | .node _ a b,l+1=>if 1+(qT a l).1<=32 then(1+(qT a l).1+(qT b l).1,max (max 0 (qT a l).2) (qT b l).2+1)else(1+(qT a l).1,max 0 (qT a l).2+1)
theorem zj7:∀{r:Ru} {l:Nat},r.depth<=l->r.size<=32->qT r l=(r.size,r.depth)
 | .leaf _ _ _,0,h,_=>by unfold Ru.depth at h;omega
 | .node _ a b,0,h,_=>by unfold Ru.depth at h;omega
 | .leaf _ _ _,l+1,_,_=>rfl
 | .node _ a b,l+1,h,hs=>by unfold Ru.depth at h;unfold Ru.size at hs;have c:=zj7 (r:=a) (l:=l) (by omega) (by omega);have d:=zj7 (r:=b) (l:=l) (by omega) (by omega);unfold qT;rw[c,d,kz (by simp only[];omega)];show(1+a.size+b.size,max (max 0 a.depth) b.depth+1)=(a.size+b.size+1,max a.depth b.depth+1);simp only[Prod.mk.injEq];omega
theorem q57:∀{r:Ru} {l:Nat},l<r.depth->32<(qT r l).1
 | .leaf _ _ _,0,_=>by unfold qT;decide
 | .node _ a b,0,_=>by unfold qT;decide
 | .leaf _ _ _,l+1,h=>by unfold Ru.depth at h;omega
 | .node _ a b,l+1,h=>by
  unfold Ru.depth at h;unfold qT;by_cases c:l<a.depth
  ·have:=q57 (r:=a) c;split<;>simp only[]<;>omega
  ·have:=q57 (r:=b) (l:=l) (by omega);split<;>simp only[]<;>omega
theorem q9f:∀(r:Ru) (l:Nat),(qT r l).1<=1000+32*l/\(qT r l).2<=1000+l
 |r,0=>by unfold qT;simp
 | .leaf _ _ _,l+1=>by unfold qT;simp only[];omega
 | .node _ a b,l+1=>by have c:=q9f a l;have d:=q9f b l;unfold qT;split<;>simp only[]<;>omega
theorem q6e(h:aV C):∀(l:Nat) {r:Ru} {k:Nat} {H:Hp} {cs:List AV} {P:Nat->Prop},l<=8->l+1<=k->iG P H r cs -> Ok (C k (.f 110) [.agg cs,iN l] H) fun v H'=>v=.aX [iN ((qT r l).1),iN ((qT r l).2)]/\Fm No H H'
 |0,r,k,H,cs,P,_,hk,hr=>by obtain⟨j,rfl⟩:∃ j,k=j+1:=⟨k-1,by omega⟩;rw[(h j).zGp];unfold zGp zo7;obtain⟨c0,J,K,L,rfl⟩:=hr.four;exact Ok.ret ⟨by cases r<;>rfl,by exact mG⟩
 |l+1,r,k,H,cs,P,hl,hk,hr=>by
  obtain⟨j,rfl⟩:∃ j,k=j+1:=⟨k-1,by omega⟩;rw[(h j).zGp];unfold zGp zo7;obtain⟨f,o⟩:∃ f,bL=f+3:=⟨bL-3,by rw[bZ]⟩;cases r with
  |leaf kd rl to=>obtain rfl:cs=xY kd rl to:=hr;unfold xY SS.v;simp only[go_sem,Nat.reduceLT];unfold qt3 q7x;rw[bW,o];show Ok (qyb (C j) _ _ _ _ _ _ _ _) _;unfold qyb;simp(disch:=omega)only[go_sem,rB,rI,rK,rL,rN,rS,r6,Nat.reduceLT];exact Ok.ret ⟨rfl,by(repeat(first|exact Fm.refl _ _|assumption|refine Fm.push ?_ _|refine Fm.fC ?_ (by go_size)|refine Fm.aD ?_ _ _ (by go_size)))⟩
  |node kd a b=>
   obtain⟨bl,ca,cb,rfl,n,E,F,e,g⟩:=hr;obtain⟨p,q,s,t,rfl⟩:=e.four;obtain⟨u,w,x,y,rfl⟩:=g.four;simp only[go_sem,Nat.reduceLT];unfold qt3 q7x;rw[bW,o];show Ok (qyb (C j) _ _ _ _ _ _ _ _) _;unfold qyb;simp(disch:=go_size)only[go_sem,rB,rI,rK,rL,rN,rS,r6,Nat.reduceLT];unfold q1x;have d:H.get bl=aB 0 [p,q,s,t,u,w,x,y]:=F;have G:=q9f a l;have I:=q9f b l;simp(disch:=go_size)only[go_sem,rB,rI,rK,rL,rN,rS,r6,d,iq];refine Ok.ve (q6e h l (r:=a) (k:=j) (by omega) (by omega) (e.fm (by(repeat(first|exact Fm.refl _ _|assumption|refine Fm.push ?_ _|refine Fm.fC ?_ (by go_size)|refine Fm.aD ?_ _ _ (by go_size)))))) ?_;rintro _ H1 ⟨rfl,i⟩;have A:=i.nx;simp only[np]at A;have g0:H1.get H.nx=aB 0 [.int .u8 (.ofNat kd),.str 0 0,.str 0 0,.sl bl 0 2 2 true]:=(i.keep (by simp only[np,nq];omega)).trans (jA _ _);have B:H1.get bl=aB 0 [p,q,s,t,u,w,x,y]:=(i.keep (by simp only[np,nq];omega)).trans ((qbi _ _ _ n).trans d);have m:Fm No H H1:=(Fm.push (Fm.refl _ _) _).trans i;unfold zd5;by_cases c:1+(qT a l).1<=32
   ·simp(disch:=first|omega|exact ti rfl|simp only[np,nq];first|done|omega)only[go_sem,rB,rI,rK,rL,rN,rS,r6,g0,Nat.reduceLT,c];simp(disch:=go_size)only[go_sem,rB,rI,rK,rL,rN,rS,r6,g0,B,iq];refine Ok.ve (q6e h l (r:=b) (k:=j) (by omega) (by omega) (g.fm m)) ?_;rintro _ M ⟨rfl,z⟩;have D:=(z.keep (by omega)).trans g0;simp(disch:=omega)only[go_sem,rB,rI,rK,rL,rN,rS,r6,D,Nat.reduceLT];unfold qlh;simp(disch:=first|omega|exact ti rfl|simp only[np,nq];first|done|omega)only[go_sem,rB,rI,rK,rL,rN,rS,r6];refine Ok.ret ⟨?_,m.trans z⟩
    conv=>rhs;unfold qT
    rw[kz c]
   ·simp(disch:=first|omega|exact ti rfl|simp only[np,nq];first|done|omega)only[go_sem,rB,rI,rK,rL,rN,rS,r6,g0,Nat.reduceLT,c];unfold qlh;simp(disch:=first|omega|exact ti rfl|simp only[np,nq];first|done|omega)only[go_sem,rB,rI,rK,rL,rN,rS,r6];refine Ok.ret ⟨?_,m⟩
    conv=>rhs;unfold qT
    rw[lu c]
theorem qk5(e:aV C)(n:qep C):∀{r:Ru} {k:Nat} {H:Hp} {cs:List AV} {P:Nat->Prop},r.depth+2<=k->iG P H r cs->r.Fit -> Ok (C k (.f 111) [.agg cs] H) fun v H'=>v=iN 0/\Fm No H H'
 | .leaf kd rl to,k,H,cs,P,hk,hr,hf=>by obtain⟨j,rfl⟩:∃ j,k=j+1:=⟨k-1,by omega⟩;have hd:=Ru.nW (.leaf kd rl to);rw[(e j).zGq];unfold zGq zo5;obtain⟨f,d⟩:∃ f,bL=f+3:=⟨bL-3,by rw[bZ]⟩;have c:=hr;obtain rfl:cs=xY kd rl to:=hr;unfold xY SS.v at c ⊢;simp(disch:=omega)only[go_sem,seval];refine Ok.ve (zxk e n (k:=j) (by omega) (c.fm (by(repeat(first|exact Fm.refl _ _|assumption|refine Fm.push ?_ _|refine Fm.fC ?_ (by go_size)|refine Fm.aD ?_ _ _ (by go_size))))) hf) ?_;rintro _ H1 ⟨rfl,g⟩;have g0:=(g.keep (by simp only[np,nq];omega)).trans (jA H (aB 0 [.int .u8 (.ofNat kd),.str rl.n rl.a,.str to.n to.a,.aA]));unfold q7v;rw[bW,d];show Ok (qya (C j) _ _ _ _ _ _) _;unfold qya;simp only[go_sem,seval,g0,Nat.reduceLT];exact Ok.ret ⟨rfl,(Fm.push (Fm.refl _ _) _).trans g⟩
 | .node kd a b,k,H,cs,P,hk,hr,hf=>by obtain⟨j,rfl⟩:∃ j,k=j+1:=⟨k-1,by omega⟩;unfold Ru.depth at hk;rw[(e j).zGq];unfold zGq zo5;obtain⟨f,d⟩:∃ f,bL=f+3:=⟨bL-3,by rw[bZ]⟩;have c:=hr;obtain⟨bl,ca,cb,rfl,i,y,z,l,m⟩:=hr;obtain⟨A,B,D,E,rfl⟩:=l.four;obtain⟨F,G,I,J,rfl⟩:=m.four;have h:H.get bl=aB 0 [A,B,D,E,F,G,I,J]:=z;simp(disch:=go_size)only[go_sem,rB,rI,rK,rL,rN,rS,r6];refine Ok.ve (zxk e n (k:=j) (by omega) (c.fm (by(repeat(first|exact Fm.refl _ _|assumption|refine Fm.push ?_ _|refine Fm.fC ?_ (by go_size)|refine Fm.aD ?_ _ _ (by go_size))))) hf) ?_;rintro _ H1 ⟨rfl,g⟩;have g0:=(g.keep (by simp only[np,nq];omega)).trans (jA H (aB 0 [.int .u8 (.ofNat kd),.str 0 0,.str 0 0,.sl bl 0 2 2 true]));have t:=g.nx;simp only[np]at t;have o:Fm No H H1:=(Fm.push (Fm.refl _ _) _).trans g;have u:=(o.keep i).trans h;unfold q7v;rw[bW,d];show Ok (qya (C j) _ _ _ _ _ _) _;unfold qya;simp(disch:=go_size)only[go_sem,rB,rI,rK,rL,rN,rS,r6,g0,Nat.reduceLT];unfold q1w;simp(disch:=go_size)only[go_sem,rB,rI,rK,rL,rN,rS,r6,g0,u];refine Ok.ve (qk5 e n (r:=a) (k:=j) (by omega) (l.fm o) hf.2.1) ?_;rintro _ K ⟨rfl,q⟩;have p:=(q.keep (by omega)).trans g0;have fB:=o.trans q;have w:=(fB.keep i).trans h;unfold zd4;simp only[go_sem,p,Nat.reduceLT];simp(disch:=go_size)only[go_sem,rB,rI,rK,rL,rN,rS,r6,p,w];refine Ok.ve (qk5 e n (r:=b) (k:=j) (by omega) (m.fm fB) hf.2.2) ?_;rintro _ L ⟨rfl,s⟩;have x:=(s.keep (by have:=q.nx;omega)).trans p;simp(disch:=first|go_size|omega)only[go_sem,rB,rI,rK,rL,rN,rS,r6,x,Nat.reduceLT];exact Ok.ret ⟨rfl,fB.trans s⟩
theorem zdi(c:aV C)(m:qep C)(n:12<=k){r:Ru}{P:Nat->Prop}(d:iG P H r cs)(o:r.Fit)(p:r.depth<=8->r.size<=32):Ok (C k (.f 72) [.agg cs] H) fun v H'=>v=iN ((if r.depth<=8 then 0 else 3))/\Fm No H H':=by
 obtain⟨j,rfl⟩:=aU n;rw[(c j).zGj];unfold zGj zyp;obtain⟨c0,a,b,h,rfl⟩:=d.four;have g:Fm No H (aN H (aB 0 [c0,a,b,h])):=by exact mG
 simp(disch:=go_size)only[go_sem,rB,rI,rK,rL,rN,rS,r6];refine Ok.ve (q6e c 8 (r:=r) (k:=j) (by omega) (by omega) (d.fm g)) ?_;rintro _ H1 ⟨rfl,i⟩;have g0:=(i.keep (by simp only[np,nq];omega)).trans (jA H (aB 0 [c0,a,b,h]));have f:=g.trans i;by_cases hd:r.depth<=8
 ·have e:=zj7 hd (p hd);rw[kz hd,e];have a:¬ 32<r.size:=by omega
  have b:¬ 8<r.depth:=by omega
  simp(disch:=go_size)only[go_sem,rB,rI,rK,rL,rN,rS,r6,a,b];unfold zej;simp(disch:=go_size)only[go_sem,rB,rI,rK,rL,rN,rS,r6,g0];refine Ok.ve (qk5 c m (k:=j) (by omega) (d.fm f) o) ?_;rintro _ s ⟨rfl,q⟩;exact Ok.ret ⟨rfl,f.trans q⟩
 ·have e:=q57 (r:=r) (l:=8) (by omega);rw[lu hd];simp(disch:=go_size)only[go_sem,rB,rI,rK,rL,rN,rS,r6,e];exact Ok.ret ⟨rfl,f⟩
theorem qo4(e:qep C){j:Nat}{Hb:Hp}{o:Nat}{A tv c0 B D E:AV}{ts:List jP}(c:Hb.get o=aB 0 [A,tv,c0,B,D,E])(f:Rs 2 tC Hb tv ts)(d:ts.length<=8)(b:∀ t∈ts,Nm t.sp/\(t.rl=sE\/Nm t.rl)){Q:pH}{qr:pB}{q:pD}(g:Ok (q Hb) Q):∀(k i:Nat),i<=ts.length->ts.length-i<k->Ok (qj2 (C (j+1)) qr q (.ptr o 0) k (iN i) Hb) Q
 |0,i,_,h=>by omega
 |k+1,i,hi,hk=>by
  show Ok (q3c (C (j+1)) _ _ _ (qj2 (C (j+1)) _ _ _ k) _ Hb) Q;unfold q3c;have p:=f.len;by_cases a:i<ts.length
  ·simp only[go_sem,c,p,a];unfold q3a;obtain⟨w,x,y,_,_,_,z⟩:=f.at' i a;have r:bK (Hb.get w) x=.val (.str ts[i].sp.n ts[i].sp.a):=z 0 (by simp[tC]);have s:bK (Hb.get w) (x+1)=.val (.str ts[i].rl.n ts[i].rl.a):=z 1 (by simp[tC]);have u:=b ts[i] (lg a);have l:=(e j).n _ u.1 Hb;unfold SS.v at l;by_cases n:ts[i].rl.n=0/\ts[i].rl.a=0
   ·have m:=zg n;simp only[go_sem,c,y,r,s,l,m];unfold quk;simp(disch:=go_size)only[go_sem,rB,rI,rK,rL,rN,rS,r6];exact qo4 e c f d b g k (i+1) (by omega) (by omega)
   ·have v:=(e j).n ts[i].rl (by
     rcases u.2 with h|h
     ·exact absurd ((mZ _ _).1 h) n
     ·exact h) Hb
    unfold SS.v at v;simp only[go_sem,c,y,r,s,l,n,v];unfold quk;simp(disch:=go_size)only[go_sem,rB,rI,rK,rL,rN,rS,r6];exact qo4 e c f d b g k (i+1) (by omega) (by omega)
  ·simp only[go_sem,c,p,a];exact g
theorem qz0(s:aV C)(f:qep C){j:Nat}(t:12<=j+1){Hb:Hp}{pb:Nat}{g:aM}(u:Hb.get pb=aB 0 [.str g.name.n g.name.a,g.rv])(e:pb<Hb.nx)(v:yS Hb g)(m:PrB X)(d:g∈X){Q:pH}{qr:pB}{q:pD}(L:(∀x∈g.gs,x.r.rule.depth<=8)->∀ H,Fm No Hb H->Ok (q H) Q)(w:(∃x∈g.gs,¬x.r.rule.depth<=8)->∀ H,Fm No Hb H->Ok (qr (iN 3) H) Q):∀(k i:Nat) (H:Hp),i<=g.gs.length->g.gs.length-i<k->(∀x∈g.gs.take i,x.r.rule.depth<=8)->Fm No Hb H->Ok (qc9 (C (j+1)) qr q (.ptr pb 0) k (iN i) H) Q
 |0,i,_,_,h,_,_=>by omega
 |k+1,i,H,hi,hk,ha,hf=>by
  show Ok (q3d (C (j+1)) _ _ _ (qc9 (C (j+1)) _ _ _ k) _ H) Q;unfold q3d;have p1:=(hf.keep e).trans u;have c:=v.fm hf;have y:=c.len;have M:=(m.r g d).1;by_cases a:i<g.gs.length
  ·simp only[go_sem,p1,y,a];unfold q27;obtain⟨U,V,P,_,_,_,_,D⟩:=c.at' i a;have b:=lg a;obtain⟨R,x2,E,S⟩:=m.x g d _ b;obtain⟨c0,F,I,J,o,p⟩:=qfh (c.rel _ b);rw[p]at D;have z:=fun H=>(f j).n _ x2 H;unfold SS.v at z;obtain⟨G,r⟩:∃ G,G=(aN H (aB 0 [.str 0 0,.aA,.int .u8 (.ofNat 0),.str 0 0,.str 0 0,.aA])).put H.nx (aB 0 [.str g.gs[i].r.name.n g.gs[i].r.name.a,g.gs[i].tv,c0,F,I,J]):=⟨_,rfl⟩;have A:Fm No H G:=by rw[r];exact nA
   have l:G.get H.nx=aB 0 [.str g.gs[i].r.name.n g.gs[i].r.name.a,g.gs[i].tv,c0,F,I,J]:=by rw[r];exact dL _ _ _
   have n:=(c.rel _ b).fm A;have N:=n.ty.len;simp(disch:=go_size)only[go_sem,rB,rI,rK,rL,rN,rS,r6,p1,P,D];rw[<-r];simp only[go_sem,l,z];unfold q28;have O:¬ 8<g.gs[i].r.types.length:=by omega
   simp only[go_sem,l,N,O];unfold q29 q3e;rw[bW];refine qo4 f l n.ty R S ?_ bL 0 (gy _) (by rw[bZ];omega);unfold qhs;simp only[go_sem,l];have B:=n.ru;rw[o]at B;refine Ok.ve (zdi s f (k:=j+1) t B E.fit E.sz) ?_;rintro _ K ⟨rfl,T⟩;have fB:=(hf.trans A).trans T;by_cases hd:g.gs[i].r.rule.depth<=8
   ·rw[kz hd];unfold q3b;simp(disch:=go_size)only[go_sem,rB,rI,rK,rL,rN,rS,r6];refine qz0 s f t u e v m d L w k (i+1) K (by omega) (by omega) (fun x b=>?_) fB;rw[lw a]at b;rcases pg.1 b with b|b
    ·exact ha x b
    ·simp_all
   ·rw[lu hd];exact w ⟨_,b,hd⟩ K fB
  ·simp only[go_sem,p1,y,a];rw[uh (by omega)]at ha;simp_all
theorem qzz(t:aV C)(m:qep C){j:Nat}(u:12<=j+1){Hb:Hp}{sb:Nat}{sv:AV}(v:Hb.get sb=aB 0 [sv])(c:sb<Hb.nx)(w:bM Hb sv X)(e:PrB X){Q:pH}{qr:pB}{q:pD}(F:Dp X->∀ H,Fm No Hb H->Ok (q H) Q)(y:¬ Dp X->∀ H,Fm No Hb H->Ok (qr (iN 3) H) Q):∀(k i:Nat) (H:Hp),i<=X.length->X.length-i<k->Dp (X.take i)->Fm No Hb H->Ok (uH (C (j+1)) qr q (.ptr sb 0) k (iN i) H) Q
 |0,i,_,_,h,_,_=>by omega
 |k+1,i,H,hi,hk,ha,hf=>by
  show Ok (zes (C (j+1)) _ _ _ (uH (C (j+1)) _ _ _ k) _ H) Q;unfold zes;have p1:=(hf.keep c).trans v;have b:=w.fm hf;have A:=b.rs.len;have M:=e.n;by_cases a:i<X.length
  ·simp only[go_sem,p1,A,a];unfold q23;obtain⟨O,P,L,_,_,E,_⟩:=b.rs.at' i a;have f:=lg a;unfold sI SS.v at E;obtain⟨R,x2⟩:=e.r _ f;have B:=fun H=>(m j).n _ x2 H;unfold SS.v at B;obtain⟨G,l⟩:∃ G,G=(aN H (aB 0 [.str 0 0,.aA])).put H.nx (aB 0 [.str X[i].name.n X[i].name.a,X[i].rv]):=⟨_,rfl⟩;have p:Fm No H G:=by rw[l];exact nA
   have r:G.get H.nx=aB 0 [.str X[i].name.n X[i].name.a,X[i].rv]:=by rw[l];exact dL _ _ _
   have N:G.nx=H.nx+1:=by rw[l];rfl
   have D:=(b.sp _ f).fm p;have K:=D.len;simp(disch:=first|omega|exact ti rfl)only[go_sem,seval,p1,L,E];rw[<-l];simp only[go_sem,r,B];unfold q25;have s:¬ 16<X[i].gs.length:=by omega
   simp only[go_sem,r,K,s];unfold q26 q3f;rw[bW];refine qz0 t m u r (by omega) D e f (fun z n o=>?_) (fun⟨x,z,I⟩ n o=>y (fun J=>I (J _ f x z)) n ((hf.trans p).trans o)) bL 0 G (gy _) (by rw[bZ];omega) (fun _ h=>by cases h) (Fm.refl _ _);unfold qei;simp(disch:=go_size)only[go_sem,rB,rI,rK,rL,rN,rS,r6];refine qzz t m u v c w e F y k (i+1) n (by omega) (by omega) (fun g d=>?_) ((hf.trans p).trans o);rw[lw a]at d;rcases pg.1 d with d|d
   ·exact ha g d
   ·simp_all
  ·simp only[go_sem,p1,A,a];rw[uh (by omega)]at ha;simp_all
open Classical in
theorem z6m(d:aV C)(i:qep C)(m:13<=k)(e:bM H sv X)(g:PrB X):Ok (C k (.f 45) [.agg [sv]] H) fun r H'=>r=iN ((if Dp X then 0 else 3))/\Fm No H H':=by
 obtain⟨j,rfl⟩:∃ j,k=j+1+1:=⟨k-2,by omega⟩;rw[(d (j+1)).zGd];unfold zGd zyu;have f:Fm No H (aN H (aB 0 [sv])):=by exact mG
 have l:=e.rs.len;have n:=g.n;have c:¬ 16<X.length:=by omega
 simp(disch:=go_size)only[go_sem,rB,rI,rK,rL,rN,rS,r6,l,c];unfold q21 zet;rw[bW];refine qzz (j:=j) d i (by omega) (jA _ _) (by go_size) (e.fm f) g (fun a H1 b=>?_) (fun a H1 b=>?_) bL 0 _ (gy _) (by rw[bZ];omega) (fun _ h=>by cases h) (Fm.refl _ _)
 ·rw[kz a];exact Ok.ret ⟨rfl,f.trans b⟩
 ·rw[lu a];exact Ok.ret ⟨rfl,f.trans b⟩
theorem zly(f:aV C){r:Ru}(i:r.depth+1<=k+1)(j:r.size<=100000){P:Nat->Prop}(g:iG P H r cs):Ok (C k (.f 35) [.aA,.agg cs,.bool false] H) fun w H'=>∃ l,Rs 5 jL H' w l/\l.map Prod.fst=r.nodes false/\l.length=r.size/\Fm No H H':=by
 have a:∀ x,¬In AV.aA x:=fun x h=>by obtain⟨_,_,_,_,h⟩:=h;cases h
 refine(qxe f r k (by omega) .aA false H (l:=[]) (Gl.nil 5 _) g (fun b _=>a b) (by simp;omega)).mono ?_;rintro w H1 ⟨l,d,e⟩;refine⟨l,d.gl.rs vK,by simpa using e,?_,d.fm.mono fun c _ h=>absurd h (a c)⟩;have:=congrArg List.length e;simpa [qby] using this
theorem qy6{O:Ev.Call}{H:Hp}{w:AV}{l:List (Nd×AV)}(g:Rs 5 jL H w l)(z:l.length<=100000){a:SS}{Q:pH}{qr:pB}{q:pD}(p:l.any (fun x=>dZ 3 a x.1)=true->Ok (qr (.bool true) H) Q)(r:l.any (fun x=>dZ 3 a x.1)=false->Ok (q H) Q):∀(k i:Nat),i<=l.length->l.length-i<k->(l.take i).any (fun x=>dZ 3 a x.1)=false->Ok (qhr O qr q a.v w k (iN i) H) Q
 |0,i,_,h,_=>by omega
 |k+1,i,hi,hk,hb=>by
  show Ok (q2c O _ _ _ _ (qhr O _ _ _ _ k) _ H) Q;unfold q2c;have s:=g.len;by_cases b:i<l.length
  ·simp only[go_sem,s,b];unfold q2b;obtain⟨u,v,o,_,_,_,y⟩:=g.at' i b;have j:bK (H.get u) v=.val (.int .u8 (.ofNat l[i].1.k)):=y 0 (by rw[vK];omega);have m:bK (H.get u) (v+1)=.val (.str l[i].1.rl.n l[i].1.rl.a):=y 1 (by rw[vK];omega);have nx:¬ dZ 3 a l[i].1=true->Ok (qhr O qr q a.v w k (iN ((i+1))) H) Q:=fun c=>by
    refine qy6 g z p r k (i+1) (by omega) (by omega) ?_;rw[lw b,ik,hb,Bool.false_or,lA6,List.any_nil,Bool.or_false];simpa using c
   have t:a.v=.str a.n a.a:=id rfl;have c:dZ 3 a l[i].1=(decide (l[i].1.k=3)&&decide (l[i].1.rl=a)):=rfl;by_cases d:l[i].1.k=3
   ·by_cases f:l[i].1.rl.n=a.n/\l[i].1.rl.a=a.a
    ·have n:=zg f;simp only[go_sem,o,j,m,d,n,t];refine p ?_;rw[zt];exact⟨l[i],lg b,by rw[c,qw d,qw ((mZ _ _).2 f)];rfl⟩
    ·simp only[go_sem,o,j,m,d,f,t];unfold qt4;simp(disch:=go_size)only[go_sem,rB,rI,rK,rL,rN,rS,r6];exact nx (by rw[c,uA fun e=>f ((mZ _ _).1 e)];simp)
   ·simp only[go_sem,o,j,m,d];unfold qt4;simp(disch:=go_size)only[go_sem,rB,rI,rK,rL,rN,rS,r6];simp_all
  ·simp only[go_sem,s,b];rw[uh (by omega)]at hb;exact r hb
theorem q89(p:aV C){j:Nat}(D:10<=j){Hb:Hp}{pb:Nat}{E:AV}{g:aM}(r:Hb.get pb=aB 0 [E,g.rv])(e:pb<Hb.nx)(s:yS Hb g)(t:∀ x∈g.gs,x.r.rule.Rt)(F:g.gs.length<=16){a:SS}{Q:pH}{qr:pB}{q:pD}(u:g.gs.any (fun z=>dV z.r.rule 3 a)=true->∀ H,Fm No Hb H->Ok (qr (.bool true) H) Q)(G:g.gs.any (fun z=>dV z.r.rule 3 a)=false->∀ H,Fm No Hb H->Ok (q H) Q):∀(k i:Nat) (H:Hp),i<=g.gs.length->g.gs.length-i<k->(g.gs.take i).any (fun z=>dV z.r.rule 3 a)=false->Fm No Hb H->Ok (qhf (C j) qr q a.v (.ptr pb 0) k (iN i) H) Q
 |0,i,_,_,h,_,_=>by omega
 |k+1,i,H,hi,hk,hb,hf=>by
  show Ok (zeh (C j) _ _ _ _ (qhf (C j) _ _ _ _ k) _ H) Q;unfold zeh;have p1:=(hf.keep e).trans r;have d:=s.fm hf;have v:=d.len;by_cases b:i<g.gs.length
  ·simp only[go_sem,p1,v,b];unfold q2a;obtain⟨M,N,I,_,_,_,y,_⟩:=d.at' i b;have n:=lg b;have o:=(d.rel _ n).ru;obtain⟨c0,O,P,R,f⟩:=o.four;have m:=t _ n;rw[f]at y;simp only[go_sem,p1,I,y];rw[f]at o;refine Ok.ve (zly p (k:=j) (by have:=m.dp;omega) (by have:=m.sz;omega) o) ?_;rintro w A ⟨l,J,K,L,B⟩;have c:dV g.gs[i].r.rule 3 a=l.any (fun x=>dZ 3 a x.1):=by
    unfold dV;rw[<-K,lAF];rfl
   unfold q2d;rw[bW];refine qy6 J (by have:=m.sz;omega) (fun h=>?_) (fun h=>?_) bL 0 (gy _) (by have:=m.sz;rw[bZ];omega) rfl
   ·refine u ?_ A (hf.trans B);rw[zt];exact⟨_,n,by rw[c,h]⟩
   ·unfold qna;simp(disch:=go_size)only[go_sem,rB,rI,rK,rL,rN,rS,r6];refine q89 p D r e s t F u G k (i+1) A (by omega) (by omega) ?_ (hf.trans B);rw[lw b,ik,hb,Bool.false_or,lA6,List.any_nil,Bool.or_false,c,h]
  ·simp only[go_sem,p1,v,b];rw[uh (by omega)]at hb;simp_all
theorem z06(c:aV C)(d:11<=k)(e:yS H g)(i:∀ x∈g.gs,x.r.rule.Rt)(l:g.gs.length<=16)(a:SS):Ok (C k (.f 73) [.agg [.str g.name.n g.name.a,g.rv],a.v] H) fun v H'=>v=.bool (g.gs.any fun z=>dV z.r.rule 3 a)/\Fm No H H':=by
 obtain⟨j,rfl⟩:=aU d;rw[(c j).zGk];unfold zGk zyo;have f:Fm No H (aN H (aB 0 [.str g.name.n g.name.a,g.rv])):=by exact mG
 simp only[go_sem];unfold zei;rw[bW];refine q89 c (by omega) (jA _ _) (by simp only[np,nq];omega) (e.fm f) i l (fun h H1 b=>?_) (fun h H1 b=>?_) bL 0 _ (gy _) (by rw[bZ];omega) rfl (Fm.refl _ _)
 ·exact Ok.ret ⟨by rw[h],f.trans b⟩
 ·unfold qf1;exact Ok.ret ⟨by rw[h],f.trans b⟩
theorem zaj:∀{X:List aM} {g:aM},(aJ X).Nodup->g∈X->(g.gs.map fun x=>(g.name,x.r.name)).Nodup
 | [],_,_,h=>by cases h
 |a::l,g,hn,h=>by
  have b:((a.gs.map fun x=>(a.name,x.r.name))++aJ l).Nodup:=hn;rw[yh]at b;rcases qm.1 h with rfl|h
  ·exact b.1
  ·exact zaj b.2.1 h
theorem qsw{O:Ev.Call}{H:Hp}{pb b i:Nat}{g:aM}{j:AV}{nm:SS}(c:H.get pb=aB 0 [j,g.rv])(d:yS H g)(e:bK (H.get b) 0=.val (.str nm.n nm.a))(l:i<=g.gs.length)(n:g.gs.length<=16)(hd:∀ m (h:m<i),g.gs[m].r.name≠nm){Q:pH}{qr:pB}{q:pD}(f:Ok (q H) Q):∀(k m:Nat),m<=i->i-m<k->Ok (qdg O qr q (iN i) (.ptr pb 0) (.ptr b 0) k (iN m) H) Q
 |0,m,_,h=>by omega
 |k+1,m,hm,hk=>by
  show Ok (qui O _ _ _ _ _ (qdg O _ _ _ _ _ k) _ H) Q;unfold qui;by_cases a:m<i
  ·simp only[go_sem,a];simp only[qnd,qik,qne,qil];obtain⟨s,t,p,_,r,_⟩:=d.at' m (by omega);have o:¬(g.gs[m].r.name.n=nm.n/\g.gs[m].r.name.a=nm.a):=fun h=>hd m a ((mZ _ _).2 h);simp only[go_sem,c,p,r,e,o];simp only[qnf,qim];simp(disch:=go_size)only[go_sem,rB,rI,rK,rL,rN,rS,r6];exact qsw c d e l n hd f k (m+1) (by omega) (by omega)
  ·simp only[go_sem,a];exact f
theorem qsx{O:Ev.Call}{H:Hp}{g tb i:Nat}{ts:List jP}{tv:AV}(j:bK (H.get g) 1=.val tv)(l:Rs 2 tC H tv ts)(n:i<ts.length)(r:ts.length<=8)(hd:ts.Nodup)(d:H.get tb=aB 0 (tC ts[i])){Q:pH}{qr:pB}{q:pD}(o:Ok (q H) Q):∀(k m:Nat),m<=i->i-m<k->Ok (qes O qr q (.ptr g 0) (iN i) (.ptr tb 0) k (iN m) H) Q
 |0,m,_,h=>by omega
 |k+1,m,hm,hk=>by
  show Ok (q2u O _ _ _ _ _ (qes O _ _ _ _ _ k) _ H) Q;unfold q2u;by_cases c:m<i
  ·simp only[go_sem,c];simp only[qq6,qly,qq7,qlz];obtain⟨w,x,t,_,_,p,_⟩:=l.at' m (by omega);have f:ts[m]≠ts[i]:=uf.1 hd m i (by omega) n c;have s:l8 (eqFields [(p1,⟨iE⟩,0),(p1,⟨iE⟩,1)]) (.agg [.str ts[m].sp.n ts[m].sp.a,.str ts[m].rl.n ts[m].rl.a]) (.agg [.str ts[i].sp.n ts[i].sp.a,.str ts[i].rl.n ts[i].rl.a])=some false:=by
    have:=q67 (ts[m].sp,ts[m].rl) (ts[i].sp,ts[i].rl);rw[uA fun e=>f (by injection e with a b;cases u:ts[m];cases v:ts[i];rw[u,v]at a b;simp only at a b;rw[a,b])]at this;exact this
   unfold tC SS.v at p d;simp only[go_sem,seval,j,t,p,d,s];simp only[qq8,ql0];simp(disch:=go_size)only[go_sem,rB,rI,rK,rL,rN,rS,r6];exact qsx j l n r hd (by unfold tC SS.v;exact d) o k (m+1) (by omega) (by omega)
  ·simp only[go_sem,c];exact o
theorem z8h{a b:SS}{r:AV}(d:bM H sv X)(h:q7q X a b r):∃ e d1 f g i j,r=.aX [.agg [e,d1,f,g,i,j],.bool (mF X a b).isSome]:=by
 unfold q7q at h;cases c:mF X a b with
 |none=>rw[c]at h;exact⟨_,_,_,_,_,_,h⟩
 |some x=>rw[c]at h;obtain⟨p,k,l,_⟩:=qg2 c;obtain⟨c0,n,o,q,_,m⟩:=qfh ((d.sp p k).rel x l);simp_all
theorem qzr(x:aV C){j:Nat}(hj:2<=j){Hb:Hp}{sb b:Nat}{sv tv:AV}{ts:List jP}(u:bM Hb sv X)(v:bX X)(y:Hb.get sb=aB 0 [sv])(c:sb<Hb.nx)(d:b<Hb.nx)(z:bK (Hb.get b) 1=.val tv)(A:Rs 2 tC Hb tv ts)(S:ts.length<=8)(hd:ts.Nodup)(m:∀ t∈ts,t.sp∈X.map aM.name/\(t.rl=sE\/(t.sp,t.rl)∈aJ X)){Q:pH}{qr:pB}{q:pD}(T:∀ H,Fm No Hb H->Ok (q H) Q):∀(k i:Nat) (H:Hp),i<=ts.length->ts.length-i<k->Fm No Hb H->Ok (nU (C j) qr q (.ptr sb 0) (.ptr b 0) k (iN i) H) Q
 |0,i,_,_,h,_=>by omega
 |k+1,i,H,hi,hk,hf=>by
  show Ok (q2v (C j) _ _ _ _ (nU (C j) _ _ _ _ k) _ H) Q;unfold q2v;simp only[qnh,qio];have B:bK (H.get b) 1=.val tv:=by rw[hf.keep d];exact z
  have V:=A.fm hf;have W:=V.len;have f:=v.pr.sml;by_cases a:i<ts.length
  ·simp only[go_sem,B,W,a];simp only[qni,qip,qnj,qiq,qnk,qir,qnl,qis];obtain⟨b1,o1,e1,_,_,e3,_⟩:=V.at' i a;unfold tC SS.v at e3;obtain⟨I,J⟩:=m _ (lg a);obtain⟨G,w⟩:∃ G,G=(aN H (aB 0 [.str 0 0,.str 0 0])).put H.nx (aB 0 [.str ts[i].sp.n ts[i].sp.a,.str ts[i].rl.n ts[i].rl.a]):=⟨_,rfl⟩;have fG:Fm No H G:=by rw[w];exact nA
   have Y:G.get H.nx=aB 0 [.str ts[i].sp.n ts[i].sp.a,.str ts[i].rl.n ts[i].rl.a]:=by rw[w];exact dL _ _ _
   have nG:G.nx=H.nx+1:=by rw[w];rfl
   have n:=hf.trans fG;have s2:=(n.keep c).trans y;have n1:=n.nx;simp(disch:=first|go_size|omega)only[go_sem,rB,rI,rK,rL,rN,rS,r6,B,e1,e3];rw[<-w];simp(disch:=first|go_size|omega)only[go_sem,rB,rI,rK,rL,rN,rS,r6,s2,Y];refine Ok.ve (qql x (k:=j) (by omega) (u.fm n) (by have:=f.n;omega) (fun g U=>by have:=f.r g U;omega) ts[i].sp ts[i].rl) ?_;rintro _ L ⟨M,hr⟩;obtain⟨d0,d1,d2,d3,d4,d5,rfl⟩:=z8h (u.fm n) hr;have o:=n.trans M;have Z:=(M.keep (by omega)).trans Y;have s3:=(o.keep c).trans y;have n2:=M.nx;obtain⟨K,hK⟩:∃ K,K=(aN L (aB 0 [.str 0 0,.aA,.int .u8 (.ofNat 0),.str 0 0,.str 0 0,.aA])).put L.nx (aB 0 [d0,d1,d2,d3,d4,d5]):=⟨_,rfl⟩;have fK:Fm No L K:=by rw[hK];exact nA
   have g4:=(fK.keep (by omega)).trans Z;have r:=o.trans fK;simp(disch:=go_size)only[go_sem,rB,rI,rK,rL,rN,rS,r6,s3,Z];rw[<-hK];refine Ok.ve (qx8 x (k:=j) (by omega) (u.fm r) (by have:=f.n;omega) ts[i].sp) ?_;rintro _ N ⟨f4,O⟩;have l:=r.trans f4;have D:=(f4.keep (by have:=fK.nx;omega)).trans g4;rcases O with⟨p,hp,rfl,_⟩|⟨_,P⟩
   ·have x4:bK (N.get b) 1=.val tv:=by rw[l.keep d];exact z
    have s:Ok (qt6 (C j) qr (nU (C j) qr q (.ptr sb 0) (.ptr b 0) k) (.ptr b 0) (iN i) (.ptr H.nx 0) N) Q:=by simp only[qq5,qlx];unfold q2x;rw[bW];refine qsx x4 (A.fm l) a S hd D ?_ bL 0 (gy _) (by rw[bZ];omega);simp only[qq9,ql1];simp(disch:=go_size)only[go_sem,rB,rI,rK,rL,rN,rS,r6];exact qzr x hj u v y c d z A S hd m T k (i+1) N (by omega) (by omega) l
    by_cases R:ts[i].rl.n=0/\ts[i].rl.a=0
    ·have E:=zg R;simp only[go_sem,D,E,ak];exact s
    ·have F:(mF X ts[i].sp ts[i].rl).isSome=true:=by
      rw[qe9 v.al v.sp,zy];rcases J with h|h
      ·exact absurd ((mZ _ _).1 h) R
      ·exact h
     simp only[go_sem,D,R,ak,F];exact s
   ·rw[lAG]at P;obtain⟨g,U,e⟩:=qj.1 I;simp_all
  ·simp only[go_sem,B,W,a];exact T H hf
theorem bAn(l:aV C)(m:3<=j){sb pb nb:Nat}{sv rv av:AV}{n:Nd}(o:bM H sv X)(p:bX X)(r:H.get sb=aB 0 [sv])(s:H.get pb=aB 0 [.str g.name.n g.name.a,rv])(a:H.get nb=aB 0 (jL (n,av)))(t:sb<H.nx/\pb<H.nx/\nb<H.nx)(u:n.k=3->pE X g.name n.rl n.to≠[]){b:Bool}{Q:pH}{q:AV->pB}(A:i<1000)(v:∀ H',Fm No H H'->Ok (q (.bool (b||decide (n.k=1))) (iN ((i+1))) H') Q):Ok (qj0 (C j) qr q (.ptr sb 0) (.ptr pb 0) (.bool b) (iN i) (.ptr nb 0) H) Q:=by
 simp only[qrh,ql9,qri,qma];unfold jL SS.v at a;have fin:∀ H',Fm No H H'->Ok (qt8 (C j) q (.bool b) (iN i) (.ptr nb 0) H') Q:=fun H' f=>by
  simp only[qrj,qmb,qrk,qmc];have c:=(f.keep t.2.2).trans a;have x:=v H' f;cases b with
  |true=>simp(disch:=go_size)only[go_sem,rB,rI,rK,rL,rN,rS,r6];exact x
  |false=>simp(disch:=go_size)only[go_sem,rB,rI,rK,rL,rN,rS,r6,c];trivial
 by_cases d:n.k=3
 ·simp(disch:=go_size)only[go_sem,rB,rI,rK,rL,rN,rS,r6,a,d,r,s];refine Ok.ve (qtv l (k:=j) m o p.pr.sml g.name n.rl n.to) ?_;intro w H1 h;have y:=h.bS;have z:¬(pE X g.name n.rl n.to).length=0:=fun e=>u d (tq.1 e);simp(disch:=go_size)only[go_sem,rB,rI,rK,rL,rN,rS,r6,y,z];exact fin H1 h.fm
 ·simp only[go_sem,a,d];exact fin H (Fm.refl _ _)
theorem qzs(s:aV C){j:Nat}(z:3<=j){Hb:Hp}{sb pb:Nat}{sv rv w:AV}{g:aM}{l:List (Nd×AV)}(r:bM Hb sv X)(d:bX X)(t:Hb.get sb=aB 0 [sv])(u:Hb.get pb=aB 0 [.str g.name.n g.name.a,rv])(f:sb<Hb.nx/\pb<Hb.nx)(A:Rs 5 jL Hb w l)(L:l.length<=100)(B:∀ n∈l,(n.1.k=2\/n.1.k=3->(g.name,n.1.rl)∈aJ X)/\(n.1.k=3->pE X g.name n.1.rl n.1.to≠[])){Q:pH}{qr:pB}{q:pB}(D:∀ H,Fm No Hb H->Ok (q (.bool (l.any fun n=>decide (n.1.k=1))) H) Q):∀(k i:Nat) (H:Hp),i<=l.length->l.length-i<k->Fm No Hb H->Ok (rC (C j) qr q (.ptr sb 0) (.ptr pb 0) w k (.bool ((l.take i).any fun n=>decide (n.1.k=1))) (iN i) H) Q
 |0,i,_,_,h,_=>by omega
 |k+1,i,H,hi,hk,hf=>by
  show Ok (q2w (C j) _ _ _ _ _ (rC (C j) _ _ _ _ _ k) _ _ H) Q;unfold q2w;simp only[qrc,ql4];have E:=A.fm hf;have F:=E.len;have m:=d.pr.sml;by_cases a:i<l.length
  ·simp only[go_sem,F,a];simp only[qrd,ql5,qre,ql6,qrf,ql7,qrg,ql8];obtain⟨Z,o1,J,_,_,y,_⟩:=E.at' i a;obtain⟨U,V⟩:=B _ (lg a);obtain⟨G,p⟩:∃ G,G=(aN H (aB 0 [.int .u8 (.ofNat 0),.str 0 0,.str 0 0,.aA,.bool false])).put H.nx (aB 0 [.int .u8 (.ofNat l[i].1.k),.str l[i].1.rl.n l[i].1.rl.a,.str l[i].1.to.n l[i].1.to.a,l[i].2,.bool l[i].1.neg]):=⟨_,rfl⟩;have O:Fm No H G:=by rw[p];exact nA
   have v:G.get H.nx=aB 0 [.int .u8 (.ofNat l[i].1.k),.str l[i].1.rl.n l[i].1.rl.a,.str l[i].1.to.n l[i].1.to.a,l[i].2,.bool l[i].1.neg]:=by rw[p];exact dL _ _ _
   have Y:G.nx=H.nx+1:=by rw[p];rfl
   have o:=hf.trans O;have P:=(o.keep f.1).trans t;have R:=(o.keep f.2).trans u;have I:∀ K,Fm No G K->Ok (qj0 (C j) qr (rC (C j) qr q (.ptr sb 0) (.ptr pb 0) w k) (.ptr sb 0) (.ptr pb 0) (.bool ((l.take i).any fun n=>decide (n.1.k=1))) (iN i) (.ptr H.nx 0) K) Q:=fun K fK=>by have c:=o.trans fK;refine bAn s z (r.fm c) d ((c.keep f.1).trans t) ((c.keep f.2).trans u) (n:=l[i].1) (av:=l[i].2) ((fK.keep (by omega)).trans v) ⟨by have:=c.nx;omega,by have:=c.nx;omega,by have:=fK.nx;omega⟩ V (by omega) fun H' M=>?_;have:=qzs (qr:=qr) s z r d t u f A L B D k (i+1) H' (by omega) (by omega) (c.trans M);rw[lw a,ik,lA6,List.any_nil,Bool.or_false]at this;exact this
   unfold jL SS.v at y;by_cases b:l[i].1.k=2\/l[i].1.k=3
   ·have x:(mF X g.name l[i].1.rl).isSome=true:=by
     rw[qe9 d.al d.sp,zy];exact U b
    rcases b with h|h<;>(
     simp(disch:=go_size)only[go_sem,rB,rI,rK,rL,rN,rS,r6,J,y];rw[<-p];simp only[go_sem,seval,v,h,P,R];refine Ok.ve (qql s (k:=j) (by omega) (r.fm o) (by have:=m.n;omega) (fun g N=>by have:=m.r g N;omega) g.name l[i].1.rl) ?_;rintro _ H2 ⟨c,W⟩;obtain⟨d0,d1,d2,d3,d4,d5,rfl⟩:=z8h (r.fm o) W;simp(disch:=omega)only[go_sem,seval,x];exact I _ (c.trans (by(repeat(first|exact Fm.refl _ _|assumption|refine Fm.push ?_ _|refine Fm.fC ?_ (by go_size)|refine Fm.aD ?_ _ _ (by go_size))))))
   ·have S:¬ l[i].1.k=2:=fun e=>b (.inl e);have T:¬ l[i].1.k=3:=fun e=>b (.inr e);simp(disch:=go_size)only[go_sem,rB,rI,rK,rL,rN,rS,r6,J,y];rw[<-p];simp only[go_sem,v,S,T];exact I G (Fm.refl _ _)
  ·simp only[go_sem,F,a];rw[uh (by omega)];exact D H hf
theorem zsy(p:aV C)(hk:13<=k)(E:bM H sv X)(c:bX X)(f:g∈X)(F:i<g.gs.length):Ok (C k (.f 47) [.agg [sv],.agg [.str g.name.n g.name.a,g.rv],iN i] H) fun v H'=>v=iN 0/\Fm No H H':=by
 obtain⟨j,rfl⟩:=aU hk;rw[(p j).zGe];unfold zGe zyt;simp only[qnc,qij];have d:=E.sp g f;have h:=lg F;have r:=(c.pr.r g f).1;obtain⟨x1,x2,D,x4⟩:=c.pr.x g f _ h;obtain⟨b1,o1,e1,lt1,_,_,_,Y⟩:=d.at' i F;have a:=d.rel _ h;obtain⟨c0,Z,c2,c3,Q,R⟩:=qfh a;rw[R]at Y;obtain⟨G,o⟩:∃ G,G=(aN (aN (aN H (aB 0 [sv])) (aB 0 [.str g.name.n g.name.a,g.rv])) (aB 0 [.str 0 0,.aA,.int .u8 (.ofNat 0),.str 0 0,.str 0 0,.aA])).put (H.nx+1+1) (aB 0 [.str g.gs[i].r.name.n g.gs[i].r.name.a,g.gs[i].tv,c0,Z,c2,c3]):=⟨_,rfl⟩;have A:Fm No H G:=by rw[o];repeat first|exact Fm.refl _ _|assumption|refine Fm.push ?_ _|refine Fm.aD ?_ _ _ (by omega)
 have S:G.get H.nx=aB 0 [sv]:=by rw[o];simp(disch:=first|go_size|omega)only[go_sem,seval]
 have T:G.get (H.nx+1)=aB 0 [.str g.name.n g.name.a,g.rv]:=by rw[o];simp(disch:=first|go_size|omega)only[go_sem,seval]
 have K:G.get (H.nx+1+1)=aB 0 [.str g.gs[i].r.name.n g.gs[i].r.name.a,g.gs[i].tv,c0,Z,c2,c3]:=by rw[o];exact dL _ _ _
 have nG:G.nx=H.nx+3:=by rw[o];rfl
 simp(disch:=first|go_size|omega)only[go_sem,rB,rI,rK,rL,rN,rS,r6,e1,Y];rw[<-o];unfold quj;rw[bW];have L:=zaj c.al f;refine qsw T (d.fm A) (nm:=g.gs[i].r.name) (by rw[K,qbx];rfl) (by omega) r (fun m hm e=>?_) ?_ bL 0 (gy _) (by rw[bZ];omega)
 ·have:=uf.1 L m i (by simp;omega) (by simpa using F) hm;simp_all
 simp only[qng,qin];unfold q2y;rw[bW];obtain⟨t1,t2⟩:=c.ty g f _ h;refine qzr p (j:=j) (by omega) (E.fm A) c S (by omega) (by omega) (by rw[K,qbx];rfl) (a.ty.fm A) x1 t1 t2 (fun H2 q=>?_) bL 0 G (gy _) (by rw[bZ];omega) (Fm.refl _ _);have s:=A.trans q;have s2:=(q.keep (by omega)).trans S;have p2:=(q.keep (by omega)).trans T;have U:=(q.keep (by omega)).trans K;have n2:=q.nx;simp only[qra,ql2,qrb,ql3];simp only[go_sem,seval,U];have V:=a.ru.fm s;rw[Q]at V;refine Ok.ve (zly p (k:=j) (by have:=D.dp;omega) (by have:=D.sz;omega) V) ?_;rintro w H3 ⟨l,hw,hl,hln,z⟩;have t:=s.trans z;have x6:=(z.keep (by omega)).trans U;have W:=(z.keep (by omega)).trans p2;have n3:=z.nx;unfold q20;rw[bW];have u:∀ n∈l,n.1∈g.gs[i].r.rule.nodes false:=fun n I=>by rw[<-hl];exact zo I
 refine qzs (i:=0) p (j:=j) (by omega) (E.fm t) c ((z.keep (by omega)).trans s2) W ⟨by omega,by omega⟩ hw (by have:=D.sz;omega) (fun n I=>c.nd g f _ h _ (u n I)) (fun H4 J=>?_) bL H3 (gy _) (by have:=D.sz;rw[bZ];omega) (Fm.refl _ _);have b:=t.trans J;have M:=(J.keep (by omega)).trans x6;have p4:=(J.keep (by omega)).trans W;have N:=(a.ty.fm b).len;have P:=c.us g f _ h;have y:(g.gs[i].r.rule.nodes false).any (fun n=>decide (n.k=1))=l.any fun n=>decide (n.1.k=1):=by rw[<-hl,lAF];rfl
 rw[y]at P;simp only[qrl,qmd,qyd,qt7];cases hA:l.any (fun n=>decide (n.1.k=1))with
 |true=>have B:¬ g.gs[i].r.types.length=0:=fun e=>P.1 hA (tq.1 e);simp only[go_sem,M,N,B];simp only[qii,qj1];exact Ok.ret ⟨rfl,b⟩
 |false=>
  by_cases B:g.gs[i].r.types.length=0
  ·simp only[go_sem,M,N,B,xq];simp only[qii,qj1];exact Ok.ret ⟨rfl,b⟩
  ·have hp:0<g.gs[i].r.types.length:=by omega
   have hu:=P.2 hA (fun e=>B (by rw[e];rfl));simp(disch:=go_size)only[go_sem,rB,rI,rK,rL,rN,rS,r6,M,N,hp,p4];have O:=z06 p (k:=j) (by omega) (d.fm b) (fun x h=>(c.pr.x g f x h).2.2.1) r g.gs[i].r.name;refine Ok.ve O ?_;rintro _ H5 ⟨rfl,f5⟩;simp only[go_sem,hu];simp only[qii,qj1];exact Ok.ret ⟨rfl,b.trans f5⟩
theorem zbk(n:aV C){j:Nat}(o:1<=j){Hb:Hp}{sb:Nat}{sv:AV}(r:bM Hb sv X)(f:bX X)(s:Hb.get sb=aB 0 [sv])(c:sb<Hb.nx){Q:pH}{qr:pB}{q:pD}(t:∀ H,Fm No Hb H->Ok (q H) Q):∀(k i:Nat) (H:Hp),i<=X.length->X.length-i<k->Fm No Hb H->Ok (qj3 (C j) qr q (.ptr sb 0) k (iN i) H) Q
 |0,i,_,_,h,_=>by omega
 |k+1,i,H,hi,hk,hf=>by
  show Ok (q3n (C j) _ _ _ (qj3 (C j) _ _ _ k) _ H) Q;unfold q3n;have g:=(hf.keep c).trans s;have b:=r.fm hf;have u:=b.rs.len;have F:=f.pr.n;by_cases a:i<X.length
  ·simp only[go_sem,g,u,a];unfold q3j;obtain⟨x,y,z,_,_,_,A⟩:=b.rs.at' i a;have w:bK (H.get x) y=.val (.str X[i].name.n X[i].name.a):=A 0 (by rw[qdb];omega);simp only[go_sem,seval,g,z,w];refine Ok.kF (qx8 n (k:=j) o b (by omega) X[i].name) ?_;rintro _ B ⟨D,h⟩;rcases h with⟨p,E,rfl,m⟩|⟨_,d⟩
   ·have l:¬ p<i:=fun v=>by
     have e:X[p].name=X[i].name:=by simpa using lE0 m
     have:=uf.1 f.sp p i (by simpa using E) (by simpa using a) v;simp_all
    simp only[go_sem,l];unfold q3k;simp(disch:=go_size)only[go_sem,rB,rI,rK,rL,rN,rS,r6];exact zbk n o r f s c t k (i+1) B (by omega) (by omega) (hf.trans D)
   ·rw[lAG]at d;exact absurd (by simp) (d X[i] (lg a))
  ·simp only[go_sem,g,u,a];exact t H hf
theorem zn7(m:aV C){j:Nat}(n:13<=j){Hb:Hp}{sb s:Nat}{sv:AV}(o:bM Hb sv X)(e:bX X)(p:Hb.get sb=aB 0 [sv])(d:sb<Hb.nx)(a:s<X.length){Q:pH}{qr:pB}{q:pD}(r:∀ H,Fm No Hb H->Ok (q H) Q):∀(k i:Nat) (H:Hp),i<=X[s].gs.length->X[s].gs.length-i<k->Fm No Hb H->Ok (qrm (C j) qr q (.ptr sb 0) (iN s) k (iN i) H) Q
 |0,i,_,_,h,_=>by omega
 |k+1,i,H,hi,hk,hf=>by
  show Ok (zev (C j) _ _ _ _ (qrm (C j) _ _ _ _ k) _ H) Q;unfold zev;have f:=(hf.keep d).trans p;have b:=o.fm hf;have g:=lg a;have t:=(b.sp _ g).len;have v:=(e.pr.r _ g).1;obtain⟨w,x,l,_,_,y,z⟩:=b.rs.at' s a;have u:bK (H.get w) (x+1)=.val X[s].rv:=z 1 (by rw[qdb];omega);by_cases c:i<X[s].gs.length
  ·simp only[go_sem,f,l,u,t,c];unfold q3m;simp only[go_sem,seval,f,l,y];refine Ok.kF (zsy m (k:=j) n b e g c) ?_;rintro _ A ⟨rfl,B⟩;unfold zeu;simp(disch:=go_size)only[go_sem,rB,rI,rK,rL,rN,rS,r6];exact zn7 m n o e p d a r k (i+1) A (by omega) (by omega) (hf.trans B)
  ·simp only[go_sem,f,l,u,t,c];exact r H hf
theorem zn8(f:aV C){j:Nat}(g:13<=j){Hb:Hp}{sb:Nat}{sv:AV}(l:bM Hb sv X)(d:bX X)(m:Hb.get sb=aB 0 [sv])(b:sb<Hb.nx){Q:pH}{qr:pB}{q:pD}(n:∀ H,Fm No Hb H->Ok (q H) Q):∀(k i:Nat) (H:Hp),i<=X.length->X.length-i<k->Fm No Hb H->Ok (qhg (C j) qr q (.ptr sb 0) k (iN i) H) Q
 |0,i,_,_,h,_=>by omega
 |k+1,i,H,hi,hk,hf=>by
  show Ok (zew (C j) _ _ _ (qhg (C j) _ _ _ k) _ H) Q;unfold zew;have e:=(hf.keep b).trans m;have c:=l.fm hf;have o:=c.rs.len;have s:=d.pr.n;by_cases a:i<X.length
  ·simp only[go_sem,e,o,a];unfold q3l zex;rw[bW];refine zn7 f g c d e (lq b hf.nx) a (fun p r=>?_) bL 0 H (gy _) (by have:=(d.pr.r _ (lg a)).1;rw[bZ];omega) (Fm.refl _ _);unfold qnm;simp(disch:=go_size)only[go_sem,rB,rI,rK,rL,rN,rS,r6];exact zn8 f g l d m b n k (i+1) p (by omega) (by omega) (hf.trans r)
  ·simp only[go_sem,e,o,a];exact n H hf
open Classical in
theorem zla(b:aV C)(l:qep C)(m:14<=k)(d:bM H sv X)(g:PrB X)(n:Dp X->bX X):Ok (C k (.f 19) [.agg [sv]] H) fun r H'=>r=iN ((if Dp X then 0 else 3))/\Fm No H H':=by
 obtain⟨j,rfl⟩:=aU m;rw[(b j).zGb];unfold zGb zyw;have f:Fm No H (aN H (aB 0 [sv])):=by exact mG
 simp(disch:=omega)only[go_sem,seval];refine Ok.ve (z6m b l (k:=j) (by omega) (d.fm f) g) ?_;rintro _ H1 ⟨rfl,e⟩;have a:=f.trans e;have g0:H1.get H.nx=aB 0 [sv]:=(e.keep (by simp only[np,nq];omega)).trans (jA _ _);have q:=e.nx;simp only[np]at q;have t:=g.n;by_cases h:Dp X
 ·have i:=n h;rw[kz h];unfold q3i q3o;rw[bW];refine zbk b (by omega) (d.fm a) i g0 (by omega) (fun o c=>?_) bL 0 H1 (gy _) (by rw[bZ];omega) (Fm.refl _ _);unfold qht zey;rw[bW];refine zn8 b (by omega) (d.fm (a.trans c)) i ((c.keep (by omega)).trans g0) (by have:=c.nx;omega) (fun s p=>?_) bL 0 o (gy _) (by rw[bZ];omega) (Fm.refl _ _);exact Ok.ret ⟨rfl,(a.trans c).trans p⟩
 ·rw[lu h];exact Ok.ret ⟨rfl,a⟩
end Go.Di
end
section
namespace Go.Di
open Go.Ev
variable {C:Nat->Ev.Call}
variable {H H':Hp} {S:Nat->Prop} {a j k n:Nat}
structure Wk where
 f:List Int
 q:List Nat
def sJ(u:Nat)(s:Wk)(e:Edge):Wk:=if e.f=u/\s.f.getD e.t 0<0 then⟨s.f.set e.t (.ofNat e.f),s.q++[e.t]⟩else s
def inner(es:List Edge)(u:Nat)(s:Wk):Wk:=es.foldl (sJ u) s
def qlu(es:List Edge)(s:Wk):Wk:=match s.q with|[]=>s|u::_=>let t:=inner es u s;⟨t.f,t.q.tail⟩
def zc9(es:List Edge):Nat->Wk->Prop
 |0,s=>s.q=[]
 |k+1,s=>s.q=[]\/zc9 es k (qlu es s)
def jC(es:List Edge):Nat->Wk->List Int
 |0,s=>s.f
 |k+1,s=>match s.q with|[]=>s.f|_::_=>jC es k (qlu es s)
theorem iH.gH{v:AV}{d:List Edge}(h:iH H v d)(a:Fm S H H')(e:∀ b,In v b->¬ S b):iH H' v d:=h.keep a.nx fun b f c=>a.get b c (e b f)
theorem zkf(u:Nat)(s:Wk)(e:Edge):(sJ u s e).f.length=s.f.length:=by unfold sJ;split<;>simp
theorem z1d(u:Nat)(s:Wk)(e:Edge):∃ r,(sJ u s e).q=s.q++r:=by
 unfold sJ;split
 ·exact⟨_,rfl⟩
 ·exact⟨[],by simp⟩
theorem qpu(u:Nat):∀(a:List Edge) (s:Wk),(inner a u s).f.length=s.f.length
 | [],_=>rfl
 |e::a,s=>by show(inner a u (sJ u s e)).f.length=_;rw[qpu u a,zkf]
theorem zmn(u:Nat):∀(a:List Edge) (s:Wk),∃r,(inner a u s).q=s.q++r
 | [],s=>⟨[],by simp[inner]⟩
 |e::a,s=>by obtain⟨b,c⟩:=z1d u s e;obtain⟨d,f⟩:=zmn u a (sJ u s e);exact⟨b++d,by show(inner a u (sJ u s e)).q=_;rw[f,c,rf]⟩
theorem zam(l:List Nat)(n:Nat):aI l++[iN n]=aI (l++[n]):=by simp[aI]
theorem qg9{O:Ev.Call}{n:Nat}{a:List Edge}(I:∀ e∈a,e.f<n/\e.t<n)(L:n<=256){v:AV}{d u:Nat}{H1:Hp}(j:a.length<1000000){Q:pH}{D:pB}(J:iH H1 v a)(A:∀ b,In v b->b≠d)(B:d<H1.nx)(s':Wk)(K:∀ w H,Gl 1 H w s'.q.length (aI s'.q)->H.get d=aB 0 (ints s'.f)->Fm (· =d) H1 H->(∀b,In w b->H1.nx<=b)->Ok (D w H) Q):∀(k i:Nat) (s:Wk) (w:AV) (H:Hp),i<=a.length->a.length-i<k->inner (a.drop i) u s=s'->s.f.length=256->(∃r,s.q=u::r)->s.q.length+(a.length-i)<2000000 -> Gl 1 H w s.q.length (aI s.q)->H.get d=aB 0 (ints s.f)->Fm (· =d) H1 H->(∀b,In w b->H1.nx<=b) -> Ok (qjy O D (.ptr d 0) v (iN (a.length)) k w (iN i) H) Q
 |0,i,_,_,_,_,h,_,_,_,_,_,_,_,_=>by omega
 |k+1,i,s,w,H,hi,hk,hs,hf,⟨r,hr⟩,hsz,hw,t,hfm,hwn=>by
  show Ok (q17 O _ _ _ _ (qjy O _ _ _ _ k) _ _ H) Q;unfold q17;have E:d<H.nx:=lq B hfm.nx;by_cases q:i<a.length
  ·have hd:a.drop i=a[i]::a.drop (i+1):=uo q;obtain⟨b,o1,T,e2,U⟩:=(J.gH hfm A).at q;have Y:=I a[i] (lg q);rw[hr]at hw;obtain⟨W,qo,d1,d2,d3,V⟩:=hw.head;simp(disch:=go_size)only[go_sem,rB,rI,rK,rL,rN,rS,r6,q];unfold q13;have l:(ints s.f)[a[i].t]? =some (.int .i64 (s.f.getD a[i].t 0)):=by
    rw[qgz _ _ (by omega)];simp[kw,show a[i].t<s.f.length by omega]
   have M:a[i].t<256:=by omega
   have g:inner (a.drop (i+1)) u (sJ u s a[i])=s':=by rw[<-hs,hd];rfl
   have qf:W≠d:=by have:=hwn W d3;omega
   by_cases C:a[i].f=u
   ·by_cases f:s.f.getD a[i].t 0<Int.ofNat 0
    ·have p:sJ u s a[i]=⟨s.f.set a[i].t (.ofNat a[i].f),s.q++[a[i].t]⟩:=by unfold sJ;rw[kz ⟨C,f⟩]
     simp(disch:=go_size)only[go_sem,rB,rI,rK,rL,rN,rS,r6,T,U,Edge.cells,d1,V,C,t,l,f,M,show a[i].t<=255 by omega,qdk,hf,ints_set];have N:Gl 1 H w s.q.length (aI s.q):=by rw[hr];exact hw
     have z:Fm (· =d) H (aN (((aN H (aB 0 [iN 0,iN 0,.bool false])).put H.nx (aB 0 [iN u,iN (a[i].t),.bool a[i].s])).put d (aB 0 (ints (s.f.set a[i].t (.ofNat u))))) (aB 0 [iN (a[i].t)])):=by(repeat(first|exact Fm.refl _ _|assumption|refine Fm.push ?_ _|refine Fm.fC ?_ (by go_size)|refine Fm.aD ?_ _ _ (by go_size)|refine Fm.put ?_ _ _ (fun _=>rfl)))
     have F:¬ In w d:=fun h=>by have:=hwn d h;omega
     obtain⟨H',e,G,_,X,nx'⟩:=(N.fm z (fun b t h=>F (h▸t))).append (k:=1) (w:=8) (x:=[iN (a[i].t)]) (by omega) rfl (by omega) (by omega);refine Ok.veE e ?_;unfold qjz;simp(disch:=go_size)only[go_sem,rB,rI,rK,rL,rN,rS,r6];have P:Fm (· =d) H1 H':=(hfm.then z fun _ _ h=>h).then X fun c hc h=>by have:=hwn c h;omega
     have R:H'.get d=aB 0 (ints (s.f.set a[i].t (.ofNat u))):=(X.get d (by(first|go_size|omega)) F).trans (by simp(disch:=first|go_size|omega)only[go_sem,rB,rI,rK,rL,rN,rS,r6]);rw[p,C]at g;rw[zam]at G;have S:Gl 1 H' (.sl (H.nx+1+1) 0 (s.q.length+1) (s.q.length+1) false) (s.q++[a[i].t]).length (aI (s.q++[a[i].t])):=by rw[show(s.q++[a[i].t]).length=s.q.length+1 by simp];exact G
     have Z:=hfm.nx;exact qg9 I L j J A B s' K k (i+1) ⟨s.f.set a[i].t (.ofNat u),s.q++[a[i].t]⟩ _ H' (by omega) (by omega) g (by simp;exact hf) ⟨r++[a[i].t],by rw[hr];rfl⟩ (by simp;omega) S R P (fun b t=>by obtain⟨o,m,m',y,h⟩:=t;cases h;(go_size))
    ·have p:sJ u s a[i]=s:=by unfold sJ;rw[lu (fun h=>f h.2)]
     simp(disch:=go_size)only[go_sem,rB,rI,rK,rL,rN,rS,r6,T,U,Edge.cells,d1,V,C,t,l,f,M];unfold qjz;simp(disch:=go_size)only[go_sem,rB,rI,rK,rL,rN,rS,r6];have z:Fm No H ((aN H (aB 0 [iN 0,iN 0,.bool false])).put H.nx (aB 0 [iN u,iN (a[i].t),.bool a[i].s])):=by(repeat(first|exact Fm.refl _ _|assumption|refine Fm.push ?_ _|refine Fm.fC ?_ (by go_size)|refine Fm.aD ?_ _ _ (by go_size)))
     rw[p]at g;exact qg9 I L j J A B s' K k (i+1) s w _ (by omega) (by omega) g hf ⟨r,hr⟩ (by omega) ((by rw[hr];exact hw:Gl 1 H w s.q.length (aI s.q)).no z) ((z.keep E).trans t) (hfm.then z fun _ _ h=>h.elim) hwn
   ·have p:sJ u s a[i]=s:=by unfold sJ;rw[lu (fun h=>C h.1)]
    simp(disch:=go_size)only[go_sem,rB,rI,rK,rL,rN,rS,r6,T,U,Edge.cells,d1,V,C,t,l,M];unfold qjz;simp(disch:=go_size)only[go_sem,rB,rI,rK,rL,rN,rS,r6];have z:Fm No H ((aN H (aB 0 [iN 0,iN 0,.bool false])).put H.nx (aB 0 [iN (a[i].f),iN (a[i].t),.bool a[i].s])):=by(repeat(first|exact Fm.refl _ _|assumption|refine Fm.push ?_ _|refine Fm.fC ?_ (by go_size)|refine Fm.aD ?_ _ _ (by go_size)))
    rw[p]at g;exact qg9 I L j J A B s' K k (i+1) s w _ (by omega) (by omega) g hf ⟨r,hr⟩ (by omega) ((by rw[hr];exact hw:Gl 1 H w s.q.length (aI s.q)).no z) ((z.keep E).trans t) (hfm.then z fun _ _ h=>h.elim) hwn
  ·have hd:a.drop i=[]:=uy (by omega);rw[hd]at hs;simp(disch:=go_size)only[go_sem,rB,rI,rK,rL,rN,rS,r6,q];have:s=s':=hs;subst this;exact K w H hw t hfm hwn
theorem zsj(u:Nat)(s:Wk)(e:Edge):(sJ u s e).q.length<=s.q.length+1:=by unfold sJ;split<;>simp
theorem zar(u:Nat):∀(a:List Edge) (s:Wk),(inner a u s).q.length<=s.q.length+a.length
 | [],_=>lh _
 |e::a,s=>by show(inner a u (sJ u s e)).q.length<=_;have b:=zar u a (sJ u s e);have c:=zsj u s e;simp only[gz];omega
theorem qty{O:Ev.Call}{n:Nat}{a:List Edge}(M:∀ e∈a,e.f<n/\e.t<n)(N:n<=256){v:AV}{f g:Nat}{H1:Hp}(i:a.length<1000000){Q:pH}{P:pD}(B:iH H1 v a)(l:∀ b,In v b->b≠f)(o:f<H1.nx)(R:g<H1.nx)(p:g≠f)(q:H1.get g=aB 0 [iN n,v])(z:List Int)(S:∀ H,H.get f=aB 0 (ints z)->Fm (· =f) H1 H->Ok (P H) Q):∀(k m:Nat) (s:Wk) (w:AV) (H:Hp),zc9 a m s->m<k->jC a m s=z->s.f.length=256->s.q.length+(m+1)*a.length<2000000 -> aF w=.val (iN (s.q.length))->(s.q≠[]->Gl 1 H w s.q.length (aI s.q))->H.get f=aB 0 (ints s.f)->Fm (· =f) H1 H->(∀b,In w b->H1.nx<=b) -> Ok (qhe O P (.ptr g 0) (.ptr f 0) k w H) Q
 |0,m,_,_,_,_,h,_,_,_,_,_,_,_,_=>by omega
 |k+1,m,s,w,H,tZ,hk,hs,hf,hsz,hl,G,hb,hfm,hwn=>by
  show Ok (zd9 O _ _ _ (qhe O _ _ _ k) _ H) Q;unfold zd9;cases c:s.q with
  |nil=>
   rw[c]at hl;simp(disch:=go_size)only[go_sem,rB,rI,rK,rL,rN,rS,r6,hl,xq];have:jC a m s=s.f:=by cases m<;>simp[jC,c]
   rw[this]at hs;subst hs;exact S H hb hfm
  |cons u r=>
   obtain⟨d,rfl⟩:∃ d,m=d+1:=by
    cases m with
    |zero=>have U:s.q=[]:=tZ;rw[c]at U;cases U
    |succ d=>exact⟨d,rfl⟩
   have G:=G (by rw[c];simp);rw[c]at hl;simp(disch:=go_size)only[go_sem,rB,rI,rK,rL,rN,rS,r6,hl,Nat.zero_lt_succ];unfold q12;have W:H.get g=aB 0 [iN n,v]:=(hfm.get g R p).trans q;simp(disch:=go_size)only[go_sem,rB,rI,rK,rL,rN,rS,r6,W,(B.len)];unfold q19;rw[bW];have V:(d+1+1)*a.length=(d+1)*a.length+a.length:=by rw[xk,zu]
   refine qg9 M N (u:=u) i B l o (inner a u s) (fun w' H' T C D E=>?_) bL 0 s w H (gy _) (by rw[bZ];omega) rfl hf ⟨r,c⟩ (by omega) G hb hfm hwn;have I:qlu a s=⟨(inner a u s).f,(inner a u s).q.tail⟩:=by unfold qlu;rw[c]
   obtain⟨A,y⟩:=zmn u a s;rw[c]at y;have J:=zar u a s;unfold qhq;have j:(inner a u s).q=u::(r++A):=y;rw[j]at T;obtain⟨X,Y,Z,g2,n2⟩:=T.tail;simp(disch:=go_size)only[go_sem,rB,rI,rK,rL,rN,rS,r6,Y];have K:qlu a s=⟨(inner a u s).f,r++A⟩:=by rw[I,j];rfl
   have t:zc9 a d (qlu a s):=by
    rcases tZ with h|h
    ·rw[c]at h;cases h
    ·exact h
   have x:jC a d (qlu a s)=z:=by rw[<-hs];simp[jC,c]
   rw[K]at t x;refine qty M N i B l o R p q z S k d ⟨(inner a u s).f,r++A⟩ X H' t (by omega) x (by rw[<-hf];exact qpu _ _ _) ?_ Z (fun F=>g2 ?_) C D (fun b h=>E b (n2 b h))
   ·rw[j,gz]at J;simp only;omega
   ·cases L:r++A with
    |nil=>exact absurd L F
    |cons _ _=>simp
theorem q1u{O:Ev.Call}{b:Nat}{H1:Hp}{Q:pH}{c:pD}(g:b<H1.nx)(m:∀ H,H.get b=aB 0 (ints (List.replicate 256 (-1)))->Fm (· =b) H1 H->H.nx=H1.nx->Ok (c H) Q):∀(k i:Nat) (f:List Int) (H:Hp),i<=256->256-i<k->f.length=256->(∀j,j<i->f[j]? =some (-1))->H.get b=aB 0 (ints f)->Fm (· =b) H1 H->H.nx=H1.nx -> Ok (qjx O c (.ptr b 0) k (iN i) H) Q
 |0,i,_,_,_,h,_,_,_,_,_=>by omega
 |k+1,i,f,H,hi,hk,hf,hj,hb,hfm,hnx=>by
  show Ok (q14 O _ _ (qjx O _ _ k) _ H) Q;unfold q14;by_cases a:i<256
  ·simp(disch:=go_size)only[go_sem,rB,rI,rK,rL,rN,rS,r6,a];unfold q10;simp(disch:=go_size)only[go_sem,rB,rI,rK,rL,rN,rS,r6,a,hb,qdk,hf,show i<=255 by omega,ints_set];unfold q11;simp(disch:=go_size)only[go_sem,rB,rI,rK,rL,rN,rS,r6];refine q1u g m k (i+1) (f.set i (.negSucc 0)) _ (by omega) (by omega) (by simp;exact hf) (fun j h=>?_) (dL _ _ _) (by(repeat(first|exact Fm.refl _ _|assumption|refine Fm.push ?_ _|refine Fm.fC ?_ (by go_size)|refine Fm.aD ?_ _ _ (by go_size)|refine Fm.put ?_ _ _ (fun _=>rfl)))) hnx;by_cases d:j=i
   ·subst d;rw[lAC (by omega)];rfl
   ·rw[lAO (fun e=>d e.symm)];exact hj j (by omega)
  ·simp(disch:=go_size)only[go_sem,rB,rI,rK,rL,rN,rS,r6,a];have l:i=256:=by omega
   subst l;have:f=List.replicate 256 (-1):=by
    apply lE3;intro j;by_cases h:j<256
    ·rw[hj j h,lAV,kz h]
    ·rw[xn (by omega),xn (by rw[uw];omega)]
   subst this;exact m H hb hfm hnx
def jW(a:Nat):Wk:=⟨(List.replicate 256 (-1)).set a (.ofNat a),[a]⟩
theorem zux(I:aV C)(J:1<=k){d:List Edge}(K:∀ e∈d,e.f<n/\e.t<n)(L:n<=256)(B:d.length<1000){v:AV}(D:iH H v d)(P:a<n)(m:Nat)(Q:m<1000)(M:zc9 d m (jW a)):Ok (C k (.f 80) [.agg [iN n,v],iN a] H) fun r H'=>r=.agg (ints (jC d m (jW a)))/\(jC d m (jW a)).length=256/\Fm No H H':=by
 obtain⟨j,rfl⟩:=aU J;rw[(I j).zGn];unfold zGn zyl q18;simp(disch:=go_size)only[go_sem,rB,rI,rK,rL,rN,rS,r6];rw[bW];have i:List.replicate 256 (AV.int .i64 (.ofNat 0))=ints (List.replicate 256 0):=by simp only[ints,List.map_replicate];rfl
 rw[i];have O:∀(m:Nat) (s:Wk),s.f.length=256->(jC d m s).length=256:=by
  intro m
  induction m with
  |zero=>intro s h;exact h
  |succ m ih=>
   intro s h;cases A:s.q with
   |nil=>simp[jC,A];exact h
   |cons u r=>simp only[jC,A];refine ih _ ?_;simp only[qlu,A];rw[qpu];exact h
 refine q1u (H1:=aN (aN (aN H (aB 0 [iN n,v])) (aB 0 (ints (List.replicate 256 0)))) (aB 0 (ints (List.replicate 256 0)))) (by first|omega|simp only[np,nq];omega) (fun R l N f=>?_) bL 0 (List.replicate 256 0) _ (gy _) (by rw[bZ];omega) uw (fun j h=>by omega) (jA _ _) (Fm.refl _ _) rfl;unfold qhp;simp(disch:=first|omega|exact ti rfl|simp only[np,nq];first|done|omega)only[go_sem,rB,rI,rK,rL,rN,rS,r6,show a<256 by omega,l,qdk,uw,show a<=255 by omega,ints_set];unfold zea;rw[bW,ints_set _ _ _ (by rw[uw];omega)];have G:Fm No H (aN (aN (aN H (aB 0 [iN n,v])) (aB 0 (ints (List.replicate 256 0)))) (aB 0 (ints (List.replicate 256 0)))):=by(repeat(first|exact Fm.refl _ _|assumption|refine Fm.push ?_ _|refine Fm.fC ?_ (by go_size)|refine Fm.aD ?_ _ _ (by go_size)))
 have q:∀ b,In v b->b<H.nx:=fun b g=>D.lt g;refine qty K L (H1:=aN (aN (aN H (aB 0 [iN n,v])) (aB 0 (ints (List.replicate 256 0)))) (aB 0 (ints (List.replicate 256 0)))) (by omega) (D.fm G) (fun b g=>by have:=q b g;omega) (by first|omega|simp only[np,nq];omega) (by first|omega|simp only[np,nq];omega) (by omega) (by simp(disch:=first|omega|exact ti rfl|simp only[np,nq];first|done|omega)only[go_sem,rB,rI,rK,rL,rN,rS,r6]) (jC d m (jW a)) (fun E p F=>?_) bL m (jW a) _ _ M (by rw[bZ];omega) rfl (by unfold jW;rw[ul,uw]) ?_ rfl (fun _=>?_) ?_ ?_ ?_
 ·unfold qf0;have t:=O m (jW a) (by unfold jW;rw[ul,uw]);have w:E.get (H.nx+1)=aB 0 (ints (List.replicate 256 0)):=(F.get _ (by first|omega|simp only[np,nq];omega) (by omega)).trans (by simp(disch:=first|omega|exact ti rfl|simp only[np,nq];first|done|omega)only[go_sem,rB,rI,rK,rL,rN,rS,r6]);have x:aY (ints (List.replicate 256 0)) 0 (ints (jC d m (jW a)))=ints (jC d m (jW a)):=qwx _ _ (by unfold Tr;rw[qdk,qdk,uw,t];rfl);have z:List.take 256 (ints (jC d m (jW a)))=ints (jC d m (jW a)):=uh (by rw[qdk,t];exact lh _);simp(disch:=go_size)only[go_sem,rB,rI,rK,rL,rN,rS,r6,p,qdk,t,z,w,x,uw];refine Ok.ret ⟨rfl,trivial,?_⟩;have:Fm No H E:=G.then F fun c S h=>by omega
  (repeat(first|exact Fm.refl _ _|assumption|refine Fm.push ?_ _|refine Fm.fC ?_ (by go_size)|refine Fm.aD ?_ _ _ (by go_size)))
 ·have:(jW a).q.length=1:=rfl;have:(m+1)*d.length<=1000*1000:=Nat.mul_le_mul (by omega) (by omega);omega
 ·refine⟨rfl,.inr ⟨_,0,true,0,_,rfl,jA _ _,gy _,rfl,.inl rfl,by first|omega|simp only[np,nq];omega⟩⟩
 ·exact(qbi _ _ _ (by rw[nq,f];(first|omega|(simp only[np,nq];omega)))).trans (dL _ _ _)
 ·exact(N.put _ _ (fun _=>rfl)).push _
 ·intro b g;obtain⟨o,T,U,y,h⟩:=g;cases h;rw[f];exact lh _
theorem z6y(i:aV C)(l:5<=k){g:List Edge}(m:y7 n g)(o:n<=256)(b:g.length<1000000){v:AV}(p:iH H v g)(a:Int):Ok (C k (.f 79) [.agg [iN n,v],.int .i64 a] H) fun r H'=>r=iN ((if 0<=a/\a<n then 0 else 4))/\Fm No H H':=by
 obtain⟨j,rfl⟩:=aU l;rw[(i j).zGl];unfold zGl zyn;simp(disch:=first|omega|exact ti rfl|simp only[np,nq];first|done|omega)only[go_sem,rB,rI,rK,rL,rN,rS,r6];have d:Fm No H (aN H (aB 0 [iN n,v])):=by(repeat(first|exact Fm.refl _ _|assumption|refine Fm.push ?_ _|refine Fm.fC ?_ (by go_size)|refine Fm.aD ?_ _ _ (by go_size)))
 refine Ok.ve (zbv i (by omega) m o b (p.fm d)) ?_;rintro r H' ⟨rfl,e⟩;have h:H'.get H.nx=aB 0 [iN n,v]:=(e.keep (by go_size)).trans (jA _ _);simp(disch:=first|omega|exact ti rfl|simp only[np,nq];first|done|omega)only[go_sem,rB,rI,rK,rL,rN,rS,r6];unfold zef zeg;by_cases c:a<Int.ofNat 0
 ·simp(disch:=go_size)only[go_sem,rB,rI,rK,rL,rN,rS,r6,c,h];refine Ok.ret ⟨?_,d.trans e⟩;rw[lu (by simp only[qi]at c;omega)]
 ·by_cases f:Int.ofNat n<=a
  ·simp(disch:=go_size)only[go_sem,rB,rI,rK,rL,rN,rS,r6,c,f,h];refine Ok.ret ⟨?_,d.trans e⟩;rw[lu (by simp only[qi]at f;omega)]
  ·simp(disch:=go_size)only[go_sem,rB,rI,rK,rL,rN,rS,r6,c,f,h];refine Ok.ret ⟨?_,d.trans e⟩;rw[kz (by simp only[qi]at c f;omega)]
theorem zbt{O:Ev.Call}{H:Hp}{b m:Nat}{e:Bool}{q:Nat}{l:List Int}(f:H.get b=aB q (ints l))(g:l.length<1000000):∀(k i:Nat),i<=l.length->l.length-i<k->qq2 O (fun x2 H=>.ok x2 H) (fun H=>qli O (iN 0) H) (iN 0) (.sl b 0 l.length m e) (iN (l.length)) k (iN i) H=.ok (.int .i64 (yN (l.drop i))) H
 |0,i,_,h=>by omega
 |k+1,i,hi,hk=>by
  show zed O _ _ _ _ _ (qq2 O _ _ _ _ _ k) _ H=_;unfold zed;by_cases a:i<l.length
  ·simp(disch:=omega)only[go_sem,a];unfold zeb;have hd:l.drop i=l[i]::l.drop (i+1):=uo a;simp(disch:=omega)only[go_sem,f,qgz _ _ a];rw[hd];show _=R1.ok (.int .i64 (if l[i]=0 then yN (l.drop (i+1))else l[i])) H;by_cases d:l[i]=Int.ofNat 0
   ·have c:l[i]=0:=d;simp only[c,go_sem];unfold zec;simp(disch:=omega)only[go_sem];exact zbt f g k (i+1) (by omega) (by omega)
   ·have c:¬ l[i]=0:=d;simp only[d,c,go_sem]
  ·have hd:l.drop i=[]:=uy (by omega);simp(disch:=omega)only[go_sem,a];rw[hd];unfold qli;rfl
theorem z9x(a:aV C)(c:1<=k){b m:Nat}{e:Bool}{q n:Nat}{l:List Int}(d:l.length=n)(f:H.get b=aB q (ints l))(g:l.length<1000000):C k (.f 78) [.sl b 0 n m e] H=.ok (.int .i64 (yN l)) H:=by obtain⟨j,rfl⟩:=aU c;subst d;rw[(a j).zGm];unfold zGm zym zee;simp only[go_sem];rw[bW];exact zbt f g _ 0 (gy _) (by rw[bZ];omega)
theorem zbs{O:Ev.Call}{b q n m:Nat}{y:Bool}{l:List Int}(g:l.length=n)(a:n<1000000){H0:Hp}:∀(k i:Nat) (c:List Int) (H:Hp),i<=n-1-i+1->n-i<k->c.length=n->(∀p,p<n->c[p]? =if p<i\/n-1-i<p then l[n-1-p]? else l[p]?)->1<=n->i<=n-1->H.get b=aB q (ints c)->Fm (· =b) H0 H -> Ok (qq1 O (fun H=>.ok (.aX []) H) (.sl b 0 n m y) k (iN i) (iN ((n-1-i))) H) fun v H'=>v=.aX []/\H'.get b=aB q (ints l.reverse)/\Fm (· =b) H0 H'
 |0,i,_,_,_,h,_,_,_,_,_,_=>by omega
 |k+1,i,c,H,hi,hk,hc,hp,h1,hin,hb,hfm=>by
  show Ok (zd7 O _ _ (qq1 O _ _ k) _ _ H) _;unfold zd7;by_cases d:i<n-1-i
  ·simp(disch:=go_size)only[go_sem,rB,rI,rK,rL,rN,rS,r6,d];unfold q1y;have u:=qgz c i (by omega);have w:=qgz c (n-1-i) (by omega);have x:(c.set i c[n-1-i]).length=n:=by rw[ul];exact hc
   simp(disch:=go_size)only[go_sem,rB,rI,rK,rL,rN,rS,r6,hb,u,w,qdk,hc,show i+1<=n by omega,show n-1-i+1<=n by omega,ints_set,ul];unfold zd6;simp(disch:=go_size)only[go_sem,rB,rI,rK,rL,rN,rS,r6];rw[show n-1-i-1=n-1-(i+1)by omega];refine zbs g a k (i+1) ((c.set i c[n-1-i]).set (n-1-i) c[i]) _ (by omega) (by omega) (by simp;exact hc) (fun p f=>?_) h1 (by omega) (dL _ _ _) (by(repeat(first|exact Fm.refl _ _|assumption|refine Fm.push ?_ _|refine Fm.fC ?_ (by go_size)|refine Fm.aD ?_ _ _ (by go_size)|refine Fm.put ?_ _ _ (fun _=>rfl))));have j:c[i]? =some c[i]:=lL (by omega);have o:c[n-1-i]? =some c[n-1-i]:=lL (by omega);rw[hp i (by omega),lu (by omega)]at j;rw[hp (n-1-i) (by omega),lu (by omega)]at o;by_cases r:p=n-1-i
   ·subst r;rw[lAC (by simp;omega),kz (by omega),<-j];congr 1;omega
   ·rw[lAO (fun e=>r e.symm)];by_cases s:p=i
    ·subst s;rw[lAC (by omega),kz (by omega),<-o]
    ·rw[lAO (fun e=>s e.symm),hp p f];by_cases t:p<i\/n-1-i<p
     ·rw[kz t,kz (by omega)]
     ·rw[lu t,lu (by omega)]
  ·simp(disch:=go_size)only[go_sem,rB,rI,rK,rL,rN,rS,r6,d];refine Ok.ret ⟨rfl,?_,hfm⟩;rw[hb];congr 2;apply lE3;intro p;by_cases h:p<n
   ·rw[hp p h,List.getElem?_reverse (by omega),g];split
    ·rfl
    ·congr 1;omega
   ·rw[xn (by omega),xn (by rw[List.length_reverse];omega)]
theorem z9v(d:aV C)(e:1<=k){b q n m:Nat}{y:Bool}{l:List Int}(c:l.length=n)(f:1<=n)(a:n<1000000)(g:H.get b=aB q (ints l)):Ok (C k (.f 81) [.sl b 0 n m y] H) fun _ H'=>H'.get b=aB q (ints l.reverse)/\Fm (· =b) H H':=by obtain⟨j,rfl⟩:=aU e;rw[(d j).zGo];unfold zGo zyk zd8;simp(disch:=first|omega|exact ti rfl|simp only[np,nq];first|done|omega)only[go_sem,rB,rI,rK,rL,rN,rS,r6];rw[bW];exact(zbs c a bL 0 l H (by omega) (by rw[bZ];omega) c (fun p i=>by rw[lu (by omega)]) f (by omega) g (Fm.refl _ _)).mono fun v H' h=>h.2
inductive Ch(f:List Int)(a:Nat):List Nat->Prop
 |one:Ch f a [a]
 |cons {x y:Nat} {l:List Nat}:x≠a->x<256->f[x]? =some (.ofNat y)->Ch f a (y::l)->Ch f a (x::y::l)
theorem q1p{O:Ev.Call}{p a:Nat}{f:List Int}{H1:Hp}(g:p<H1.nx)(i:H1.get p=aB 0 (ints f)){Q:pH}{t:pB}(o:List Nat)(u:∀ b q n y H,o.length=n->(y=true\/q=1)->H.get b=aB q (aI o)->b<H.nx->H1.nx<=b->Fm No H1 H->Ok (t (.sl b 0 n n y) H) Q):∀(k:Nat) (l d:List Nat) (x:Nat) (b q m:Nat) (y:Bool) (H:Hp),Ch f a (x::l)->l.length<k->o=d++l->o.length<100000->(y=true\/q=1)->m=d.length->H.get b=aB q (aI d)->b<H.nx->H1.nx<=b->Fm No H1 H -> Ok (qyc O t (iN a) (.ptr p 0) k (.sl b 0 d.length m y) (iN x) H) Q
 |0,_,_,_,_,_,_,_,_,_,h,_,_,_,_,_,_,_,_=>by omega
 |k+1,l,d,x,b,q,m,y,H,hch,hk,ho,hsz,hy,hm,hb,hbn,hbl,hfm=>by
  show Ok (zek O _ _ _ (qyc O _ _ _ k) _ _ H) Q;unfold zek;cases hch with
  |one=>
   simp(disch:=go_size)only[go_sem,rB,rI,rK,rL,rN,rS,r6];have:o=d:=by rw[ho,ut]
   subst this;subst hm;exact u b q _ y H rfl hy hb hbn hbl hfm
  |@cons _ z l' hne hx hf hch'=>
   simp(disch:=go_size)only[go_sem,rB,rI,rK,rL,rN,rS,r6,hne];unfold q2g;have r:(ints f)[x]? =some (iN z):=by unfold ints;rw[xw,hf];rfl
   have v:H.get p=aB 0 (ints f):=(hfm.keep g).trans i;simp(disch:=go_size)only[go_sem,rB,rI,rK,rL,rN,rS,r6,hx,v,r];have A:Gl 1 (aN H (aB 0 [iN z])) (.sl b 0 d.length m y) d.length (aI d):=by subst hm;exact⟨by simp[aI],.inr ⟨b,0,y,q,aI d,rfl,(qbi _ _ _ hbn).trans hb,gy _,rfl,hy,by(go_size)⟩⟩
   have B:o.length=d.length+(l'.length+1):=by rw[ho];simp
   obtain⟨H',e,E,j,F,nx'⟩:=A.append (k:=1) (w:=8) (x:=[iN z]) (by omega) rfl (by omega) (by omega);refine Ok.veE e ?_;have C:=hfm.nx;rw[zam]at j;have s:(d++[z]).length=d.length+1:=by simp
   rw[<-s];refine q1p g i o u k l' (d++[z]) z _ 1 _ false H' hch' (by simp at hk;omega) (by rw[ho];simp) hsz (.inr rfl) rfl j (by rw[nx'];omega) (by go_size) ?_;have D:Fm No H1 (aN H (aB 0 [iN z])):=hfm.push _;exact D.then F fun c I h=>by obtain⟨_,_,_,_,G⟩:=h;cases G;omega
structure WOk(n:Nat)(es:List Edge)(a m:Nat):Prop where
 ed:y7 n es
 n:n<=256
 len:es.length<1000
 mm:m<1000
 ends:zc9 es m (jW a)
def vH(n:Nat)(a:Int):Int:=.ofNat (if 0<=a/\a<n then 0 else 4)
theorem zos(d:aV C)(u:5<=j){f:List Edge}(k:y7 n f)(m:n<=256)(o:f.length<1000){v:AV}(g:iH H v f)(a b:Int){Q:pH}(r:∀ c,Fm No H c->c.get H.nx=aB 0 [iN n,v]->H.nx<c.nx->Ok (cd (.bool !decide (yN [vH n a,vH n b]=Int.ofNat 0)) (.ok (.aX [(.aA),.int .i64 (yN [vH n a,vH n b])]) c) (qt5 (C j) (.int .i64 a) (.int .i64 b) (.ptr H.nx 0) c)) Q):Ok (C (j+1) (.f 51) [.agg [iN n,v],.int .i64 a,.int .i64 b] H) Q:=by
 rw[(d j).zGh];unfold zGh zyq;have w:Fm No H (aN H (aB 0 [iN n,v])):=by(repeat(first|exact Fm.refl _ _|assumption|refine Fm.push ?_ _|refine Fm.fC ?_ (by go_size)|refine Fm.aD ?_ _ _ (by go_size)))
 have p:=g.eqG (.ofNat n);simp(disch:=first|omega|exact ti rfl|simp only[np,nq];first|done|omega)only[go_sem,rB,rI,rK,rL,rN,rS,r6];have h:Fm No H ⟨(aN H (aB 0 [iN n,v])).t,H.nx+1+9⟩:=by(repeat(first|exact Fm.refl _ _|assumption|refine Fm.push ?_ _|refine Fm.fC ?_ (by go_size)|refine Fm.aD ?_ _ _ (by go_size)))
 refine Ok.kF (z6y d (by omega) k m (by omega) (g.fm h) a) ?_;rintro z H1 ⟨rfl,e⟩;have q:H1.get H.nx=aB 0 [iN n,v]:=(e.keep (by go_size)).trans (by simp(disch:=go_size)only[go_sem,rB,rI,rK,rL,rN,rS,r6]);have s:=e.nx;have t:H.nx+1+9<=H1.nx:=s;simp(disch:=go_size)only[go_sem,rB,rI,rK,rL,rN,rS,r6,q,p];refine Ok.kF (z6y d (by omega) k m (by omega) (g.fm (h.trans e)) b) ?_;rintro A c ⟨rfl,i⟩;have k2:c.get H.nx=aB 0 [iN n,v]:=(i.keep (by omega)).trans q;have x:=i.nx;simp(disch:=go_size)only[go_sem,rB,rI,rK,rL,rN,rS,r6,k2,p];refine Ok.xW (z9x d (show 1<=j by omega) (l:=[vH n a,vH n b]) rfl (dL _ _ _) (by simp)) ?_;simp(disch:=first|omega|exact ti rfl|simp only[np,nq];first|done|omega)only[go_sem,rB,rI,rK,rL,rN,rS,r6];have y:=h.trans (e.trans i);refine r _ ?_ ?_ ?_
 ·(repeat(first|exact Fm.refl _ _|assumption|refine Fm.push ?_ _|refine Fm.fC ?_ (by go_size)|refine Fm.aD ?_ _ _ (by go_size)))
 ·simp(disch:=go_size)only[go_sem,rB,rI,rK,rL,rN,rS,r6,k2]
 ·(go_size)
theorem z4i(s:aV C)(S:6<=k){d:List Edge}{v:AV}(J:iH H v d){a b m:Nat}(W:WOk n d a m)(T:a<n)(hb:b<n){Q:pH}(U:(jC d m (jW a)).getD b 0<0->∀ H',Fm No H H'->Q (.aX [.aA,iN 8]) H')(V:¬(jC d m (jW a)).getD b 0<0->∃ l,Ch (jC d m (jW a)) a (b::l)/\l.length<1000/\∀ H' w,Fm No H H'->Gl 1 H' w (l.length+1) (aI (b::l).reverse)->jM w=.val (iN ((l.length+1)))->(∀b,In w b->H.nx<=b)->Q (.aX [w,iN 0]) H'):Ok (C k (.f 51) [.agg [iN n,v],iN a,iN b] H) Q:=by
 obtain⟨j,rfl⟩:=aU S;have hn:=W.n;refine zos s (by omega) W.ed W.n W.len J (.ofNat a) (.ofNat b) fun H2 x k2 n2=>?_;have:yN [vH n (.ofNat a),vH n (.ofNat b)]=.ofNat 0:=by unfold vH;rw[kz (by simp only[qi];omega),kz (by simp only[qi];omega)];rfl
 rw[this];simp(disch:=first|omega|exact ti rfl|simp only[np,nq];first|done|omega)only[go_sem,rB,rI,rK,rL,rN,rS,r6];unfold qt5;simp(disch:=first|omega|exact ti rfl|simp only[np,nq];first|done|omega)only[go_sem,rB,rI,rK,rL,rN,rS,r6,k2];refine Ok.ve (zux s (by omega) W.ed.rng W.n W.len (J.fm x) T m W.mm W.ends) ?_;rintro r o ⟨rfl,M,N⟩;have i:(ints (jC d m (jW a)))[b]? =some (.int .i64 ((jC d m (jW a)).getD b 0)):=by rw[qgz _ _ (by omega)];simp[kw,show b<(jC d m (jW a)).length by omega]
 have z:aY (List.replicate 256 (iN 0)) 0 (ints (jC d m (jW a)))=ints (jC d m (jW a)):=qwx _ _ (by unfold Tr;rw[qdk,uw,M];rfl);simp(disch:=first|omega|exact ti rfl|simp only[np,nq];first|done|omega)only[go_sem,rB,rI,rK,rL,rN,rS,r6,qdk,M,uw,z,show b<256 by omega,i];have K:Fm No H ((aN o (aB 0 (List.replicate 256 (iN 0)))).put o.nx (aB 0 (ints (jC d m (jW a))))):=by
  have:=x.trans N;have:=this.nx
  (repeat(first|exact Fm.refl _ _|assumption|refine Fm.push ?_ _|refine Fm.fC ?_ (by first|omega|simp only[np,nq];omega)|refine Fm.aD ?_ _ _ (by first|omega|simp only[np,nq];omega)))
 by_cases g:(jC d m (jW a)).getD b 0<Int.ofNat 0
 ·simp(disch:=first|omega|exact ti rfl|simp only[np,nq];first|done|omega)only[go_sem,rB,rI,rK,rL,rN,rS,r6,g];exact Ok.ret (U g _ K)
 ·simp(disch:=first|omega|exact ti rfl|simp only[np,nq];first|done|omega)only[go_sem,rB,rI,rK,rL,rN,rS,r6,g];obtain⟨l,D,Y,Z⟩:=V g;unfold q2f zel;simp(disch:=first|omega|exact ti rfl|simp only[np,nq];first|done|omega)only[go_sem,rB,rI,rK,rL,rN,rS,r6];rw[bW];have n3:=(x.trans N).nx;refine q1p (H1:=(aN o (aB 0 (List.replicate 256 (iN 0)))).put o.nx (aB 0 (ints (jC d m (jW a))))) (f:=jC d m (jW a)) (by first|omega|simp only[np,nq];omega) (by simp(disch:=first|omega|exact ti rfl|simp only[np,nq];first|done|omega)only[go_sem,rB,rI,rK,rL,rN,rS,r6]) (b::l) ?_ bL l [b] b _ 0 1 true _ D (by rw[bZ];omega) rfl (by simp;omega) (.inl rfl) rfl ?_ ?_ ?_ ((Fm.refl _ _).push _)
  ·intro u q n' y O E hy F G I f5;subst E;unfold qq3;have A:O.get u=aB q (ints ((b::l).map Int.ofNat)):=by rw[F,qge]
   refine Ok.ve (z9v s (show 1<=j by omega) (l:=(b::l).map Int.ofNat) (by simp) (by simp) (by simp;omega) A) ?_;rintro _ P ⟨p,R⟩;rw[<-List.map_reverse,qge]at p;have X:Gl 1 P (.sl u 0 (b::l).length (b::l).length y) (b::l).length (aI (b::l).reverse):=
    ⟨by simp[aI],.inr ⟨u,0,y,q,_,rfl,p,gy _,rfl,hy,lq G R.nx⟩⟩
   obtain⟨w,e,gw,t,hw⟩:=qx9 s (show 1<=j by omega) X;refine Ok.veE e ?_;have L:o.nx+1<=u:=I;refine Ok.ret (Z P w ?_ (by simpa using gw) t (fun c t=>?_))
   ·have B:Fm No H O:=K.trans f5;exact B.then R fun c t h=>by omega
   ·obtain⟨_,_,_,_,h'⟩:=hw c t;cases h';omega
  ·exact jA _ _
  ·(first|omega|(simp only[np,nq];omega))
  ·exact lh _
def qzw(f:List Int)(i:Nat):List Nat:=(List.range i).filter fun j=> !decide (f.getD j 0<0)
theorem q6l(f:List Int)(i:Nat):qzw f (i+1)=qzw f i++(if f.getD i 0<0 then[]else[i]):=by
 unfold qzw;rw[oz,ag];by_cases h:f.getD i 0<0
 ·rw[kz h];have:List.filter (fun j=> !decide (f.getD j 0<0)) [i]=[]:=by rw[bf,lu (by simp only[h,decide_true,Bool.not_true];exact Bool.false_ne_true)];rfl
  rw[this]
 ·rw[lu h];have:List.filter (fun j=> !decide (f.getD j 0<0)) [i]=[i]:=by rw[bf,kz (by simp only[h,decide_false,Bool.not_false])];rfl
  rw[this]
def Nx(n:Nat)(ms:List Nat)(d:List Int)(b a k:Nat):Prop:=0<ms.getD (a*n+k) 0/\0<=d.getD (k*n+b) 0/\d.getD (k*n+b) 0=d.getD (a*n+b) 0-1
structure z94(n:Nat)(ms:List Nat)(d:List Int)(b a x:Nat):Prop where
 lt:x<n
 is:Nx n ms d b a x
 least:∀ k,k<x->¬ Nx n ms d b a k
inductive Gp(n:Nat)(ms:List Nat)(d:List Int)(b:Nat):Nat->List Nat->Prop
 |nil:Gp n ms d b b []
 |cons {a x:Nat} {l:List Nat}:a≠b->z94 n ms d b a x->Gp n ms d b x l->Gp n ms d b a (x::l)
end Go.Di
end
section
namespace Go.Di
open Go.Ev
variable {H:Hp} {a n:Nat} {ms:List Nat}
def zjx(n:Nat)(d:List Int)(a:Nat)(i:Nat):List Nat:=(List.range i).filter fun k=> !decide (d.getD (a*n+k) 0<0)
theorem zb0(n:Nat)(d:List Int)(a i:Nat):zjx n d a (i+1)=zjx n d a i++(if d.getD (a*n+i) 0<0 then[]else[i]):=by
 unfold zjx;rw[oz,ag];by_cases h:d.getD (a*n+i) 0<0
 ·rw[kz h,bf,lu (by simp only[h,decide_true,Bool.not_true];exact Bool.false_ne_true)];rfl
 ·rw[lu h,bf,kz (by simp only[h,decide_false,Bool.not_false])];rfl
def qx7(n:Nat)(ms:List Nat):Prop:=∀ a,a<n->∃ m,WOk n (eF n ms) a m/\qzw (jC (eF n ms) m (jW a)) 256=zjx n (dist n ms) a n /\
  ∀b,b<n->((jC (eF n ms) m (jW a)).getD b 0<0↔(dist n ms).getD (a*n+b) 0<0) /\
   (¬(dist n ms).getD (a*n+b) 0<0->∃ l l',Ch (jC (eF n ms) m (jW a)) a (b::l)/\l.length<1000/\Gp n ms (dist n ms) b a l'/\(b::l).reverse=a::l')
structure z9w(n:Nat)(ms:List Nat):Prop where
 bnd:aUn n ms
 cCk:Bnd (dist n ms)
 walk:qx7 n ms
theorem Gl.ints{w:AV}{p:List Nat}(h:Gl 1 H w n (aI p)):Gl 1 H w (p.map Int.ofNat).length (Di.ints (p.map Int.ofNat)):=by have:=h.len;rw[zal,qg]at this;rw[pz,qge,this];exact h
def hd(s:List Nat)(a:Nat):Nat:=match s with|[]=>a|v::_=>v
def Rw(n:Nat)(ms:List Nat)(a:Nat):List Nat->Prop
 | []=>True
 |v::s=>v<n/\sQ n ms (hd s a) v/\Rw n ms a s
def iM(B:Nat):List Nat->Nat
 | []=>0
 |v::s=>iM B s*B+(v+1)
structure Inv(n:Nat)(ms:List Nat)(a:Nat)(T:List (List Nat))(t:Nat)(s:Wk):Prop where
 len:s.f.length=256
 nil:T[0]? =some []
 pw:T.Pairwise (fun x y=>iM (n+1) x<iM (n+1) y)
 rw':∀ x∈T,Rw n ms a x
 q:s.q=(T.drop t).map (hd · a)
 iff:∀ v,v<256->(0<=s.f.getD v 0↔∃ x∈T,hd x a=v)
 par:∀ v x,v::x∈T->v≠a/\s.f[v]? =some (.ofNat (hd x a))
 fst:∀ v x,v::x∈T->∃ i,i<t/\T[i]? =some x/\∀ j,j<i->∀ y,T[j]? =some y->¬ sQ n ms (hd y a) v
 cls:∀ i,i<t->∀ x,T[i]? =some x->∀ v,v<n->sQ n ms (hd x a) v->∃ y∈T,hd y a=v
 nd:(T.map (hd · a)).Nodup
 le:t<=T.length
structure Inn(n:Nat)(ms:List Nat)(a:Nat)(T:List (List Nat))(t:Nat)(su:List Nat)(done:List Edge)(s:Wk):Prop where
 len:s.f.length=256
 nil:T[0]? =some []
 at':T[t]? =some su
 pw:T.Pairwise (fun x y=>iM (n+1) x<iM (n+1) y)
 rw':∀ x∈T,Rw n ms a x
 q:s.q=(T.drop t).map (hd · a)
 iff:∀ v,v<256->(0<=s.f.getD v 0↔∃ x∈T,hd x a=v)
 par:∀ v x,v::x∈T->v≠a/\s.f[v]? =some (.ofNat (hd x a))
 fst:∀ v x,v::x∈T->∃ i,i<t+1/\T[i]? =some x/\∀ j,j<i->∀ y,T[j]? =some y->¬ sQ n ms (hd y a) v
 cls:∀ i,i<t->∀ x,T[i]? =some x->∀ v,v<n->sQ n ms (hd x a) v->∃ y∈T,hd y a=v
 nd:(T.map (hd · a)).Nodup
 dn:∀ e∈done,e.f=hd su a->∃ y∈T,hd y a=e.t
 ord:∀ x∈T,iM (n+1) x<=iM (n+1) su*(n+1)\/∃ v,x=v::su/\∃ e∈done,e.f=hd su a/\e.t=v
theorem Inn.step{T:List (List Nat)}{t:Nat}{m:List Nat}{done:List Edge}{s:Wk}(R:n<=256)(S:a<n)(h:Inn n ms a T t m done s){e:Edge}(I:e∈eF n ms)(K:∀ d∈done,d.f=e.f->d.t<=e.t):∃ L,Inn n ms a L t m (done++[e]) (sJ (hd m a) s e):=by
 obtain⟨O,A⟩:=(qdn n ms).rng e I;unfold sJ;by_cases C:e.f=hd m a/\s.f.getD e.t 0<0
 ·rw[kz C];obtain⟨B,J⟩:=C;have f:¬ ∃x∈T,hd x a=e.t:=fun b=>by have:=(h.iff e.t (by omega)).2 b;omega
  have M:sQ n ms (hd m a) e.t:=B▸q04 I;have E:m∈T:=uB h.at';have w:t<T.length:=by
   rcases xe t T.length with o|o
   ·exact o
   ·have:=h.at';rw[xn o]at this;cases this
  have N:[]∈T:=uB h.nil;have F:e.t≠a:=fun p=>f ⟨[],N,p.symm⟩;refine⟨T++[e.t::m],?_⟩;refine⟨by simp only[ul];exact h.len,?_,?_,?_,?_,?_,?_,?_,?_,?_,?_,?_,?_⟩
  ·rw[qx (by omega)];exact h.nil
  ·rw[qx w];exact h.at'
  ·refine yf.2 ⟨h.pw,zn _ _,fun x b y k=>?_⟩;rw[gq]at k;subst k;show _<iM (n+1) m*(n+1)+(e.t+1);rcases h.ord x b with o|⟨v,rfl,d,c,l,rfl⟩
   ·omega
   ·have g:=K d c (by rw[l,B]);have q:d.t≠e.t:=fun p=>f ⟨_,b,p⟩;show iM (n+1) m*(n+1)+(d.t+1)<_;omega
  ·intro x b;rcases pg.1 b with b|b
   ·exact h.rw' x b
   ·rw[gq]at b;subst b;exact⟨A,M,h.rw' m E⟩
  ·show s.q++[e.t]=_;rw[h.q,xm (by omega),uj];rfl
  ·intro v H;show 0<=(s.f.set e.t (.ofNat e.f)).getD v 0↔_;rw[qce _ _ _ _ (by rw[h.len];omega)];by_cases u:v=e.t
   ·subst u;rw[kz rfl];exact⟨fun _=>⟨_,xf _ (gq.2 rfl),rfl⟩,fun _=>Int.natCast_nonneg _⟩
   ·rw[lu u,h.iff v H];constructor
    ·rintro ⟨x,b,g⟩;exact⟨x,vz _ b,g⟩
    ·rintro ⟨x,b,g⟩;rcases pg.1 b with b|b
     ·exact⟨x,b,g⟩
     ·rw[gq]at b;subst b;exact absurd g.symm u
  ·intro v x b;rcases pg.1 b with b|b
   ·obtain⟨g,q⟩:=h.par v x b;refine⟨g,?_⟩;have:v≠e.t:=fun p=>f ⟨_,b,p⟩;show(s.f.set e.t (.ofNat e.f))[v]? =_;rw[lAO (fun p=>this p.symm)];exact q
   ·rw[gq]at b;cases b;refine⟨F,?_⟩;show(s.f.set e.t (.ofNat e.f))[e.t]? =_;rw[lAC (by rw[h.len];omega),B]
  ·intro v x b;rcases pg.1 b with b|b
   ·obtain⟨i,g,q,P⟩:=h.fst v x b;have G:i<T.length:=by omega
    refine⟨i,g,by rw[qx G];exact q,fun j D y k=>P j D y ?_⟩;rwa [qx (by omega)]at k
   ·rw[gq]at b;cases b;refine⟨t,by omega,by rw[qx w];exact h.at',fun j D y k r=>?_⟩;rw[qx (by omega)]at k;exact f (h.cls j D y k e.t A r)
  ·intro i G x b v H r;rw[qx (by omega)]at b;obtain⟨y,k,g⟩:=h.cls i G x b v H r;exact⟨y,vz _ k,g⟩
  ·rw[uj];refine yh.2 ⟨h.nd,by simp,fun x b y k=>?_⟩;obtain⟨z,Q,rfl⟩:=qj.1 b;simp only[au,lE7,gq]at k;subst k;exact fun p=>f ⟨z,Q,p⟩
  ·intro d c l;rcases pg.1 c with c|c
   ·obtain⟨y,k,g⟩:=h.dn d c l;exact⟨y,vz _ k,g⟩
   ·rw[gq]at c;subst c;exact⟨_,xf _ (gq.2 rfl),rfl⟩
  ·intro x b;rcases pg.1 b with b|b
   ·rcases h.ord x b with o|⟨v,g,d,c,q⟩
    ·exact .inl o
    ·exact .inr ⟨v,g,d,vz _ c,q⟩
   ·rw[gq]at b;exact .inr ⟨e.t,b,e,xf _ (gq.2 rfl),B,rfl⟩
 ·rw[lu C];refine⟨T,h.len,h.nil,h.at',h.pw,h.rw',h.q,h.iff,h.par,h.fst,h.cls,h.nd,?_,?_⟩
  ·intro d c l;rcases pg.1 c with c|c
   ·exact h.dn d c l
   ·rw[gq]at c;subst c;exact(h.iff d.t (by omega)).1 (lEN.1 fun o=>C ⟨l,o⟩)
  ·intro x b;rcases h.ord x b with o|⟨v,g,d,c,q⟩
   ·exact .inl o
   ·exact .inr ⟨v,g,d,vz _ c,q⟩
theorem Inn.all{n:Nat}{ms:List Nat}{a:Nat}{t:Nat}{c:List Nat}(i:n<=256)(j:a<n):∀(b done:List Edge) (T:List (List Nat)) (s:Wk),done++b=eF n ms->Inn n ms a T t c done s -> ∃l,Inn n ms a l t c (eF n ms) (inner b (hd c a) s)
 | [],done,T,s,h,hi=>⟨T,by rw[ut]at h;rw[<-h];exact hi⟩
 |e::b,done,T,s,h,hi=>by
  have k:=q03 n ms;rw[<-h]at k;obtain⟨_,_,o⟩:=yf.1 k;have m:e∈eF n ms:=by rw[<-h];exact xf _ (qy ..)
  obtain⟨p,q⟩:=hi.step i j m (fun d f g=>o d f e (qy ..) g);exact Inn.all i j b (done++[e]) p _ (by rw[rf];exact h) q
theorem qpm:∀(n:Nat) (l:List Nat),l.Nodup->(∀x∈l,x<n)->l.length<=n
 |0,l,_,h=>by
  cases l with
  |nil=>exact lh _
  |cons x l=>exact absurd (h x (qy ..)) (ak _)
 |n+1,l,hn,h=>by
  by_cases c:n∈l
  ·have d:=qpm n (l.erase n) (hn.erase n) (fun x a=>by
    have b:=(hn.mem_erase_iff).1 a;have:=h x b.2;have:=b.1;omega)
   rw[List.length_erase_of_mem c]at d;omega
  ·have:=qpm n l hn (fun x a=>by
    have:=h x a;have:x≠n:=fun e=>c (e▸a);omega)
   omega
theorem Inv.start(ms:List Nat)(e:a<n)(f:n<=256):Inv n ms a [[]] 0 (jW a):=by
 refine⟨by unfold jW;rw[ul,uw],rfl,zn _ _,fun x b=>?_,rfl,fun v c=>?_,fun v x b=>?_,fun v x b=>?_,fun i g=>by omega,by simp,gy _⟩
 ·rw[gq]at b;subst b;trivial
 ·show 0<=((List.replicate 256 (-1)).set a (.ofNat a)).getD v 0↔_;rw[qce _ _ _ _ (by rw[uw];omega)];by_cases h:v=a
  ·rw[kz h];exact⟨fun _=>⟨[],gq.2 rfl,h.symm⟩,fun _=>Int.natCast_nonneg _⟩
  ·rw[lu h];have:(List.replicate 256 (-1:Int)).getD v 0= -1:=by
    simp only[kw,lAV,kz c];rfl
   rw[this];refine⟨fun j=>by omega,fun⟨x,b,d⟩=>?_⟩;rw[gq]at b;subst b;exact absurd d.symm h
 ·rw[gq]at b;cases b
 ·rw[gq]at b;cases b
theorem zmq(b:a<n){x:List Nat}(h:Rw n ms a x):hd x a<n:=by
 cases x with
 |nil=>exact b
 |cons v x=>exact h.1
theorem Inv.step{T:List (List Nat)}{t:Nat}{s:Wk}(F:n<=256)(D:a<n)(h:Inv n ms a T t s)(G:s.q≠[]):∃ l,Inv n ms a l (t+1) (qlu (eF n ms) s):=by
 have f:t<T.length:=by
  rcases xe t T.length with b|b
  ·exact b
  ·exact absurd (by rw[h.q,uy b];rfl) G
 obtain⟨c,d⟩:∃ c,T[t]? =some c:=⟨T[t],lL f⟩;have H:c∈T:=uB d;have u:T.drop t=c::T.drop (t+1):=by rw[uo f];rw[lL f]at d;cases d;rfl
 have m:Inn n ms a T t c [] s:=by
  refine⟨h.len,h.nil,d,h.pw,h.rw',h.q,h.iff,h.par,fun v x j=>?_,h.cls,h.nd,fun e p=>(by cases p),fun x j=>.inl ?_⟩
  ·obtain⟨i,k,o⟩:=h.fst v x j;exact⟨i,by omega,o⟩
  ·cases x with
   |nil=>exact gy _
   |cons v x=>
    obtain⟨i,k,o,_⟩:=h.fst v x j;have r:v<n:=(h.rw' _ j).1;have w:iM (n+1) x<iM (n+1) c:=by
     have q:i<T.length:=by omega
     have:=uf.1 h.pw i t q f k;rw[lL q]at o;rw[lL f]at d;cases o;cases d;exact this
    have z:(iM (n+1) x+1)*(n+1)<=iM (n+1) c*(n+1):=um _ w;rw[xk,zu]at z;show iM (n+1) x*(n+1)+(v+1)<=_;omega
 obtain⟨l,b⟩:=Inn.all F D (eF n ms) [] T s rfl m;refine⟨l,?_⟩;have A:s.q=hd c a::(T.drop (t+1)).map (hd · a):=by rw[h.q,u];rfl
 have g:t<l.length:=by
  rcases xe t l.length with k|k
  ·exact k
  ·have:=b.at';rw[xn k]at this;cases this
 have B:l.drop t=c::l.drop (t+1):=by have:=b.at';rw[uo g];rw[lL g]at this;cases this;rfl
 have C:qlu (eF n ms) s=⟨(inner (eF n ms) (hd c a) s).f,(inner (eF n ms) (hd c a) s).q.tail⟩:=by unfold qlu;rw[A]
 rw[C];refine⟨b.len,b.nil,b.pw,b.rw',?_,b.iff,b.par,b.fst,fun i q x j v r E=>?_,b.nd,g⟩
 ·show(inner (eF n ms) (hd c a) s).q.tail=_;rw[b.q,B];rfl
 ·by_cases e:i=t
  ·subst e;rw[b.at']at j;cases j;obtain⟨e,p,k,o⟩:=qxv (zmq D (b.rw' c (uB b.at'))) r E;obtain⟨y,I,z⟩:=b.dn e p k;exact⟨y,I,by rw[z,o]⟩
  ·exact b.cls i (by omega) x j v r E
theorem Inv.card{T:List (List Nat)}{t:Nat}{s:Wk}(b:a<n)(h:Inv n ms a T t s):T.length<=n:=by have:=qpm n (T.map (hd · a)) h.nd (fun x c=>by obtain⟨y,d,rfl⟩:=qj.1 c;exact zmq b (h.rw' y d));rwa [pz]at this
theorem zyc{n:Nat}{ms:List Nat}{a:Nat}(g:n<=256)(d:a<n):∀(m:Nat) (T:List (List Nat)) (t:Nat) (s:Wk),n-t<=m->Inv n ms a T t s -> zc9 (eF n ms) m s/\∃ i q,Inv n ms a i i.length ⟨jC (eF n ms) m s,q⟩
 |0,T,t,s,hm,h=>by
  have p:=h.card d;have e:t=T.length:=by have:=h.le;omega
  have b:s.q=[]:=by rw[h.q,uy (by omega)];rfl
  exact⟨b,T,s.q,by subst e;exact h⟩
 |m+1,T,t,s,hm,h=>by
  cases b:s.q with
  |nil=>
   have e:t=T.length:=by have c:=h.q;rw[b]at c;have f:=congrArg List.length c;rw[pz,xx,uk]at f;have:=h.le;omega
   refine⟨.inl b,T,s.q,?_⟩;have:jC (eF n ms) (m+1) s=s.f:=by simp[jC,b]
   rw[this];subst e;exact h
  |cons u r=>
   obtain⟨j,c⟩:=h.step g d (by rw[b];simp);obtain⟨f,k,l,o⟩:=zyc g d m j (t+1) _ (by omega) c;refine⟨.inr f,k,l,?_⟩;have:jC (eF n ms) (m+1) s=jC (eF n ms) m (qlu (eF n ms) s):=by simp[jC,b]
   rw[this];exact o
theorem least{n:Nat}{ms:List Nat}{a:Nat}{T:List (List Nat)}{s:Wk}(h:Inv n ms a T T.length s):∀ w,Rw n ms a w->∃ x∈T,hd x a=hd w a/\iM (n+1) x<=iM (n+1) w
 | [],_=>⟨[],uB h.nil,rfl,lh _⟩
 |v::w,⟨hv,mR,hw⟩=>by
  obtain⟨y,q,g,r⟩:=least h w hw;obtain⟨j,b,rfl⟩:=mg.1 q;obtain⟨x,k,l⟩:=h.cls j b T[j] (lL b) v hv (by rw[g];exact mR);refine⟨x,k,l,?_⟩;cases x with
  |nil=>exact gy _
  |cons v' x=>
   have c:v'=v:=l;subst c;obtain⟨i,m,o,t⟩:=h.fst v' x k;have d:i<=j:=by
    rcases xe j i with f|f
    ·exact absurd (by rw[g];exact mR) (t j f T[j] (lL b))
    ·exact f
   have p:iM (n+1) x<=iM (n+1) T[j]:=by
    rw[lL m]at o;cases o;rcases Nat.eq_or_lt_of_le d with e|e
    ·subst e;exact lh _
    ·exact yu (uf.1 h.pw i j m b e)
   show iM (n+1) x*(n+1)+(v'+1)<=iM (n+1) w*(n+1)+(v'+1);exact Nat.add_le_add_right (um _ (rq p r)) _
end Go.Di
end
