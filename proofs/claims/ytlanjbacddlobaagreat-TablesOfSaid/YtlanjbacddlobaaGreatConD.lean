/-
 For TablesOf: functions in direct style, their contracts, and the plain mathematics, part 4 of 10. No conditions beyond those that each theorem states.
-/
import Derived.Test.YtlanjbacddlobaaGreatConA
import Derived.Test.YtlanjbacddlobaaGreatConC
set_option linter.unusedSimpArgs false
set_option linter.unusedVariables false
open Nat renaming reduceAdd->rB,reduceMul->rI,reduceSub->rK,reduceLeDiff->rL,reduceEqDiff->rN,reduceShiftRight->rS,reduceAnd->r8
section
namespace Go.Di
open Go.Ev
variable {C:Nat->Ev.Call}
variable {H H':Hp} {X:List aQ} {av nv sv:AV} {b i j k m n z:Nat} {cs l:List AV} {g:aQ} {ms:List Nat} {neg:Bool} {qr:pH}
def tQ(bH:List jM)(r:jM):jM:=if qyp bH r then r else⟨r.name,[],r.rule⟩
theorem qbu(bH:List jM)(r:jM):(tQ bH r).rule=r.rule:=by unfold tQ;split<;>rfl
theorem Rs.nil{α:Type}(z:Nat)(f:α->List AV)(H:Hp):Rs z f H .aA ([]:List α):=⟨rfl,fun i h=>by simp at h⟩
def aEu(g:bC):bC:=⟨⟨g.r.name,[],g.r.rule⟩,.aA,g.cs⟩
theorem zpc:∀(l:List bC) (i:Nat) (h:i<l.length),aY (l.flatMap iK) (i*6+1) [.aA]=(l.set i (aEu l[i])).flatMap iK
 | [],_,h=>by simp at h
 |x::l,0,_=>by simp[aY,iK,aEu]
 |x::l,i+1,h=>by
  have:=zpc l i (by simpa using h);rw[lXN,lIQ,lIQ,List.getElem_cons_succ,<-this];unfold aY;have e:(i+1)*6+1=(iK x).length+(i*6+1):=by rw[qju];omega
  rw[e,lOU,lI5,lI5];congr 1;rw[lI5];congr 2;rw[lIP,lOV]
def lY(bH:List jM)(k:Nat):List jM:=(bH.take k).map (tQ bH)++bH.drop k
theorem zp7{bH:List jM}(h:k<bH.length)(a:k<(lY bH k).length):(lY bH k)[k]=bH[k]:=by
 have e:(lY bH k)[k]? =some bH[k]:=by unfold lY;rw[lIJ g2];simp[lOE (lON h),h]
 simp_all
theorem zyi(bH:List jM)(k:Nat)(s:SS):(lY bH k).any (fun x=>gD x.rule 3 s)=bH.any (fun x=>gD x.rule 3 s):=by
 unfold lY;rw[lX5,lXU]
 conv=>rhs;rw[<-lU9 k bH,lX5]
 congr 2;funext x;simp only[Function.comp,qbu]
theorem qze(bH:List jM)(k:Nat):(lY bH k).length=bH.length:=by unfold lY;simp;omega
theorem q26{bH:List jM}(h:k<bH.length):lY bH (k+1)=(lY bH k).set k (tQ bH bH[k]):=by
 unfold lY;rw[lER h,lID,lOD,lI5,List.set_append_right _ _ g2];simp only[lET,lI6,lOE (lON h),lUV]
 conv=>rhs;rw[lIU h]
 rfl
theorem tN.set{A B:Nat}{rv:AV}{e:List bC}(h:tN A B H rv e)(k:i<e.length):∃b o H',aG 6 rv (iN i)=.val (.ptr b o)/\storeAt H b (o+1) [.aA] .undef=.ok .undef H'/\tN A B H' rv (e.set i (aEu e[i]))/\Fm (In rv) H H':=by
 obtain⟨b,o,H',l,m,g,f,_⟩:=h.gl.set1 k (j:=1) om .aA;rw[zpc e i k]at g;refine⟨b,o,H',l,m,⟨by rw[lO1];exact g,h.y9,fun y a=>?_,fun y a=>?_⟩,f⟩
 ·rcases lUU a with a|rfl
  ·exact⟨(h.ty y a).1.dJ f fun c d=>((h.ty y a).2.2 c d).2.2,(h.ty y a).2⟩
  ·exact⟨Rs.nil _ _ _,.inl rfl,fun c d=>by obtain⟨_,_,_,_,d⟩:=d;cases d⟩
 ·rcases lUU a with a|rfl
  ·exact(h.ru y a).dJ f fun c d=>d.2.2
  ·exact(h.ru e[i] (lEQ k)).dJ f fun c d=>d.2.2
theorem qlm(n:aU C){j:Nat}(s:20<=j){A B:Nat}{rv:AV}{bH:List jM}{H1:Hp}(e:bH.length<=1000)(p:∀ r∈bH,r.rule.depth<=12/\r.rule.size<=10000){Q:pS}{q:pL}(t:∀ c H,c.map bC.r=bH.map (tQ bH)->tN A B H rv c->Fm (In rv) H1 H->Ok (q H) Q):∀(k i:Nat) (c:List bC) (H:Hp),i<=bH.length->bH.length-i<k->c.map bC.r=lY bH i->tN A B H rv c->Fm (In rv) H1 H -> Ok (qqr (C j) q rv k (iN i) H) Q
 |0,i,_,_,_,h,_,_,_=>om
 |k+1,i,c,H,hi,hk,hg,hI,hf=>by
  show Ok (q7p (C j) _ _ (qqr (C j) _ _ k) _ H) Q;unfold q7p;have D:=hI.gl.aX;have G:c.length=bH.length:=by have:=congrArg List.length hg;rwa [lET,qze]at this
  have f:∀ g∈c,g.r.rule.depth<=12/\g.r.rule.size<=10000:=fun g u=>by
   have:g.r∈lY bH i:=by rw[<-hg];exact lIX u
   unfold lY at this;rw[lEY,lIB]at this;rcases this with⟨r,K,w⟩|h
   ·rw[<-w,qbu];exact p r (lUG K)
   ·exact p _ (lXV h)
  by_cases d:i<bH.length
  ·have a:i<c.length:=om;simp only[go_sem,D,a];rw[qu3];unfold qn1;obtain⟨b,o,L,R,_,_,_,M,_⟩:=hI.at a;simp only[go_sem,L,M];refine Ok.ve (z3e n (k:=j) (r:=c[i].r.rule) (by have:=(f _ (lEQ a)).1;omega) (by have:=(f _ (lEQ a)).2;omega) (hI.ru _ (lEQ a)) 1 sE) ?_;rintro _ N ⟨rfl,F⟩;have l:=hI.dJ F fun _ _ _ h=>h;have v:c[i].r=bH[i]:=by
    have I:(c.map bC.r)[i]'(by simpa using a)=c[i].r:=lUT ..;rw[<-I,<-zp7 d (by rw[qze];exact d)];congr 1
   have J:(gD c[i].r.rule 1 sE||c.any fun x=>gD x.r.rule 3 c[i].r.name)=qyp bH bH[i]:=by unfold qyp;rw[v,<-zyi bH i,<-hg,lXU];rfl
   unfold zny;rw[dD];refine qqw n s l om f a (u0:=gD c[i].r.rule 1 sE) (fun y z=>?_) bZ 0 _ N (lEV _) lf (Fm.refl _ _) g3;rw[J];rw[qu5];unfold qn3;have E:=l.dJ z fun _ _ _ h=>h;have m:Fm (In rv) H1 y:=(hf.then F fun _ _ h=>absurd h id).then z fun _ _ h=>absurd h id;cases P:qyp bH bH[i]with
   |true=>
    rw[qk5];unfold qjk;simp(disch:=go_size)only[go_sem,rB,rI,rK,rL,rN,rS,r8];refine qlm n s e p t k (i+1) c y om om ?_ E m;rw[q26 d,hg];have:tQ bH bH[i]=(lY bH i)[i]'(by rw[qze];exact d):=by rw[zp7 d];unfold tQ;rw[P];rfl
    simp_all
   |false=>obtain⟨S,T,O,g1,g2,g3,g4⟩:=E.set a;simp only[go_sem,g1,g2];rw[qk5];unfold qjk;simp(disch:=go_size)only[go_sem,rB,rI,rK,rL,rN,rS,r8];refine qlm n s e p t k (i+1) _ O om om ?_ g3 (m.then g4 fun _ _ h=>h);rw[q26 d,lY5,hg];congr 1;unfold tQ aEu;simp_all
  ·have w:i=bH.length:=om;have a:¬ i<c.length:=om;simp only[go_sem,D,a];refine t c H ?_ hI hf;rw[hg,w];unfold lY;simp
theorem zez(L:List (List Nat))(n:Nat):∀(d i:Nat) (neg:Bool),i<=(fM L n d i neg).2/\(fM L n d i neg).1.size<=2*((fM L n d i neg).2-i)+1/\(fM L n d i neg).1.depth<=d+1:=by
 have a:∀ neg,(qj5 neg).size=1/\(qj5 neg).depth=1:=fun neg=>by cases neg<;>exact⟨rfl,rfl⟩
 have b:∀ c neg,(vV L n c neg).size=1/\(vV L n c neg).depth=1:=fun c neg=>by
  unfold vV;split
  ·exact a neg
  ·trivial
 intro d
 induction d with
 |zero=>intro i neg;unfold fM;have:=a neg;simp only;omega
 |succ d ih=>
  intro i neg;unfold fM;have e:=a neg;split
  ·simp_all
  split
  ·simp_all
  split
  ·simp only[aAZ,Ru.size,Ru.depth];omega
  split
  ·have:=b (fK L n i / 8) neg;simp only;omega
  have e:=ih (i+1) neg;have f:=ih (fM L n d (i+1) neg).2 (neg||decide (vN n (fK L n i)=6));simp only[Ru.size,Ru.depth];omega
theorem qq8(L:List (List Nat))(n:Nat):(mD L n).rule.size<=21/\(mD L n).rule.depth<=7:=by have a:=zez L n 6 2 false;have b:=(qn9 L n 6 2 false).2;unfold mD;simp only;omega
def zd5(p:zM):zM:=⟨p.name,p.bH.map (tQ p.bH)⟩
def uP(L:List (List Nat)):List zM:=⟨sU,[]⟩::(List.range ((bF L+3) / 4)).map fun i=>spN L i (min (bF L) (4*i+4))
def aCc(L:List (List Nat)):List zM:=(uP L).map zd5
theorem St.raw{L:List (List Nat)}{l:List aQ}(h:St L (bF L) l g):(l++[g]).map aQ.sp=uP L:=by
 unfold uP;rw[lID,lOD];rcases h with⟨c,rfl,h⟩|⟨q,d,e,f,j⟩
 ·rw[c,h];rfl
 ·have b:(bF L+3) / 4=q+1:=om;rw[b,lX4,lID,lOD,d,e];unfold pre;rw[lUS];congr 2
  ·refine lUY fun i a=>?_;rw[lIY]at a;unfold spF;rw[Nat.min_eq_right om]
  ·simp_all
theorem zpg{L:List (List Nat)}{p:zM}(a:p∈uP L):p.bH.length<=4/\∀ r∈p.bH,∃n,n<bF L/\r=mD L n:=by
 unfold uP at a;rw[lI8,lIB]at a;rcases a with rfl|⟨i,c,rfl⟩
 ·simp
 ·refine⟨by simp only[spN,lET,qlx];omega,fun r b=>?_⟩;simp only[spN,lIB,qf5]at b;obtain⟨n,d,rfl⟩:=b;exact⟨n,om,rfl⟩
theorem tN.flat{A B:Nat}{rv:AV}{a:List bC}(h:tN A B H rv a):rH rv=true:=by rcases h.gl.is with⟨h,_⟩|⟨_,_,_,_,_,h,_⟩<;>(rw[h];rfl)
theorem mY.aZt(m:mY H sv X)(o:i<X.length){p:List bC}(x:tN X[i].A X[i].B H' X[i].rv p)(f:Fm (In X[i].rv) H H'):mY H' sv (X.set i ⟨X[i].name,p,X[i].rv,X[i].A,X[i].B⟩):=by
 have q:=lEQ o;have k:=(m.rel _ q).1.y9;refine⟨?_,?_,?_,?_⟩
 ·have e:(X.set i ⟨X[i].name,p,X[i].rv,X[i].A,X[i].B⟩).flatMap xG=X.flatMap xG:=by
   rw[List.flatMap_def,List.flatMap_def,lY5];congr 1;have:(X.map xG)[i]'(by simpa using o)=xG ⟨X[i].name,p,X[i].rv,X[i].A,X[i].B⟩:=by rw[lUT];rfl
   rw[<-this,List.set_getElem_self]
  rw[lO1,e];exact m.gl.fm f fun b u v=>m.dj _ q b u (k b v)
 ·have c:=m.ord;rw[lO2]at c ⊢;intro a b w n s;rw[lO1]at w n;have:=c a b w n s;rw[lXY,lXY];split<;>split<;>(subst_vars;first|exact this|omega)
 ·intro g d;rw[lXW]at d;obtain⟨j,r,rfl⟩:=d;rw[lO1]at r;rw[lXY];split
  ·exact⟨x,lI7 (m.rel _ q).2 f.nx⟩
  ·rename_i t;have l:=lEQ r;refine⟨(m.rel _ l).1.dJ f fun b u v y=>?_,lI7 (m.rel _ l).2 f.nx⟩;have z:=k b y;have c:=m.ord;rw[lO2]at c;rcases Nat.lt_or_gt_of_ne t with h|h
   ·have:=c i j o r h;omega
   ·have:=c j i r o h;omega
 ·intro g d b n;rcases lUU d with d|rfl
  ·exact m.dj g d b n
  ·exact m.dj _ q b n
structure ClI(H0 H:Hp)(sb:Nat)(sv:AV)(X:List aQ):Prop where
 m:mY H sv X
 an:∀ x∈X,H0.nx<=x.A/\¬(x.A<=sb/\sb<x.B)
 sbk:H.get sb=aB 0 [sv]
 sbl:H0.nx<=sb/\sb<H.nx
 vQ:∀ b,In sv b->H0.nx<=b
 fm:Fm No H0 H
theorem qqz(w:aU C){j:Nat}(y:20<=j){H0:Hp}{sb:Nat}{sv:AV}{S:List zM}(F:S.length<=1000)(z:∀ p∈S,p.bH.length<=1000/\∀ r∈p.bH,r.rule.depth<=12/\r.rule.size<=10000){Q:pS}{q:pL}(D:∀ X H,X.map aQ.sp=S.map zd5->ClI H0 H sb sv X->Ok (q H) Q):∀(k i:Nat) (X:List aQ) (H:Hp),i<=S.length->S.length-i<k->X.map aQ.sp=(S.take i).map zd5++S.drop i->ClI H0 H sb sv X -> Ok (qk2 (C j) q (.ptr sb 0) k (iN i) H) Q
 |0,i,_,_,_,h,_,_=>om
 |k+1,i,X,H,hi,hk,hX,hI=>by
  show Ok (q7q (C j) _ _ (qk2 (C j) _ _ k) _ H) Q;unfold q7q;have E:=hI.m.gl.aX;have s:=hI.sbk;have I:X.length=S.length:=by have:=congrArg List.length hX;simp only[lET,lEP,lI6,lIZ]at this;omega
  by_cases e:i<S.length
  ·have a:i<X.length:=om;simp only[go_sem,s,E,a];rw[qu2];unfold qn0;obtain⟨b,o,K,T,_,_,L⟩:=(hI.m.gl.rs qee).at' i a;have J:bI (H.get b) (o+1)=.val X[i].rv:=L 1 (by rw[qee];omega);simp only[go_sem,s,K,J];unfold znz;rw[dD];have g:X[i].sp=S[i]:=by
    have P:(X.map aQ.sp)[i]'(by simpa using a)=X[i].sp:=lUT ..;simp_all
   have t:X[i].gs.map bC.r=S[i].bH:=congrArg zM.bH g;have l:=z S[i] (lEQ e);have u:=lEQ a;refine qlm w y (bH:=S[i].bH) (A:=X[i].A) (B:=X[i].B) (rv:=X[i].rv) (H1:=H) l.1 l.2 (fun M H' N G f=>?_) bZ 0 X[i].gs H (lEV _) lf (by rw[t];simp[lY]) (hI.m.rel _ u).1 (Fm.refl _ _);rw[qu6];unfold qn4;simp(disch:=go_size)only[go_sem,rB,rI,rK,rL,rN,rS,r8];have m:=(hI.m.rel _ u).1.y9;have n:=hI.an _ u;have d:=hI.sbl;refine qqz w y F z D k (i+1) _ H' om om ?_ ⟨hI.m.aZt a G f,?_,?_,?_,hI.vQ,?_⟩
   ·rw[lY5,hX,lER e,lID,lOD,lI5,List.set_append_right _ _ g2];simp only[lET,lI6,lOE hi,lUV];rw[lIU e,List.set_cons_zero,List.singleton_append];congr 2;unfold aQ.sp zd5;congr 1;exact congrArg zM.name g
   ·intro x v;rcases lUU v with v|rfl
    ·exact hI.an x v
    ·exact n
   ·exact(f.get _ d.2 fun h=>n.2 (m _ h)).trans hI.sbk
   ·exact⟨d.1,af d.2 f.nx⟩
   ·exact hI.fm.then f fun c O h=>by have:=(m c h).1;omega
  ·have R:i=S.length:=om;have a:¬ i<X.length:=om;simp only[go_sem,s,E,a];refine D X H ?_ hI;simp_all
structure rG(H:Hp)(g:bC):Prop where
 ty:Rs 2 tC H g.tv g.r.types
 tc:g.tv=.aA\/∃ b o n m e,g.tv=.sl b o n m e/\n<=m/\0<n
 ru:jP (fun _=>True) H g.r.rule g.cs
structure SpR(H:Hp)(g:aQ):Prop where
 len:aD g.rv=.val (iN (g.gs.length))
 fl:rH g.rv=true
 at':∀ i (h:i<g.gs.length),∃b o,aG 6 g.rv (iN i)=.val (.ptr b o)/\b<H.nx/\bI (H.get b) o=.val (.str g.gs[i].r.name.n g.gs[i].r.name.a)/\bI (H.get b) (o+1)=.val g.gs[i].tv/\iF (H.get b) (o+2) 4=some g.gs[i].cs/\iF (H.get b) o 6=some (iK g.gs[i])
 rel:∀ x∈g.gs,rG H x
structure cZ(H:Hp)(sv:AV)(X:List aQ):Prop where
 rs:Rs 2 xG H sv X
 fl:rH sv=true
 sp:∀ g∈X,SpR H g
theorem rG.tf{g:bC}(h:rG H g):rH g.tv=true:=by rcases h.tc with h|⟨_,_,_,_,_,h,_⟩<;>(rw[h];rfl)
theorem rG.fm{g:bC}(h:rG H g)(f:Fm No H H'):rG H' g:=⟨h.ty.fm f,h.tc,h.ru.fm f⟩
theorem SpR.fm(h:SpR H g)(f:Fm No H H'):SpR H' g:=⟨h.len,h.fl,fun i c=>by obtain⟨b,o,j,a,k,l,m,n⟩:=h.at' i c;have e:=f.keep a;exact⟨b,o,j,af a f.nx,by rw[e];exact k,by rw[e];exact l,by rw[e];exact m,by rw[e];exact n⟩,fun x d=>(h.rel x d).fm f⟩
theorem cZ.fm(h:cZ H sv X)(f:Fm No H H'):cZ H' sv X:=⟨h.rs.fm f,h.fl,fun g a=>(h.sp g a).fm f⟩
theorem mY.sr(m:mY H sv X):cZ H sv X:=by
 refine⟨m.gl.rs qee,?_,fun g c=>?_⟩
 ·rcases m.gl.is with⟨h,_⟩|⟨_,_,_,_,_,h,_⟩<;>(rw[h];rfl)
 ·have r:=(m.rel g c).1;refine⟨r.gl.aX,r.flat,fun i d=>?_,fun x a=>⟨(r.ty x a).1,(r.ty x a).2.1,(r.ru x a).mono fun _ _ _=>trivial⟩⟩
  ·obtain⟨b,o,e,f,_,j,k,l,n⟩:=r.at d;exact⟨b,o,e,f,j,k,l,n⟩
theorem xe7(m:aU C)(y:21<=k){v:AV}{L:List (List Nat)}(z:iE H v L):Ok (C k (.f 5) [.agg [v]] H) fun r H'=>∃ sv X,r=.agg [sv]/\cZ H' sv X/\X.map aQ.sp=aCc L/\Fm No H H':=by
 obtain⟨j,rfl⟩:=aT y;rw[(m j).zAc];unfold zAc z7t;simp(disch:=go_size)only[go_sem,seval];unfold znx;rw[dD];have u:Fm No H (aK (aK H (aB 0 [v])) (aB 0 [.aA])):=by exact xE
 have s:=z.fm u;refine zpz m om (H0:=aK (aK H (aB 0 [v])) (aB 0 [.aA])) (cb:=H.nx) (sb:=H.nx+3) s (fun H1 sv l g e o=>?_) bZ 0 [] ⟨sU,[],.aA,H.nx+4,H.nx+4⟩ (.sl (H.nx+2) 0 1 1 true) _ (lEV _) (by have:bF L<=12:=lO3 _ _;rw[yR];omega) ⟨?_,?_,?_,?_,?_,?_,?_,?_,?_,?_,?_,?_⟩ (.inl ⟨rfl,rfl,rfl⟩)
 ·rw[qu1];unfold qnz zn0;rw[dD];have f:=o.raw;refine qqz m om (H0:=aK (aK H (aB 0 [v])) (aB 0 [.aA])) (sb:=H.nx+3) (sv:=sv) (S:=uP L) ?_ (fun p A=>?_) (fun X q B a=>?_) bZ 1 (l++[g]) H1 ?_ ?_ ?_ ⟨e.m,fun x d=>⟨e.an x d,?_⟩,e.sbk,⟨e.sbl.1,e.sbl.2.2⟩,fun b i=>(e.vQ b i).1,e.fm⟩
  ·unfold uP;have:bF L<=12:=lO3 _ _;simp;omega
  ·have t:=zpg A;refine⟨om,fun r D=>?_⟩;obtain⟨n,_,rfl⟩:=t.2 r D;have:=qq8 L n;omega
  ·rw[q08];unfold qyi;have F:=a.sbk;have G:=a.fm.nx;have I:q.get (H.nx+1)=aB 0 [.aA]:=(a.fm.keep gz).trans g5;have w:Fm (fun b=>b=H.nx+1) q (q.put (H.nx+1) (aB 0 [sv])):=(Fm.refl _ _).put _ _ fun _=>rfl;have J:=a.sbl;simp only[go_sem,seval,F,I];refine Ok.ret ⟨sv,X,rfl,(a.m.dJ w (fun b i h=>?_) (fun g E b t _ h=>?_)).sr,B,(u.trans a.fm).then w fun c K h=>?_⟩
   ·have:=a.vQ b i;simp only[np]at this;omega
   ·have:=(a.an g E).1;simp only[np]at this;omega
   ·omega
  ·have:=o.len (lO3 _ _);rw[<-f];simp
  ·rw[<-f];have:=o.len (lO3 _ _);rw[yR];simp;omega
  ·trivial
  ·rw[lEY,lI3]at d;rcases d with d|rfl
   ·exact e.sbd x d
   ·have:=e.sbl;omega
 ·exact⟨g1,g6⟩
 ·simp only[go_sem]
 ·simp only[np,nq];omega
 ·simp
 ·left;omega
 ·constructor<;>(rintro ⟨_,_,_,_,h⟩;injection h;omega)
 ·rintro b ⟨_,_,_,_,h⟩;cases h;simp only[np];omega
 ·simp
 ·refine⟨⟨rfl,.inr ⟨H.nx+2,0,true,0,_,rfl,?_,lEV _,rfl,.inl rfl,?_⟩⟩,lU4 _ _,fun x d=>?_,fun x d b i=>?_⟩
  ·simp(disch:=first|go_size|omega)only[go_sem,seval];rfl
  ·simp only[np,nq];omega
  ·rw[lOX,lI3]at d;subst d;exact⟨tN.nil _ _ _,gx⟩
  ·simp_all
 ·intro x d;rw[lOX,lI3]at d;subst d;simp only[np];omega
 ·simp only[np,nq];omega
 ·repeat first|exact Fm.refl _ _|assumption|refine Fm.push ?_ _|refine Fm.aH ?_ _ _ gx
def qY(X:List aQ)(a b:SS):Option bC:=match X.find? fun g=>decide (g.name=a)with
 |none=>none
 |some g=>g.gs.find? fun x=>decide (x.r.name=b)
theorem zq5{α:Type}{p:α->Bool}{l:List α}(a:i<l.length)(h:p l[i]=true)(b:∀ k (d:k<i),p (l[k]'om)=false):l.find? p=some l[i]:=by rw[List.find?_eq_some_iff_getElem];exact⟨h,i,a,rfl,fun j c=>by rw[b j c];rfl⟩
theorem zq4{α:Type}{p:α->Bool}{l:List α}(b:∀ k (c:k<l.length),p (l[k])=false):l.find? p=none:=by rw[List.find?_eq_none];intro x a;obtain⟨i,d,rfl⟩:=lOO a;simp_all
theorem qvi{O:Ev.Call}{H:Hp}{sb:Nat}{sv:AV}{X:List aQ}(g:cZ H sv X)(s:X.length<1000000)(d:H.get sb=aB 0 [sv])(a:SS){Q:pS}{q:pL}{qr:pH}(j:∀ i (t:i<X.length),X[i].name=a->(∀k (e:k<i),X[k].name≠a)->Ok (qr (iN i) H) Q)(l:(∀k (e:k<X.length),X[k].name≠a)->Ok (q H) Q):∀(k i:Nat),i<=X.length->X.length-i<k->(∀k (e:k<i) (f:k<X.length),X[k].name≠a)->Ok (za8 O qr q a.v (.ptr sb 0) k (iN i) H) Q
 |0,i,_,h,_=>om
 |k+1,i,t,e,hn=>by
  show Ok (zky O _ _ _ _ (za8 O _ _ _ _ k) _ H) Q;unfold zky;have f:=g.rs.len;by_cases c:i<X.length
  ·simp only[go_sem,d,f,c];unfold zkw;obtain⟨b,o,r,y,_,_,w⟩:=g.rs.at' i c;have p:bI (H.get b) o=.val (.str X[i].name.n X[i].name.a):=w 0 (by rw[qee];omega);unfold SS.v;by_cases h:X[i].name.n=a.n/\X[i].name.a=a.a
   ·have v:=lO5 h;simp only[go_sem,d,r,p,v];exact j i c ((o8 _ _).2 h) fun k e=>hn k e om
   ·simp only[go_sem,d,r,p,h];unfold z1r;simp(disch:=go_size)only[go_sem,rB,rI,rK,rL,rN,rS,r8];refine qvi g s d a j l k (i+1) om om fun m n f=>?_;by_cases x:m=i
    ·subst x;exact fun u=>h ((o8 _ _).1 u)
    ·exact hn m om f
  ·simp only[go_sem,d,f,c];exact l fun m n=>hn m om n
theorem zzx(d:aU C)(b:1<=k)(e:cZ H sv X)(l:X.length<1000000)(a:SS):Ok (C k (.f 52) [.agg [sv],a.v] H) fun r H'=>Fm No H H'/\((∃i,∃c:i<X.length,r=iN i/\X.find? (fun g=>decide (g.name=a))=some X[i])\/(r=.int .i64 (.negSucc 0)/\X.find? (fun g=>decide (g.name=a))=none)):=by
 obtain⟨j,rfl⟩:=aT b;rw[(d j).zBs];unfold zBs z6j;simp only[go_sem];have f:Fm No H (aK H (aB 0 [sv])):=by exact kW
 unfold z1s;rw[dD];refine qvi (e.fm f) l (jQ _ _) a (fun i c m n=>?_) (fun h=>?_) bZ 0 (lEV _) lf (fun k b=>om)
 ·refine Ok.ret ⟨f,.inl ⟨i,c,rfl,zq5 c (by simpa using m) fun k b=>by simpa using n k b⟩⟩
 ·unfold zkx;refine Ok.ret ⟨f,.inr ⟨rfl,zq4 fun k b=>by simpa using h k b⟩⟩
def q23:List AV:=[.str 0 0,.aA,.int .u8 (.ofNat 0),.str 0 0,.str 0 0,.aA]
def q9a(X:List aQ)(a b:SS)(r:AV):Prop:=match qY X a b with
 |some g=>r=.bB [.agg (iK g),.bool true]
 |none=>r=.bB [.agg q23,.bool false]
theorem q3o{O:Ev.Call}{H:Hp}{sb rb:Nat}{sv:AV}{X:List aQ}(l:cZ H sv X){s:Nat}(n:s<X.length)(c:H.get sb=aB 0 [sv])(v:X[s].gs.length<1000000)(e:H.get rb=aB 0 q23)(b:SS){Q:pS}{q:pL}{qr:pH}(p:∀ g,X[s].gs.find? (fun x=>decide (x.r.name=b))=some g->Ok (qr (.bool true) (H.put rb (aB 0 (iK g)))) Q)(r:X[s].gs.find? (fun x=>decide (x.r.name=b))=none->Ok (q H) Q):∀(k i:Nat),i<=X[s].gs.length->X[s].gs.length-i<k->(∀k (o:k<i) (d:k<X[s].gs.length),X[s].gs[k].r.name≠b)->Ok (q0y O qr q b.v (.ptr sb 0) (.ptr rb 0) (iN s) k (iN i) H) Q
 |0,i,_,h,_=>om
 |k+1,i,hi,o,hn=>by
  show Ok (q00 O _ _ _ _ _ _ (q0y O _ _ _ _ _ _ k) _ H) Q;unfold q00;obtain⟨z,A,j,C,_,_,B⟩:=l.rs.at' s n;have f:bI (H.get z) (A+1)=.val X[s].rv:=B 1 (by rw[qee];omega);have u:=l.sp _ (lEQ n);have d:=u.len;by_cases a:i<X[s].gs.length
  ·simp only[go_sem,c,j,f,d,a,lEV];unfold zlw;obtain⟨D,E,g1,g2,g3,g4,g5,g6⟩:=u.at' i a;unfold SS.v;by_cases h:X[s].gs[i].r.name.n=b.n/\X[s].gs[i].r.name.a=b.a
   ·have y:=lO5 h;simp only[go_sem,c,j,f,g1,g3,y,g6];simp only[go_sem,e];refine p X[s].gs[i] (zq5 a (by simpa using (o8 _ _).2 h) fun k o=>by simpa using hn k o om)
   ·simp only[go_sem,c,j,f,g1,g3,h];unfold z11;simp(disch:=go_size)only[go_sem,rB,rI,rK,rL,rN,rS,r8];refine q3o l n c v e b p r k (i+1) om om fun m t d=>?_;by_cases e:m=i
    ·subst e;exact fun w=>h ((o8 _ _).1 w)
    ·exact hn m om d
  ·simp only[go_sem,c,j,f,d,a,lEV];exact r (zq4 fun m t=>by simpa using hn m om t)
theorem qsr(n:aU C)(o:2<=k)(p:cZ H sv X)(s:X.length<1000000)(q:∀ g∈X,g.gs.length<900000)(a b:SS):Ok (C k (.f 18) [.agg [sv],a.v,b.v] H) fun r H'=>Fm No H H'/\q9a X a b r:=by
 obtain⟨j,rfl⟩:=aT o;rw[(n j).zAy];unfold zAy z7a;simp(disch:=first|go_size|omega)only[go_sem,seval];have f:Fm No H (aK (aK H (aB 0 [sv])) (aB 0 q23)):=by exact xE
 refine Ok.ve (zzx n (k:=j) om (p.fm f) s a) ?_;rintro r H1 ⟨c,h⟩;have v:=c.nx;have t:H1.get H.nx=aB 0 [sv]:=(c.keep g1).trans g6;have e:H1.get (H.nx+1)=aB 0 q23:=(c.keep gz).trans g5;unfold z13;obtain⟨m,u⟩:∃ m,bZ=m+1:=⟨999999,by rw[yR]⟩;unfold q9a qY;have fin:Ok (zbb (C j) (.ptr (H.nx+1) 0) H1) fun r H'=>Fm No H H'/\r=.bB [.agg q23,.bool false]:=by unfold zbb;unfold q23 at e ⊢;simp only[go_sem,seval,e];exact Ok.ret ⟨(f.trans c).aH _ _ om,rfl⟩
 rcases h with⟨i,l,rfl,h⟩|⟨rfl,h⟩
 ·rw[dD,h];refine q3o ((p.fm f).fm c) l t (by have:=q _ (lEQ l);omega) e b (fun g d=>?_) (fun d=>?_) bZ 0 (lEV _) (by have:=q _ (lEQ l);rw[yR];omega) (fun k o=>om)
  ·simp only;rw[d];simp only[go_sem];exact Ok.ret ⟨(f.trans c).aH _ _ om,rfl⟩
  ·simp only;rw[d];exact fin
 ·rw[dD,u,h];show Ok (q00 (C j) _ _ _ _ _ _ (q0y (C j) _ _ _ _ _ _ m) _ H1) _;unfold q00;simp only[go_sem];exact fin
def pC(p:SS×SS):List AV:=[p.1.v,p.2.v]
theorem qjx(p:SS×SS):(pC p).length=2:=rfl
def aF(X:List aQ):List (SS×SS):=X.flatMap fun g=>g.gs.map fun x=>(g.name,x.r.name)
structure xI(X:List aQ):Prop where
 n:X.length<=100
 r:∀ g∈X,g.gs.length<=100
 t:∀ g∈X,∀x∈g.gs,x.r.types.length<=100
theorem xI.all(h:xI X):∀ i,((X.take i).flatMap fun g=>g.gs.map fun x=>(g.name,x.r.name)).length<=10000:=fun i=>by
 have c:∀ l:List aQ,(∀g∈l,g.gs.length<=100)->(l.flatMap fun g=>g.gs.map fun x=>(g.name,x.r.name)).length<=100*l.length:=by
  intro l
  induction l with
  |nil=>intro _;simp
  |cons a l ih=>intro h;rw[lIQ,lEP,lET,lEX];have:=ih fun g b=>h g (lIS _ b);have:=h a lIH;omega
 have d:=c (X.take i) fun g b=>h.r g (lUG b);have e:(X.take i).length<=X.length:=by rw[lI6];omega
 have:=h.n;omega
theorem q4b{O:Ev.Call}{H0:Hp}{sb:Nat}{sv:AV}{X:List aQ}(l:cZ H0 sv X)(m:xI X)(n:H0.get sb=aB 0 [sv])(c:sb<H0.nx){s:Nat}(e:s<X.length){A:List (SS×SS)}(v:A.length<=1000000){Q:pS}{q:pH}(y:∀ w H,Ac 2 pC H0 H w (A++X[s].gs.map fun x=>(X[s].name,x.r.name))->Ok (q w H) Q):∀(k i:Nat) (w:AV) (H:Hp),i<=X[s].gs.length->X[s].gs.length-i<k->Ac 2 pC H0 H w (A++(X[s].gs.take i).map fun x=>(X[s].name,x.r.name)) -> Ok (zbq O q (.ptr sb 0) (iN s) k w (iN i) H) Q
 |0,i,_,_,_,h,_=>om
 |k+1,i,w,H,hi,hk,hw=>by
  show Ok (zm1 O _ _ _ (zbq O _ _ _ k) _ _ H) Q;unfold zm1;have d:=l.fm hw.fm;have b:=(hw.fm.keep c).trans n;obtain⟨r,t,g,G,_,_,u⟩:=d.rs.at' s e;have z:bI (H.get r) t=.val (.str X[s].name.n X[s].name.a):=u 0 (by rw[qee];omega);have f:bI (H.get r) (t+1)=.val X[s].rv:=u 1 (by rw[qee];omega);have o:=d.sp _ (lEQ e);have p:=o.len;have E:=m.r _ (lEQ e);by_cases a:i<X[s].gs.length
  ·simp only[go_sem,b,g,f,p,a];unfold zmz;obtain⟨I,J,g1,g2,g3,_,_,_⟩:=o.at' i a;have B:(A++(X[s].gs.take i).map fun x=>(X[s].name,x.r.name)).length<=1001000:=by
    rw[lEP,lET,lI6];omega
   simp only[go_sem,seval,b,g,z,f,g1,g3];refine Ok.iR ((hw.no (by(repeat(first|exact Fm.refl _ _|assumption|refine Fm.push ?_ _|refine Fm.up2 ?_ (by go_size)|refine Fm.aH ?_ _ _ (by go_size))))).add (X[s].name,X[s].gs[i].r.name) 32 rfl (by omega) (by omega)) ?_;intro C D j;unfold z2f;simp(disch:=go_size)only[go_sem,rB,rI,rK,rL,rN,rS,r8];refine q4b l m n c e v y k (i+1) C D om om ?_;rw[lER a,lID,lOD,<-lI5];exact j
  ·simp only[go_sem,b,g,f,p,a];have F:i=X[s].gs.length:=om;simp_all
theorem zd9{O:Ev.Call}{H0:Hp}{sb:Nat}{sv:AV}{X:List aQ}(e:cZ H0 sv X)(c:xI X)(f:H0.get sb=aB 0 [sv])(b:sb<H0.nx){Q:pS}{q:pH}(m:∀ w H,Ac 2 pC H0 H w (aF X)->Ok (q w H) Q):∀(k i:Nat) (w:AV) (H:Hp),i<=X.length->X.length-i<k->Ac 2 pC H0 H w ((X.take i).flatMap fun g=>g.gs.map fun x=>(g.name,x.r.name)) -> Ok (q04 O q (.ptr sb 0) k w (iN i) H) Q
 |0,i,_,_,_,h,_=>om
 |k+1,i,w,H,hi,hk,hw=>by
  show Ok (zm2 O _ _ (q04 O _ _ k) _ _ H) Q;unfold zm2;have s:=c.n;have l:=e.fm hw.fm;have d:=(hw.fm.keep b).trans f;have n:=l.rs.len;by_cases a:i<X.length
  ·simp only[go_sem,d,n,a];unfold zmy z2g;rw[dD];have t:=c.r _ (lEQ a);refine q4b e c f b a (lI7 (c.all i) om) (fun o p j=>?_) bZ 0 w H (lEV _) lf (by simpa using hw);unfold zmx;simp(disch:=go_size)only[go_sem,rB,rI,rK,rL,rN,rS,r8];refine zd9 e c f b m k (i+1) o p om om ?_;rw[lER a,lIC,lIE];exact j
  ·simp only[go_sem,d,n,a];have r:i=X.length:=om;rw[r,lIN]at hw;exact m w H hw
theorem zeg(b:aU C)(c:1<=k)(d:cZ H sv X)(a:xI X):Ok (C k (.f 7) [.agg [sv]] H) fun r H'=>Ac 2 pC H H' r (aF X):=by
 obtain⟨j,rfl⟩:=aT c;rw[(b j).zAh];unfold zAh z7p;simp only[go_sem];have f:Fm No H (aK H (aB 0 [sv])):=by exact kW
 have h:=a.n;unfold z2h;rw[dD];refine zd9 (d.fm f) a (jQ _ _) gx (fun w g e=>?_) bZ 0 .aA _ (lEV _) lf (Ac.nil _ _ (Fm.refl _ _));exact Ok.ret (e.trans f)
def bD(X:List aQ)(a b:SS):Nat:=(aF X).findIdx fun p=>decide (p=(a,b))
theorem zc5{O:Ev.Call}{H:Hp}{v:AV}{l:List (SS×SS)}(j:Rs 2 pC H v l)(a b:SS){Q:pS}{q:pL}{qr:pH}(B:l.findIdx (fun p=>decide (p=(a,b)))<l.length->Ok (qr (iN ((l.findIdx fun p=>decide (p=(a,b))))) H) Q)(u:(a,b)∉l->Ok (q H) Q)(n:l.length<=1000000000):∀(k i:Nat),i<=l.length->l.length-i<k->(∀m (_:m<i) (d:m<l.length),l[m]≠(a,b))->Ok (q02 O qr q a.v b.v v k (iN i) H) Q
 |0,i,_,h,_=>om
 |k+1,i,hi,hk,hn=>by
  show Ok (zmq O _ _ _ _ _ (q02 O _ _ _ _ _ k) _ H) Q;unfold zmq;have d:=j.len;have next:i<l.length->l[i]? ≠ some (a,b)->Ok (zmn O (q02 O qr q a.v b.v v k) (iN i) H) Q:=fun c C=>by
   unfold zmn;simp(disch:=go_size)only[go_sem,rB,rI,rK,rL,rN,rS,r8];refine zc5 j a b B u n k (i+1) om om fun m e d=>?_;by_cases A:m=i
   ·simp_all
   ·exact hn m om d
  by_cases c:i<l.length
  ·simp only[go_sem,d,c];unfold zmp;obtain⟨x,y,t,F,_,_,z⟩:=j.at' i c;have o:bI (H.get x) y=.val (.str l[i].1.n l[i].1.a):=z 0 (by rw[qjx];omega);have r:bI (H.get x) (y+1)=.val (.str l[i].2.n l[i].2.a):=z 1 (by rw[qjx];omega);unfold SS.v;by_cases f:l[i].1.n=a.n/\l[i].1.a=a.a
   ·have w:=lO5 f;by_cases g:l[i].2.n=b.n/\l[i].2.a=b.a
    ·have s:=lO5 g;simp only[go_sem,t,o,r,w,s];have D:l[i]=(a,b):=Prod.ext ((o8 _ _).2 f) ((o8 _ _).2 g);have E:l.findIdx (fun p=>decide (p=(a,b)))=i:=by
      rw[List.findIdx_eq c];simp_all
     simp_all
    ·simp only[go_sem,t,o,r,w,g];refine next c fun h=>g ?_
     simp_all
   ·simp only[go_sem,t,o,r,f];refine next c fun h=>f ?_
    simp_all
  ·simp only[go_sem,d,c];refine u fun e=>?_;obtain⟨m,e,A⟩:=lOO e;exact hn m om e A
theorem qkf(d:aU C)(g:2<=k)(i:cZ H sv X)(e:xI X)(a b:SS):Ok (C k (.f 21) [.agg [sv],a.v,b.v] H) fun r H'=>Fm No H H'/\((bD X a b<(aF X).length/\r=iN ((bD X a b)))\/((a,b)∉aF X/\r=.int .i64 (.negSucc 0))):=by
 obtain⟨j,rfl⟩:=aT g;rw[(d j).zAm];unfold zAm z7m;simp(disch:=omega)only[go_sem,seval];have f:Fm No H (aK H (aB 0 [sv])):=by exact kW
 refine Ok.ve (zeg d (k:=j) om (i.fm f) e) ?_;intro w H1 c;have l:(aF X).length<=10000:=by have:=e.all X.length;rwa [lIN]at this
 unfold z19;rw[dD];refine zc5 (c.rs qjx) a b (fun h=>?_) (fun h=>?_) om bZ 0 (lEV _) lf (fun m n=>om)
 ·exact Ok.ret ⟨f.trans c.fm,.inl ⟨h,rfl⟩⟩
 ·unfold zmo;exact Ok.ret ⟨f.trans c.fm,.inr ⟨h,rfl⟩⟩
def tgP(X:List aQ)(to:SS)(t:jX):Bool:=decide (t.rl=sE)&&(qY X t.sp to).isSome
def tgL(X:List aQ)(to:SS)(l:List jX):List SS:=(l.filter (tgP X to)).map jX.sp
def nP(X:List aQ)(a rel to:SS):List SS:=match qY X a rel with
 |none=>[]
 |some g=>tgL X to g.r.types
theorem qob(g:bC):∃ a b c d,iK g=[.str g.r.name.n g.r.name.a,g.tv,a,b,c,d]:=⟨_,_,_,_,rfl⟩
theorem qyr(X:List aQ)(to:SS)(l:List jX):(tgL X to l).length<=l.length:=by unfold tgL;rw[lET];exact lU2 _ _
theorem zb5(X:List aQ)(to:SS){l:List jX}(h:i<l.length):tgL X to (l.take (i+1))=tgL X to (l.take i)++if tgP X to l[i]then[l[i].sp]else[]:=by unfold tgL;rw[lER h,lU5,lID,lUN];split<;>simp
theorem qjp(B:aU C){j:Nat}(D:2<=j){H0:Hp}{sb rb:Nat}{sv tv c0 c2 c3 c4 c5:AV}{X:List aQ}(E:cZ H0 sv X)(y:xI X)(F:H0.get sb=aB 0 [sv])(n:sb<H0.nx)(G:H0.get rb=aB 0 [c0,tv,c2,c3,c4,c5])(o:rb<H0.nx){ts:List jX}(I:Rs 2 tC H0 tv ts)(s:ts.length<=1000)(to:SS){Q:pS}{q:pH}(S:∀ w H,Ac 1 sC H0 H w (tgL X to ts)->Ok (q w H) Q):∀(k i:Nat) (w:AV) (H:Hp),i<=ts.length->ts.length-i<k->Ac 1 sC H0 H w (tgL X to (ts.take i)) -> Ok (qqd (C j) q to.v (.ptr sb 0) (.ptr rb 0) k w (iN i) H) Q
 |0,i,_,_,_,h,_=>om
 |k+1,i,w,H,hi,hk,hw=>by
  show Ok (zlt (C j) _ _ _ _ (qqd (C j) _ _ _ _ k) _ _ H) Q;unfold zlt;have L:=E.fm hw.fm;have M:=(hw.fm.keep n).trans F;have d:=(hw.fm.keep o).trans G;have t:=I.fm hw.fm;have T:=t.len;have nx1:=hw.fm.nx;have hn:=y.n;by_cases l:i<ts.length
  ·simp only[go_sem,d,T,l];rw[qul];unfold qnj;obtain⟨z,A,u,Y,_,_,Z⟩:=t.at' i l;have U:bI (H.get z) A=.val (.str ts[i].sp.n ts[i].sp.a):=Z 0 (by rw[qfx];omega);have r1:bI (H.get z) (A+1)=.val (.str ts[i].rl.n ts[i].rl.a):=Z 1 (by rw[qfx];omega);simp only[go_sem,seval,d,M,u,U];have V:Fm No H ⟨H.t,H.nx+15⟩:=fm;refine Ok.iR (qsr B (k:=j) D (L.fm V) om (fun g hg=>by have:=y.r g hg;omega) ts[i].sp to) ?_;rintro r H2 ⟨f2,b⟩;have p:=V.trans f2;have hs:=zb5 X to l;have N:=qyr X to (ts.take i);rw[lI6]at N;have a:∀ m,Fm No H m->tgP X to ts[i]=false->Ok (qku (C j) (qqd (C j) q to.v (.ptr sb 0) (.ptr rb 0) k) w (iN i) m) Q:=fun m J h=>by
    unfold qku;simp(disch:=go_size)only[go_sem,rB,rI,rK,rL,rN,rS,r8];refine qjp B D E y F n G o I s to S k (i+1) w m om om ?_;rw[hs,h];simpa using hw.no J
   have c:∀ m,Fm No H m->tgP X to ts[i]=true->Ok (ve (kJ 1 16 (aK m (aB 0 [.str ts[i].sp.n ts[i].sp.a])) w (some ⟨1,[.str ts[i].sp.n ts[i].sp.a]⟩)) fun K H=>qku (C j) (qqd (C j) q to.v (.ptr sb 0) (.ptr rb 0) k) K (iN i) H) Q:=fun m J h=>by refine Ok.ve ((hw.no (J.trans (by exact kW))).add ts[i].sp 16 rfl om om) ?_;intro w4 H4 hw4;unfold qku;simp(disch:=go_size)only[go_sem,rB,rI,rK,rL,rN,rS,r8];refine qjp B D E y F n G o I s to S k (i+1) w4 H4 om om ?_;simp_all
   unfold q9a at b;have e:=(p.keep om).trans d;have O:bI (H2.get z) A=.val (.str ts[i].sp.n ts[i].sp.a):=by rw[p.keep Y];exact U
   have f:bI (H2.get z) (A+1)=.val (.str ts[i].rl.n ts[i].rl.a):=by rw[p.keep Y];exact r1
   unfold tgP at a c;by_cases v:ts[i].rl.n=0/\ts[i].rl.a=0
   ·have P:ts[i].rl=sE:=(o8 _ _).2 v;have W:=lO5 v;rw[lI9 P]at a c;cases x:qY X ts[i].sp to with
    |none=>rw[x]at b a;subst b;unfold q23;simp(disch:=omega)only[go_sem,seval,e,u,f,W];exact a _ (((p.aH (H.nx+12) _ om)).aH (H.nx+12) _ om) rfl
    |some g=>rw[x]at b c;subst b;obtain⟨d2,d3,d4,d5,R⟩:=qob g;rw[R];simp(disch:=go_size)only[go_sem,seval,e,u,O,f,W];exact c _ (((p.aH (H.nx+12) _ om)).aH (H.nx+12) _ om) rfl
   ·rw[lIF (fun h=>v ((o8 _ _).1 h))]at a;cases x:qY X ts[i].sp to with
    |none=>rw[x]at b a;subst b;unfold q23;simp(disch:=omega)only[go_sem,seval,e,u,f,v];exact a _ (((p.aH (H.nx+12) _ om)).aH (H.nx+12) _ om) rfl
    |some g=>rw[x]at b a;subst b;obtain⟨d2,d3,d4,d5,R⟩:=qob g;rw[R];simp(disch:=omega)only[go_sem,seval,e,u,f,v];exact a _ (((p.aH (H.nx+12) _ om)).aH (H.nx+12) _ om) rfl
  ·simp only[go_sem,d,T,l];have he:i=ts.length:=om;simp_all
theorem qwf(n:aU C)(x:3<=k)(o:cZ H sv X)(l:xI X)(a b to:SS):Ok (C k (.f 45) [.agg [sv],a.v,b.v,to.v] H) fun r H'=>Ac 1 sC H H' r (nP X a b to):=by
 obtain⟨j,rfl⟩:=aT x;rw[(n j).zBb];unfold zBb z6y;simp(disch:=omega)only[go_sem,seval];have f:Fm No H (aK H (aB 0 [sv])):=by exact kW
 have I:=l.n;refine Ok.ve (qsr n (k:=j) om (o.fm f) om (fun g q=>by have:=l.r g q;omega) a b) ?_;rintro r e ⟨t,c⟩;have z:=t.nx;simp only[np]at z;have m:=f.trans t;have u:e.get H.nx=aB 0 [sv]:=(t.keep gx).trans (jQ _ _);unfold q9a at c;unfold nP;cases i:qY X a b with
 |none=>
  rw[i]at c;subst c;simp(disch:=omega)only[go_sem,seval];have d:Fm No e ((aK e (aB 0 [.str 0 0,.aA,.int .u8 (.ofNat 0),.str 0 0,.str 0 0,.aA])).put e.nx (aB 0 [.str 0 0,.aA,.int .u8 (.ofNat 0),.str 0 0,.str 0 0,.aA])):=by exact jW
  unfold zlu;rw[dD];refine qjp n om (o.fm (m.trans d)) l ((d.keep om).trans u) gz (dL _ _ _) gz (Rs.nil 2 tC _) g3 to (fun w y s=>?_) bZ 0 .aA _ (lEV _) (by rw[yR];simp) (Ac.nil _ _ (Fm.refl _ _));exact Ok.ret (s.trans (m.trans d))
 |some g=>
  rw[i]at c;subst c;obtain⟨B,D,E,F,G⟩:=qob g;rw[G];simp(disch:=omega)only[go_sem,seval];have d:Fm No e ((aK e (aB 0 [.str 0 0,.aA,.int .u8 (.ofNat 0),.str 0 0,.str 0 0,.aA])).put e.nx (aB 0 [.str g.r.name.n g.r.name.a,g.tv,B,D,E,F])):=by exact jW
  unfold zlu;rw[dD];obtain⟨p,v,q⟩:∃ p∈X,g∈p.gs:=by
   unfold qY at i;cases h:X.find? fun g=>decide (g.name=a)with
   |none=>rw[h]at i;cases i
   |some p=>rw[h]at i;exact⟨p,lOP h,lOP i⟩
  have A:=l.t p v g q;refine qjp n om (o.fm (m.trans d)) l ((d.keep om).trans u) gz (dL _ _ _) gz ((((o.sp p v).rel g q).ty).fm (m.trans d)) om to (fun w y s=>?_) bZ 0 .aA _ (lEV _) lf (Ac.nil _ _ (Fm.refl _ _));exact Ok.ret (s.trans (m.trans d))
theorem zyq(a:aU C)(b:1<=k)(n:Int)(H:Hp):C k (.f 159) [.int .i64 n] H=.ok (.bool false) H:=by obtain⟨j,rfl⟩:=aT b;rw[(a j).zDc];unfold zDc z5k;simp only[go_sem]
def jD(a b:Int):Int:=if a<b then -1 else if b<a then 1 else 0
theorem qzw(c:aU C)(e:2<=k)(a b:Int)(H:Hp):C k (.f 144) [.int .i64 a,.int .i64 b] H=.ok (.int .i64 (jD a b)) H:=by
 obtain⟨j,rfl⟩:=aT e;rw[(c j).zCr];unfold zCr z5r;simp only[zyq c (show 1<=j by omega),go_sem];unfold z1c z1d z1e z1f jD;by_cases h:a<b
 ·simp only[h,go_sem];rfl
 ·by_cases d:b<a
  ·simp only[h,d,go_sem];rfl
  ·simp only[h,d,go_sem];rfl
def sgn(s:Bool):Int:=if s then 1 else 0
theorem z8j(c:aU C)(d:1<=k)(a b:AV)(s:Bool)(H:Hp):C k (.f 145) [.agg [a,b,.bool s]] H=.ok (.int .i64 (sgn s)) (aK H (aB 0 [a,b,.bool s])):=by obtain⟨j,rfl⟩:=aT d;rw[(c j).zCs];unfold zCs z5q z1b;cases s<;>simp(disch:=omega)only[go_sem,seval,Nat.beq]<;>rfl
def ints(l:List Int):List AV:=l.map (fun n=>.int .i64 n)
theorem zyr(l:List Int)(i:Nat)(h:i<l.length):(ints l)[i]? =some (.int .i64 l[i]):=by simp[ints,h]
def orI:List Int->Int
 | []=>0
 |x::l=>if x=0 then orI l else x
theorem zss{O:Ev.Call}{H:Hp}{b m:Nat}{e:Bool}{q:Nat}{l:List Int}(g:H.get b=aB q (ints l))(j:l.length<1000000):∀(k i:Nat),i<=l.length->l.length-i<k->za0 O (fun x2 H=>.ok x2 H) (fun H=>zju O (.int .i64 (.ofNat 0)) H) (.int .i64 (.ofNat 0)) (.sl b 0 l.length m e) (.int .i64 (.ofNat l.length)) k (.int .i64 (.ofNat i)) H=.ok (.int .i64 (orI (l.drop i))) H
 |0,i,_,h=>om
 |k+1,i,hi,hk=>by
  show zjv O _ _ _ _ _ (za0 O _ _ _ _ _ k) _ H=_;unfold zjv;by_cases a:i<l.length
  ·simp(disch:=omega)only[go_sem,a];unfold z08;have d:l.drop i=l[i]::l.drop (i+1):=lIU a;simp(disch:=omega)only[go_sem,g,zyr _ _ a];rw[d];show _=R1.ok (.int .i64 (if l[i]=0 then orI (l.drop (i+1))else l[i])) H;by_cases f:l[i]=Int.ofNat 0
   ·have c:l[i]=0:=f;simp only[c,go_sem];unfold z09;simp(disch:=omega)only[go_sem];exact zss g j k (i+1) om om
   ·have c:¬ l[i]=0:=f;simp only[f,c,go_sem]
  ·have d:l.drop i=[]:=lO0 om;simp(disch:=omega)only[go_sem,a];rw[d];rfl
theorem aOq(a:aU C)(c:1<=k){e:Bool}{q n:Nat}{l:List Int}(d:l.length=n)(f:H.get b=aB q (ints l))(g:l.length<1000000):C k (.f 100) [.sl b 0 n m e] H=.ok (.int .i64 (orI l)) H:=by obtain⟨j,rfl⟩:=aT c;subst d;rw[(a j).zCt];unfold zCt z5p z1a;simp only[go_sem];rw[dD];exact zss f g _ 0 (lEV _) lf
structure Edge where
 (f t:Nat)
 s:Bool
deriving DecidableEq
def Edge.cells(e:Edge):List AV:=[.int .i64 (.ofNat e.f),.int .i64 (.ofNat e.t),.bool e.s]
def uJ(x y:Edge):Int:=orI [jD (.ofNat x.f) (.ofNat y.f),jD (.ofNat x.t) (.ofNat y.t),jD (sgn x.s) (sgn y.s)]
theorem zf0(a:aU C)(b:3<=k)(x y:Edge)(H:Hp):Ok (C k (.f 122) [.agg x.cells,.agg y.cells] H) fun v H'=>v=.int .i64 (uJ x y)/\Fm No H H':=by obtain⟨j,rfl⟩:=aT b;rw[(a j).zBz];unfold zBz z6f Edge.cells;simp(disch:=first|go_size|omega)only[go_sem,seval,Nat.beq,qzw a (show 2<=j by omega),z8j a (show 1<=j by omega)];refine Ok.tT (aOq a (show 1<=j by omega) (l:=[jD (.ofNat x.f) (.ofNat y.f),jD (.ofNat x.t) (.ofNat y.t),jD (sgn x.s) (sgn y.s)]) rfl (dL _ _ _) g3) ?_;simp only[go_sem];exact Ok.ret ⟨rfl,fm⟩
def xd5(es:List Edge):List AV:=(es.map Edge.cells).flatten
structure qdy(n:Nat)(es:List Edge):Prop where
 rng:∀ e∈es,e.f<n/\e.t<n
 ord:∀ i,(h:i+1<es.length)->uJ es[i] es[i+1]<0
theorem q8t(a b:Int)(k:IntKind):qO oO (.int k a) [.int k b]=.val (.int k (min a b)):=by
 show R0.val (.int k (bif p9 b a then b else a))=_;rw[qd4];by_cases h:b<a
 ·rw[lI9 h,Int.min_eq_right om];rfl
 ·rw[lIF h,Int.min_eq_left om];rfl
theorem q8u(a b:Int)(k:IntKind):qO pZ (.int k a) [.int k b]=.val (.int k (max a b)):=by
 show R0.val (.int k (bif p9 a b then b else a))=_;rw[qd4];by_cases h:a<b
 ·rw[lI9 h,Int.max_eq_right om];rfl
 ·rw[lIF h,Int.max_eq_left om];rfl
structure kX(H:Hp)(v:AV)(es:List Edge):Prop where
 flat:rH v=true
 len:aD v=.val (.int .i64 (.ofNat es.length))
 lt':∀ b,In v b->b<H.nx
 at':∀(i:Nat) (hi:i<es.length),∃b o,aG 3 v (.int .i64 (.ofNat i))=.val (.ptr b o)/\b<H.nx/\iF (H.get b) o 3=some es[i].cells
theorem kX.at{v:AV}{es:List Edge}(h:kX H v es)(a:i<es.length):∃ b o,aG 3 v (.int .i64 (.ofNat i))=.val (.ptr b o)/\b<H.nx/\iF (H.get b) o 3=some es[i].cells:=h.at' i a
theorem kX.fm{v:AV}{es:List Edge}(h:kX H v es)(a:Fm No H H'):kX H' v es:=⟨h.flat,h.len,fun b d=>af (h.lt' b d) a.nx,fun i e=>by obtain⟨b,o,f,c,g⟩:=h.at' i e;exact⟨b,o,f,af c a.nx,by rw[a.keep c];exact g⟩⟩
theorem xdr{z i b o:Nat}{v:AV}(h:aG z v (.int .i64 (.ofNat i))=.val (.ptr b o)):In v b:=by
 cases v with
 |sl b' o' n m e=>
  have h:(bif Nat.blt i n then R0.val (.ptr b' (o'+i*z))else .bad)=.val (.ptr b o):=h;cases a:Nat.blt i n with
  |true=>rw[a]at h;cases h;exact⟨_,_,_,_,rfl⟩
  |false=>rw[a]at h;cases h
 |_=>cases h
theorem kX.keep{v:AV}{es:List Edge}(h:kX H v es)(a:H.nx<=H'.nx)(e:∀ b,In v b->b<H.nx->H'.get b=H.get b):kX H' v es:=⟨h.flat,h.len,fun b f=>af (h.lt' b f) a,fun i g=>by obtain⟨b,o,c,d,j⟩:=h.at' i g;exact⟨b,o,c,af d a,by rw[e b (xdr c) d];exact j⟩⟩
theorem kX.lt{v:AV}{es:List Edge}(h:kX H v es)(a:In v b):b<H.nx:=h.lt' b a
theorem Gl.flat{v:AV}(h:Gl z H v n l):rH v=true:=by rcases h.is with⟨rfl,rfl⟩|⟨b,o,e,q,L,rfl,_⟩<;>rfl
theorem kX.oD{v:AV}{es:List Edge}(h:kX H v es):oD 64 v v=true:=qP h.flat 63
theorem qls(r:aU C){j:Nat}(s:3<=j){n:Nat}{es:List Edge}(o:qdy n es){v:AV}{g:Nat}{H0:Hp}(c:es.length<1000000){Q:pS}{w:pL}(t:∀ H,Fm No H0 H->Ok (w H) Q):∀(k i:Nat) (H:Hp),i<=es.length->es.length-i<k->kX H v es->g<H.nx->H.get g=aB 0 [.int .i64 (.ofNat n),v]->Fm No H0 H -> Ok (za5 (C j) (fun x2 H=>.ok x2 H) w (.ptr g 0) v (.int .i64 (.ofNat es.length)) k (.int .i64 (.ofNat i)) H) Q
 |0,i,_,_,h,_,_,_,_=>om
 |k+1,i,H,hi,hk,hv,hg1,hg2,hf=>by
  show Ok (zke (C j) _ _ _ _ _ (za5 (C j) _ _ _ _ _ k) _ H) Q;unfold zke;by_cases a:i<es.length
  ·obtain⟨b,J,y,K,z⟩:=hv.at a;have I:=o.rng es[i] (lEQ a);simp only[go_sem,a];unfold zkd xbk;have d:(min (Int.ofNat es[i].f) (Int.ofNat es[i].t)<Int.ofNat 0)=False:=by simp only[lIA,eq_iff_iff,iff_false];omega
   have e:(Int.ofNat n<=max (Int.ofNat es[i].f) (Int.ofNat es[i].t))=False:=by simp only[lIA,eq_iff_iff,iff_false];omega
   by_cases A:0<i
   ·obtain⟨p,rfl⟩:∃ p,i=p+1:=⟨i-1,om⟩;obtain⟨E,F,u,G,m⟩:=hv.at (show p<es.length by omega);have l:=hv.oD;simp(disch:=go_size)only[go_sem,rB,rI,rK,rL,rN,rS,r8,y,z,Edge.cells,q8t,q8u,d,e,hg2,A,u,m,lX3];refine Ok.iR (zf0 r s es[p] es[p+1] _) ?_;rintro L H' ⟨rfl,q⟩;have x:H'.get g=aB 0 [.int .i64 (.ofNat n),v]:=(q.keep gz).trans (by simp(disch:=omega)only[go_sem,seval,hg2]);have k2:iF (H'.get E) F 3=some es[p].cells:=by rw[q.keep gz];simp(disch:=omega)only[go_sem,seval,m]
    have B:H'.get H.nx=aB 0 es[p+1].cells:=(q.keep gx).trans (by simp only[go_sem,seval,Edge.cells]);have D:(Int.ofNat 0<=uJ es[p] es[p+1])=False:=by have:=o.ord p a;simp_all
    simp only[go_sem,x,k2,B,l,Edge.cells,D];unfold zkb;simp(disch:=go_size)only[go_sem,rB,rI,rK,rL,rN,rS,r8];have f:Fm No H H':=by refine Fm.trans ?_ q;exact jW
    exact qls r s o c t k (p+1+1) H' om om (hv.fm f) (af hg1 f.nx) x (hf.trans f)
   ·simp(disch:=go_size)only[go_sem,rB,rI,rK,rL,rN,rS,r8,y,z,Edge.cells,q8t,q8u,d,e,hg2,A];unfold zkb;simp(disch:=go_size)only[go_sem,rB,rI,rK,rL,rN,rS,r8];have f:Fm No H ((aK H (aB 0 [.int .i64 (.ofNat 0),.int .i64 (.ofNat 0),.bool false])).put H.nx (aB 0 [.int .i64 (.ofNat es[i].f),.int .i64 (.ofNat es[i].t),.bool es[i].s])):=by exact jW
    exact qls r s o c t k (i+1) _ om om (hv.fm f) (af hg1 f.nx) ((f.keep hg1).trans hg2) (hf.trans f)
  ·simp only[go_sem,a];exact t H hf
theorem z0c(b:aU C)(e:4<=k){es:List Edge}(f:qdy n es)(i:n<=256)(a:es.length<1000000){v:AV}(c:kX H v es):Ok (C k (.f 126) [.agg [.int .i64 (.ofNat n),v]] H) fun r H'=>r=.int .i64 (.ofNat 0)/\Fm No H H':=by
 obtain⟨j,rfl⟩:=aT e;rw[(b j).zCd];unfold zCd z6c;have h:(256<n)=False:=by simp only[eq_iff_iff,iff_false];omega
 simp(disch:=go_size)only[go_sem,rB,rI,rK,rL,rN,rS,r8,h,lUD];unfold zkc z1l;have d:Fm No H (aK H (aB 0 [.int .i64 (.ofNat n),v])):=by exact kW
 simp(disch:=go_size)only[go_sem,rB,rI,rK,rL,rN,rS,r8,c.len];rw[dD];refine qls b om f a (fun H g=>?_) _ 0 _ (lEV _) lf (c.fm d) gz (jQ _ _) d;exact Ok.ret ⟨rfl,g⟩
def aI(l:List Nat):List AV:=l.map (fun n=>.int .i64 (.ofNat n))
theorem ints_set(l:List Int)(i:Nat)(n:Int)(h:i<l.length):aY (ints l) i [.int .i64 n]=ints (l.set i n):=by
 unfold aY ints;apply lXX
 ·simp;omega
 ·intro j b c;simp only[lUT,lXY];by_cases d:j<i
  ·rw[lXH g2,lXH g2];simp[show ¬i=j by omega]
  ·by_cases a:i=j
   ·subst a;simp[lOE (lON h)]
   ·rw[List.getElem_append_right g2];simp[a,lOE (lON h)];congr 2;omega
theorem q3e(l:List Nat):ints (l.map Int.ofNat)=aI l:=by unfold ints aI;rw[lUK];rfl
theorem Gl.at{v:AV}(h:Gl 1 H v n l){x:AV}(a:l[i]? =some x):∃ b o,aG 1 v (.int .i64 (.ofNat i))=.val (.ptr b o)/\b<H.nx/\In v b/\bI (H.get b) o=.val x:=by
 have g:=h.len;have j:i<l.length:=by
  rcases lOI i l.length with h|h
  ·exact h
  ·simp_all
 rcases h.is with⟨rfl,rfl⟩|⟨b,o,e,q,L,rfl,c,k,d,m,f⟩
 ·omega
 ·refine⟨b,o+i,?_,f,⟨_,_,_,_,rfl⟩,?_⟩
  ·rw[uY _ _ _ _ _ _ _ _ om,lI1]
  ·have:L[o+i]? =some x:=by rw[<-lU1,d];exact a
   rw[c,qb3,this]
theorem Gl.clip{v:AV}(h:Gl z H v n l):∃ w,lC z v none (some (.int .i64 (.ofNat n))) (some (.int .i64 (.ofNat n)))=.val w/\Gl z H w n l/\dA w=.val (.int .i64 (.ofNat n))/\(∀b,In w b->In v b):=by
 rcases h.is with⟨rfl,rfl⟩|⟨b,o,e,q,L,rfl,f,g,i,r,j⟩
 ·exact⟨.aA,rfl,h,rfl,fun b h=>h⟩
 ·have p:lC z (.sl b o n n e) none (some (.int .i64 (.ofNat n))) (some (.int .i64 (.ofNat n)))=jF b o z ⟨0,n,n⟩ true:=by
   show(match bounds n n none (some (.int .i64 (.ofNat n))) (some (.int .i64 (.ofNat n)))with|some bd=>jF b o z bd true|none=>R0.bad)=_;have:bounds n n none (some (.int .i64 (.ofNat n))) (some (.int .i64 (.ofNat n)))=some ⟨0,n,n⟩:=by show(match(bif Nat.ble n n then some n else none)with|none=>none|some m=>match(bif Nat.ble n m then some n else none)with|none=>none|some h=>match(some 0:Option Nat)with|none=>none|some l=>some (Bd.mk l h m))=_;rw[ble_eq,lI9 (lEO n)];simp only[lII,ble_eq,lI9 (lEO n)]
   rw[this]
  rw[p];unfold jF;simp only[beq_eq];by_cases k:n=0
  ·subst k;exact⟨.sl b o 0 0 true,rfl,⟨h.len,.inr ⟨b,o,true,q,L,rfl,f,g,i,.inl rfl,j⟩⟩,rfl,fun c a=>by obtain⟨_,_,_,_,d⟩:=a;cases d;exact⟨_,_,_,_,rfl⟩⟩
  ·rw[lIF k];refine⟨.sl b o n n true,?_,⟨h.len,.inr ⟨b,o,true,q,L,rfl,f,g,i,.inl rfl,j⟩⟩,rfl,fun c a=>by obtain⟨_,_,_,_,d⟩:=a;cases d;exact⟨_,_,_,_,rfl⟩⟩;simp
theorem qz1(a:aU C)(c:1<=k){v:AV}(h:Gl 1 H v n l):∃w,C k (.f 88) [v] H=.ok w H/\Gl 1 H w n l/\dA w=.val (.int .i64 (.ofNat n))/\(∀b,In w b->In v b):=by obtain⟨j,rfl⟩:=aT c;obtain⟨w,e,d,f,g⟩:=h.clip;refine⟨w,?_,d,f,g⟩;rw[(a j).zBd];unfold zBd zv7;simp only[go_sem,h.aX,e]
theorem zye(l:List Nat):(aI l).length=l.length:=by simp[aI]
theorem qoe(l:List Nat)(i:Nat)(h:i<l.length):(aI l)[i]? =some (.int .i64 (.ofNat l[i])):=by simp[aI,h]
theorem qj4(l:List Nat)(i n:Nat)(h:i<l.length):aY (aI l) i [.int .i64 (.ofNat n)]=aI (l.set i n):=by rw[<-q3e,ints_set _ _ _ (by simpa using h),<-q3e,lY5]
structure MOk(n:Nat)(ms:List Nat):Prop where
 hn:n<=256
 len:ms.length=n*n
 le:∀ x∈ms,x<=3
structure xB(H:Hp)(v:AV)(b n:Nat)(ms:List Nat):Prop where
 hv:v=.agg [.int .i64 (.ofNat n),.sl b 0 (n*n) (n*n) true]
 lt:b<H.nx
 get:H.get b=aB 0 (aI ms)
 ok:MOk n ms
theorem xB.fm{v:AV}(h:xB H v b n ms)(a:Fm No H H'):xB H' v b n ms:=⟨h.hv,af h.lt a.nx,(a.keep h.lt).trans h.get,h.ok⟩
theorem xb5(h:n<=256):n*n<=65536:=Nat.mul_le_mul h h
theorem zqv(a:i<n)(b:k<n):i*n+k<n*n:=by have:(i+1)*n<=n*n:=lO9 n a;rw[lOS,lUB]at this;omega
theorem xe0(b:aU C)(c:1<=k)(a:n<=256):Ok (C k (.f 42) [.int .i64 (.ofNat n)] H) fun r H'=>xB H' r (H.nx+1) n (List.replicate (n*n) 0)/\Fm No H H':=by
 obtain⟨j,rfl⟩:=aT c;rw[(b j).zAx];unfold zAx z7b;have f:=xb5 a;have e:aZ [.int .i64 (.ofNat 0)] (n*n)=aI (List.replicate (n*n) 0):=by rw[qcv];simp[aI]
 simp(disch:=first|go_size|omega)only[go_sem,seval,qck,e];refine Ok.ret ⟨⟨rfl,?_,?_,⟨a,lUA,fun x d=>by rw[List.eq_of_mem_replicate d];omega⟩⟩,fm⟩
 ·simp only[np,nq];omega
 ·simp(disch:=go_size)only[go_sem,seval]
def kP(n:Nat)(ms:List Nat)(f t:Nat)(s:Bool):List Nat:=
 if ms.getD (f*n+t) 0 / (if s then 2 else 1)%2=0 then ms.set (f*n+t) (ms.getD (f*n+t) 0+(if s then 2 else 1))else ms
theorem q8e(m:aU C)(o:1<=k){n b f t:Nat}{v:AV}(p:xB H v b n ms)(q:f<n)(r:t<n)(s:Bool):Ok (C k (.f 44) [v,.int .i64 (.ofNat f),.int .i64 (.ofNat t),.bool s] H) fun _ H'=>xB H' v b n (kP n ms f t s)/\Fm (· =b) H H':=by
 obtain⟨j,rfl⟩:=aT o;obtain⟨rfl,B,g,a⟩:=p;rw[(m j).zBa];unfold zBa z6z;have G:=xb5 a.hn;have w:=zqv q r;have i:=a.len;have c:=qoe ms (f*n+t) om;have y:=a.le ms[f*n+t] (lEQ _);have z:f*n+t+1<=n*n:=w;have A:ms.getD (f*n+t) 0=ms[f*n+t]:=by rw[lES,gp om];rfl
 have fin:∀ d:Nat,0<d->d<3->d=(if s then 2 else 1)->(ms[f*n+t] / d%2=0->ms[f*n+t]+d<=3)->Ok (qxw (C j) (.int .i64 (.ofNat f)) (.int .i64 (.ofNat t)) (.ptr H.nx 0) (.int .i64 (.ofNat d)) (aK H (aB 0 [.int .i64 (.ofNat n),.sl b 0 (n*n) (n*n) true]))) fun _ H'=>xB H' (.agg [.int .i64 (.ofNat n),.sl b 0 (n*n) (n*n) true]) b n (kP n ms f t s)/\Fm (· =b) H H':=by
  intro d D I E F;unfold qxw;by_cases l:ms[f*n+t] / d%2=0
  ·simp(disch:=omega)only[go_sem,g,c,l,zye,i,z,qj4];have e:kP n ms f t s=ms.set (f*n+t) (ms[f*n+t]+d):=by
    unfold kP;simp_all
   rw[e];refine Ok.ret ⟨⟨rfl,gx,dL _ _ _,⟨a.hn,by rw[lO1];exact i,fun x u=>?_⟩⟩,fm⟩;rcases lUU u with h|h
   ·exact a.le x h
   ·omega
  ·simp(disch:=omega)only[go_sem,g,c,l];have e:kP n ms f t s=ms:=by
    unfold kP;simp_all
   rw[e];exact Ok.ret ⟨⟨rfl,gx,(qbo _ _ _ B).trans g,a⟩,by(repeat refine Fm.push ?_ _);exact Fm.refl _ _⟩
 cases s
 ·simp only[go_sem];exact fin 1 om om rfl (fun h=>om)
 ·simp only[go_sem];exact fin 2 om om rfl (fun h=>om)
structure T3 where
 (f t s:Nat)
def T3.cells(e:T3):List AV:=[.int .i64 (.ofNat e.f),.int .i64 (.ofNat e.t),.int .i64 (.ofNat e.s)]
def qJ(n:Nat):List Nat->List T3->List Nat
 |ms,[]=>ms
 |ms,e::l=>qJ n (kP n ms e.f e.t (decide (e.s=1))) l
def ent(n:Nat)(ms:List Nat)(i k:Nat):List T3:=(if ms.getD (i*n+k) 0%2=1 then[⟨i,k,0⟩]else[])++(if 1<ms.getD (i*n+k) 0 then[⟨i,k,1⟩]else[])
def eR(n:Nat)(ms:List Nat)(i:Nat):Nat->List T3
 |0=>[]
 |k+1=>eR n ms i k++ent n ms i k
def eM(n:Nat)(ms:List Nat):Nat->List T3
 |0=>[]
 |i+1=>eM n ms i++eR n ms i n
theorem xaf(n:Nat)(ms:List Nat)(i k:Nat):(ent n ms i k).length<=2:=by unfold ent;split<;>split<;>simp
theorem z3i(n:Nat)(ms:List Nat)(i:Nat):∀ k,(eR n ms i k).length<=2*k
 |0=>lEO _
 |k+1=>by have a:=z3i n ms i k;have b:=xaf n ms i k;simp only[eR,lEP];omega
theorem z3l(n:Nat)(ms:List Nat):∀ i,(eM n ms i).length<=2*(i*n)
 |0=>by simp[eM]
 |i+1=>by have a:=z3l n ms i;have b:=z3i n ms i n;simp only[eM,lEP,lOS,lUB];omega
def toE(e:T3):Edge:=⟨e.f,e.t,decide (e.s=1)⟩
def qcr(n:Nat)(ms:List Nat):List Edge:=(eM n ms n).map toE
def tE(X:List aQ)(n:Nat)(neg:Bool)(p:SS×SS):T3:=⟨n,bD X p.1 p.2,if neg then 1 else 0⟩
structure OfR(X:List aQ)(sv:AV)(cb gb b rb:Nat)(av nv:AV)(N:Nat)(g:bC)(l:List (Nd×AV))(H:Hp):Prop where
 mU:cZ H sv X
 x1:H.get cb=aB 0 [sv]
 x3:Rs 2 pC H av (aF X)
 x4:H.get gb=aB 0 [iN N,.sl b 0 (N*N) (N*N) true]
 x6:H.get rb=aB 0 (iK g)
 ty:Rs 2 tC H g.tv g.r.types
 tf:rH g.tv=true
 x8:Rs 5 lH H nv l
theorem qy6(X:List aQ)(N n:Nat)(neg:Bool)(p:SS×SS)(ms:List Nat):qJ N ms [tE X n neg p]=kP N ms n (bD X p.1 p.2) neg:=by cases neg<;>rfl
theorem qf0(n:Nat):∀(l a:List T3) (ms:List Nat),qJ n ms (l++a)=qJ n (qJ n ms l) a
 | [],_,_=>rfl
 |_::l,a,_=>qf0 n l a _
theorem qrp{a b:SS}(h:(a,b)∈aF X):bD X a b<(aF X).length:=by unfold bD;simp_all
theorem qsp(c:aU C)(d:2<=k)(e:cZ H sv X)(g:xI X){a b:SS}(h:(a,b)∈aF X):Ok (C k (.f 21) [.agg [sv],a.v,b.v] H) fun r H'=>r=iN ((bD X a b))/\Fm No H H':=
 (qkf c d e g a b).mono fun r H' ⟨f,i⟩=>by simp_all
def zW(l:List jX):List (SS×SS):=(l.filter fun t=> !decide (t.rl=sE)).map fun t=>(t.sp,t.rl)
theorem zb2{l:List jX}(h:i<l.length):zW (l.take (i+1))=zW (l.take i)++if l[i].rl=sE then[]else[(l[i].sp,l[i].rl)]:=by
 unfold zW;rw[lER h,lU5,lID,lUN];by_cases h:l[i].rl=sE
 ·simp[h]
 ·simp[h]
theorem qro(s:aU C){j:Nat}(w:2<=j){X:List aQ}(y:xI X){sv av nv:AV}{cb z b rb N:Nat}{g:bC}{l:List (Nd×AV)}{Hb:Hp}(A:∀ H,Fm (· =b) Hb H->OfR X sv cb z b rb av nv N g l H)(B:N=(aF X).length){n x:Nat}(D:n<N)(E:x<l.length)(e:cb<Hb.nx/\z<Hb.nx/\rb<Hb.nx)(f:g.r.types.length<=1000)(c:∀ p∈zW g.r.types,p∈aF X){Q:pS}{q:pL}{ms:List Nat}(J:∀ H,xB H (.agg [iN N,.sl b 0 (N*N) (N*N) true]) b N (qJ N ms ((zW g.r.types).map (tE X n l[x].1.neg)))->Fm (· =b) Hb H->Ok (q H) Q):∀(k i:Nat) (H:Hp),i<=g.r.types.length->g.r.types.length-i<k->xB H (.agg [iN N,.sl b 0 (N*N) (N*N) true]) b N (qJ N ms ((zW (g.r.types.take i)).map (tE X n l[x].1.neg)))->Fm (· =b) Hb H -> Ok (qyd (C j) q (.ptr cb 0) (.ptr z 0) (iN n) (.ptr rb 0) nv (iN x) k (iN i) H) Q
 |0,i,_,_,h,_,_=>om
 |k+1,i,H,hi,hk,hM,hf=>by
  show Ok (q7g (C j) _ _ _ _ _ _ _ (qyd (C j) _ _ _ _ _ _ _ k) _ H) Q;unfold q7g;have d:=A H hf;have m:=d.x6;obtain⟨d2,d3,d4,d5,hd⟩:=qob g;rw[hd]at m;have K:=d.ty.len;have W:=hf.nx;by_cases a:i<g.r.types.length
  ·simp only[go_sem,m,K,a];unfold zna;obtain⟨P,R,S,e2,_,_,T⟩:=d.ty.at' i a;have Y:bI (H.get P) R=.val (.str g.r.types[i].sp.n g.r.types[i].sp.a):=T 0 (by rw[qfx];omega);have L:bI (H.get P) (R+1)=.val (.str g.r.types[i].rl.n g.r.types[i].rl.a):=T 1 (by rw[qfx];omega);obtain⟨U,V,g1,g2,_,_,g4⟩:=d.x8.at' x E;have M:bI (H.get U) (V+4)=.val (.bool l[x].1.neg):=g4 4 (by rw[qce];omega);have Z:=d.x1;have O:=d.x4;have t:=zb2 a;by_cases v:g.r.types[i].rl.n=0/\g.r.types[i].rl.a=0
   ·have F:=lO5 v;rw[lEZ ((o8 _ _).2 v),lIM]at t;simp only[go_sem,m,S,L,F];unfold qye;simp(disch:=go_size)only[go_sem,rB,rI,rK,rL,rN,rS,r8];exact qro s w y A B D E e f c J k (i+1) H om om (by rw[t];exact hM) hf
   ·have o:¬ g.r.types[i].rl=sE:=fun h=>v ((o8 _ _).1 h);rw[lEU o]at t;have r:(g.r.types[i].sp,g.r.types[i].rl)∈aF X:=c _ (by
     unfold zW;rw[lIB];exact⟨g.r.types[i],by rw[lIV];exact⟨lEQ a,by simpa using o⟩,rfl⟩)
    simp only[go_sem,seval,m,Z,O,S,Y,L,v,g1,M];refine Ok.iR (qsp s (k:=j) w d.mU y r) ?_;rintro _ H2 ⟨rfl,u⟩;have oZ:=(u.keep om).trans O;have G:bI (H2.get U) (V+4)=.val (.bool l[x].1.neg):=by rw[u.keep g2];exact M
    simp(disch:=first|omega|exact ti rfl)only[go_sem,seval,oZ,G];refine Ok.iR (q8e s (k:=j) om (hM.fm u) D (by rw[B];exact qrp r) l[x].1.neg) ?_;rintro _ H3 ⟨I,f3⟩;unfold qye;simp(disch:=go_size)only[go_sem,rB,rI,rK,rL,rN,rS,r8];refine qro s w y A B D E e f c J k (i+1) H3 om om ?_ ((hf.then u fun _ _ h=>absurd h id).then f3 fun _ _ h=>h);rw[t,lID,qf0,lOD,qy6];exact I
  ·simp only[go_sem,m,K,a];have he:i=g.r.types.length:=om;simp_all
theorem q2u(m:aU C){j:Nat}(y:2<=j){X:List aQ}(z:xI X){sv av nv tv:AV}{cb o b rb N:Nat}{g:bC}{l:List (Nd×AV)}{Hb:Hp}(A:∀ H,Fm (· =b) Hb H->OfR X sv cb o b rb av nv N g l H)(B:N=(aF X).length){n x:Nat}(D:n<N)(E:x<l.length)(p:cb<Hb.nx/\o<Hb.nx/\rb<Hb.nx){ts:List SS}(F:∀ H,Fm (· =b) Hb H->Rs 1 sC H tv ts)(r:ts.length<=1000)(c:∀ s∈ts,(s,l[x].1.to)∈aF X){Q:pS}{q:pL}{ms:List Nat}(L:∀ H,xB H (.agg [iN N,.sl b 0 (N*N) (N*N) true]) b N (qJ N ms ((ts.map fun s=>(s,l[x].1.to)).map (tE X n l[x].1.neg)))->Fm (· =b) Hb H->Ok (q H) Q):∀(k i:Nat) (H:Hp),i<=ts.length->ts.length-i<k->xB H (.agg [iN N,.sl b 0 (N*N) (N*N) true]) b N (qJ N ms (((ts.take i).map fun s=>(s,l[x].1.to)).map (tE X n l[x].1.neg)))->Fm (· =b) Hb H -> Ok (qnp (C j) q (.ptr cb 0) (.ptr o 0) (iN n) nv (iN x) tv k (iN i) H) Q
 |0,i,_,_,h,_,_=>om
 |k+1,i,H,hi,hk,hM,hf=>by
  show Ok (qyg (C j) _ _ _ _ _ _ _ (qnp (C j) _ _ _ _ _ _ _ k) _ H) Q;unfold qyg;have e:=A H hf;have G:=F H hf;have I:=G.len;have M:=hf.nx;by_cases a:i<ts.length
  ·simp only[go_sem,I,a];unfold zbt;obtain⟨Z,o1,S,e2,T⟩:=G.at1 (g:=SS.v) (fun _=>rfl) a;obtain⟨u,v,g1,g2,_,_,g4⟩:=e.x8.at' x E;have O:bI (H.get u) (v+2)=.val (.str l[x].1.to.n l[x].1.to.a):=g4 2 (by rw[qce];omega);have J:bI (H.get u) (v+4)=.val (.bool l[x].1.neg):=g4 4 (by rw[qce];omega);have P:=e.x1;have K:=e.x4;have d:=c ts[i] (lEQ a);simp only[go_sem,seval,P,K,S,T,g1,O,J];refine Ok.iR (qsp m (k:=j) y e.mU z d) ?_;rintro _ U ⟨rfl,f⟩;have R:=(f.keep om).trans K;have t:bI (U.get u) (v+4)=.val (.bool l[x].1.neg):=by rw[f.keep g2];exact J
   simp(disch:=first|omega|exact ti rfl)only[go_sem,seval,R,t];refine Ok.iR (q8e m (k:=j) om (hM.fm f) D (by rw[B];exact qrp d) l[x].1.neg) ?_;rintro _ V ⟨w,W⟩;unfold zbu;simp(disch:=go_size)only[go_sem,rB,rI,rK,rL,rN,rS,r8];refine q2u m y z A B D E p F r c L k (i+1) V om om ?_ ((hf.then f fun _ _ h=>absurd h id).then W fun _ _ h=>h);rw[lER a,lID,lID,qf0,lOD,lOD,qy6];exact w
  ·simp only[go_sem,I,a];have Y:i=ts.length:=om;simp_all
def zR(X:List aQ)(a:SS)(g:bC)(x:Nd):List (SS×SS):=
 if x.k=1 then zW g.r.types else if x.k=2 then[(a,x.rl)]else if x.k=3 then(nP X a x.rl x.to).map fun s=>(s,x.to)else[]
def ndE(X:List aQ)(n:Nat)(a:SS)(g:bC)(x:Nd):List T3:=(zR X a g x).map (tE X n x.neg)
theorem qqy(d:xI X)(a b to:SS):(nP X a b to).length<=100:=by
 unfold nP;cases h:qY X a b with
 |none=>simp
 |some g=>
  refine lI7 (qyr X to _) ?_;unfold qY at h;cases c:X.find? fun g=>decide (g.name=a)with
  |none=>rw[c]at h;cases h
  |some p=>rw[c]at h;exact d.t p (lOP c) g (lOP h)
theorem q2w(t:aU C){j:Nat}(hj:4<=j){X:List aQ}(u:xI X){sv av nv:AV}{cb G b rb N:Nat}{g:bC}{l:List (Nd×AV)}{Hb:Hp}(I:∀ H,Fm (· =b) Hb H->OfR X sv cb G b rb av nv N g l H)(J:N=(aF X).length){n:Nat}(Z:n<(aF X).length)(M:cb<Hb.nx/\G<Hb.nx/\rb<Hb.nx)(hb:b<Hb.nx)(O:g.r.types.length<=100)(P:l.length<=100000)(x:∀ y∈l,∀p∈zR X (aF X)[n].1 g y.1,p∈aF X){Q:pS}{q:pL}{ms:List Nat}(hq:∀ H,xB H (.agg [iN N,.sl b 0 (N*N) (N*N) true]) b N (qJ N ms (l.flatMap fun y=>ndE X n (aF X)[n].1 g y.1))->Fm (· =b) Hb H->Ok (q H) Q):∀(k i:Nat) (H:Hp),i<=l.length->l.length-i<k->xB H (.agg [iN N,.sl b 0 (N*N) (N*N) true]) b N (qJ N ms ((l.take i).flatMap fun y=>ndE X n (aF X)[n].1 g y.1))->Fm (· =b) Hb H -> Ok (qk0 (C j) q (.ptr cb 0) av (.ptr G 0) (iN n) (.ptr rb 0) nv k (iN i) H) Q
 |0,i,_,_,h,_,_=>om
 |k+1,i,H,hi,hk,v,d=>by
  show Ok (q7h (C j) _ _ _ _ _ _ _ (qk0 (C j) _ _ _ _ _ _ _ k) _ H) Q;unfold q7h;have r:=I H d;have hl:=r.x8.len;have hnx:=d.nx;by_cases a:i<l.length
  ·simp only[go_sem,hl,a];unfold zbs;obtain⟨B,D,g1,g2,_,_,g4⟩:=r.x8.at' i a;have K:bI (H.get B) D=.val (.int .u8 (.ofNat l[i].1.k)):=g4 0 (by rw[qce];omega);have r1:bI (H.get B) (D+1)=.val (.str l[i].1.rl.n l[i].1.rl.a):=g4 1 (by rw[qce];omega);have r2:bI (H.get B) (D+2)=.val (.str l[i].1.to.n l[i].1.to.a):=g4 2 (by rw[qce];omega);have r4:bI (H.get B) (D+4)=.val (.bool l[i].1.neg):=g4 4 (by rw[qce];omega);obtain⟨b3,o3,k1,k2,_,_,k4⟩:=r.x3.at' n Z;have s0:bI (H.get b3) o3=.val (.str (aF X)[n].1.n (aF X)[n].1.a):=k4 0 (by rw[qjx];omega);have x1:=r.x1;have x4:=r.x4;have R:=lEQ a;have f:=x _ R;have next:∀ H,xB H (.agg [iN N,.sl b 0 (N*N) (N*N) true]) b N (qJ N (qJ N ms ((l.take i).flatMap fun y=>ndE X n (aF X)[n].1 g y.1)) (ndE X n (aF X)[n].1 g l[i].1))->Fm (· =b) Hb H ->
     Ok (qhn (C j) (qk0 (C j) q (.ptr cb 0) av (.ptr G 0) (iN n) (.ptr rb 0) nv k) (iN i) H) Q:=fun H v d=>by
    unfold qhn;simp(disch:=go_size)only[go_sem,rB,rI,rK,rL,rN,rS,r8];refine q2w t hj u I J Z M hb O P x hq k (i+1) H om om ?_ d;rw[lER a,lIC,qf0,lIE];exact v
   unfold ndE zR at next
   unfold zR at f;by_cases w:l[i].1.k=1
   ·have S:=lO5 w;rw[lEZ w]at next f
    simp only[go_sem,g1,K,S];unfold znb;rw[dD];refine qro t om u (Hb:=H) (fun H' e=>I H' (d.then e fun _ _ h=>h)) J om a ⟨om,om,om⟩ om f (fun H' o e=>next H' o (d.then e fun _ _ h=>h)) bZ 0 H (lEV _) lf v (Fm.refl _ _)
   ·rw[lEU w]at next f
    by_cases F:l[i].1.k=2
    ·have T:=lO5 F;rw[lEZ F]at next f
     have z:=f _ lIH;simp(disch:=go_size)only[go_sem,rB,rI,rK,rL,rN,rS,r8,g1,K,w,T,x1,x4,k1,s0,r1,r4];refine Ok.iR (qsp t (k:=j) om r.mU u z) ?_;rintro _ E ⟨rfl,m⟩;have oZ:=(m.keep om).trans x4;have U:bI (E.get B) (D+4)=.val (.bool l[i].1.neg):=by rw[m.keep g2];exact r4
     simp(disch:=first|omega|exact ti rfl)only[go_sem,seval,oZ,U];refine Ok.iR (q8e t (k:=j) om (v.fm m) om (by rw[J];exact qrp z) l[i].1.neg) ?_;rintro _ H3 ⟨W,f3⟩;simp only[go_sem];refine next H3 ?_ ((d.then m fun _ _ h=>absurd h id).then f3 fun _ _ h=>h)
     rw[lOD,qy6];exact W
    ·rw[lEU F]at next f
     by_cases L:l[i].1.k=3
     ·have V:=lO5 L;rw[lEZ L]at next f
      simp(disch:=go_size)only[go_sem,rB,rI,rK,rL,rN,rS,r8,g1,K,w,F,V,x1,k1,s0,r1,r2];refine Ok.iR (qwf t (k:=j) om r.mU u (aF X)[n].1 l[i].1.rl l[i].1.to) ?_;intro tv E Y;simp only[go_sem,seval];unfold zbv;rw[dD];have m:=Y.fm;have A:Fm (· =b) Hb E:=d.then m fun _ _ h=>absurd h id;have n2:=m.nx;have htl:=qqy u (aF X)[n].1 l[i].1.rl l[i].1.to;refine q2u t om u (Hb:=E) (fun H' e=>I H' (A.then e fun _ _ h=>h)) J om a ⟨om,om,om⟩ (fun H' e=>(Y.rs qq6).dJ e fun c hc h=>by have:=Y.nw c hc;omega) om (fun s hs=>f _ (lIX hs)) (fun H' o e=>next H' o (A.then e fun _ _ h=>h)) bZ 0 E (lEV _) lf (v.fm m) (Fm.refl _ _)
     ·rw[lEU L]at next
      simp only[go_sem,g1,K,w,F,L];exact next H v d
  ·simp only[go_sem,hl,a];have he:i=l.length:=om;simp_all
theorem qgw{a b:SS}{g:bC}(h:qY X a b=some g):∃ p∈X,g∈p.gs/\p.name=a/\g.r.name=b:=by
 unfold qY at h;cases c:X.find? fun g=>decide (g.name=a)with
 |none=>rw[c]at h;cases h
 |some p=>rw[c]at h;exact⟨p,lOP c,lOP h,by simpa using lY1 c,by simpa using lY1 h⟩
structure OfW(X:List aQ):Prop where
 sm:xI X
 n:(aF X).length<=256
 at':∀ i (h:i<(aF X).length),∃g,qY X (aF X)[i].1 (aF X)[i].2=some g/\g.r.rule.depth<=12/\g.r.rule.size<=10000/\∀ x∈g.r.rule.nodes false,∀p∈zR X (aF X)[i].1 g x,p∈aF X
def tsN(X:List aQ)(n:Nat):List T3:=match(aF X)[n]? with
 |none=>[]
 |some p=>match qY X p.1 p.2 with
  |none=>[]
  |some g=>(g.r.rule.nodes false).flatMap (ndE X n p.1 g)
def tsG(X:List aQ)(m:Nat):List T3:=(List.range m).flatMap (tsN X)
theorem q2v(I:aU C){j:Nat}(hj:14<=j){X:List aQ}(d:OfW X){sv av:AV}{cb M b N:Nat}{Hb:Hp}(O:∀ H,Fm (· =b) Hb H->cZ H sv X/\H.get cb=aB 0 [sv]/\Rs 2 pC H av (aF X)/\H.get M=aB 0 [iN N,.sl b 0 (N*N) (N*N) true])(hN:N=(aF X).length)(R:cb<Hb.nx/\M<Hb.nx)(hb:b<Hb.nx){Q:pS}{q:pL}{ms:List Nat}(hq:∀ H,xB H (.agg [iN N,.sl b 0 (N*N) (N*N) true]) b N (qJ N ms (tsG X N))->Fm (· =b) Hb H->Ok (q H) Q):∀(k i:Nat) (H:Hp),i<=N->N-i<k->xB H (.agg [iN N,.sl b 0 (N*N) (N*N) true]) b N (qJ N ms (tsG X i))->Fm (· =b) Hb H -> Ok (qqn (C j) q (.ptr cb 0) av (.ptr M 0) k (iN i) H) Q
 |0,i,_,_,h,_,_=>om
 |k+1,i,H,hi,hk,hM,hf=>by
  show Ok (q7i (C j) _ _ _ _ (qqn (C j) _ _ _ _ k) _ H) Q;unfold q7i;obtain⟨hX,x1,x3,x4⟩:=O H hf;have hl:=x3.len;have hnx:=hf.nx;have aGo:=d.n;have hsn:=d.sm.n;by_cases a:i<(aF X).length
  ·simp only[go_sem,hl,a];unfold zbr;obtain⟨b3,o3,k1,k2,_,_,k4⟩:=x3.at' i a;have s0:bI (H.get b3) o3=.val (.str (aF X)[i].1.n (aF X)[i].1.a):=k4 0 (by rw[qjx];omega);have s1:bI (H.get b3) (o3+1)=.val (.str (aF X)[i].2.n (aF X)[i].2.a):=k4 1 (by rw[qjx];omega);simp only[go_sem,seval,x1,k1,s0,s1];have fU:Fm No H ⟨H.t,H.nx+18⟩:=fm;refine Ok.iR (qsr I (k:=j) om (hX.fm fU) om (fun g t=>by have:=d.sm.r g t;omega) (aF X)[i].1 (aF X)[i].2) ?_;rintro r o ⟨f2,m⟩;obtain⟨g,t,hgd,hgs,W⟩:=d.at' i a;unfold q9a at m;rw[t]at m;subst m;have jU:=fU.trans f2;have n2:H.nx+18<=o.nx:=f2.nx;obtain⟨p,F,n,_,_⟩:=qgw t;have e:=(((hX.sp p F).rel g n).ru);obtain⟨c0,J,K,L,G⟩:=e.four;have z:iK g=[.str g.r.name.n g.r.name.a,g.tv,c0,J,K,L]:=by unfold iK;rw[G];rfl
   rw[z];simp only[go_sem,seval];have A:Fm No H ((o.put (H.nx+15) (aB 0 [.str 0 0,.aA,.int .u8 (.ofNat 0),.str 0 0,.str 0 0,.aA])).put (H.nx+15) (aB 0 [.str g.r.name.n g.r.name.a,g.tv,c0,J,K,L])):=(jU.aH (H.nx+15) _ om).aH (H.nx+15) _ om;have nn:∀ x,¬In AV.aA x:=fun x h=>by obtain⟨_,_,_,_,h⟩:=h;cases h
   refine Ok.ve (zc7 I g.r.rule j om .aA false _ (l:=[]) (P:=fun _=>True) (cs:=[c0,J,K,L]) (Gl.nil 5 _) ?_ (fun b _=>nn b) g2) ?_
   ·rw[G]at e;exact e.fm A
   rintro w s ⟨l,Y,Z⟩;have T:Fm No ((o.put (H.nx+15) (aB 0 [.str 0 0,.aA,.int .u8 (.ofNat 0),.str 0 0,.str 0 0,.aA])).put (H.nx+15) (aB 0 [.str g.r.name.n g.r.name.a,g.tv,c0,J,K,L])) s:=Y.fm.mono fun c _ h=>absurd h (nn c);have n4:o.nx<=s.nx:=T.nx;have B:=A.trans T;have D:Fm (· =b) Hb s:=hf.then B fun _ _ h=>absurd h id;have f:l.map Prod.fst=g.r.rule.nodes false:=by simpa using Z
   have hln:l.length=g.r.rule.size:=by have:=congrArg List.length f;simpa [qbx] using this
   have x6:s.get (H.nx+15)=aB 0 (iK g):=by rw[z];exact(T.keep (show H.nx+15<o.nx by omega)).trans (dL _ _ _)
   have U:∀ c,In w c->o.nx<=c:=fun c S=>by
    rcases Y.nw c S with h|h
    ·simp_all
    ·exact h
   unfold znc;rw[dD];refine q2w I om d.sm (sv:=sv) (Hb:=s) (X:=X) (g:=g) (l:=l) (rb:=H.nx+15) (N:=N) (fun H' u=>?_) hN a ⟨om,om,om⟩ om ?_ om ?_ (fun H' v u=>?_) bZ 0 s (lEV _) lf (hM.fm B) (Fm.refl _ _)
   ·obtain⟨y1,y2,y3,y4⟩:=O H' (D.then u fun _ _ h=>h);have E:=(y1.sp p F).rel g n;exact⟨y1,y2,y3,y4,(u.get _ om om).trans x6,E.ty,E.tf,(Y.gl.rs qce).dJ u fun c S h=>by have:=U c S;omega⟩
   ·have:=d.sm.t p F g n;omega
   ·intro y hy p F;refine W y.1 ?_ p F;rw[<-f];exact lIX hy
   ·unfold q7f;simp(disch:=go_size)only[go_sem,rB,rI,rK,rL,rN,rS,r8];refine q2v I hj d O hN R hb hq k (i+1) H' om om ?_ (D.then u fun _ _ h=>h);have V:tsN X i=l.flatMap fun y=>ndE X i (aF X)[i].1 g y.1:=by
     unfold tsN;rw[gp a];simp only;rw[t];simp only;rw[<-f,lXI]
    unfold tsG at v ⊢;rw[lX4,lIC,qf0,lIE,V];exact v
  ·simp only[go_sem,hl,a];have he:i=N:=om;simp_all
theorem zxo(l:aU C)(B:15<=k)(y:cZ H sv X)(p:OfW X):Ok (C k (.f 9) [.agg [sv]] H) fun r H'=>∃ b,xB H' r b (aF X).length (qJ (aF X).length (List.replicate ((aF X).length*(aF X).length) 0) (tsG X (aF X).length))/\H.nx<=b/\Fm No H H':=by
 obtain⟨j,rfl⟩:=aT B;rw[(l j).zAf];unfold zAf z7r;simp(disch:=first|go_size|omega)only[go_sem];have f:Fm No H (aK (aK H (aB 0 [sv])) (aB 0 [iN 0,.aA])):=by exact xE
 have s:=p.n;refine Ok.ve (zeg l (k:=j) om (y.fm f) p.sm) ?_;intro av H1 n;have m:=n.fm;have D:=m.nx;simp only[np]at D;have E:=n.aX;simp only[go_sem,E];refine Ok.ve (xe0 l (k:=j) om s) ?_;rintro r d ⟨G,o⟩;obtain⟨I,v,i,w⟩:=G;subst I;simp(disch:=first|omega|exact ti rfl)only[go_sem,seval];generalize x:(aK d (aB 0 [iN 0,.aA])).put d.nx (aB 0 [iN ((aF X).length),.sl (H1.nx+1) 0 ((aF X).length*(aF X).length) ((aF X).length*(aF X).length) true])=H4;have g:Fm No d H4:=by rw[<-x];exact jW
 have J:H4.nx=d.nx+1:=by rw[<-x];rfl
 have k0:H4.get H.nx=aB 0 [sv]:=((m.trans (o.trans g)).keep gx).trans (by simp(disch:=first|go_size|omega)only[go_sem]);have F:H4.get (H.nx+1)=aB 0 [iN 0,.aA]:=((m.trans (o.trans g)).keep gx).trans (by simp(disch:=go_size)only[go_sem]);have z:H4.get d.nx=aB 0 [iN ((aF X).length),.sl (H1.nx+1) 0 ((aF X).length*(aF X).length) ((aF X).length*(aF X).length) true]:=by rw[<-x];exact dL _ _ _
 have A:=((f.trans m).trans o).trans g;unfold znd;rw[dD];refine q2v l om p (sv:=sv) (Hb:=H4) (b:=H1.nx+1) (N:=(aF X).length) (fun H' a=>⟨y.fm (A.then a fun c q h=>om),(a.get _ om om).trans k0,?_,(a.get _ om om).trans z⟩) rfl ⟨om,om⟩ om (fun H' e a=>?_) bZ 0 H4 (lEV _) lf ⟨rfl,om,(g.keep v).trans i,w⟩ (Fm.refl _ _)
 ·refine(((n.rs qjx).fm o).fm g).dJ a fun c q h=>?_;have:=n.gl.lt q;omega
 ·unfold qyf;have t:=(a.get (H.nx+1) om om).trans F;have u:=(a.get d.nx om om).trans z;simp only[go_sem,seval,t,u];have K:=a.nx;refine Ok.ret ⟨H1.nx+1,⟨rfl,gx,?_,e.ok⟩,om,(A.then a fun c q h=>om).aH _ _ om⟩;rw[dS _ _ _ _ om];exact e.get
def nmL:List SS:=[sU,dK 0,dK 1,dK 2,gK 0,gK 1,gK 2,gK 3]
def Nm(s:SS):Prop:=s∈nmL
theorem Nm.ne{s:SS}(h:Nm s):¬(s.n=0/\s.a=0):=by have:∀ s∈nmL,¬(s.n=0/\s.a=0):=g4;exact this s h
structure bHT(c:Ev.Call):Prop where
 r:∀ s,Nm s->∀ H,c (.f 142) [s.v] H=.ok (.bool true) H
 p:∀ s,Nm s->∀ H,c (.f 132) [s.v] H=.ok (.bool true) H
abbrev iL(C:Nat->Ev.Call):Prop:=∀ k,bHT (C (k+1))
def Ru.Fit:Ru->Prop
 | .leaf k rl to=>(k=1/\rl=sE/\to=sE)\/(k=2/\Nm rl/\to=sE)\/(k=3/\Nm rl/\Nm to)
 | .node k a b=>(k=4\/k=5\/k=6)/\a.Fit/\b.Fit
theorem qdh(a b c d:Bool):jR true (kU (fun xs e=>xH p1 ⟨xQ⟩ 1 xs e 2 0) (.agg [.bool a,.bool b]) (.agg [.bool c,.bool d]))=.val (.bool (!(a==c&&b==d))):=by cases a<;>cases b<;>cases c<;>cases d<;>rfl
structure pF(H:Hp)(b o:Nat)(cs:List AV):Prop where
 lt:b<H.nx
 at':∀ j (h:j<cs.length),bI (H.get b) (o+j)=.val cs[j]
theorem pF.keep{b o:Nat}(h:pF H b o cs)(a:H.nx<=H'.nx)(e:H'.get b=H.get b):pF H' b o cs:=⟨af h.lt a,fun j c=>by rw[e];exact h.at' j c⟩
theorem pF.fm{b o:Nat}(h:pF H b o cs)(f:Fm No H H'):pF H' b o cs:=h.keep f.nx (f.keep h.lt)
theorem zzt(s:aU C)(i:iL C)(D:2<=k){b o:Nat}{r:Ru}{P:Nat->Prop}(a:pF H b o cs)(m:jP P H r cs)(n:r.Fit):Ok (C k (.f 112) [.ptr b o] H) fun v H'=>v=iN 0/\Fm No H H':=by
 obtain⟨j,rfl⟩:∃ j,k=j+1+1:=⟨k-2,om⟩;rw[(s (j+1)).zDb];unfold zDb zun;have t:=a.lt;cases r with
 |leaf kd rl to=>
  obtain rfl:cs=lfC kd rl to:=m;have c:bI (H.get b) o=.val (.int .u8 (.ofNat kd)):=a.at' 0 (by simp[lfC]);have d:bI (H.get b) (o+1)=.val (.str rl.n rl.a):=a.at' 1 (by simp[lfC]);have e:bI (H.get b) (o+2)=.val (.str to.n to.a):=a.at' 2 (by simp[lfC]);have f:bI (H.get b) (o+3)=.val .aA:=a.at' 3 (by simp[lfC]);rcases n with⟨rfl,rfl,rfl⟩|⟨rfl,h,rfl⟩|⟨rfl,h,q⟩
  ·unfold sE at d e;simp(disch:=first|go_size|omega)only[go_sem,seval,c,d,e,f,and_self];unfold qcj;simp(disch:=first|go_size|omega)only[go_sem,seval,c,qdh,and_self];unfold qdo qea;exact Ok.ret ⟨rfl,fm⟩
  ·have l:=h.ne;have g:=(i j).r rl h;unfold SS.v at g;simp(disch:=first|go_size|omega)only[go_sem,seval,c,d,e,f,l,and_self];unfold qcj;simp(disch:=first|go_size|omega)only[go_sem,seval,c,d,qdh,g];unfold qdo qea;exact Ok.ret ⟨rfl,fm⟩
  ·have l:=h.ne;have u:=q.ne;have g:=(i j).r rl h;have p:=(i j).r to q;unfold SS.v at g p;simp(disch:=first|go_size|omega)only[go_sem,seval,c,d,e,f,l,u];unfold qcj;simp(disch:=first|go_size|omega)only[go_sem,seval,c,d,e,qdh,g,p];unfold qdo qea;exact Ok.ret ⟨rfl,fm⟩
 |node kd x y=>
  obtain⟨bl,ca,cb,rfl,w,z,E,A,B⟩:=m;have c:bI (H.get b) o=.val (.int .u8 (.ofNat kd)):=a.at' 0 g3;have d:bI (H.get b) (o+1)=.val (.str 0 0):=a.at' 1 g3;have e:bI (H.get b) (o+2)=.val (.str 0 0):=a.at' 2 g3;have f:bI (H.get b) (o+3)=.val (.sl bl 0 2 2 true):=a.at' 3 g3;rcases n.1 with rfl|rfl|rfl<;>(
   simp(disch:=first|omega|exact ti rfl|simp only[np,nq];first|done|omega)only[go_sem,seval,c,d,e,f,and_self];unfold qp0;unfold qcj;simp(disch:=first|go_size|omega)only[go_sem,seval,c,qdh,and_self];unfold qdo qea;exact Ok.ret ⟨rfl,fm⟩)
theorem q1k(H:Hp)(b o:Nat)(f:FuncId)(x y:List AV):jN H (.ptr b o) (.fn f x y)=storeAt H b o [.fn f x y] .undef:=id rfl
theorem q31(O:Ev.Call)(f:FuncId)(c args:List AV)(H:Hp):uF O (.fn f [] c) args H=O (.f f) (args++c) H:=id rfl
theorem aLj(a b:Nat):qO pZ (iN a) [iN b]=.val (iN ((max a b))):=by
 show R0.val (.int .i64 (bif p9 (.ofNat a) (.ofNat b)then .ofNat b else .ofNat a))=_;rw[qd4];by_cases h:a<b
 ·rw[lI9 (by simp only[lIA];omega),Nat.max_eq_right om];rfl
 ·rw[lIF (by simp only[lIA];omega),Nat.max_eq_left om];rfl
attribute [go_sem] q1k q31 aLj
structure WkI(H:Hp)(nb db fb vb:Nat)(l:List (Nd×AV))(nv:AV)(d:Nat):Prop where
 n:H.get nb=aB 0 [nv]
 d:H.get db=aB 0 [iN d]
 f:H.get fb=aB 0 [iN 0]
 v:H.get vb=aB 0 [.fn 111 [] [.ptr nb 0,.ptr db 0,.ptr fb 0,.ptr vb 0]]
 o:nb<db/\db<fb/\fb<vb/\vb<H.nx
 gl:Gl 5 H nv l.length (l.flatMap lH)
 nin:∀ c,In nv c->vb<c
def WkS(nb db fb:Nat)(nv:AV)(c:Nat):Prop:=c=nb\/c=db\/c=fb\/In nv c
theorem WkI.no{nb a b vb:Nat}{l:List (Nd×AV)}{d:Nat}(h:WkI H nb a b vb l nv d)(f:Fm No H H'):WkI H' nb a b vb l nv d:=by obtain⟨c,e,g,i⟩:=h.o;exact⟨(f.keep om).trans h.n,(f.keep om).trans h.d,(f.keep om).trans h.f,(f.keep om).trans h.v,⟨c,e,g,af i f.nx⟩,h.gl.no f,h.nin⟩
theorem q1g(A:aU C)(B:1<=j){nb q s vb:Nat}{l:List (Nd×AV)}{d:Nat}(a:WkI H nb q s vb l nv d)(n:i<l.length){x:AV}{xs:List AV}(D:Gl 1 H x m xs):Ok (qfs (C j) (.ptr nb 0) (iN i) x H) fun r H'=>r=.bool true/\∃ u,WkI H' nb q s vb u nv d/\u.map Prod.fst=l.map Prod.fst/\Fm (In nv) H H':=by
 unfold qfs;obtain⟨w,e,E,_,_⟩:=qz1 A (k:=j) B D;have t:=a.n;have v:=qP (Gl.flat a.gl) 63;obtain⟨b,o,H',y,z,g,f,nx⟩:=a.gl.set1 n (j:=3) om w;rw[zp4 w l i n]at g;obtain⟨F,G,I,K⟩:=a.o;have p:∀ c,c<=vb->¬ In nv c:=fun c J h=>by have:=a.nin c h;omega
 have fin:WkI H' nb q s vb (l.set i (l[i].1,w)) nv d:=⟨(f.get _ om (p _ om)).trans a.n,(f.get _ om (p _ om)).trans a.d,(f.get _ om (p _ om)).trans a.f,(f.get _ om (p _ om)).trans a.v,
  ⟨F,G,I,om⟩,by rw[lO1];exact g,a.nin⟩
 simp only[go_sem,t];refine Ok.tT e ?_;rcases E.is with⟨h,_⟩|⟨_,_,_,_,_,h,_⟩
 ·subst h;simp only[go_sem,t,v,y,z];exact Ok.ret ⟨rfl,_,fin,q75 n _,f⟩
 ·subst h;simp only[go_sem,t,v,y,z];exact Ok.ret ⟨rfl,_,fin,q75 n _,f⟩
def zsh(C:Nat->Ev.Call)(r:Ru)(k:Nat):Prop:=
 ∀(b o lv:Nat) (neg:Bool) (H:Hp) (nb db fb vb:Nat) (l:List (Nd×AV)) (nv:AV) (d:Nat) (cs:List AV),WkI H nb db fb vb l nv d->pF H b o cs->jP (· < nb) H r cs->b<nb->lv+r.depth<=9->l.length+r.size<=32->d<=8 ->
  Ok (C k (.f 111) [.ptr b o,iN lv,.bool neg,.ptr nb 0,.ptr db 0,.ptr fb 0,.ptr vb 0] H) fun v H'=>v=.bool true/\∃ l' rX d',WkI H' nb db fb vb l' rX d' /\
   l'.map Prod.fst=l.map Prod.fst++r.nodes neg/\d'<=8/\Fm (WkS nb db fb nv) H H'/\∀ c,In rX c->In nv c\/H.nx<=c
theorem qqu(V:aU C)(W:iL C)(X:2<=j){b o lv:Nat}{nb i f vb:Nat}{l:List (Nd×AV)}{d:Nat}{r:Ru}{kd:Nat}{rl to:SS}(m:WkI H nb i f vb l nv d)(q:pF H b o [.int .u8 (.ofNat kd),.str rl.n rl.a,.str to.n to.a,av])(Y:jP (· < nb) H r [.int .u8 (.ofNat kd),.str rl.n rl.a,.str to.n to.a,av])(Z:r.Fit)(hb:b<nb)(hlv:lv<=8)(hll:l.length<32)(hd:d<=8){Q:pS}(hg:∀ H' w R,WkI H' nb i f vb (l++[(⟨kd,rl,to,neg⟩,.aA)]) w R->R<=8->Fm (WkS nb i f nv) H H'->(∀c,In w c->H.nx<=c) -> Ok (vq (aD av) H' fun z H=>qkr (C j) (fun A H=>.ok A H) (fun bE H=>qfs (C j) (.ptr nb 0) (iN (l.length)) bE H) (.ptr b o) (iN lv) (.bool neg) (.ptr nb 0) (.ptr vb 0) z .aA (iN 0) H) Q):Ok (zeh (C j) (.ptr b o) (iN lv) (.bool neg) (.ptr nb 0) (.ptr i 0) (.ptr f 0) (.ptr vb 0) H) Q:=by
 unfold zeh;obtain⟨o1,o2,o3,o4⟩:=m.o;have S:=m.n;have ed:=m.d;have T:=m.f;have y:=m.gl.aX;have D:¬ l.length=32:=om;have h8:¬ 8<lv:=om;have t:∀ c,c<=vb->¬ In nv c:=fun c e h=>by have:=m.nin c h;omega
 simp(disch:=go_size)only[go_sem,rB,rI,rK,rL,rN,rS,r8,S,y,D,h8];unfold q54;simp(disch:=go_size)only[go_sem,rB,rI,rK,rL,rN,rS,r8,ed,T];have E:Fm (fun c=>c=i) H (H.put i (aB 0 [iN ((max d lv))])):=(Fm.refl _ _).put _ _ fun _=>rfl;refine Ok.ve (zzt V W (k:=j) X (q.keep E.nx (E.get _ om om)) (Y.dJ E fun c e h=>om) Z) ?_;rintro _ a ⟨rfl,O⟩;have n2:H.nx<=a.nx:=O.nx;have d2:a.get i=aB 0 [iN ((max d lv))]:=(O.keep (show i<H.nx by omega)).trans (dL _ _ _);have p:∀ c,c<H.nx->c≠i->a.get c=H.get c:=fun c h1 B=>(O.keep (show c<H.nx by omega)).trans (dS _ _ _ _ B);have F:=(p f om om).trans T;simp only[go_sem,F];unfold qxh;have u:=(p nb om om).trans S;have G:=(p vb om om).trans m.v;have n:=p b om om;have r0:bI (a.get b) o=.val (.int .u8 (.ofNat kd)):=by rw[n];exact q.at' 0 g3
 have r1:bI (a.get b) (o+1)=.val (.str rl.n rl.a):=by rw[n];exact q.at' 1 g3
 have r2:bI (a.get b) (o+2)=.val (.str to.n to.a):=by rw[n];exact q.at' 2 g3
 have r3:bI (a.get b) (o+3)=.val av:=by rw[n];exact q.at' 3 g3
 simp(disch:=omega)only[go_sem,seval,u,y,r0,r1,r2];have g2:Gl 5 ((Hp.mk (a.put f (aB 0 [iN 0])).t (a.nx+18)).put (a.nx+15) (aB 0 [.int .u8 (.ofNat kd),.str rl.n rl.a,.str to.n to.a,.aA,.bool neg])) nv l.length (l.flatMap lH):=by refine m.gl.keep (show H.nx<=a.nx+18 by omega) fun c e y=>?_;have:=m.nin c e;rw[dS _ _ _ _ om];show(a.put f _).get c=_;rw[dS _ _ _ _ om];exact p c y om
 obtain⟨v,U,g3,q3,P,n3⟩:=g2.append (k:=1) (w:=72) (x:=[.int .u8 (.ofNat kd),.str rl.n rl.a,.str to.n to.a,.aA,.bool neg]) om rfl om om;simp only[nq]at U g3 q3 n3 P;refine Ok.tT U ?_;have g:∀ c,c<a.nx->c≠f->¬ In nv c->v.get c=a.get c:=fun c h1 B h3=>by refine(P.get c (show c<a.nx+18 by omega) h3).trans ?_;rw[dS _ _ _ _ om];show(a.put f _).get c=_;rw[dS _ _ _ _ B]
 have I:v.get f=aB 0 [iN 0]:=by refine(P.get f (show f<a.nx+18 by omega) (t _ om)).trans ?_;rw[dS _ _ _ _ om];exact dL _ _ _
 have J:=(g nb om om (t _ om)).trans u;have K:=(g i om om (t _ om)).trans d2;have L:=(g vb om om (t _ om)).trans G;have M:=g b om om (t _ om);have N:bI (v.get b) (o+3)=.val av:=by rw[M];exact r3
 simp(disch:=omega)only[go_sem,seval,J,N];refine hg _ _ (max d lv) ⟨dL _ _ _,?_,?_,?_,⟨o1,o2,o3,show vb<v.nx by omega⟩,?_,?_⟩ om ⟨show H.nx<=v.nx by omega,fun c e s=>?_⟩ ?_
 ·rw[dS _ _ _ _ om];exact K
 ·rw[dS _ _ _ _ om];exact I
 ·rw[dS _ _ _ _ om];exact L
 ·rw[lEP,lIC,lIE];exact g3.keep (lEO _) fun c e _=>by obtain⟨_,_,_,_,e⟩:=e;injection e with e;rw[dS _ _ _ _ om]
 ·rintro c ⟨_,_,_,_,e⟩;injection e with e;omega
 ·unfold WkS at s;rw[dS _ _ _ _ (fun h=>s (.inl h))];exact(g c om (fun h=>s (.inr (.inr (.inl h)))) fun h=>s (.inr (.inr (.inr h)))).trans (p c e fun h=>s (.inr (.inl h)))
 ·rintro c ⟨_,_,_,_,e⟩;injection e with e;omega
theorem qva(hC:aU C){r:Ru}(hR:zsh C r j){g:AV->pH}{Q:pS}{b o lv bl kd t d nb z A vb:Nat}{l:List (Nd×AV)}{nv x:AV}{xs ca cb cc:List AV}(u:WkI H nb z A vb l nv d)(hx:Gl 1 H x t xs)(ht:t<2)(G:∀ c,In x c->vb<c/\¬ In nv c)(h4:pF H b o [.int .u8 (.ofNat kd),.str 0 0,.str 0 0,.sl bl 0 2 2 true])(hb:b<nb)(M:bl<nb)(kb:H.get bl=aB 0 (ca++cb))(la:ca.length=4)(lb:cb.length=4)(I:cc=if t=0 then ca else cb)(N:jP (· < nb) H r cc)(hlv:lv+1+r.depth<=9)(P:l.length+r.size<=32)(hd:d<=8)(hg:∀(R:AV) (H':Hp) (q:List (Nd×AV)) (p:AV) (s:Nat) (S:List AV),WkI H' nb z A vb q p s->q.map Prod.fst=l.map Prod.fst++r.nodes (neg||(decide (kd=6)&&decide (t=1)))->s<=8 -> Fm (fun c=>WkS nb z A nv c\/In x c) H H'->(∀c,In p c->In nv c\/H.nx<=c)->Gl 1 H' R (t+1) S->(∀c,In R c->vb<c/\¬ In p c/\H.nx<=c)->Ok (g R (iN ((t+1))) H') Q):Ok (qxi (C j) qr g (.ptr b o) (iN lv) (.bool neg) (.ptr nb 0) (.ptr vb 0) x (iN t) H) Q:=by
 unfold qxi;obtain⟨o1,o2,o3,o4⟩:=u.o;have e0:=u.n;have V:=u.gl.aX;simp(disch:=go_size)only[go_sem,rB,rI,rK,rL,rN,rS,r8,e0,V];have fp:Fm No H (aK H (aB 0 [iN (l.length)])):=by exact kW
 obtain⟨y,e2,g2,q2,f2,n2⟩:=(hx.no fp).append (k:=1) (w:=8) (x:=[iN (l.length)]) om rfl om om;simp only[np]at n2;refine Ok.veE e2 ?_;have K:Fm (In x) H y:=(fp.mono (T:=In x) (fun _ _ h=>absurd h id)).then f2 fun _ _ h=>h;have E:∀ c,c<H.nx->¬ In x c->y.get c=H.get c:=fun c U h2=>K.get c U h2;have e:∀ c,c<=vb->¬ In x c:=fun c a h=>by have:=(G c h).1;omega
 have I2:WkI y nb z A vb l nv d:=⟨(E _ om (e _ om)).trans u.n,(E _ om (e _ om)).trans u.d,(E _ om (e _ om)).trans u.f,(E _ om (e _ om)).trans u.v,⟨o1,o2,o3,om⟩,
  u.gl.keep K.nx (fun c a V=>E c V fun h=>(G c h).2 a),u.nin⟩
 have X:=I2.v;have J:=E b om (e _ om);have Y:bI (y.get b) o=.val (.int .u8 (.ofNat kd)):=by rw[J];exact h4.at' 0 g3
 have Z:bI (y.get b) (o+3)=.val (.sl bl 0 2 2 true):=by rw[J];exact h4.at' 3 g3
 have kb2:=(E bl om (e _ om)).trans kb;have a4:pF y bl (t*4) cc:=⟨om,fun i hi=>by
  rw[kb2,qb3];have:(ca++cb)[t*4+i]? =some cc[i]:=by
   by_cases h0:t=0
   ·subst h0;subst I;rw[lY4,lEW,lIO om,gp hi]
   ·have U:t=1:=om;subst U;subst I;rw[lIJ om,show 1*4+i-ca.length=i by omega,gp hi]
  rw[this]⟩
 have aWb:jP (· < nb) y r cc:=N.dJ K fun c a=>e c om;have O:∀ n:Bool,Ok (C j (.f 111) [.ptr bl (t*4),iN ((lv+1)),.bool n,.ptr nb 0,.ptr z 0,.ptr A 0,.ptr vb 0] y) _:=fun n=>hR bl (t*4) (lv+1) n y nb z A vb l nv d cc I2 a4 aWb M om P hd;have fin:∀(n:Bool),n=(neg||(decide (kd=6)&&decide (t=1)))->∀(v:Hp) (q:List (Nd×AV)) (p:AV) (s:Nat),WkI v nb z A vb q p s->q.map Prod.fst=l.map Prod.fst++r.nodes n->s<=8->Fm (WkS nb z A nv) y v->(∀c,In p c->In nv c\/y.nx<=c) ->
   Ok (g (.sl (aK H (aB 0 [iN (l.length)])).nx 0 (t+1) (t+1) false) (iN ((t+1))) v) Q:=by
  rintro _ rfl v q p s F f m B D;have hnew:¬ WkS nb z A nv (H.nx+1):=fun h=>by
   rcases h with h|h|h|h
   ·omega
   ·omega
   ·omega
   ·have:=u.gl.lt h;omega
  refine hg _ v q p s _ F f m ((K.mono fun _ _ h=>.inr h).then B fun _ _ h=>.inl h) (fun c a=>?_) (g2.keep B.nx fun c a W=>B.get c W fun h=>?_) fun c a=>?_
  ·rcases D c a with h|h
   ·exact .inl h
   ·omega
  ·obtain⟨_,_,_,_,a⟩:=a;injection a with a;rw[np]at a;simp_all
  ·obtain⟨_,_,_,_,a⟩:=a;injection a with a;rw[np]at a;refine⟨om,fun h=>?_,om⟩;rcases D c h with h|h
   ·have:=u.gl.lt h;omega
   ·omega
 cases neg
 ·by_cases L:kd=6
  ·have h6t:=lO5 L;simp(disch:=omega)only[go_sem,X,Y,Z,h6t];refine Ok.iR (O (decide (t=1))) ?_;rintro _ v ⟨rfl,q,p,s,F,f,m,B,D⟩;simp only[go_sem];unfold qhi;simp(disch:=omega)only[go_sem];exact fin (decide (t=1)) (by simp[L]) v q p s F f m B D
  ·simp(disch:=omega)only[go_sem,X,Y,Z,L];refine Ok.iR (O false) ?_;rintro _ v ⟨rfl,q,p,s,F,f,m,B,D⟩;unfold qhi;simp(disch:=omega)only[go_sem];exact fin false (by simp[L]) v q p s F f m B D
 ·simp(disch:=omega)only[go_sem,X,Y,Z];refine Ok.iR (O true) ?_;rintro _ v ⟨rfl,q,p,s,F,f,m,B,D⟩;unfold qhi;simp(disch:=omega)only[go_sem];exact fin true g3 v q p s F f m B D
theorem w37(O:Ev.Call)(qr:pH)(q:pH)(a b c d e f:AV)(n:Nat):qfr O qr q a b c d e f (n+1)=qeb O qr q a b c d e f (qfr O qr q a b c d e f n):=rfl
theorem zwz(n:aU C)(hN:iL C):∀(r:Ru) (k:Nat),r.Fit->r.depth+2<=k->zsh C r k:=by
 intro r
 induction r with
 |leaf kd rl to=>intro k F V b o lv neg H nb W X vb l nv d cs G I J p s u Y;unfold Ru.depth at V s;unfold Ru.size at u;obtain⟨j,rfl⟩:∃ j,k=j+1:=⟨k-1,om⟩;rw[(n j).zCo];have T:cs=lfC kd rl to:=J;subst T;refine qqu n hN (r:=.leaf kd rl to) om G I J F p om om Y fun H' w d' Q R f' B=>?_;unfold qkr;obtain⟨m,Z⟩:∃ m,bZ=m+1:=⟨999999,by rw[yR]⟩;rw[dD,Z];simp only[go_sem];rw[w37];unfold qeb;refine(q1g n (j:=j) om Q (i:=l.length) g3 (Gl.nil 1 H')).mono ?_;rintro r H2 ⟨rfl,l',v,g,z⟩;refine⟨rfl,l',w,d',v,by rw[g];simp[Ru.nodes],R,f'.then z fun c a h=>?_,fun c a=>.inr (B c a)⟩;have:=B c h;omega
 |node kd x y ihx ihy=>
  intro k F V b o lv neg H nb W X vb l nv d cs G I J p s u Y;unfold Ru.depth at V s;unfold Ru.size at u;obtain⟨j,rfl⟩:∃ j,k=j+1:=⟨k-1,om⟩;rw[(n j).zCo];have U:=J;obtain⟨bl,ca,cb,rfl,K,e,kb,L,M⟩:=J;have la:ca.length=4:=by obtain⟨_,_,_,_,h⟩:=L.four;rw[h];rfl
  have lb:cb.length=4:=by obtain⟨_,_,_,_,h⟩:=M.four;rw[h];rfl
  refine qqu n hN (r:=.node kd x y) (rl:=sE) (to:=sE) om G I U F p om om Y fun H1 w d1 D S f B=>?_;obtain⟨o1,o2,o3,o4⟩:=G.o;have nS:∀ c,c<nb->¬ WkS nb W X nv c:=fun c a h=>by
   rcases h with h|h|h|h
   ·omega
   ·omega
   ·omega
   ·have:=G.nin c h;omega
  unfold qkr;obtain⟨m,Z⟩:∃ m,bZ=m+3:=⟨999997,by rw[yR]⟩;rw[dD,Z];simp only[go_sem];rw[w37];unfold qeb;simp only[go_sem];have nn:∀ c,¬In AV.aA c:=fun c h=>by obtain⟨_,_,_,_,h⟩:=h;cases h
  have l1:(l++[((⟨kd,sE,sE,neg⟩:Nd),AV.aA)]).length=l.length+1:=g3;refine qva n (r:=x) (t:=0) (ca:=ca) (cb:=cb) (cc:=ca) (ihx j F.2.1 om) D (Gl.nil 1 H1) om (fun c h=>absurd h (nn c)) (I.keep f.nx (f.get _ om (nS _ p))) p e ((f.get _ K (nS _ e)).trans kb) la lb rfl (L.dJ f fun c a=>nS c a) om (by rw[l1];omega) S ?_;intro x2 H2 l2 nv2 d2 xs2 v g hd2 z N gx2 A;have l2n:l2.length=l.length+1+x.size:=by have:=congrArg List.length g;simp only[lET,lEP,lEX,lIT,qbx]at this;omega
  have n1:=f.nx;have n2:=z.nx;have q:∀ c,c<nb->¬(WkS nb W X w c\/In AV.aA c):=fun c a h=>by
   rcases h with(h|h|h|h)|h
   ·omega
   ·omega
   ·omega
   ·have:=D.nin c h;omega
   ·exact nn c h
  rw[w37];unfold qeb;simp only[go_sem];refine qva n (r:=y) (t:=1) (ca:=ca) (cb:=cb) (cc:=cb) (ihy j F.2.2 om) v gx2 om (fun c h=>⟨(A c h).1,(A c h).2.1⟩) ((I.keep f.nx (f.get _ om (nS _ p))).keep n2 (z.get _ om (q _ p))) p e ((z.get _ om (q _ e)).trans ((f.get _ K (nS _ e)).trans kb)) la lb rfl ((M.dJ f fun c a=>nS c a).dJ z fun c a=>q c a) om om hd2 ?_;intro x3 H3 l3 O d3 xs3 qD P hd3 f3 qH gx3 hx3;rw[w37];unfold qeb;have l3n:l3.length=l2.length+y.size:=by have:=congrArg List.length P;simp only[lET,lEP,qbx]at this;omega
  have E:∀ c,In O c->H.nx<=c:=fun c a=>by
   rcases qH c a with h|h
   ·rcases N c h with h|h
    ·exact B c h
    ·omega
   ·omega
  refine(q1g n (j:=j) om qD (i:=l.length) om gx3).mono ?_;rintro r H4 ⟨rfl,l',hI4,hl4,f4⟩;refine⟨rfl,l',O,d3,hI4,?_,hd3,((f.then z fun c a h=>?_).then f3 fun c a h=>?_).then f4 fun c a h=>?_,fun c a=>.inr (E c a)⟩
  ·rw[hl4,P,g];simp[Ru.nodes]
  ·rcases h with(h|h|h|h)|h
   ·exact .inl h
   ·exact .inr (.inl h)
   ·exact .inr (.inr (.inl h))
   ·have:=B c h;omega
   ·simp_all
  ·rcases h with(h|h|h|h)|h
   ·exact .inl h
   ·exact .inr (.inl h)
   ·exact .inr (.inr (.inl h))
   ·rcases N c h with h|h
    ·have:=B c h;omega
    ·omega
   ·have:=(A c h).2.2;omega
  ·have:=E c h;omega
theorem zee(a:aU C)(c:1<=k){v:AV}(h:Gl 5 H v n l):∃w,C k (.f 113) [v] H=.ok w H/\Gl 5 H w n l/\dA w=.val (iN n)/\(∀b,In w b->In v b):=by obtain⟨j,rfl⟩:=aT c;obtain⟨w,e,d,f,g⟩:=h.clip;refine⟨w,?_,d,f,g⟩;rw[(a j).zCp];unfold zCp z5s;simp only[go_sem,h.aX,e]
structure Ru.Rt(r:Ru):Prop where
 fit:r.Fit
 dp:r.depth<=8
 sz:r.size<=32
theorem zn5(p:aU C)(K:iL C)(L:12<=k){r:Ru}{P:Nat->Prop}(E:pF H b 0 cs)(M:jP P H r cs)(o:r.Rt):Ok (C k (.f 91) [.ptr b 0] H) fun v H'=>∃ nv l d,v=.bB [nv,iN d,iN 0]/\Ac 5 lH H H' nv l/\l.map Prod.fst=r.nodes false:=by
 obtain⟨j,rfl⟩:=aT L;rw[(p j).zBw];unfold zBw zvl;simp(disch:=go_size)only[go_sem,seval];generalize a:(aK ((aK (aK (aK H (aB 0 [.aA])) (aB 0 [iN 0])) (aB 0 [iN 0])).put (H.nx+1+1) (aB 0 [iN 0])) (aB 0 [.jE])).put (H.nx+1+1+1) (aB 0 [.fn 111 [] [.ptr H.nx 0,.ptr (H.nx+1) 0,.ptr (H.nx+1+1) 0,.ptr (H.nx+1+1+1) 0]])=H1;have q:Fm No H H1:=by rw[<-a];exact fm
 have V:H1.nx=H.nx+4:=by rw[<-a];rfl
 have k0:H1.get H.nx=aB 0 [.aA]:=by rw[<-a];simp(disch:=first|go_size|omega)only[go_sem,seval]
 have N:H1.get (H.nx+1)=aB 0 [iN 0]:=by rw[<-a];simp(disch:=first|go_size|omega)only[go_sem,seval]
 have k2:H1.get (H.nx+1+1)=aB 0 [iN 0]:=by rw[<-a];simp(disch:=first|go_size|omega)only[go_sem,seval]
 have O:H1.get (H.nx+1+1+1)=aB 0 [.fn 111 [] [.ptr H.nx 0,.ptr (H.nx+1) 0,.ptr (H.nx+1+1) 0,.ptr (H.nx+1+1+1) 0]]:=by rw[<-a];exact dL _ _ _
 have R:WkI H1 H.nx (H.nx+1) (H.nx+1+1) (H.nx+1+1+1) [] .aA 0:=⟨k0,N,k2,O,⟨om,om,om,om⟩,Gl.nil 5 _,fun c h=>by obtain⟨_,_,_,_,h⟩:=h;cases h⟩;have s:=E.lt;have t:jP (· < H.nx) H1 r cs:=(M.mono (Q:=fun c=>c<H.nx) fun c h _=>h).fm q;refine Ok.ve (zwz p K r j o.fit (by have:=o.dp;omega) b 0 1 false H1 _ _ _ _ [] .aA 0 cs R (E.fm q) (t) s (by have:=o.dp;omega) (by have:=o.sz;simpa using this) om) ?_;rintro _ A ⟨rfl,l,nv,d,f,n,U,I,B⟩;have W:=I.nx;have u:=f.n;have z:=f.d;have S:=f.f;simp(disch:=go_size)only[go_sem,seval];unfold q6c;simp(disch:=go_size)only[go_sem,seval,S];unfold q6d;obtain⟨w,e,J,_,D⟩:=zee p (k:=j) om f.gl;have m:=qP (Gl.flat f.gl) 63;simp(disch:=go_size)only[go_sem,seval,u,z];refine Ok.tT e ?_;have T:Fm No H A:=q.then I fun c g h=>by
  rcases h with h|h|h|⟨_,_,_,_,h⟩
  ·omega
  ·omega
  ·omega
  ·cases h
 have i:∀ c,In w c->H.nx+4<=c:=fun c g=>by
  rcases B c (D c g)with⟨_,_,_,_,h⟩|h
  ·cases h
  ·omega
 have F:∀(x y:bX),Gl 5 ((A.put H.nx x).put (H.nx+1) y) w l.length (l.flatMap lH):=fun x y=>J.keep (lEO _) fun c g _=>by have:=i c g;rw[dS _ _ _ _ om,dS _ _ _ _ om]
 have G:∀(x y:bX),Fm No H ((A.put H.nx x).put (H.nx+1) y):=fun x y=>(T.aH _ _ om).aH _ _ om;rcases J.is with⟨h,_⟩|⟨_,_,_,_,_,h,_⟩
 ·subst h;simp(disch:=go_size)only[go_sem,seval,u,z,m];exact Ok.ret ⟨_,l,d,rfl,⟨F _ _,G _ _,fun c g=>by have:=i c g;omega⟩,by simpa using n⟩
 ·subst h;simp(disch:=go_size)only[go_sem,seval,u,z,m];exact Ok.ret ⟨_,l,d,rfl,⟨F _ _,G _ _,fun c g=>by have:=i c g;omega⟩,by simpa using n⟩
theorem pF.push:pF (aK H (aB 0 cs)) H.nx 0 cs:=⟨by rw[np];omega,fun j h=>by rw[jQ,qb3,lEW,gp h]⟩
theorem qso(b:aU C)(e:iL C)(g:13<=k){r:Ru}{P:Nat->Prop}(c:jP P H r cs)(h:r.Rt):Ok (C k (.f 78) [.agg cs] H) fun v H'=>∃ nv l,v=.bB [nv,iN 0]/\Ac 5 lH H H' nv l/\l.map Prod.fst=r.nodes false:=by
 obtain⟨j,rfl⟩:=aT g;rw[(b j).zBk];unfold zBk zvz;obtain⟨c0,i,m,n,a⟩:=c.four;subst a;have f:Fm No H (aK H (aB 0 [c0,i,m,n])):=by exact kW
 refine Ok.ve (zn5 b e (k:=j) om pF.push (c.fm f) h) ?_;rintro _ H1 ⟨nv,l,d,rfl,o,p⟩;exact Ok.ret ⟨nv,l,rfl,o.trans f,p⟩
theorem zgk(b:aU C)(e:iL C)(g:13<=k){r:Ru}{P:Nat->Prop}(c:jP P H r cs)(h:r.Rt):Ok (C k (.f 49) [.agg cs] H) fun v H'=>v=iN 0/\Fm No H H':=by
 obtain⟨j,rfl⟩:=aT g;rw[(b j).zCx];unfold zCx zus;obtain⟨c0,i,m,n,a⟩:=c.four;subst a;have f:Fm No H (aK H (aB 0 [c0,i,m,n])):=by exact kW
 refine Ok.ve (zn5 b e (k:=j) om pF.push (c.fm f) h) ?_;rintro _ H1 ⟨nv,l,d,rfl,o,p⟩;exact Ok.ret ⟨rfl,f.trans o.fm⟩
structure PrX(X:List aQ):Prop where
 n:X.length<=16
 r:∀ g∈X,g.gs.length<=16/\Nm g.name
 x:∀ g∈X,∀x∈g.gs,x.r.types.length<=8/\Nm x.r.name/\x.r.rule.Rt/\∀ t∈x.r.types,Nm t.sp/\(t.rl=sE\/Nm t.rl)
theorem PrX.sml(h:PrX X):xI X:=⟨by have:=h.n;omega,fun g a=>by have:=(h.r g a).1;omega,fun g a x b=>by have:=(h.x g a x b).1;omega⟩
theorem qre(d:iL C){j:Nat}(p:1<=j){ts:List jX}{tv:AV}{Hb:Hp}(e:Rs 2 tC Hb tv ts)(c:ts.length<=8)(b:∀ t∈ts,Nm t.sp/\(t.rl=sE\/Nm t.rl)){Q:pS}{q:pL}{qr:pH}(f:∀ H,Fm No Hb H->Ok (q H) Q):∀(k i:Nat) (H:Hp),i<=ts.length->ts.length-i<k->Fm No Hb H->Ok (za2 (C j) qr q tv (iN (ts.length)) k (iN i) H) Q
 |0,i,_,_,h,_=>om
 |k+1,i,H,hi,hk,hf=>by
  show Ok (zjz (C j) _ _ _ _ (za2 (C j) _ _ _ _ k) _ H) Q;unfold zjz;obtain⟨m,rfl⟩:∃ m,j=m+1:=⟨j-1,om⟩;by_cases a:i<ts.length
  ·simp only[go_sem,a];unfold zjy;have v:=e.fm hf;obtain⟨w,x,u,y,_,n,z⟩:=v.at' i a;have r:=b ts[i] (lEQ a);have g:=(d m).p _ r.1;unfold tC SS.v at n;unfold SS.v at g;by_cases o:ts[i].rl.n=0/\ts[i].rl.a=0
   ·have l:=lO5 o;simp(disch:=first|omega|exact ti rfl)only[go_sem,seval,u,n,g,l];unfold q55;simp(disch:=go_size)only[go_sem,rB,rI,rK,rL,rN,rS,r8];exact qre d p e c b f k (i+1) _ om om (hf.trans fm)
   ·have s:=(d m).p ts[i].rl (by
     rcases r.2 with h|h
     ·exact absurd ((o8 _ _).1 h) o
     ·exact h)
    unfold SS.v at s;simp(disch:=first|omega|exact ti rfl)only[go_sem,seval,u,n,g,o,s];unfold q55;simp(disch:=go_size)only[go_sem,rB,rI,rK,rL,rN,rS,r8];exact qre d p e c b f k (i+1) _ om om (hf.trans fm)
  ·simp only[go_sem,a];exact f H hf
theorem xa6(n:aU C)(c:iL C)(x:14<=k){g:bC}(d:rG H g)(b:g.r.types.length<=8/\Nm g.r.name/\g.r.rule.Rt/\∀ t∈g.r.types,Nm t.sp/\(t.rl=sE\/Nm t.rl)):Ok (C k (.f 133) [.agg (iK g)] H) fun v H'=>v=iN 0/\Fm No H H':=by
 obtain⟨j,rfl⟩:∃ j,k=j+1+1:=⟨k-2,om⟩;rw[(n (j+1)).zCi];unfold zCi z5y;obtain⟨c0,i,l,m,a⟩:=d.ru.four;have h:iK g=[.str g.r.name.n g.r.name.a,g.tv,c0,i,l,m]:=by unfold iK;rw[a];rfl
 rw[h];have o:=(c j).p _ b.2.1;unfold SS.v at o;have u:¬ 8<g.r.types.length:=om;have f:Fm No H (aK H (aB 0 [.str g.r.name.n g.r.name.a,g.tv,c0,i,l,m])):=by exact kW
 have p:=d.ty.fm f;have q:=p.len;simp(disch:=go_size)only[go_sem,rB,rI,rK,rL,rN,rS,r8,o,q,u];unfold zjx;simp(disch:=go_size)only[go_sem,rB,rI,rK,rL,rN,rS,r8,q];unfold z1i;rw[dD];refine qre c om p b.1 b.2.2.2 (fun s e=>?_) bZ 0 _ (lEV _) lf (Fm.refl _ _);unfold zjw;have k2:s.get H.nx=aB 0 [.str g.r.name.n g.r.name.a,g.tv,c0,i,l,m]:=(e.keep gx).trans (jQ _ _);simp only[go_sem,k2];have r:=d.ru.fm (f.trans e);rw[a]at r;refine Ok.ve (zgk n c (k:=j+1) om r b.2.2.1) ?_;rintro _ y ⟨rfl,w⟩;exact Ok.ret ⟨rfl,(f.trans e).trans w⟩
theorem qrh(f:aU C)(l:iL C){j:Nat}(m:14<=j){g:aQ}{Hb:Hp}(n:SpR Hb g)(b:g.gs.length<=16)(o:∀ x∈g.gs,x.r.types.length<=8/\Nm x.r.name/\x.r.rule.Rt/\∀ t∈x.r.types,Nm t.sp/\(t.rl=sE\/Nm t.rl)){Q:pS}{q:pL}{qr:pH}(p:∀ H,Fm No Hb H->Ok (q H) Q):∀(k i:Nat) (H:Hp),i<=g.gs.length->g.gs.length-i<k->Fm No Hb H->Ok (qxo (C j) qr q g.rv (iN (g.gs.length)) k (iN i) H) Q
 |0,i,_,_,h,_=>om
 |k+1,i,H,hi,hk,hf=>by
  show Ok (q6e (C j) _ _ _ _ (qxo (C j) _ _ _ _ k) _ H) Q;unfold q6e;by_cases a:i<g.gs.length
  ·simp only[go_sem,a];unfold zkr;have r:=n.fm hf;obtain⟨D,E,w,F,_,_,_,v⟩:=r.at' i a;have s:=lEQ a;have u:=r.rel _ s;obtain⟨c0,y,z,A,e⟩:=u.ru.four;have c:iK g.gs[i]=[.str g.gs[i].r.name.n g.gs[i].r.name.a,g.gs[i].tv,c0,y,z,A]:=by unfold iK;rw[e];rfl
   have d:Fm No H ((aK H (aB 0 [.str 0 0,.aA,.int .u8 (.ofNat 0),.str 0 0,.str 0 0,.aA])).put H.nx (aB 0 (iK g.gs[i]))):=by exact jW
   have O:=xa6 f l (k:=j) m (u.fm d) (o _ s);rw[c]at v d O;simp(disch:=omega)only[go_sem,seval,w,v];refine Ok.ve O ?_;rintro _ G ⟨rfl,B⟩;unfold zks;simp(disch:=go_size)only[go_sem,rB,rI,rK,rL,rN,rS,r8];exact qrh f l m n b o p k (i+1) _ om om ((hf.trans d).trans B)
  ·simp only[go_sem,a];exact p H hf
theorem qvm(g:aU C)(d:iL C){j:Nat}(l:14<=j){sv:AV}{X:List aQ}{Hb:Hp}(n:cZ Hb sv X)(c:PrX X){Q:pS}{q:pL}{qr:pH}(o:∀ H,Fm No Hb H->Ok (q H) Q):∀(k i:Nat) (H:Hp),i<=X.length->X.length-i<k->Fm No Hb H->Ok (q0w (C j) qr q sv (iN (X.length)) k (iN i) H) Q
 |0,i,_,_,h,_=>om
 |k+1,i,H,hi,hk,hf=>by
  show Ok (zku (C j) _ _ _ _ (q0w (C j) _ _ _ _ k) _ H) Q;unfold zku;obtain⟨m,rfl⟩:∃ m,j=m+1:=⟨j-1,om⟩;have z:=c.n;by_cases a:i<X.length
  ·simp only[go_sem,a];unfold zkp;have p:=n.fm hf;obtain⟨A,B,x,D,_,v,_⟩:=p.rs.at' i a;have e:=lEQ a;unfold xG SS.v at v;have r:=c.r _ e;have s:=(d m).p _ r.2;unfold SS.v at s;have b:=p.sp _ e;have t:=b.len;have f:¬ 16<X[i].gs.length:=om;simp(disch:=go_size)only[go_sem,rB,rI,rK,rL,rN,rS,r8,x,v,s,t,f];unfold zkq;simp(disch:=go_size)only[go_sem,rB,rI,rK,rL,rN,rS,r8,t];unfold zkv;rw[dD];have u:Fm No H ((aK H (aB 0 [.str 0 0,.aA])).put H.nx (aB 0 [.str X[i].name.n X[i].name.a,X[i].rv])):=by exact jW
   refine qrh g d l (b.fm u) r.1 (c.x _ e) (fun y w=>?_) bZ 0 _ (lEV _) lf (Fm.refl _ _);unfold zkn;simp(disch:=go_size)only[go_sem,rB,rI,rK,rL,rN,rS,r8];exact qvm g d l n c o k (i+1) _ om om ((hf.trans u).trans w)
  ·simp only[go_sem,a];exact o H hf
theorem zsq(b:aU C)(g:iL C)(h:15<=k)(c:cZ H sv X)(d:PrX X):Ok (C k (.f 109) [.agg [sv]] H) fun v H'=>v=iN 0/\Fm No H H':=by
 obtain⟨j,rfl⟩:=aT h;rw[(b j).zBu];unfold zBu z6i;have f:Fm No H (aK H (aB 0 [sv])):=by exact kW
 have e:=c.rs.len;have m:=d.n;have a:¬ 16<X.length:=om;simp(disch:=go_size)only[go_sem,rB,rI,rK,rL,rN,rS,r8,e,a];unfold zko;simp(disch:=go_size)only[go_sem,rB,rI,rK,rL,rN,rS,r8,e];unfold z1q;rw[dD];refine qvm b g om (c.fm f) d (fun l i=>?_) bZ 0 _ (lEV _) lf (Fm.refl _ _);exact Ok.ret ⟨rfl,f.trans i⟩
theorem zq6(e:AV->AV->Option Bool)(k:AV)(i:Nat):qj6 e k [] i=some none:=rfl
theorem zfr(e:AV->AV->Option Bool)(k:AV)(x:oC)(es:List oC)(i:Nat):qj6 e k (x::es) i=match e k x.key with|some true=>some (some ⟨i,x⟩)|some false=>qj6 e k es (i+1)|none=>none:=rfl
def eqPr:AV->AV->Option Bool:=kU (eqFields [(p1,⟨iA⟩,0),(p1,⟨iA⟩,1)])
theorem qj7(s t:SS):iA s.v t.v=some (decide (s=t)):=by show some (Nat.beq s.n t.n&&Nat.beq s.a t.a)=_;rw[beq_eq,beq_eq,<-Bool.decide_and];congr 1;exact decide_eq_decide.2 (o8 s t).symm
theorem q8x(p q:SS×SS):eqPr (.agg (pC p)) (.agg (pC q))=some (decide (p=q)):=by
 show andThen (iA p.1.v q.1.v) (andThen (iA p.2.v q.2.v) (some true))=_;rw[qj7,qj7];obtain⟨a,b⟩:=p;obtain⟨c,d⟩:=q;by_cases e:a=c
 ·by_cases f:b=d
  ·simp[e,f,andThen]
  ·simp[e,f,andThen]
 ·simp[e,andThen]
theorem qzr{α:Type}[DecidableEq α]{e:AV->AV->Option Bool}{b:α->AV}(d:∀ p q,e (b p) (b q)=some (decide (p=q)))(p:α):∀(es:List oC) (ps:List α) (i:Nat),es.map oC.key=ps.map b -> (p∉ps->qj6 e (b p) es i=some none)/\(p∈ps->∃ x,es[ps.findIdx fun q=>decide (q=p)]? =some x/\qj6 e (b p) es i=some (some ⟨i+ps.findIdx (fun q=>decide (q=p)),x⟩))
 | [],[],i,_=>⟨fun _=>zq6 _ _ _,fun h=>by cases h⟩
 | [],_::_,_,h=>by cases h
 |_::_,[],_,h=>by cases h
 |x::es,q::ps,i,h=>by
  injection h with h1 h2;obtain⟨l,g⟩:=qzr d p es ps (i+1) h2;rw[zfr,h1,d];by_cases a:p=q
  ·subst a;refine⟨fun h=>absurd lIH h,fun _=>⟨x,?_,?_⟩⟩
   ·simp[List.findIdx_cons]
   ·simp[List.findIdx_cons]
  ·have c:¬ q=p:=fun h=>a h.symm;refine⟨fun h=>?_,fun h=>?_⟩
   ·simp_all
   ·have f:p∈ps:=by
     simp_all
    obtain⟨y,j,k⟩:=g f;refine⟨y,?_,?_⟩
    ·simp[List.findIdx_cons,c];exact j
    ·simp only[a,decide_false];rw[k];simp only[List.findIdx_cons,c,decide_false,lOZ];congr 3;omega
structure lJ{α:Type}(ky:α->AV)(vl:Nat->Nat)(H:Hp)(b:Nat)(ps:List α):Prop where
 ex:∃ es c,H.get b=.map es c/\es.map oC.key=ps.map ky/\es.map oC.val=(List.range ps.length).map fun i=>iN ((vl i))
theorem lJ.eq{α:Type}{a:α->AV}{vl:Nat->Nat}{ps:List α}(h:lJ a vl H b ps)(e:H'.get b=H.get b):lJ a vl H' b ps:=by obtain⟨es,c,d,f,g⟩:=h.ex;exact⟨es,c,e.trans d,f,g⟩
theorem lJ.len{α:Type}{a:α->AV}{vl:Nat->Nat}{ps:List α}(h:lJ a vl H b ps):aA5 H (.map b)=.val (iN (ps.length)):=by
 obtain⟨es,c,e,f,g⟩:=h.ex;have d:es.length=ps.length:=by have:=congrArg List.length f;simpa using this
 show(match H.get b with| .map es _=>R0.val (i64 es.length)|_=>.bad)=_;rw[e,<-d];rfl
theorem lJ.look{α:Type}[DecidableEq α]{a:α->AV}{vl:Nat->Nat}{ps:List α}(h:lJ a vl H b ps){e:AV->AV->Option Bool}{s:Option Nat}(g:∀ p q,e (a p) (a q)=some (decide (p=q)))(i:∀ p,qh0 s (a p)=true)(z:AV)(d:Bool)(p:α):tX ⟨e,s⟩ z d H (.map b) (a p)=if p∈ps then .val (bif d then .bB [iN ((vl (ps.findIdx fun q=>decide (q=p)))),.bool true]else iN ((vl (ps.findIdx fun q=>decide (q=p)))))else .val (bif d then .bB [z,.bool false]else z):=by
 obtain⟨es,c,l,m,r⟩:=h.ex;obtain⟨g1,g2⟩:=qzr g p es ps 0 m;show(match(match H.get b with| .map es _=>some es|_=>none)with|some es=>z9t d z (bif qh0 s (a p)then qj6 e (a p) es 0 else none)|none=>.bad)=_;rw[l,i];simp only[lII];by_cases f:p∈ps
 ·rw[lEZ f];obtain⟨x,n,x2⟩:=g2 f;rw[x2];have j:x.val=iN ((vl (ps.findIdx fun q=>decide (q=p)))):=by
   have k:(ps.findIdx fun q=>decide (q=p))<ps.length:=by rw[List.findIdx_lt_length];exact⟨p,f,g3⟩
   have o:(es.map oC.val)[ps.findIdx fun q=>decide (q=p)]? =some x.val:=by rw[lO6,n];rfl
   simp_all
  show R0.val (bif d then .bB [x.val,.bool true]else x.val)=_;rw[j]
 ·rw[lEU f,g1 f];rfl
theorem lJ.upd{α:Type}[DecidableEq α]{a:α->AV}{vl:Nat->Nat}{ps:List α}(h:lJ a vl H b ps){e:AV->AV->Option Bool}{s:Option Nat}(d:∀ p q,e (a p) (a q)=some (decide (p=q)))(i:∀ p,qh0 s (a p)=true){p:α}(j:p∉ps):∃k,qK ⟨e,s⟩ H (.map b) (a p) (iN ((vl ps.length)))=.ok .undef (H.put b k)/\lJ a vl (H.put b k) b (ps++[p]):=by
 obtain⟨es,c,m,f,g⟩:=h.ex;obtain⟨g1,_⟩:=qzr d p es ps 0 f;refine⟨.map (es++[⟨a p,iN ((vl ps.length)),c⟩]) (c+1),?_,⟨_,_,dL _ _ _,?_,?_⟩⟩
 ·have l:q8v ⟨e,s⟩ (a p) es=some none:=by
   show(bif qh0 s (a p)then qj6 e (a p) es 0 else none)=_;simp_all
  unfold qK;simp_all
 ·simp_all
 ·rw[lID,g,lEP,List.length_singleton,lX4,lID];rfl
theorem lJ.nil{α:Type}(a:α->AV)(vl:Nat->Nat){b c:Nat}(h:H.get b=.map [] c):lJ a vl H b ([]:List α):=⟨[],c,h,rfl,rfl⟩
def kyP(p:SS×SS):AV:=.agg [.str p.1.n p.1.a,.str p.2.n p.2.a]
def kyS(s:SS):AV:=.str s.n s.a
theorem q3b(p q:SS×SS):kU (eqFields [(p1,⟨iA⟩,0),(p1,⟨iA⟩,1)]) (kyP p) (kyP q)=some (decide (p=q)):=q8x p q
theorem zqp(p q:SS):iA (kyS p) (kyS q)=some (decide (p=q)):=qj7 p q
abbrev iU(H:Hp)(b:Nat)(ps:List (SS×SS)):Prop:=lJ kyP id H b ps
abbrev uE(H:Hp)(b:Nat)(ss:List SS):Prop:=lJ kyS (fun _=>1) H b ss
theorem iU.find{ps:List (SS×SS)}(h:iU H b ps)(z:AV)(x y:SS)(a:(x,y)∈ps):tX ⟨kU (eqFields [(p1,⟨iA⟩,0),(p1,⟨iA⟩,1)]),some 2⟩ z true H (.map b) (.agg [.str x.n x.a,.str y.n y.a])=.val (.bB [iN ((ps.findIdx fun q=>decide (q=(x,y)))),.bool true]):=by have:=h.look (s:=some 2) q3b (fun _=>rfl) z true (x,y);rw[lEZ a]at this;exact this
theorem iU.aNJ{ps:List (SS×SS)}(h:iU H b ps)(z:AV)(x y:SS)(a:(x,y)∈ps):tX ⟨kU (eqFields [(p1,⟨iA⟩,0),(p1,⟨iA⟩,1)]),some 2⟩ z false H (.map b) (.agg [.str x.n x.a,.str y.n y.a])=.val (iN ((ps.findIdx fun q=>decide (q=(x,y))))):=by have:=h.look (s:=some 2) q3b (fun _=>rfl) z false (x,y);rw[lEZ a]at this;exact this
theorem iU.miss{ps:List (SS×SS)}(h:iU H b ps)(z:AV)(x y:SS)(a:(x,y)∉ps):tX ⟨kU (eqFields [(p1,⟨iA⟩,0),(p1,⟨iA⟩,1)]),some 2⟩ z true H (.map b) (.agg [.str x.n x.a,.str y.n y.a])=.val (.bB [z,.bool false]):=by have:=h.look (s:=some 2) q3b (fun _=>rfl) z true (x,y);rw[lEU a]at this;exact this
theorem iU.put{ps:List (SS×SS)}(h:iU H b ps)(x y:SS)(a:(x,y)∉ps):∃k,qK ⟨kU (eqFields [(p1,⟨iA⟩,0),(p1,⟨iA⟩,1)]),some 2⟩ H (.map b) (.agg [.str x.n x.a,.str y.n y.a]) (iN (ps.length))=.ok .undef (H.put b k)/\iU (H.put b k) b (ps++[(x,y)]):=
 h.upd (s:=some 2) q3b (fun _=>rfl) a
theorem uE.find{a:List SS}(h:uE H b a)(z:AV)(x:SS)(c:x∈a):tX ⟨iA,none⟩ z false H (.map b) (.str x.n x.a)=.val (iN 1):=by have:=h.look (s:=none) zqp (fun _=>rfl) z false x;rw[lEZ c]at this;exact this
theorem uE.miss{a:List SS}(h:uE H b a)(z:AV)(x:SS)(c:x∉a):tX ⟨iA,none⟩ z false H (.map b) (.str x.n x.a)=.val z:=by have:=h.look (s:=none) zqp (fun _=>rfl) z false x;rw[lEU c]at this;exact this
theorem uE.put{a:List SS}(h:uE H b a)(x:SS)(c:x∉a):∃k,qK ⟨iA,none⟩ H (.map b) (.str x.n x.a) (iN 1)=.ok .undef (H.put b k)/\uE (H.put b k) b (a++[x]):=
 h.upd (s:=none) zqp (fun _=>rfl) c
end Go.Di
end
