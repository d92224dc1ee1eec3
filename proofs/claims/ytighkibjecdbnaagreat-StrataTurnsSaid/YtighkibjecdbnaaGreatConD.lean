/-
 For StrataTurns: functions in direct style, their contracts, and the plain mathematics, part 4 of 10. No conditions beyond those that each theorem states.
-/
import Derived.Test.YtighkibjecdbnaaGreatConC
set_option linter.unusedSimpArgs false
set_option linter.unusedVariables false
open Nat renaming reduceAdd->rB,reduceMul->rI,reduceSub->rK,reduceLeDiff->rL,reduceEqDiff->rN,reduceShiftRight->rS,reduceAnd->r6
section
namespace Go.Di
open Go.Ev
variable {C:Nat->Ev.Call}
variable {H H':Hp} {X:List aM} {cs l:List AV} {g:aM} {i j k m n z:Nat} {ms:List Nat} {neg:Bool} {qr:pB} {sv:AV}
def rR(bE:List iY)(r:iY):iY:=if qwp bE r then r else⟨r.name,[],r.rule⟩
theorem qbz(bE:List iY)(r:iY):(rR bE r).rule=r.rule:=by unfold rR;split<;>rfl
theorem Rs.nil{α:Type}(z:Nat)(f:α->List AV)(H:Hp):Rs z f H .aA ([]:List α):=⟨rfl,fun i h=>by simp at h⟩
def aEb(g:aT):aT:=⟨⟨g.r.name,[],g.r.rule⟩,.aA,g.cs⟩
theorem zk2:∀(l:List aT) (i:Nat) (h:i<l.length),aY (l.flatMap eP) (i*6+1) [.aA]=(l.set i (aEb l[i])).flatMap eP
 | [],_,h=>by simp at h
 |x::l,0,_=>by simp[aY,eP,aEb]
 |x::l,i+1,h=>by
  have:=zk2 l i (by simpa using h);rw[lAX,xF,xF,List.getElem_cons_succ,<-this];unfold aY;have e:(i+1)*6+1=(eP x).length+(i*6+1):=by rw[qdj];omega
  rw[e,iw,rf,rf];congr 1;rw[rf];congr 2;rw[ui,iy]
def kZ(bE:List iY)(k:Nat):List iY:=(bE.take k).map (rR bE)++bE.drop k
theorem zl2{bE:List iY}(h:k<bE.length)(a:k<(kZ bE k).length):(kZ bE k)[k]=bE[k]:=by
 have e:(kZ bE k)[k]? =some bE[k]:=by unfold kZ;rw[ug (by simp;omega)];simp[yz (yu h),h]
 simp_all
theorem ztp(bE:List iY)(k:Nat)(s:SS):(kZ bE k).any (fun x=>dV x.rule 3 s)=bE.any (fun x=>dV x.rule 3 s):=by
 unfold kZ;rw[ik,lAF]
 conv=>rhs;rw[<-oq k bE,ik]
 congr 2;funext x;simp only[Function.comp,qbz]
theorem qxf(bE:List iY)(k:Nat):(kZ bE k).length=bE.length:=by unfold kZ;simp;omega
theorem q0k{bE:List iY}(h:k<bE.length):kZ bE (k+1)=(kZ bE k).set k (rR bE bE[k]):=by
 unfold kZ;rw[lw h,uj,ah,rf,List.set_append_right _ _ (by simp;omega)];simp only[pz,ry,yz (yu h),lEM]
 conv=>rhs;rw[uo h]
 rfl
theorem rJ.set{A B:Nat}{rv:AV}{e:List aT}(h:rJ A B H rv e)(k:i<e.length):∃b o H',aG 6 rv (iN i)=.val (.ptr b o)/\storeAt H b (o+1) [.aA] .undef=.ok .undef H'/\rJ A B H' rv (e.set i (aEb e[i]))/\Fm (In rv) H H':=by
 obtain⟨b,o,H',l,m,g,f,_⟩:=h.gl.set1 k (j:=1) (by omega) .aA;rw[zk2 e i k]at g;refine⟨b,o,H',l,m,⟨by rw[ul];exact g,h.rQ,fun y a=>?_,fun y a=>?_⟩,f⟩
 ·rcases dh a with a|rfl
  ·exact⟨(h.ty y a).1.gH f fun c d=>((h.ty y a).2.2 c d).2.2,(h.ty y a).2⟩
  ·exact⟨Rs.nil _ _ _,.inl rfl,fun c d=>by obtain⟨_,_,_,_,d⟩:=d;cases d⟩
 ·rcases dh a with a|rfl
  ·exact(h.ru y a).gH f fun c d=>d.2.2
  ·exact(h.ru e[i] (lg k)).gH f fun c d=>d.2.2
theorem qk8(n:aV C){j:Nat}(p:20<=j){A B:Nat}{rv:AV}{bE:List iY}{H1:Hp}(e:bE.length<=1000)(hd:∀ r∈bE,r.rule.depth<=12/\r.rule.size<=10000){Q:pH}{q:pD}(s:∀ c H,c.map aT.r=bE.map (rR bE)->rJ A B H rv c->Fm (In rv) H1 H->Ok (q H) Q):∀(k i:Nat) (c:List aT) (H:Hp),i<=bE.length->bE.length-i<k->c.map aT.r=kZ bE i->rJ A B H rv c->Fm (In rv) H1 H -> Ok (qok (C j) q rv k (iN i) H) Q
 |0,i,_,_,_,h,_,_,_=>by omega
 |k+1,i,c,H,hi,hk,hg,hI,hf=>by
  show Ok (q50 (C j) _ _ (qok (C j) _ _ k) _ H) Q;unfold q50;have z:=hI.gl.bS;have F:c.length=bE.length:=by have:=congrArg List.length hg;rwa [pz,qxf]at this
  have f:∀ g∈c,g.r.rule.depth<=12/\g.r.rule.size<=10000:=fun g t=>by
   have:g.r∈kZ bE i:=by rw[<-hg];exact zo t
   unfold kZ at this;rw[pg,qj]at this;rcases this with⟨r,J,v⟩|h
   ·rw[<-v,qbz];exact hd r (mf J)
   ·exact hd _ (List.mem_of_mem_drop h)
  by_cases d:i<bE.length
  ·have a:i<c.length:=by omega
   simp only[go_sem,z,a];rw[qsj];unfold qwf;obtain⟨b,o,K,U,_,_,_,L,_⟩:=hI.at a;simp only[go_sem,K,L];refine Ok.ve (zxq n (k:=j) (r:=c[i].r.rule) (by have:=(f _ (lg a)).1;omega) (by have:=(f _ (lg a)).2;omega) (hI.ru _ (lg a)) 1 sE) ?_;rintro _ M ⟨rfl,E⟩;have l:=hI.gH E fun _ _ _ h=>h;have u:c[i].r=bE[i]:=by have G:(c.map aT.r)[i]'(by simpa using a)=c[i].r:=zf ..;rw[<-G,<-zl2 d (by rw[qxf];exact d)];congr 1
   have I:(dV c[i].r.rule 1 sE||c.any fun x=>dV x.r.rule 3 c[i].r.name)=qwp bE bE[i]:=by unfold qwp;rw[u,<-ztp bE i,<-hg,lAF];rfl
   unfold zjo;rw[bW];refine qop n p l (by omega) f a (u0:=dV c[i].r.rule 1 sE) (fun w y=>?_) bL 0 _ M (gy _) (by rw[bZ];omega) (Fm.refl _ _) (by simp);rw[I];rw[qsl];unfold qwh;have D:=l.gH y fun _ _ _ h=>h;have m:Fm (In rv) H1 w:=(hf.then E fun _ _ h=>absurd h id).then y fun _ _ h=>absurd h id;cases T:qwp bE bE[i]with
   |true=>
    rw[qkn];unfold qmr;simp(disch:=go_size)only[go_sem,rB,rI,rK,rL,rN,rS,r6];refine qk8 n p e hd s k (i+1) c w (by omega) (by omega) ?_ D m;rw[q0k d,hg];have:rR bE bE[i]=(kZ bE i)[i]'(by rw[qxf];exact d):=by rw[zl2 d];unfold rR;rw[T];rfl
    simp_all
   |false=>obtain⟨V,W,N,O,P,R,S⟩:=D.set a;simp only[go_sem,O,P];rw[qkn];unfold qmr;simp(disch:=go_size)only[go_sem,rB,rI,rK,rL,rN,rS,r6];refine qk8 n p e hd s k (i+1) _ N (by omega) (by omega) ?_ R (m.then S fun _ _ h=>h);rw[q0k d,lE9,hg];congr 1;unfold rR aEb;simp_all
  ·have v:i=bE.length:=by omega
   have a:¬ i<c.length:=by omega
   simp only[go_sem,z,a];refine s c H ?_ hI hf;rw[hg,v];unfold kZ;simp
theorem zcg(L:List (List Nat))(n:Nat):∀(d i:Nat) (neg:Bool),i<=(eO L n d i neg).2/\(eO L n d i neg).1.size<=2*((eO L n d i neg).2-i)+1/\(eO L n d i neg).1.depth<=d+1:=by
 have a:∀ neg,(qjk neg).size=1/\(qjk neg).depth=1:=fun neg=>by cases neg<;>exact⟨rfl,rfl⟩
 have b:∀ c neg,(uL L n c neg).size=1/\(uL L n c neg).depth=1:=fun c neg=>by
  unfold uL;split
  ·exact a neg
  ·trivial
 intro d
 induction d with
 |zero=>intro i neg;unfold eO;have:=a neg;simp only;omega
 |succ d ih=>
  intro i neg;unfold eO;have e:=a neg;split
  ·simp_all
  split
  ·simp_all
  split
  ·simp only[aAu,Ru.size,Ru.depth];omega
  split
  ·have:=b (eD L n i / 8) neg;simp only;omega
  have e:=ih (i+1) neg;have f:=ih (eO L n d (i+1) neg).2 (neg||decide (vB n (eD L n i)=6));simp only[Ru.size,Ru.depth];omega
theorem qh8(L:List (List Nat))(n:Nat):(lM L n).rule.size<=21/\(lM L n).rule.depth<=7:=by have a:=zcg L n 6 2 false;have b:=(qmx L n 6 2 false).2;unfold lM;simp only;omega
def zbj(p:yJ):yJ:=⟨p.name,p.bE.map (rR p.bE)⟩
def sH(L:List (List Nat)):List yJ:=⟨sU,[]⟩::(List.range ((bD L+3) / 4)).map fun i=>spN L i (min (bD L) (4*i+4))
def aBH(L:List (List Nat)):List yJ:=(sH L).map zbj
theorem St.raw{L:List (List Nat)}{l:List aM}(h:St L (bD L) l g):(l++[g]).map aM.sp=sH L:=by
 unfold sH;rw[uj,ah];rcases h with⟨c,rfl,h⟩|⟨q,d,e,f,j⟩
 ·rw[c,h];rfl
 ·have b:(bD L+3) / 4=q+1:=by omega
  rw[b,oz,uj,ah,d,e];unfold pre;rw[lAQ];congr 2
  ·refine lA8 fun i a=>?_;rw[xu]at a;unfold spF;rw[Nat.min_eq_right (by omega)]
  ·simp_all
theorem zk6{L:List (List Nat)}{p:yJ}(a:p∈sH L):p.bE.length<=4/\∀ r∈p.bE,∃n,n<bD L/\r=lM L n:=by
 unfold sH at a;rw[qm,qj]at a;rcases a with rfl|⟨i,c,rfl⟩
 ·simp
 ·refine⟨by simp only[spN,pz,qll];omega,fun r b=>?_⟩;simp only[spN,qj,qga]at b;obtain⟨n,d,rfl⟩:=b;exact⟨n,by omega,rfl⟩
theorem rJ.flat{A B:Nat}{rv:AV}{a:List aT}(h:rJ A B H rv a):vL rv=true:=by rcases h.gl.is with⟨h,_⟩|⟨_,_,_,_,_,h,_⟩<;>(rw[h];rfl)
theorem j6.aV4(m:j6 H sv X)(o:i<X.length){p:List aT}(x:rJ X[i].A X[i].B H' X[i].rv p)(f:Fm (In X[i].rv) H H'):j6 H' sv (X.set i ⟨X[i].name,p,X[i].rv,X[i].A,X[i].B⟩):=by
 have q:=lg o;have k:=(m.rel _ q).1.rQ;refine⟨?_,?_,?_,?_⟩
 ·have e:(X.set i ⟨X[i].name,p,X[i].rv,X[i].A,X[i].B⟩).flatMap sI=X.flatMap sI:=by
   rw[List.flatMap_def,List.flatMap_def,lE9];congr 1;have:(X.map sI)[i]'(by simpa using o)=sI ⟨X[i].name,p,X[i].rv,X[i].A,X[i].B⟩:=by rw[zf];rfl
   rw[<-this,List.set_getElem_self]
  rw[ul,e];exact m.gl.fm f fun b u v=>m.dj _ q b u (k b v)
 ·have c:=m.ord;rw[uf]at c ⊢;intro a b w n s;rw[ul]at w n;have:=c a b w n s;rw[lEC,lEC];split<;>split<;>(subst_vars;first|exact this|omega)
 ·intro g d;rw[mg]at d;obtain⟨j,r,rfl⟩:=d;rw[ul]at r;rw[lEC];split
  ·exact⟨x,rq (m.rel _ q).2 f.nx⟩
  ·rename_i t;have l:=lg r;refine⟨(m.rel _ l).1.gH f fun b u v y=>?_,rq (m.rel _ l).2 f.nx⟩;have z:=k b y;have c:=m.ord;rw[uf]at c;rcases Nat.lt_or_gt_of_ne t with h|h
   ·have:=c i j o r h;omega
   ·have:=c j i r o h;omega
 ·intro g d b n;rcases dh d with d|rfl
  ·exact m.dj g d b n
  ·exact m.dj _ q b n
structure ClI(H0 H:Hp)(sb:Nat)(sv:AV)(X:List aM):Prop where
 m:j6 H sv X
 an:∀ x∈X,H0.nx<=x.A/\¬(x.A<=sb/\sb<x.B)
 sbk:H.get sb=aB 0 [sv]
 sbl:H0.nx<=sb/\sb<H.nx
 tF:∀ b,In sv b->H0.nx<=b
 fm:Fm No H0 H
theorem qot(w:aV C){j:Nat}(y:20<=j){H0:Hp}{sb:Nat}{sv:AV}{S:List yJ}(F:S.length<=1000)(z:∀ p∈S,p.bE.length<=1000/\∀ r∈p.bE,r.rule.depth<=12/\r.rule.size<=10000){Q:pH}{q:pD}(D:∀ X H,X.map aM.sp=S.map zbj->ClI H0 H sb sv X->Ok (q H) Q):∀(k i:Nat) (X:List aM) (H:Hp),i<=S.length->S.length-i<k->X.map aM.sp=(S.take i).map zbj++S.drop i->ClI H0 H sb sv X -> Ok (qkk (C j) q (.ptr sb 0) k (iN i) H) Q
 |0,i,_,_,_,h,_,_=>by omega
 |k+1,i,X,H,hi,hk,hX,hI=>by
  show Ok (q51 (C j) _ _ (qkk (C j) _ _ k) _ H) Q;unfold q51;have E:=hI.m.gl.bS;have s:=hI.sbk;have I:X.length=S.length:=by have:=congrArg List.length hX;simp only[pz,ku,ry,xx]at this;omega
  by_cases e:i<S.length
  ·have a:i<X.length:=by omega
   simp only[go_sem,s,E,a];rw[qsi];unfold qwe;obtain⟨b,o,K,T,_,_,L⟩:=(hI.m.gl.rs qdb).at' i a;have J:bK (H.get b) (o+1)=.val X[i].rv:=L 1 (by rw[qdb];omega);simp only[go_sem,s,K,J];unfold zjq;rw[bW];have g:X[i].sp=S[i]:=by have P:(X.map aM.sp)[i]'(by simpa using a)=X[i].sp:=zf ..;simp_all
   have t:X[i].gs.map aT.r=S[i].bE:=congrArg yJ.bE g;have l:=z S[i] (lg e);have u:=lg a;refine qk8 w y (bE:=S[i].bE) (A:=X[i].A) (B:=X[i].B) (rv:=X[i].rv) (H1:=H) l.1 l.2 (fun M H' N G f=>?_) bL 0 X[i].gs H (gy _) (by rw[bZ];omega) (by rw[t];simp[kZ]) (hI.m.rel _ u).1 (Fm.refl _ _);rw[qsm];unfold qwi;simp(disch:=go_size)only[go_sem,rB,rI,rK,rL,rN,rS,r6];have m:=(hI.m.rel _ u).1.rQ;have n:=hI.an _ u;have d:=hI.sbl;refine qot w y F z D k (i+1) _ H' (by omega) (by omega) ?_ ⟨hI.m.aV4 a G f,?_,?_,?_,hI.tF,?_⟩
   ·rw[lE9,hX,lw e,uj,ah,rf,List.set_append_right _ _ (by simp;omega)];simp only[pz,ry,yz hi,lEM];rw[uo e,List.set_cons_zero,List.singleton_append];congr 2;unfold aM.sp zbj;congr 1;exact congrArg yJ.name g
   ·intro x v;rcases dh v with v|rfl
    ·exact hI.an x v
    ·exact n
   ·exact(f.get _ d.2 fun h=>n.2 (m _ h)).trans hI.sbk
   ·exact⟨d.1,lq d.2 f.nx⟩
   ·exact hI.fm.then f fun c O h=>by have:=(m c h).1;omega
  ·have R:i=S.length:=by omega
   have a:¬ i<X.length:=by omega
   simp only[go_sem,s,E,a];refine D X H ?_ hI;simp_all
structure pG(H:Hp)(g:aT):Prop where
 ty:Rs 2 tC H g.tv g.r.types
 tc:g.tv=.aA\/∃ b o n m e,g.tv=.sl b o n m e/\n<=m/\0<n
 ru:iG (fun _=>True) H g.r.rule g.cs
structure yS(H:Hp)(g:aM):Prop where
 len:aF g.rv=.val (iN (g.gs.length))
 fl:vL g.rv=true
 at':∀ i (h:i<g.gs.length),∃b o,aG 6 g.rv (iN i)=.val (.ptr b o)/\b<H.nx/\bK (H.get b) o=.val (.str g.gs[i].r.name.n g.gs[i].r.name.a)/\bK (H.get b) (o+1)=.val g.gs[i].tv/\jG (H.get b) (o+2) 4=some g.gs[i].cs/\jG (H.get b) o 6=some (eP g.gs[i])
 rel:∀ x∈g.gs,pG H x
structure bM(H:Hp)(sv:AV)(X:List aM):Prop where
 rs:Rs 2 sI H sv X
 fl:vL sv=true
 sp:∀ g∈X,yS H g
theorem pG.tf{g:aT}(h:pG H g):vL g.tv=true:=by rcases h.tc with h|⟨_,_,_,_,_,h,_⟩<;>(rw[h];rfl)
theorem pG.fm{g:aT}(h:pG H g)(f:Fm No H H'):pG H' g:=⟨h.ty.fm f,h.tc,h.ru.fm f⟩
theorem yS.fm(h:yS H g)(f:Fm No H H'):yS H' g:=⟨h.len,h.fl,fun i c=>by obtain⟨b,o,j,a,k,l,m,n⟩:=h.at' i c;have e:=f.keep a;exact⟨b,o,j,lq a f.nx,by rw[e];exact k,by rw[e];exact l,by rw[e];exact m,by rw[e];exact n⟩,fun x d=>(h.rel x d).fm f⟩
theorem bM.fm(h:bM H sv X)(f:Fm No H H'):bM H' sv X:=⟨h.rs.fm f,h.fl,fun g a=>(h.sp g a).fm f⟩
theorem j6.sr(m:j6 H sv X):bM H sv X:=by
 refine⟨m.gl.rs qdb,?_,fun g c=>?_⟩
 ·rcases m.gl.is with⟨h,_⟩|⟨_,_,_,_,_,h,_⟩<;>(rw[h];rfl)
 ·have r:=(m.rel g c).1;refine⟨r.gl.bS,r.flat,fun i d=>?_,fun x a=>⟨(r.ty x a).1,(r.ty x a).2.1,(r.ru x a).mono fun _ _ _=>trivial⟩⟩
  ·obtain⟨b,o,e,f,_,j,k,l,n⟩:=r.at d;exact⟨b,o,e,f,j,k,l,n⟩
def mF(X:List aM)(a b:SS):Option aT:=match X.find? fun g=>decide (g.name=a)with
 |none=>none
 |some g=>g.gs.find? fun x=>decide (x.r.name=b)
theorem zmy{α:Type}{p:α->Bool}{l:List α}(a:i<l.length)(h:p l[i]=true)(b:∀ k (d:k<i),p (l[k]'(by omega))=false):l.find? p=some l[i]:=by rw[List.find?_eq_some_iff_getElem];exact⟨h,i,a,rfl,fun j c=>by rw[b j c];rfl⟩
theorem zmx{α:Type}{p:α->Bool}{l:List α}(b:∀ k (c:k<l.length),p (l[k])=false):l.find? p=none:=by rw[lAG];intro x a;obtain⟨i,d,rfl⟩:=yj a;simp_all
theorem qsu{O:Ev.Call}{H:Hp}{sb:Nat}{sv:AV}{X:List aM}(g:bM H sv X)(s:X.length<1000000)(d:H.get sb=aB 0 [sv])(a:SS){Q:pH}{q:pD}{qr:pB}(j:∀ i (t:i<X.length),X[i].name=a->(∀k (e:k<i),X[k].name≠a)->Ok (qr (iN i) H) Q)(l:(∀k (e:k<X.length),X[k].name≠a)->Ok (q H) Q):∀(k i:Nat),i<=X.length->X.length-i<k->(∀k (e:k<i) (f:k<X.length),X[k].name≠a)->Ok (q8f O qr q a.v (.ptr sb 0) k (iN i) H) Q
 |0,i,_,h,_=>by omega
 |k+1,i,t,e,hn=>by
  show Ok (zg0 O _ _ _ _ (q8f O _ _ _ _ k) _ H) Q;unfold zg0;have f:=g.rs.len;by_cases c:i<X.length
  ·simp only[go_sem,d,f,c];unfold zgy;obtain⟨b,o,r,y,_,_,w⟩:=g.rs.at' i c;have p:bK (H.get b) o=.val (.str X[i].name.n X[i].name.a):=w 0 (by rw[qdb];omega);unfold SS.v;by_cases h:X[i].name.n=a.n/\X[i].name.a=a.a
   ·have v:=zg h;simp only[go_sem,d,r,p,v];exact j i c ((mZ _ _).2 h) fun k e=>hn k e (by omega)
   ·simp only[go_sem,d,r,p,h];unfold zwm;simp(disch:=go_size)only[go_sem,rB,rI,rK,rL,rN,rS,r6];refine qsu g s d a j l k (i+1) (by omega) (by omega) fun m n f=>?_;by_cases x:m=i
    ·subst x;exact fun u=>h ((mZ _ _).1 u)
    ·exact hn m (by omega) f
  ·simp only[go_sem,d,f,c];exact l fun m n=>hn m (by omega) n
theorem qx8(d:aV C)(b:1<=k)(e:bM H sv X)(l:X.length<1000000)(a:SS):Ok (C k (.f 46) [.agg [sv],a.v] H) fun r H'=>Fm No H H'/\((∃i,∃c:i<X.length,r=iN i/\X.find? (fun g=>decide (g.name=a))=some X[i])\/(r=.int .i64 (.negSucc 0)/\X.find? (fun g=>decide (g.name=a))=none)):=by
 obtain⟨j,rfl⟩:=aU b;rw[(d j).zBs];unfold zBs zz2;simp only[go_sem];have f:Fm No H (aN H (aB 0 [sv])):=by exact mG
 unfold zwn;rw[bW];refine qsu (e.fm f) l (jA _ _) a (fun i c m n=>?_) (fun h=>?_) bL 0 (gy _) (by rw[bZ];omega) (fun k b=>by omega)
 ·refine Ok.ret ⟨f,.inl ⟨i,c,rfl,zmy c (by simpa using m) fun k b=>by simpa using n k b⟩⟩
 ·unfold zgz;refine Ok.ret ⟨f,.inr ⟨rfl,zmx fun k b=>by simpa using h k b⟩⟩
def q0j:List AV:=[.str 0 0,.aA,.int .u8 (.ofNat 0),.str 0 0,.str 0 0,.aA]
def q7q(X:List aM)(a b:SS)(r:AV):Prop:=match mF X a b with
 |some g=>r=.aX [.agg (eP g),.bool true]
 |none=>r=.aX [.agg q0j,.bool false]
theorem q0w{O:Ev.Call}{H:Hp}{sb rb:Nat}{sv:AV}{X:List aM}(l:bM H sv X){s:Nat}(n:s<X.length)(c:H.get sb=aB 0 [sv])(y:X[s].gs.length<1000000)(e:H.get rb=aB 0 q0j)(b:SS){Q:pH}{q:pD}{qr:pB}(p:∀ g,X[s].gs.find? (fun x=>decide (x.r.name=b))=some g->Ok (qr (.bool true) (H.put rb (aB 0 (eP g)))) Q)(r:X[s].gs.find? (fun x=>decide (x.r.name=b))=none->Ok (q H) Q):∀(k i:Nat),i<=X[s].gs.length->X[s].gs.length-i<k->(∀k (o:k<i) (d:k<X[s].gs.length),X[s].gs[k].r.name≠b)->Ok (qyo O qr q b.v (.ptr sb 0) (.ptr rb 0) (iN s) k (iN i) H) Q
 |0,i,_,h,_=>by omega
 |k+1,i,hi,o,hn=>by
  show Ok (qyp O _ _ _ _ _ _ (qyo O _ _ _ _ _ _ k) _ H) Q;unfold qyp;obtain⟨B,C,j,F,_,_,D⟩:=l.rs.at' s n;have f:bK (H.get B) (C+1)=.val X[s].rv:=D 1 (by rw[qdb];omega);have u:=l.sp _ (lg n);have d:=u.len;by_cases a:i<X[s].gs.length
  ·simp only[go_sem,c,j,f,d,a,gy];unfold zhx;obtain⟨G,I,v,J,w,K,L,E⟩:=u.at' i a;unfold SS.v;by_cases h:X[s].gs[i].r.name.n=b.n/\X[s].gs[i].r.name.a=b.a
   ·have A:=zg h;simp only[go_sem,c,j,f,v,w,A,E];simp only[go_sem,e];refine p X[s].gs[i] (zmy a (by simpa using (mZ _ _).2 h) fun k o=>by simpa using hn k o (by omega))
   ·simp only[go_sem,c,j,f,v,w,h];unfold zww;simp(disch:=go_size)only[go_sem,rB,rI,rK,rL,rN,rS,r6];refine q0w l n c y e b p r k (i+1) (by omega) (by omega) fun m t d=>?_;by_cases e:m=i
    ·subst e;exact fun z=>h ((mZ _ _).1 z)
    ·exact hn m (by omega) d
  ·simp only[go_sem,c,j,f,d,a,gy];exact r (zmx fun m t=>by simpa using hn m (by omega) t)
theorem qql(n:aV C)(o:2<=k)(p:bM H sv X)(s:X.length<1000000)(q:∀ g∈X,g.gs.length<900000)(a b:SS):Ok (C k (.f 34) [.agg [sv],a.v,b.v] H) fun r H'=>Fm No H H'/\q7q X a b r:=by
 obtain⟨j,rfl⟩:=aU o;rw[(n j).zAy];unfold zAy z0j;simp(disch:=first|go_size|omega)only[go_sem,seval];have f:Fm No H (aN (aN H (aB 0 [sv])) (aB 0 q0j)):=by exact fP2
 refine Ok.ve (qx8 n (k:=j) (by omega) (p.fm f) s a) ?_;rintro r H1 ⟨c,h⟩;have v:=c.nx;have t:H1.get H.nx=aB 0 [sv]:=(c.keep (by(first|go_size|omega))).trans (by simp(disch:=first|go_size|omega)only[go_sem,seval]);have e:H1.get (H.nx+1)=aB 0 q0j:=(c.keep (by go_size)).trans (by simp(disch:=go_size)only[go_sem,seval]);unfold zwx;obtain⟨m,u⟩:∃ m,bL=m+1:=⟨999999,by rw[bZ]⟩;unfold q7q mF;have fin:Ok (q8i (C j) (.ptr (H.nx+1) 0) H1) fun r H'=>Fm No H H'/\r=.aX [.agg q0j,.bool false]:=by unfold q8i;unfold q0j at e ⊢;simp only[go_sem,seval,e];exact Ok.ret ⟨(f.trans c).aD _ _ (by omega),rfl⟩
 rcases h with⟨i,l,rfl,h⟩|⟨rfl,h⟩
 ·rw[bW,h];refine q0w ((p.fm f).fm c) l t (by have:=q _ (lg l);omega) e b (fun g d=>?_) (fun d=>?_) bL 0 (gy _) (by have:=q _ (lg l);rw[bZ];omega) (fun k o=>by omega)
  ·simp only;rw[d];simp only[go_sem];exact Ok.ret ⟨(f.trans c).aD _ _ (by omega),rfl⟩
  ·simp only;rw[d];exact fin
 ·rw[bW,u,h];show Ok (qyp (C j) _ _ _ _ _ _ (qyo (C j) _ _ _ _ _ _ m) _ H1) _;unfold qyp;simp only[go_sem];exact fin
def pC(p:SS×SS):List AV:=[p.1.v,p.2.v]
theorem qpg(p:SS×SS):(pC p).length=2:=rfl
def aJ(X:List aM):List (SS×SS):=X.flatMap fun g=>g.gs.map fun x=>(g.name,x.r.name)
structure vV(X:List aM):Prop where
 n:X.length<=100
 r:∀ g∈X,g.gs.length<=100
 t:∀ g∈X,∀x∈g.gs,x.r.types.length<=100
theorem vV.all(h:vV X):∀ i,((X.take i).flatMap fun g=>g.gs.map fun x=>(g.name,x.r.name)).length<=10000:=fun i=>by
 have c:∀ l:List aM,(∀g∈l,g.gs.length<=100)->(l.flatMap fun g=>g.gs.map fun x=>(g.name,x.r.name)).length<=100*l.length:=by
  intro l
  induction l with
  |nil=>intro _;simp
  |cons a l ih=>intro h;rw[xF,ku,pz,gz];have:=ih fun g b=>h g (uu _ b);have:=h a qy;omega
 have d:=c (X.take i) fun g b=>h.r g (mf b);have e:(X.take i).length<=X.length:=by rw[ry];omega
 have:=h.n;omega
theorem q1j{O:Ev.Call}{H0:Hp}{sb:Nat}{sv:AV}{X:List aM}(l:bM H0 sv X)(m:vV X)(n:H0.get sb=aB 0 [sv])(c:sb<H0.nx){s:Nat}(e:s<X.length){A:List (SS×SS)}(v:A.length<=1000000){Q:pH}{q:pB}(y:∀ w H,Ac 2 pC H0 H w (A++X[s].gs.map fun x=>(X[s].name,x.r.name))->Ok (q w H) Q):∀(k i:Nat) (w:AV) (H:Hp),i<=X[s].gs.length->X[s].gs.length-i<k->Ac 2 pC H0 H w (A++(X[s].gs.take i).map fun x=>(X[s].name,x.r.name)) -> Ok (q8w O q (.ptr sb 0) (iN s) k w (iN i) H) Q
 |0,i,_,_,_,h,_=>by omega
 |k+1,i,w,H,hi,hk,hw=>by
  show Ok (ziw O _ _ _ (q8w O _ _ _ k) _ _ H) Q;unfold ziw;have d:=l.fm hw.fm;have b:=(hw.fm.keep c).trans n;obtain⟨r,t,g,J,_,_,u⟩:=d.rs.at' s e;have z:bK (H.get r) t=.val (.str X[s].name.n X[s].name.a):=u 0 (by rw[qdb];omega);have f:bK (H.get r) (t+1)=.val X[s].rv:=u 1 (by rw[qdb];omega);have o:=d.sp _ (lg e);have p:=o.len;have G:=m.r _ (lg e);by_cases a:i<X[s].gs.length
  ·simp only[go_sem,b,g,f,p,a];unfold ziu;obtain⟨K,L,C,M,D,_,_,_⟩:=o.at' i a;have B:(A++(X[s].gs.take i).map fun x=>(X[s].name,x.r.name)).length<=1001000:=by
    rw[ku,pz,ry];omega
   simp only[go_sem,seval,b,g,z,f,C,D];refine Ok.kF ((hw.no (by(repeat(first|exact Fm.refl _ _|assumption|refine Fm.push ?_ _|refine Fm.fC ?_ (by go_size)|refine Fm.aD ?_ _ _ (by go_size))))).add (X[s].name,X[s].gs[i].r.name) 32 rfl (by omega) (by omega)) ?_;intro E F j;unfold zw3;simp(disch:=go_size)only[go_sem,rB,rI,rK,rL,rN,rS,r6];refine q1j l m n c e v y k (i+1) E F (by omega) (by omega) ?_;rw[lw a,uj,ah,<-rf];exact j
  ·simp only[go_sem,b,g,f,p,a];have I:i=X[s].gs.length:=by omega
   simp_all
theorem zbo{O:Ev.Call}{H0:Hp}{sb:Nat}{sv:AV}{X:List aM}(e:bM H0 sv X)(c:vV X)(f:H0.get sb=aB 0 [sv])(b:sb<H0.nx){Q:pH}{q:pB}(m:∀ w H,Ac 2 pC H0 H w (aJ X)->Ok (q w H) Q):∀(k i:Nat) (w:AV) (H:Hp),i<=X.length->X.length-i<k->Ac 2 pC H0 H w ((X.take i).flatMap fun g=>g.gs.map fun x=>(g.name,x.r.name)) -> Ok (qyr O q (.ptr sb 0) k w (iN i) H) Q
 |0,i,_,_,_,h,_=>by omega
 |k+1,i,w,H,hi,hk,hw=>by
  show Ok (zix O _ _ (qyr O _ _ k) _ _ H) Q;unfold zix;have s:=c.n;have l:=e.fm hw.fm;have d:=(hw.fm.keep b).trans f;have n:=l.rs.len;by_cases a:i<X.length
  ·simp only[go_sem,d,n,a];unfold zit zw4;rw[bW];have t:=c.r _ (lg a);refine q1j e c f b a (rq (c.all i) (by omega)) (fun o p j=>?_) bL 0 w H (gy _) (by rw[bZ];omega) (by simpa using hw);unfold zis;simp(disch:=go_size)only[go_sem,rB,rI,rK,rL,rN,rS,r6];refine zbo e c f b m k (i+1) o p (by omega) (by omega) ?_;rw[lw a,vk,vw];exact j
  ·simp only[go_sem,d,n,a];have r:i=X.length:=by omega
   rw[r,uz]at hw;exact m w H hw
theorem zyi(b:aV C)(c:1<=k)(d:bM H sv X)(a:vV X):Ok (C k (.f 11) [.agg [sv]] H) fun r H'=>Ac 2 pC H H' r (aJ X):=by
 obtain⟨j,rfl⟩:=aU c;rw[(b j).zAh];unfold zAh z0t;simp only[go_sem];have f:Fm No H (aN H (aB 0 [sv])):=by exact mG
 have h:=a.n;unfold zw5;rw[bW];refine zbo (d.fm f) a (jA _ _) (by simp only[np,nq];omega) (fun w g e=>?_) bL 0 .aA _ (gy _) (by rw[bZ];omega) (Ac.nil _ _ (Fm.refl _ _));exact Ok.ret (e.trans f)
def bR(X:List aM)(a b:SS):Nat:=(aJ X).findIdx fun p=>decide (p=(a,b))
theorem zah{O:Ev.Call}{H:Hp}{v:AV}{l:List (SS×SS)}(n:Rs 2 pC H v l)(a b:SS){Q:pH}{q:pD}{qr:pB}(B:l.findIdx (fun p=>decide (p=(a,b)))<l.length->Ok (qr (iN ((l.findIdx fun p=>decide (p=(a,b))))) H) Q)(w:(a,b)∉l->Ok (q H) Q)(o:l.length<=1000000000):∀(k i:Nat),i<=l.length->l.length-i<k->(∀m (_:m<i) (d:m<l.length),l[m]≠(a,b))->Ok (qyq O qr q a.v b.v v k (iN i) H) Q
 |0,i,_,h,_=>by omega
 |k+1,i,hi,hk,hn=>by
  show Ok (zir O _ _ _ _ _ (qyq O _ _ _ _ _ k) _ H) Q;unfold zir;have d:=n.len;have next:i<l.length->l[i]? ≠ some (a,b)->Ok (zin O (qyq O qr q a.v b.v v k) (iN i) H) Q:=fun c C=>by
   unfold zin;simp(disch:=go_size)only[go_sem,rB,rI,rK,rL,rN,rS,r6];refine zah n a b B w o k (i+1) (by omega) (by omega) fun m f d=>?_;by_cases A:m=i
   ·simp_all
   ·exact hn m (by omega) d
  by_cases c:i<l.length
  ·simp only[go_sem,d,c];unfold ziq;obtain⟨x,y,u,F,_,_,z⟩:=n.at' i c;have r:bK (H.get x) y=.val (.str l[i].1.n l[i].1.a):=z 0 (by rw[qpg];omega);have s:bK (H.get x) (y+1)=.val (.str l[i].2.n l[i].2.a):=z 1 (by rw[qpg];omega);unfold SS.v;by_cases g:l[i].1.n=a.n/\l[i].1.a=a.a
   ·have e:=zg g;by_cases j:l[i].2.n=b.n/\l[i].2.a=b.a
    ·have t:=zg j;simp only[go_sem,u,r,s,e,t];have D:l[i]=(a,b):=Prod.ext ((mZ _ _).2 g) ((mZ _ _).2 j);have E:l.findIdx (fun p=>decide (p=(a,b)))=i:=by
      rw[List.findIdx_eq c];simp_all
     simp_all
    ·simp only[go_sem,u,r,s,e,j];refine next c fun h=>j ?_
     simp_all
   ·simp only[go_sem,u,r,s,g];refine next c fun h=>g ?_
    simp_all
  ·simp only[go_sem,d,c];refine w fun f=>?_;obtain⟨m,f,A⟩:=yj f;exact hn m (by omega) f A
theorem zox(d:aV C)(g:2<=k)(i:bM H sv X)(e:vV X)(a b:SS):Ok (C k (.f 16) [.agg [sv],a.v,b.v] H) fun r H'=>Fm No H H'/\((bR X a b<(aJ X).length/\r=iN ((bR X a b)))\/((a,b)∉aJ X/\r=.int .i64 (.negSucc 0))):=by
 obtain⟨j,rfl⟩:=aU g;rw[(d j).zAm];unfold zAm z0s;simp(disch:=omega)only[go_sem,seval];have f:Fm No H (aN H (aB 0 [sv])):=by exact mG
 refine Ok.ve (zyi d (k:=j) (by omega) (i.fm f) e) ?_;intro w H1 c;have l:(aJ X).length<=10000:=by have:=e.all X.length;rwa [uz]at this
 unfold zw2;rw[bW];refine zah (c.rs qpg) a b (fun h=>?_) (fun h=>?_) (by omega) bL 0 (gy _) (by rw[bZ];omega) (fun m n=>by omega)
 ·exact Ok.ret ⟨f.trans c.fm,.inl ⟨h,rfl⟩⟩
 ·unfold zio;exact Ok.ret ⟨f.trans c.fm,.inr ⟨h,rfl⟩⟩
def tgP(X:List aM)(to:SS)(t:jP):Bool:=decide (t.rl=sE)&&(mF X t.sp to).isSome
def tgL(X:List aM)(to:SS)(l:List jP):List SS:=(l.filter (tgP X to)).map jP.sp
def pE(X:List aM)(a rel to:SS):List SS:=match mF X a rel with
 |none=>[]
 |some g=>tgL X to g.r.types
theorem qmz(g:aT):∃ a b c d,eP g=[.str g.r.name.n g.r.name.a,g.tv,a,b,c,d]:=⟨_,_,_,_,rfl⟩
theorem qwr(X:List aM)(to:SS)(l:List jP):(tgL X to l).length<=l.length:=by unfold tgL;rw[pz];exact bu _ _
theorem q9e(X:List aM)(to:SS){l:List jP}(h:i<l.length):tgL X to (l.take (i+1))=tgL X to (l.take i)++if tgP X to l[i]then[l[i].sp]else[]:=by unfold tgL;rw[lw h,ag,uj,bf];split<;>simp
theorem qi5(D:aV C){j:Nat}(E:2<=j){H0:Hp}{sb rb:Nat}{sv tv c0 c2 c3 c4 c5:AV}{X:List aM}(F:bM H0 sv X)(z:vV X)(G:H0.get sb=aB 0 [sv])(n:sb<H0.nx)(I:H0.get rb=aB 0 [c0,tv,c2,c3,c4,c5])(o:rb<H0.nx){ts:List jP}(J:Rs 2 tC H0 tv ts)(s:ts.length<=1000)(to:SS){Q:pH}{q:pB}(S:∀ w H,Ac 1 sC H0 H w (tgL X to ts)->Ok (q w H) Q):∀(k i:Nat) (w:AV) (H:Hp),i<=ts.length->ts.length-i<k->Ac 1 sC H0 H w (tgL X to (ts.take i)) -> Ok (qn5 (C j) q to.v (.ptr sb 0) (.ptr rb 0) k w (iN i) H) Q
 |0,i,_,_,_,h,_=>by omega
 |k+1,i,w,H,hi,hk,hw=>by
  show Ok (zhv (C j) _ _ _ _ (qn5 (C j) _ _ _ _ k) _ _ H) Q;unfold zhv;have M:=F.fm hw.fm;have N:=(hw.fm.keep n).trans G;have d:=(hw.fm.keep o).trans I;have t:=J.fm hw.fm;have T:=t.len;have nx1:=hw.fm.nx;have hn:=z.n;by_cases l:i<ts.length
  ·simp only[go_sem,d,T,l];rw[qr2];unfold qve;obtain⟨A,B,v,W,_,_,Y⟩:=t.at' i l;have U:bK (H.get A) B=.val (.str ts[i].sp.n ts[i].sp.a):=Y 0 (by rw[qi6];omega);have r1:bK (H.get A) (B+1)=.val (.str ts[i].rl.n ts[i].rl.a):=Y 1 (by rw[qi6];omega);simp only[go_sem,seval,d,N,v,U];have V:Fm No H ⟨H.t,H.nx+15⟩:=by(repeat(first|exact Fm.refl _ _|assumption|refine Fm.push ?_ _|refine Fm.fC ?_ (by go_size)|refine Fm.aD ?_ _ _ (by go_size)))
   refine Ok.kF (qql D (k:=j) E (M.fm V) (by omega) (fun g hg=>by have:=z.r g hg;omega) ts[i].sp to) ?_;rintro r Z ⟨f2,b⟩;have p:=V.trans f2;have hs:=q9e X to l;have O:=qwr X to (ts.take i);rw[ry]at O;have a:∀ m,Fm No H m->tgP X to ts[i]=false->Ok (qkb (C j) (qn5 (C j) q to.v (.ptr sb 0) (.ptr rb 0) k) w (iN i) m) Q:=fun m K h=>by unfold qkb;simp(disch:=go_size)only[go_sem,rB,rI,rK,rL,rN,rS,r6];refine qi5 D E F z G n I o J s to S k (i+1) w m (by omega) (by omega) ?_;rw[hs,h];simpa using hw.no K
   have c:∀ m,Fm No H m->tgP X to ts[i]=true->Ok (ve (lI 1 16 (aN m (aB 0 [.str ts[i].sp.n ts[i].sp.a])) w (some ⟨1,[.str ts[i].sp.n ts[i].sp.a]⟩)) fun L H=>qkb (C j) (qn5 (C j) q to.v (.ptr sb 0) (.ptr rb 0) k) L (iN i) H) Q:=fun m K h=>by refine Ok.ve ((hw.no (K.trans (by exact mG))).add ts[i].sp 16 rfl (by omega) (by omega)) ?_;intro w4 H4 hw4;unfold qkb;simp(disch:=go_size)only[go_sem,rB,rI,rK,rL,rN,rS,r6];refine qi5 D E F z G n I o J s to S k (i+1) w4 H4 (by omega) (by omega) ?_;simp_all
   unfold q7q at b;have e:=(p.keep (by omega)).trans d;have P:bK (Z.get A) B=.val (.str ts[i].sp.n ts[i].sp.a):=by rw[p.keep W];exact U
   have f:bK (Z.get A) (B+1)=.val (.str ts[i].rl.n ts[i].rl.a):=by rw[p.keep W];exact r1
   unfold tgP at a c;by_cases x:ts[i].rl.n=0/\ts[i].rl.a=0
   ·have R:ts[i].rl=sE:=(mZ _ _).2 x;have u:=zg x;rw[qw R]at a c;cases y:mF X ts[i].sp to with
    |none=>rw[y]at b a;subst b;unfold q0j;simp(disch:=omega)only[go_sem,seval,e,v,f,u];exact a _ (((p.aD (H.nx+12) _ (by omega))).aD (H.nx+12) _ (by omega)) rfl
    |some g=>rw[y]at b c;subst b;obtain⟨d2,d3,d4,d5,hd⟩:=qmz g;rw[hd];simp(disch:=go_size)only[go_sem,seval,e,v,P,f,u];exact c _ (((p.aD (H.nx+12) _ (by omega))).aD (H.nx+12) _ (by omega)) rfl
   ·rw[uA (fun h=>x ((mZ _ _).1 h))]at a;cases y:mF X ts[i].sp to with
    |none=>rw[y]at b a;subst b;unfold q0j;simp(disch:=omega)only[go_sem,seval,e,v,f,x];exact a _ (((p.aD (H.nx+12) _ (by omega))).aD (H.nx+12) _ (by omega)) rfl
    |some g=>rw[y]at b a;subst b;obtain⟨d2,d3,d4,d5,hd⟩:=qmz g;rw[hd];simp(disch:=omega)only[go_sem,seval,e,v,f,x];exact a _ (((p.aD (H.nx+12) _ (by omega))).aD (H.nx+12) _ (by omega)) rfl
  ·simp only[go_sem,d,T,l];have he:i=ts.length:=by omega
   simp_all
theorem qtv(n:aV C)(x:3<=k)(o:bM H sv X)(l:vV X)(a b to:SS):Ok (C k (.f 37) [.agg [sv],a.v,b.v,to.v] H) fun r H'=>Ac 1 sC H H' r (pE X a b to):=by
 obtain⟨j,rfl⟩:=aU x;rw[(n j).zBb];unfold zBb z0h;simp(disch:=omega)only[go_sem,seval];have f:Fm No H (aN H (aB 0 [sv])):=by exact mG
 have G:=l.n;refine Ok.ve (qql n (k:=j) (by omega) (o.fm f) (by omega) (fun g q=>by have:=l.r g q;omega) a b) ?_;rintro r e ⟨t,c⟩;have z:=t.nx;simp only[np]at z;have m:=f.trans t;have u:e.get H.nx=aB 0 [sv]:=(t.keep (by simp only[np,nq];omega)).trans (jA _ _);unfold q7q at c;unfold pE;cases i:mF X a b with
 |none=>
  rw[i]at c;subst c;simp(disch:=omega)only[go_sem,seval];have d:Fm No e ((aN e (aB 0 [.str 0 0,.aA,.int .u8 (.ofNat 0),.str 0 0,.str 0 0,.aA])).put e.nx (aB 0 [.str 0 0,.aA,.int .u8 (.ofNat 0),.str 0 0,.str 0 0,.aA])):=by exact nA
  unfold zhw;rw[bW];refine qi5 n (by omega) (o.fm (m.trans d)) l ((d.keep (by omega)).trans u) (by go_size) (dL _ _ _) (by go_size) (Rs.nil 2 tC _) (by simp) to (fun w y s=>?_) bL 0 .aA _ (gy _) (by rw[bZ];simp) (Ac.nil _ _ (Fm.refl _ _));exact Ok.ret (s.trans (m.trans d))
 |some g=>
  rw[i]at c;subst c;obtain⟨B,D,E,F,hd⟩:=qmz g;rw[hd];simp(disch:=omega)only[go_sem,seval];have d:Fm No e ((aN e (aB 0 [.str 0 0,.aA,.int .u8 (.ofNat 0),.str 0 0,.str 0 0,.aA])).put e.nx (aB 0 [.str g.r.name.n g.r.name.a,g.tv,B,D,E,F])):=by exact nA
  unfold zhw;rw[bW];obtain⟨p,v,q⟩:∃ p∈X,g∈p.gs:=by
   unfold mF at i;cases h:X.find? fun g=>decide (g.name=a)with
   |none=>rw[h]at i;cases i
   |some p=>rw[h]at i;exact⟨p,zq h,zq i⟩
  have A:=l.t p v g q;refine qi5 n (by omega) (o.fm (m.trans d)) l ((d.keep (by omega)).trans u) (by go_size) (dL _ _ _) (by go_size) ((((o.sp p v).rel g q).ty).fm (m.trans d)) (by omega) to (fun w y s=>?_) bL 0 .aA _ (gy _) (by rw[bZ];omega) (Ac.nil _ _ (Fm.refl _ _));exact Ok.ret (s.trans (m.trans d))
theorem ztw(a:aV C)(b:1<=k)(n:Int)(H:Hp):C k (.f 130) [.int .i64 n] H=.ok (.bool false) H:=by obtain⟨j,rfl⟩:=aU b;rw[(a j).zDc];unfold zDc zzb;simp only[go_sem]
def iQ(a b:Int):Int:=if a<b then -1 else if b<a then 1 else 0
theorem qx2(c:aV C)(e:2<=k)(a b:Int)(H:Hp):C k (.f 105) [.int .i64 a,.int .i64 b] H=.ok (.int .i64 (iQ a b)) H:=by
 obtain⟨j,rfl⟩:=aU e;rw[(c j).zCr];unfold zCr zzk;simp only[ztw c (show 1<=j by omega),go_sem];unfold zwa zwb zwc zwd iQ;by_cases h:a<b
 ·simp only[h,go_sem];rfl
 ·by_cases d:b<a
  ·simp only[h,d,go_sem];rfl
  ·simp only[h,d,go_sem];rfl
def sgn(s:Bool):Int:=if s then 1 else 0
theorem z1g(c:aV C)(d:1<=k)(a b:AV)(s:Bool)(H:Hp):C k (.f 106) [.agg [a,b,.bool s]] H=.ok (.int .i64 (sgn s)) (aN H (aB 0 [a,b,.bool s])):=by obtain⟨j,rfl⟩:=aU d;rw[(c j).zCs];unfold zCs zzj zv9;cases s<;>simp(disch:=omega)only[go_sem,seval,Nat.beq]<;>rfl
def ints(l:List Int):List AV:=l.map (fun n=>.int .i64 n)
theorem qgz(l:List Int)(i:Nat)(h:i<l.length):(ints l)[i]? =some (.int .i64 l[i]):=by simp[ints,h]
theorem qdk(l:List Int):(ints l).length=l.length:=by simp[ints]
def yN:List Int->Int
 | []=>0
 |x::l=>if x=0 then yN l else x
theorem zow{O:Ev.Call}{H:Hp}{b m:Nat}{e:Bool}{q:Nat}{l:List Int}(f:H.get b=aB q (ints l))(g:l.length<1000000):∀(k i:Nat),i<=l.length->l.length-i<k->q78 O (fun x2 H=>.ok x2 H) (fun H=>zfy O (.int .i64 (.ofNat 0)) H) (.int .i64 (.ofNat 0)) (.sl b 0 l.length m e) (.int .i64 (.ofNat l.length)) k (.int .i64 (.ofNat i)) H=.ok (.int .i64 (yN (l.drop i))) H
 |0,i,_,h=>by omega
 |k+1,i,hi,hk=>by
  show zfz O _ _ _ _ _ (q78 O _ _ _ _ _ k) _ H=_;unfold zfz;by_cases a:i<l.length
  ·simp(disch:=omega)only[go_sem,a];unfold zv6;have hd:l.drop i=l[i]::l.drop (i+1):=uo a;simp(disch:=omega)only[go_sem,f,qgz _ _ a];rw[hd];show _=R1.ok (.int .i64 (if l[i]=0 then yN (l.drop (i+1))else l[i])) H;by_cases d:l[i]=Int.ofNat 0
   ·have c:l[i]=0:=d;simp only[c,go_sem];unfold zv7;simp(disch:=omega)only[go_sem];exact zow f g k (i+1) (by omega) (by omega)
   ·have c:¬ l[i]=0:=d;simp only[d,c,go_sem]
  ·have hd:l.drop i=[]:=uy (by omega);simp(disch:=omega)only[go_sem,a];rw[hd];rfl
theorem aM6(a:aV C)(c:1<=k){b m:Nat}{e:Bool}{q n:Nat}{l:List Int}(d:l.length=n)(f:H.get b=aB q (ints l))(g:l.length<1000000):C k (.f 104) [.sl b 0 n m e] H=.ok (.int .i64 (yN l)) H:=by obtain⟨j,rfl⟩:=aU c;subst d;rw[(a j).zCt];unfold zCt zzi zv8;simp only[go_sem];rw[bW];exact zow f g _ 0 (gy _) (by rw[bZ];omega)
structure Edge where
 (f t:Nat)
 s:Bool
deriving DecidableEq
def Edge.cells(e:Edge):List AV:=[.int .i64 (.ofNat e.f),.int .i64 (.ofNat e.t),.bool e.s]
def sD(x y:Edge):Int:=yN [iQ (.ofNat x.f) (.ofNat y.f),iQ (.ofNat x.t) (.ofNat y.t),iQ (sgn x.s) (sgn y.s)]
theorem zde(a:aV C)(b:3<=k)(x y:Edge)(H:Hp):Ok (C k (.f 67) [.agg x.cells,.agg y.cells] H) fun v H'=>v=.int .i64 (sD x y)/\Fm No H H':=by obtain⟨j,rfl⟩:=aU b;rw[(a j).zBz];unfold zBz zzy Edge.cells;simp(disch:=first|go_size|omega)only[go_sem,seval,Nat.beq,qx2 a (show 2<=j by omega),z1g a (show 1<=j by omega)];refine Ok.xW (aM6 a (show 1<=j by omega) (l:=[iQ (.ofNat x.f) (.ofNat y.f),iQ (.ofNat x.t) (.ofNat y.t),iQ (sgn x.s) (sgn y.s)]) rfl (dL _ _ _) (by simp)) ?_;simp only[go_sem];exact Ok.ret ⟨rfl,by(repeat(first|exact Fm.refl _ _|assumption|refine Fm.push ?_ _|refine Fm.fC ?_ (by go_size)|refine Fm.aD ?_ _ _ (by go_size)))⟩
def z8r(es:List Edge):List AV:=(es.map Edge.cells).flatten
structure y7(n:Nat)(es:List Edge):Prop where
 rng:∀ e∈es,e.f<n/\e.t<n
 ord:∀ i,(h:i+1<es.length)->sD es[i] es[i+1]<0
theorem q64(a b:Int)(k:IntKind):pK nN (.int k a) [.int k b]=.val (.int k (min a b)):=by
 show R0.val (.int k (bif oU b a then b else a))=_;rw[qek];by_cases h:b<a
 ·rw[qw h,Int.min_eq_right (by omega)];rfl
 ·rw[uA h,Int.min_eq_left (by omega)];rfl
theorem q65(a b:Int)(k:IntKind):pK oO (.int k a) [.int k b]=.val (.int k (max a b)):=by
 show R0.val (.int k (bif oU a b then b else a))=_;rw[qek];by_cases h:a<b
 ·rw[qw h,Int.max_eq_right (by omega)];rfl
 ·rw[uA h,Int.max_eq_left (by omega)];rfl
structure iH(H:Hp)(v:AV)(es:List Edge):Prop where
 flat:vL v=true
 len:aF v=.val (.int .i64 (.ofNat es.length))
 lt':∀ b,In v b->b<H.nx
 at':∀(i:Nat) (hi:i<es.length),∃b o,aG 3 v (.int .i64 (.ofNat i))=.val (.ptr b o)/\b<H.nx/\jG (H.get b) o 3=some es[i].cells
theorem iH.at{v:AV}{a:List Edge}(h:iH H v a)(c:i<a.length):∃ b o,aG 3 v (.int .i64 (.ofNat i))=.val (.ptr b o)/\b<H.nx/\jG (H.get b) o 3=some a[i].cells:=h.at' i c
theorem iH.fm{v:AV}{c:List Edge}(h:iH H v c)(a:Fm No H H'):iH H' v c:=⟨h.flat,h.len,fun b e=>lq (h.lt' b e) a.nx,fun i f=>by obtain⟨b,o,g,d,j⟩:=h.at' i f;exact⟨b,o,g,lq d a.nx,by rw[a.keep d];exact j⟩⟩
theorem z7y{z i b o:Nat}{v:AV}(h:aG z v (.int .i64 (.ofNat i))=.val (.ptr b o)):In v b:=by
 cases v with
 |sl b' o' n m e=>
  have h:(bif Nat.blt i n then R0.val (.ptr b' (o'+i*z))else .bad)=.val (.ptr b o):=h;cases a:Nat.blt i n with
  |true=>rw[a]at h;cases h;exact⟨_,_,_,_,rfl⟩
  |false=>rw[a]at h;cases h
 |_=>cases h
theorem iH.keep{v:AV}{a:List Edge}(h:iH H v a)(c:H.nx<=H'.nx)(f:∀ b,In v b->b<H.nx->H'.get b=H.get b):iH H' v a:=⟨h.flat,h.len,fun b g=>lq (h.lt' b g) c,fun i j=>by obtain⟨b,o,d,e,k⟩:=h.at' i j;exact⟨b,o,d,lq e c,by rw[f b (z7y d) e];exact k⟩⟩
theorem iH.lt{v:AV}{a:List Edge}(h:iH H v a){b:Nat}(c:In v b):b<H.nx:=h.lt' b c
theorem Gl.flat{v:AV}(h:Gl z H v n l):vL v=true:=by rcases h.is with⟨rfl,rfl⟩|⟨b,o,e,q,L,rfl,_⟩<;>rfl
theorem iH.oQ{v:AV}{a:List Edge}(h:iH H v a):oQ 64 v v=true:=qck h.flat 63
theorem qlg(s:aV C){j:Nat}(t:3<=j){n:Nat}{a:List Edge}(q:y7 n a){v:AV}{g:Nat}{H0:Hp}(d:a.length<1000000){Q:pH}{x:pD}(u:∀ H,Fm No H0 H->Ok (x H) Q):∀(k i:Nat) (H:Hp),i<=a.length->a.length-i<k->iH H v a->g<H.nx->H.get g=aB 0 [.int .i64 (.ofNat n),v]->Fm No H0 H -> Ok (q8d (C j) (fun x2 H=>.ok x2 H) x (.ptr g 0) v (.int .i64 (.ofNat a.length)) k (.int .i64 (.ofNat i)) H) Q
 |0,i,_,_,h,_,_,_,_=>by omega
 |k+1,i,H,hi,hk,hv,hg1,hg2,hf=>by
  show Ok (zgj (C j) _ _ _ _ _ (q8d (C j) _ _ _ _ _ k) _ H) Q;unfold zgj;by_cases c:i<a.length
  ·obtain⟨b,K,z,L,A⟩:=hv.at c;have J:=q.rng a[i] (lg c);simp only[go_sem,c];unfold zgi z4u;have e:(min (Int.ofNat a[i].f) (Int.ofNat a[i].t)<Int.ofNat 0)=False:=by simp only[qi,eq_iff_iff,iff_false];omega
   have f:(Int.ofNat n<=max (Int.ofNat a[i].f) (Int.ofNat a[i].t))=False:=by simp only[qi,eq_iff_iff,iff_false];omega
   by_cases B:0<i
   ·obtain⟨p,rfl⟩:∃ p,i=p+1:=⟨i-1,by omega⟩;obtain⟨F,G,w,I,o⟩:=hv.at (show p<a.length by omega);have m:=hv.oQ;simp(disch:=go_size)only[go_sem,rB,rI,rK,rL,rN,rS,r6,z,A,Edge.cells,q64,q65,e,f,hg2,B,w,o,iq];refine Ok.kF (zde s t a[p] a[p+1] _) ?_;rintro M H' ⟨rfl,r⟩;have y:H'.get g=aB 0 [.int .i64 (.ofNat n),v]:=(r.keep (by go_size)).trans (by simp(disch:=omega)only[go_sem,seval,hg2]);have k2:jG (H'.get F) G 3=some a[p].cells:=by rw[r.keep (by go_size)];simp(disch:=omega)only[go_sem,seval,o]
    have D:H'.get H.nx=aB 0 a[p+1].cells:=(r.keep (by simp only[np,nq];omega)).trans (by simp only[go_sem,seval,Edge.cells]);have E:(Int.ofNat 0<=sD a[p] a[p+1])=False:=by have:=q.ord p c;simp_all
    simp only[go_sem,y,k2,D,m,Edge.cells,E];unfold zgg;simp(disch:=go_size)only[go_sem,rB,rI,rK,rL,rN,rS,r6];have l:Fm No H H':=by refine Fm.trans ?_ r;exact nA
    exact qlg s t q d u k (p+1+1) H' (by omega) (by omega) (hv.fm l) (lq hg1 l.nx) y (hf.trans l)
   ·simp(disch:=go_size)only[go_sem,rB,rI,rK,rL,rN,rS,r6,z,A,Edge.cells,q64,q65,e,f,hg2,B];unfold zgg;simp(disch:=go_size)only[go_sem,rB,rI,rK,rL,rN,rS,r6];have l:Fm No H ((aN H (aB 0 [.int .i64 (.ofNat 0),.int .i64 (.ofNat 0),.bool false])).put H.nx (aB 0 [.int .i64 (.ofNat a[i].f),.int .i64 (.ofNat a[i].t),.bool a[i].s])):=by exact nA
    exact qlg s t q d u k (i+1) _ (by omega) (by omega) (hv.fm l) (lq hg1 l.nx) ((l.keep hg1).trans hg2) (hf.trans l)
  ·simp only[go_sem,c];exact u H hf
theorem zbv(c:aV C)(f:4<=k){b:List Edge}(g:y7 n b)(l:n<=256)(a:b.length<1000000){v:AV}(d:iH H v b):Ok (C k (.f 74) [.agg [.int .i64 (.ofNat n),v]] H) fun r H'=>r=.int .i64 (.ofNat 0)/\Fm No H H':=by
 obtain⟨j,rfl⟩:=aU f;rw[(c j).zCd];unfold zCd zzw;have i:(256<n)=False:=by simp only[eq_iff_iff,iff_false];omega
 simp(disch:=go_size)only[go_sem,rB,rI,rK,rL,rN,rS,r6,i,ak];unfold zgh zwj;have e:Fm No H (aN H (aB 0 [.int .i64 (.ofNat n),v])):=by exact mG
 simp(disch:=go_size)only[go_sem,rB,rI,rK,rL,rN,rS,r6,d.len];rw[bW];refine qlg c (by omega) g a (fun H h=>?_) _ 0 _ (gy _) (by rw[bZ];omega) (d.fm e) (by go_size) (jA _ _) e;exact Ok.ret ⟨rfl,h⟩
def aI(l:List Nat):List AV:=l.map (fun n=>.int .i64 (.ofNat n))
theorem ints_set(l:List Int)(i:Nat)(n:Int)(h:i<l.length):aY (ints l) i [.int .i64 n]=ints (l.set i n):=by
 unfold aY ints;apply List.ext_getElem
 ·simp;omega
 ·intro j b c;simp only[zf,lEC];by_cases d:j<i
  ·rw[List.getElem_append_left (by simp;omega),List.getElem_append_left (by simp;omega)];simp[show ¬i=j by omega]
  ·by_cases a:i=j
   ·subst a;simp[yz (yu h)]
   ·rw[List.getElem_append_right (by simp;omega)];simp[a,yz (yu h)];congr 2;omega
theorem qge(l:List Nat):ints (l.map Int.ofNat)=aI l:=by unfold ints aI;rw[nz];rfl
theorem Gl.at{v:AV}(h:Gl 1 H v n l){x:AV}(a:l[i]? =some x):∃ b o,aG 1 v (.int .i64 (.ofNat i))=.val (.ptr b o)/\b<H.nx/\In v b/\bK (H.get b) o=.val x:=by
 have g:=h.len;have j:i<l.length:=by
  rcases xe i l.length with h|h
  ·exact h
  ·simp_all
 rcases h.is with⟨rfl,rfl⟩|⟨b,o,e,q,L,rfl,c,k,d,m,f⟩
 ·omega
 ·refine⟨b,o+i,?_,f,⟨_,_,_,_,rfl⟩,?_⟩
  ·rw[uT _ _ _ _ _ _ _ _ (by omega),qg]
  ·have:L[o+i]? =some x:=by rw[<-ae,d];exact a
   rw[c,qbx,this]
theorem Gl.clip{v:AV}(h:Gl z H v n l):∃ w,kL z v none (some (.int .i64 (.ofNat n))) (some (.int .i64 (.ofNat n)))=.val w/\Gl z H w n l/\jM w=.val (.int .i64 (.ofNat n))/\(∀b,In w b->In v b):=by
 rcases h.is with⟨rfl,rfl⟩|⟨b,o,e,q,L,rfl,f,g,i,r,j⟩
 ·exact⟨.aA,rfl,h,rfl,fun b h=>h⟩
 ·have p:kL z (.sl b o n n e) none (some (.int .i64 (.ofNat n))) (some (.int .i64 (.ofNat n)))=iI b o z ⟨0,n,n⟩ true:=by
   show(match bounds n n none (some (.int .i64 (.ofNat n))) (some (.int .i64 (.ofNat n)))with|some bd=>iI b o z bd true|none=>R0.bad)=_;have:bounds n n none (some (.int .i64 (.ofNat n))) (some (.int .i64 (.ofNat n)))=some ⟨0,n,n⟩:=by show(match(bif Nat.ble n n then some n else none)with|none=>none|some m=>match(bif Nat.ble n m then some n else none)with|none=>none|some h=>match(some 0:Option Nat)with|none=>none|some l=>some (Bd.mk l h m))=_;rw[ble_eq,qw (lh n)];simp only[uC,ble_eq,qw (lh n)]
   rw[this]
  rw[p];unfold iI;simp only[beq_eq];by_cases k:n=0
  ·subst k;exact⟨.sl b o 0 0 true,rfl,⟨h.len,.inr ⟨b,o,true,q,L,rfl,f,g,i,.inl rfl,j⟩⟩,rfl,fun c a=>by obtain⟨_,_,_,_,d⟩:=a;cases d;exact⟨_,_,_,_,rfl⟩⟩
  ·rw[uA k];refine⟨.sl b o n n true,?_,⟨h.len,.inr ⟨b,o,true,q,L,rfl,f,g,i,.inl rfl,j⟩⟩,rfl,fun c a=>by obtain⟨_,_,_,_,d⟩:=a;cases d;exact⟨_,_,_,_,rfl⟩⟩;simp
theorem qx9(a:aV C)(c:1<=k){v:AV}(h:Gl 1 H v n l):∃w,C k (.f 39) [v] H=.ok w H/\Gl 1 H w n l/\jM w=.val (.int .i64 (.ofNat n))/\(∀b,In w b->In v b):=by obtain⟨j,rfl⟩:=aU c;obtain⟨w,e,d,f,g⟩:=h.clip;refine⟨w,?_,d,f,g⟩;rw[(a j).zBd];unfold zBd zrk;simp only[go_sem,h.bS,e]
theorem zal(l:List Nat):(aI l).length=l.length:=by simp[aI]
theorem qm3(l:List Nat)(i:Nat)(h:i<l.length):(aI l)[i]? =some (.int .i64 (.ofNat l[i])):=by simp[aI,h]
theorem qjj(l:List Nat)(i n:Nat)(h:i<l.length):aY (aI l) i [.int .i64 (.ofNat n)]=aI (l.set i n):=by rw[<-qge,ints_set _ _ _ (by simpa using h),<-qge,lE9]
structure MOk(n:Nat)(ms:List Nat):Prop where
 hn:n<=256
 len:ms.length=n*n
 le:∀ x∈ms,x<=3
structure vJ(H:Hp)(v:AV)(b n:Nat)(ms:List Nat):Prop where
 hv:v=.agg [.int .i64 (.ofNat n),.sl b 0 (n*n) (n*n) true]
 lt:b<H.nx
 get:H.get b=aB 0 (aI ms)
 ok:MOk n ms
theorem vJ.fm{v:AV}{b n:Nat}(h:vJ H v b n ms)(a:Fm No H H'):vJ H' v b n ms:=⟨h.hv,lq h.lt a.nx,(a.keep h.lt).trans h.get,h.ok⟩
theorem z5s(h:n<=256):n*n<=65536:=Nat.mul_le_mul h h
theorem qjl(a:i<n)(b:k<n):i*n+k<n*n:=by have:(i+1)*n<=n*n:=um n a;rw[xk,zu]at this;omega
theorem z9z(b:aV C)(c:1<=k)(a:n<=256):Ok (C k (.f 33) [.int .i64 (.ofNat n)] H) fun r H'=>vJ H' r (H.nx+1) n (List.replicate (n*n) 0)/\Fm No H H':=by
 obtain⟨j,rfl⟩:=aU c;rw[(b j).zAx];unfold zAx z0k;have f:=z5s a;have e:bB [.int .i64 (.ofNat 0)] (n*n)=aI (List.replicate (n*n) 0):=by rw[qdi];simp[aI]
 simp(disch:=first|go_size|omega)only[go_sem,rB,rI,rK,rL,rN,rS,r6,qd8,e];refine Ok.ret ⟨⟨rfl,?_,?_,⟨a,uw,fun x d=>by rw[List.eq_of_mem_replicate d];omega⟩⟩,by(repeat(first|exact Fm.refl _ _|assumption|refine Fm.push ?_ _|refine Fm.fC ?_ (by(first|go_size|omega))|refine Fm.aD ?_ _ _ (by(first|go_size|omega))))⟩
 ·simp only[np,nq];omega
 ·simp(disch:=go_size)only[go_sem,rB,rI,rK,rL,rN,rS,r6]
def j5(n:Nat)(ms:List Nat)(f t:Nat)(s:Bool):List Nat:=
 if ms.getD (f*n+t) 0 / (if s then 2 else 1)%2=0 then ms.set (f*n+t) (ms.getD (f*n+t) 0+(if s then 2 else 1))else ms
theorem q6p(m:aV C)(o:1<=k){n b f t:Nat}{v:AV}(p:vJ H v b n ms)(q:f<n)(r:t<n)(s:Bool):Ok (C k (.f 36) [v,.int .i64 (.ofNat f),.int .i64 (.ofNat t),.bool s] H) fun _ H'=>vJ H' v b n (j5 n ms f t s)/\Fm (· =b) H H':=by
 obtain⟨j,rfl⟩:=aU o;obtain⟨rfl,B,g,a⟩:=p;rw[(m j).zBa];unfold zBa z0i;have G:=z5s a.hn;have w:=qjl q r;have i:=a.len;have c:=qm3 ms (f*n+t) (by omega);have y:=a.le ms[f*n+t] (lg _);have z:f*n+t+1<=n*n:=w;have A:ms.getD (f*n+t) 0=ms[f*n+t]:=by rw[kw,lL (by omega)];rfl
 have fin:∀ d:Nat,0<d->d<3->d=(if s then 2 else 1)->(ms[f*n+t] / d%2=0->ms[f*n+t]+d<=3)->Ok (qvf (C j) (.int .i64 (.ofNat f)) (.int .i64 (.ofNat t)) (.ptr H.nx 0) (.int .i64 (.ofNat d)) (aN H (aB 0 [.int .i64 (.ofNat n),.sl b 0 (n*n) (n*n) true]))) fun _ H'=>vJ H' (.agg [.int .i64 (.ofNat n),.sl b 0 (n*n) (n*n) true]) b n (j5 n ms f t s)/\Fm (· =b) H H':=by
  intro d D hd E F;unfold qvf;by_cases l:ms[f*n+t] / d%2=0
  ·simp(disch:=omega)only[go_sem,g,c,l,zal,i,z,qjj];have e:j5 n ms f t s=ms.set (f*n+t) (ms[f*n+t]+d):=by
    unfold j5;simp_all
   rw[e];refine Ok.ret ⟨⟨rfl,by simp only[np,nq];omega,dL _ _ _,⟨a.hn,by rw[ul];exact i,fun x u=>?_⟩⟩,by(repeat(first|exact Fm.refl _ _|assumption|refine Fm.push ?_ _|refine Fm.fC ?_ (by go_size)|refine Fm.aD ?_ _ _ (by go_size)|refine Fm.put ?_ _ _ (fun _=>rfl)))⟩;rcases dh u with h|h
   ·exact a.le x h
   ·omega
  ·simp(disch:=omega)only[go_sem,g,c,l];have e:j5 n ms f t s=ms:=by
    unfold j5;simp_all
   rw[e];exact Ok.ret ⟨⟨rfl,by simp only[np,nq];omega,(qbi _ _ _ B).trans g,a⟩,by(repeat refine Fm.push ?_ _);exact Fm.refl _ _⟩
 cases s
 ·simp only[go_sem];exact fin 1 (by omega) (by omega) rfl (fun h=>by omega)
 ·simp only[go_sem];exact fin 2 (by omega) (by omega) rfl (fun h=>by omega)
structure T3 where
 (f t s:Nat)
def T3.cells(e:T3):List AV:=[.int .i64 (.ofNat e.f),.int .i64 (.ofNat e.t),.int .i64 (.ofNat e.s)]
def p9(n:Nat):List Nat->List T3->List Nat
 |ms,[]=>ms
 |ms,e::l=>p9 n (j5 n ms e.f e.t (decide (e.s=1))) l
def ent(n:Nat)(ms:List Nat)(i k:Nat):List T3:=(if ms.getD (i*n+k) 0%2=1 then[⟨i,k,0⟩]else[])++(if 1<ms.getD (i*n+k) 0 then[⟨i,k,1⟩]else[])
def eR(n:Nat)(ms:List Nat)(i:Nat):Nat->List T3
 |0=>[]
 |k+1=>eR n ms i k++ent n ms i k
def eM(n:Nat)(ms:List Nat):Nat->List T3
 |0=>[]
 |i+1=>eM n ms i++eR n ms i n
theorem z3d(n:Nat)(ms:List Nat)(i k:Nat):(ent n ms i k).length<=2:=by unfold ent;split<;>split<;>simp
theorem zxx(n:Nat)(ms:List Nat)(i:Nat):∀ k,(eR n ms i k).length<=2*k
 |0=>lh _
 |k+1=>by have a:=zxx n ms i k;have b:=z3d n ms i k;simp only[eR,ku];omega
theorem zx0(n:Nat)(ms:List Nat):∀ i,(eM n ms i).length<=2*(i*n)
 |0=>by simp[eM]
 |i+1=>by have a:=zx0 n ms i;have b:=zxx n ms i n;simp only[eM,ku,xk,zu];omega
def toE(e:T3):Edge:=⟨e.f,e.t,decide (e.s=1)⟩
def eF(n:Nat)(ms:List Nat):List Edge:=(eM n ms n).map toE
def tE(X:List aM)(n:Nat)(neg:Bool)(p:SS×SS):T3:=⟨n,bR X p.1 p.2,if neg then 1 else 0⟩
structure OfR(X:List aM)(sv:AV)(cb gb b rb:Nat)(av nv:AV)(N:Nat)(g:aT)(l:List (Nd×AV))(H:Hp):Prop where
 vN:bM H sv X
 x1:H.get cb=aB 0 [sv]
 x3:Rs 2 pC H av (aJ X)
 x4:H.get gb=aB 0 [iN N,.sl b 0 (N*N) (N*N) true]
 x6:H.get rb=aB 0 (eP g)
 ty:Rs 2 tC H g.tv g.r.types
 tf:vL g.tv=true
 x8:Rs 5 jL H nv l
theorem qw8(X:List aM)(N n:Nat)(neg:Bool)(p:SS×SS)(ms:List Nat):p9 N ms [tE X n neg p]=j5 N ms n (bR X p.1 p.2) neg:=by cases neg<;>rfl
theorem qf5(n:Nat):∀(l a:List T3) (ms:List Nat),p9 n ms (l++a)=p9 n (p9 n ms l) a
 | [],_,_=>rfl
 |_::l,a,_=>qf5 n l a _
theorem q0g{a b:SS}(h:(a,b)∈aJ X):bR X a b<(aJ X).length:=by unfold bR;simp_all
theorem qqk(c:aV C)(d:2<=k)(e:bM H sv X)(g:vV X){a b:SS}(h:(a,b)∈aJ X):Ok (C k (.f 16) [.agg [sv],a.v,b.v] H) fun r H'=>r=iN ((bR X a b))/\Fm No H H':=
 (zox c d e g a b).mono fun r H' ⟨f,i⟩=>by simp_all
def yP(l:List jP):List (SS×SS):=(l.filter fun t=> !decide (t.rl=sE)).map fun t=>(t.sp,t.rl)
theorem q9b{l:List jP}(h:i<l.length):yP (l.take (i+1))=yP (l.take i)++if l[i].rl=sE then[]else[(l[i].sp,l[i].rl)]:=by
 unfold yP;rw[lw h,ag,uj,bf];by_cases h:l[i].rl=sE
 ·simp[h]
 ·simp[h]
theorem qpj(s:aV C){j:Nat}(w:2<=j){X:List aM}(y:vV X){sv av K:AV}{cb z b rb N:Nat}{g:aT}{l:List (Nd×AV)}{Hb:Hp}(A:∀ H,Fm (· =b) Hb H->OfR X sv cb z b rb av K N g l H)(B:N=(aJ X).length){n x:Nat}(D:n<N)(E:x<l.length)(e:cb<Hb.nx/\z<Hb.nx/\rb<Hb.nx)(f:g.r.types.length<=1000)(c:∀ p∈yP g.r.types,p∈aJ X){Q:pH}{q:pD}{ms:List Nat}(L:∀ H,vJ H (.agg [iN N,.sl b 0 (N*N) (N*N) true]) b N (p9 N ms ((yP g.r.types).map (tE X n l[x].1.neg)))->Fm (· =b) Hb H->Ok (q H) Q):∀(k i:Nat) (H:Hp),i<=g.r.types.length->g.r.types.length-i<k->vJ H (.agg [iN N,.sl b 0 (N*N) (N*N) true]) b N (p9 N ms ((yP (g.r.types.take i)).map (tE X n l[x].1.neg)))->Fm (· =b) Hb H -> Ok (qv0 (C j) q (.ptr cb 0) (.ptr z 0) (iN n) (.ptr rb 0) K (iN x) k (iN i) H) Q
 |0,i,_,_,h,_,_=>by omega
 |k+1,i,H,hi,hk,hM,hf=>by
  show Ok (q5q (C j) _ _ _ _ _ _ _ (qv0 (C j) _ _ _ _ _ _ _ k) _ H) Q;unfold q5q;have d:=A H hf;have m:=d.x6;obtain⟨d2,d3,d4,d5,hd⟩:=qmz g;rw[hd]at m;have M:=d.ty.len;have Z:=hf.nx;by_cases a:i<g.r.types.length
  ·simp only[go_sem,m,M,a];unfold zi5;obtain⟨S,T,U,e2,_,_,V⟩:=d.ty.at' i a;have r0:bK (H.get S) T=.val (.str g.r.types[i].sp.n g.r.types[i].sp.a):=V 0 (by rw[qi6];omega);have O:bK (H.get S) (T+1)=.val (.str g.r.types[i].rl.n g.r.types[i].rl.a):=V 1 (by rw[qi6];omega);obtain⟨W,Y,g1,g2,_,_,g4⟩:=d.x8.at' x E;have P:bK (H.get W) (Y+4)=.val (.bool l[x].1.neg):=g4 4 (by rw[vK];omega);have x1:=d.x1;have R:=d.x4;have t:=q9b a;by_cases v:g.r.types[i].rl.n=0/\g.r.types[i].rl.a=0
   ·have F:=zg v;rw[kz ((mZ _ _).2 v),ut]at t;simp only[go_sem,m,U,O,F];unfold qv1;simp(disch:=go_size)only[go_sem,rB,rI,rK,rL,rN,rS,r6];exact qpj s w y A B D E e f c L k (i+1) H (by omega) (by omega) (by rw[t];exact hM) hf
   ·have o:¬ g.r.types[i].rl=sE:=fun h=>v ((mZ _ _).1 h);rw[lu o]at t;have r:(g.r.types[i].sp,g.r.types[i].rl)∈aJ X:=c _ (by
     unfold yP;rw[qj];exact⟨g.r.types[i],by rw[xg];exact⟨lg a,by simpa using o⟩,rfl⟩)
    simp only[go_sem,seval,m,x1,R,U,r0,O,v,g1,P];refine Ok.kF (qqk s (k:=j) w d.vN y r) ?_;rintro _ H2 ⟨rfl,u⟩;have G:=(u.keep (by omega)).trans R;have I:bK (H2.get W) (Y+4)=.val (.bool l[x].1.neg):=by rw[u.keep g2];exact P
    simp(disch:=first|omega|exact ti rfl)only[go_sem,seval,G,I];refine Ok.kF (q6p s (k:=j) (by omega) (hM.fm u) D (by rw[B];exact q0g r) l[x].1.neg) ?_;rintro _ H3 ⟨J,f3⟩;unfold qv1;simp(disch:=go_size)only[go_sem,rB,rI,rK,rL,rN,rS,r6];refine qpj s w y A B D E e f c L k (i+1) H3 (by omega) (by omega) ?_ ((hf.then u fun _ _ h=>absurd h id).then f3 fun _ _ h=>h);rw[t,uj,qf5,ah,qw8];exact J
  ·simp only[go_sem,m,M,a];have he:i=g.r.types.length:=by omega
   simp_all
theorem q0b(m:aV C){j:Nat}(z:2<=j){X:List aM}(A:vV X){sv av B tv:AV}{cb o b rb N:Nat}{g:aT}{l:List (Nd×AV)}{Hb:Hp}(D:∀ H,Fm (· =b) Hb H->OfR X sv cb o b rb av B N g l H)(E:N=(aJ X).length){n x:Nat}(F:n<N)(G:x<l.length)(p:cb<Hb.nx/\o<Hb.nx/\rb<Hb.nx){ts:List SS}(I:∀ H,Fm (· =b) Hb H->Rs 1 sC H tv ts)(r:ts.length<=1000)(c:∀ s∈ts,(s,l[x].1.to)∈aJ X){Q:pH}{q:pD}{ms:List Nat}(P:∀ H,vJ H (.agg [iN N,.sl b 0 (N*N) (N*N) true]) b N (p9 N ms ((ts.map fun s=>(s,l[x].1.to)).map (tE X n l[x].1.neg)))->Fm (· =b) Hb H->Ok (q H) Q):∀(k i:Nat) (H:Hp),i<=ts.length->ts.length-i<k->vJ H (.agg [iN N,.sl b 0 (N*N) (N*N) true]) b N (p9 N ms (((ts.take i).map fun s=>(s,l[x].1.to)).map (tE X n l[x].1.neg)))->Fm (· =b) Hb H -> Ok (qmp (C j) q (.ptr cb 0) (.ptr o 0) (iN n) B (iN x) tv k (iN i) H) Q
 |0,i,_,_,h,_,_=>by omega
 |k+1,i,H,hi,hk,hM,hf=>by
  show Ok (qv3 (C j) _ _ _ _ _ _ _ (qmp (C j) _ _ _ _ _ _ _ k) _ H) Q;unfold qv3;have e:=D H hf;have J:=I H hf;have K:=J.len;have R:=hf.nx;by_cases a:i<ts.length
  ·simp only[go_sem,K,a];unfold q8z;obtain⟨b1,o1,U,e2,V⟩:=J.at1 (g:=SS.v) (fun _=>rfl) a;obtain⟨v,w,W,Y,_,_,O⟩:=e.x8.at' x G;have S:bK (H.get v) (w+2)=.val (.str l[x].1.to.n l[x].1.to.a):=O 2 (by rw[vK];omega);have L:bK (H.get v) (w+4)=.val (.bool l[x].1.neg):=O 4 (by rw[vK];omega);have T:=e.x1;have M:=e.x4;have d:=c ts[i] (lg a);simp only[go_sem,seval,T,M,U,V,W,S,L];refine Ok.kF (qqk m (k:=j) z e.vN A d) ?_;rintro _ Z ⟨rfl,f⟩;have t:=(f.keep (by omega)).trans M;have u:bK (Z.get v) (w+4)=.val (.bool l[x].1.neg):=by rw[f.keep Y];exact L
   simp(disch:=first|omega|exact ti rfl)only[go_sem,seval,t,u];refine Ok.kF (q6p m (k:=j) (by omega) (hM.fm f) F (by rw[E];exact q0g d) l[x].1.neg) ?_;rintro _ H3 ⟨y,f3⟩;unfold q80;simp(disch:=go_size)only[go_sem,rB,rI,rK,rL,rN,rS,r6];refine q0b m z A D E F G p I r c P k (i+1) H3 (by omega) (by omega) ?_ ((hf.then f fun _ _ h=>absurd h id).then f3 fun _ _ h=>h);rw[lw a,uj,uj,qf5,ah,ah,qw8];exact y
  ·simp only[go_sem,K,a];have he:i=ts.length:=by omega
   simp_all
def yL(X:List aM)(a:SS)(g:aT)(x:Nd):List (SS×SS):=
 if x.k=1 then yP g.r.types else if x.k=2 then[(a,x.rl)]else if x.k=3 then(pE X a x.rl x.to).map fun s=>(s,x.to)else[]
def ndE(X:List aM)(n:Nat)(a:SS)(g:aT)(x:Nd):List T3:=(yL X a g x).map (tE X n x.neg)
theorem qoq(d:vV X)(a b to:SS):(pE X a b to).length<=100:=by
 unfold pE;cases h:mF X a b with
 |none=>simp
 |some g=>
  refine rq (qwr X to _) ?_;unfold mF at h;cases c:X.find? fun g=>decide (g.name=a)with
  |none=>rw[c]at h;cases h
  |some p=>rw[c]at h;exact d.t p (zq c) g (zq h)
theorem q0d(t:aV C){j:Nat}(hj:4<=j){X:List aM}(u:vV X){sv av P:AV}{cb G b rb N:Nat}{g:aT}{l:List (Nd×AV)}{Hb:Hp}(I:∀ H,Fm (· =b) Hb H->OfR X sv cb G b rb av P N g l H)(J:N=(aJ X).length){n:Nat}(hn:n<(aJ X).length)(R:cb<Hb.nx/\G<Hb.nx/\rb<Hb.nx)(hb:b<Hb.nx)(S:g.r.types.length<=100)(T:l.length<=100000)(x:∀ y∈l,∀p∈yL X (aJ X)[n].1 g y.1,p∈aJ X){Q:pH}{q:pD}{ms:List Nat}(hq:∀ H,vJ H (.agg [iN N,.sl b 0 (N*N) (N*N) true]) b N (p9 N ms (l.flatMap fun y=>ndE X n (aJ X)[n].1 g y.1))->Fm (· =b) Hb H->Ok (q H) Q):∀(k i:Nat) (H:Hp),i<=l.length->l.length-i<k->vJ H (.agg [iN N,.sl b 0 (N*N) (N*N) true]) b N (p9 N ms ((l.take i).flatMap fun y=>ndE X n (aJ X)[n].1 g y.1))->Fm (· =b) Hb H -> Ok (qki (C j) q (.ptr cb 0) av (.ptr G 0) (iN n) (.ptr rb 0) P k (iN i) H) Q
 |0,i,_,_,h,_,_=>by omega
 |k+1,i,H,hi,hk,v,d=>by
  show Ok (q5s (C j) _ _ _ _ _ _ _ (qki (C j) _ _ _ _ _ _ _ k) _ H) Q;unfold q5s;have r:=I H d;have hl:=r.x8.len;have hnx:=d.nx;by_cases a:i<l.length
  ·simp only[go_sem,hl,a];unfold q8y;obtain⟨B,D,L,g2,_,_,M⟩:=r.x8.at' i a;have K:bK (H.get B) D=.val (.int .u8 (.ofNat l[i].1.k)):=M 0 (by rw[vK];omega);have r1:bK (H.get B) (D+1)=.val (.str l[i].1.rl.n l[i].1.rl.a):=M 1 (by rw[vK];omega);have r2:bK (H.get B) (D+2)=.val (.str l[i].1.to.n l[i].1.to.a):=M 2 (by rw[vK];omega);have r4:bK (H.get B) (D+4)=.val (.bool l[i].1.neg):=M 4 (by rw[vK];omega);obtain⟨b3,o3,k1,k2,_,_,k4⟩:=r.x3.at' n hn;have s0:bK (H.get b3) o3=.val (.str (aJ X)[n].1.n (aJ X)[n].1.a):=k4 0 (by rw[qpg];omega);have x1:=r.x1;have x4:=r.x4;have U:=lg a;have f:=x _ U;have next:∀ H,vJ H (.agg [iN N,.sl b 0 (N*N) (N*N) true]) b N (p9 N (p9 N ms ((l.take i).flatMap fun y=>ndE X n (aJ X)[n].1 g y.1)) (ndE X n (aJ X)[n].1 g l[i].1))->Fm (· =b) Hb H ->
     Ok (qh0 (C j) (qki (C j) q (.ptr cb 0) av (.ptr G 0) (iN n) (.ptr rb 0) P k) (iN i) H) Q:=fun H v d=>by
    unfold qh0;simp(disch:=go_size)only[go_sem,rB,rI,rK,rL,rN,rS,r6];refine q0d t hj u I J hn R hb S T x hq k (i+1) H (by omega) (by omega) ?_ d;rw[lw a,vk,qf5,vw];exact v
   unfold ndE yL at next
   unfold yL at f;by_cases w:l[i].1.k=1
   ·have V:=zg w;rw[kz w]at next f
    simp only[go_sem,L,K,V];unfold zi6;rw[bW];refine qpj t (by omega) u (Hb:=H) (fun H' e=>I H' (d.then e fun _ _ h=>h)) J (by omega) a ⟨by omega,by omega,by omega⟩ (by omega) f (fun H' o e=>next H' o (d.then e fun _ _ h=>h)) bL 0 H (gy _) (by rw[bZ];omega) v (Fm.refl _ _)
   ·rw[lu w]at next f
    by_cases F:l[i].1.k=2
    ·have W:=zg F;rw[kz F]at next f
     have z:=f _ qy;simp(disch:=go_size)only[go_sem,rB,rI,rK,rL,rN,rS,r6,L,K,w,W,x1,x4,k1,s0,r1,r4];refine Ok.kF (qqk t (k:=j) (by omega) r.vN u z) ?_;rintro _ E ⟨rfl,m⟩;have Y:=(m.keep (by omega)).trans x4;have Z:bK (E.get B) (D+4)=.val (.bool l[i].1.neg):=by rw[m.keep g2];exact r4
     simp(disch:=first|omega|exact ti rfl)only[go_sem,seval,Y,Z];refine Ok.kF (q6p t (k:=j) (by omega) (v.fm m) (by omega) (by rw[J];exact q0g z) l[i].1.neg) ?_;rintro _ H3 ⟨hM3,f3⟩;simp only[go_sem];refine next H3 ?_ ((d.then m fun _ _ h=>absurd h id).then f3 fun _ _ h=>h)
     rw[ah,qw8];exact hM3
    ·rw[lu F]at next f
     by_cases O:l[i].1.k=3
     ·have q3t:=zg O;rw[kz O]at next f
      simp(disch:=go_size)only[go_sem,rB,rI,rK,rL,rN,rS,r6,L,K,w,F,q3t,x1,k1,s0,r1,r2];refine Ok.kF (qtv t (k:=j) (by omega) r.vN u (aJ X)[n].1 l[i].1.rl l[i].1.to) ?_;intro tv E ht;simp only[go_sem,seval];unfold q81;rw[bW];have m:=ht.fm;have A:Fm (· =b) Hb E:=d.then m fun _ _ h=>absurd h id;have n2:=m.nx;have htl:=qoq u (aJ X)[n].1 l[i].1.rl l[i].1.to;refine q0b t (by omega) u (Hb:=E) (fun H' e=>I H' (A.then e fun _ _ h=>h)) J (by omega) a ⟨by omega,by omega,by omega⟩ (fun H' e=>(ht.rs zku).gH e fun c hc h=>by have:=ht.nw c hc;omega) (by omega) (fun s hs=>f _ (zo hs)) (fun H' o e=>next H' o (A.then e fun _ _ h=>h)) bL 0 E (gy _) (by rw[bZ];omega) (v.fm m) (Fm.refl _ _)
     ·rw[lu O]at next
      simp only[go_sem,L,K,w,F,O];exact next H v d
  ·simp only[go_sem,hl,a];have he:i=l.length:=by omega
   simp_all
theorem qg2{a b:SS}{g:aT}(h:mF X a b=some g):∃ p∈X,g∈p.gs/\p.name=a/\g.r.name=b:=by
 unfold mF at h;cases c:X.find? fun g=>decide (g.name=a)with
 |none=>rw[c]at h;cases h
 |some p=>rw[c]at h;exact⟨p,zq c,zq h,by simpa using lE0 c,by simpa using lE0 h⟩
structure OfW(X:List aM):Prop where
 sm:vV X
 n:(aJ X).length<=256
 at':∀ i (h:i<(aJ X).length),∃g,mF X (aJ X)[i].1 (aJ X)[i].2=some g/\g.r.rule.depth<=12/\g.r.rule.size<=10000/\∀ x∈g.r.rule.nodes false,∀p∈yL X (aJ X)[i].1 g x,p∈aJ X
def tsN(X:List aM)(n:Nat):List T3:=match(aJ X)[n]? with
 |none=>[]
 |some p=>match mF X p.1 p.2 with
  |none=>[]
  |some g=>(g.r.rule.nodes false).flatMap (ndE X n p.1 g)
def tsG(X:List aM)(m:Nat):List T3:=(List.range m).flatMap (tsN X)
theorem q0c(I:aV C){j:Nat}(hj:14<=j){X:List aM}(d:OfW X){sv av:AV}{cb M b N:Nat}{Hb:Hp}(O:∀ H,Fm (· =b) Hb H->bM H sv X/\H.get cb=aB 0 [sv]/\Rs 2 pC H av (aJ X)/\H.get M=aB 0 [iN N,.sl b 0 (N*N) (N*N) true])(hN:N=(aJ X).length)(R:cb<Hb.nx/\M<Hb.nx)(hb:b<Hb.nx){Q:pH}{q:pD}{ms:List Nat}(hq:∀ H,vJ H (.agg [iN N,.sl b 0 (N*N) (N*N) true]) b N (p9 N ms (tsG X N))->Fm (· =b) Hb H->Ok (q H) Q):∀(k i:Nat) (H:Hp),i<=N->N-i<k->vJ H (.agg [iN N,.sl b 0 (N*N) (N*N) true]) b N (p9 N ms (tsG X i))->Fm (· =b) Hb H -> Ok (qoe (C j) q (.ptr cb 0) av (.ptr M 0) k (iN i) H) Q
 |0,i,_,_,h,_,_=>by omega
 |k+1,i,H,hi,hk,hM,hf=>by
  show Ok (q5t (C j) _ _ _ _ (qoe (C j) _ _ _ _ k) _ H) Q;unfold q5t;obtain⟨hX,x1,x3,x4⟩:=O H hf;have hl:=x3.len;have hnx:=hf.nx;have aFQ:=d.n;have hsn:=d.sm.n;by_cases a:i<(aJ X).length
  ·simp only[go_sem,hl,a];unfold q8x;obtain⟨b3,o3,k1,k2,_,_,k4⟩:=x3.at' i a;have s0:bK (H.get b3) o3=.val (.str (aJ X)[i].1.n (aJ X)[i].1.a):=k4 0 (by rw[qpg];omega);have s1:bK (H.get b3) (o3+1)=.val (.str (aJ X)[i].2.n (aJ X)[i].2.a):=k4 1 (by rw[qpg];omega);simp only[go_sem,seval,x1,k1,s0,s1];have fU:Fm No H ⟨H.t,H.nx+18⟩:=by(repeat(first|exact Fm.refl _ _|assumption|refine Fm.push ?_ _|refine Fm.fC ?_ (by go_size)|refine Fm.aD ?_ _ _ (by go_size)))
   refine Ok.kF (qql I (k:=j) (by omega) (hX.fm fU) (by omega) (fun g t=>by have:=d.sm.r g t;omega) (aJ X)[i].1 (aJ X)[i].2) ?_;rintro r o ⟨f2,m⟩;obtain⟨g,t,hgd,hgs,W⟩:=d.at' i a;unfold q7q at m;rw[t]at m;subst m;have sF:=fU.trans f2;have n2:H.nx+18<=o.nx:=f2.nx;obtain⟨p,F,n,_,_⟩:=qg2 t;have e:=(((hX.sp p F).rel g n).ru);obtain⟨c0,J,K,L,G⟩:=e.four;have z:eP g=[.str g.r.name.n g.r.name.a,g.tv,c0,J,K,L]:=by unfold eP;rw[G];rfl
   rw[z];simp only[go_sem,seval];have A:Fm No H ((o.put (H.nx+15) (aB 0 [.str 0 0,.aA,.int .u8 (.ofNat 0),.str 0 0,.str 0 0,.aA])).put (H.nx+15) (aB 0 [.str g.r.name.n g.r.name.a,g.tv,c0,J,K,L])):=(sF.aD (H.nx+15) _ (by omega)).aD (H.nx+15) _ (by omega);have nn:∀ x,¬In AV.aA x:=fun x h=>by obtain⟨_,_,_,_,h⟩:=h;cases h
   refine Ok.ve (qxe I g.r.rule j (by omega) .aA false _ (l:=[]) (P:=fun _=>True) (cs:=[c0,J,K,L]) (Gl.nil 5 _) ?_ (fun b _=>nn b) (by simp;omega)) ?_
   ·rw[G]at e;exact e.fm A
   rintro w s ⟨l,Y,Z⟩;have T:Fm No ((o.put (H.nx+15) (aB 0 [.str 0 0,.aA,.int .u8 (.ofNat 0),.str 0 0,.str 0 0,.aA])).put (H.nx+15) (aB 0 [.str g.r.name.n g.r.name.a,g.tv,c0,J,K,L])) s:=Y.fm.mono fun c _ h=>absurd h (nn c);have n4:o.nx<=s.nx:=T.nx;have B:=A.trans T;have D:Fm (· =b) Hb s:=hf.then B fun _ _ h=>absurd h id;have f:l.map Prod.fst=g.r.rule.nodes false:=by simpa using Z
   have hln:l.length=g.r.rule.size:=by have:=congrArg List.length f;simpa [qby] using this
   have x6:s.get (H.nx+15)=aB 0 (eP g):=by rw[z];exact(T.keep (show H.nx+15<o.nx by omega)).trans (dL _ _ _)
   have U:∀ c,In w c->o.nx<=c:=fun c S=>by
    rcases Y.nw c S with h|h
    ·simp_all
    ·exact h
   unfold zi7;rw[bW];refine q0d I (by omega) d.sm (sv:=sv) (Hb:=s) (X:=X) (g:=g) (l:=l) (rb:=H.nx+15) (N:=N) (fun H' u=>?_) hN a ⟨by omega,by omega,by omega⟩ (by omega) ?_ (by omega) ?_ (fun H' v u=>?_) bL 0 s (gy _) (by rw[bZ];omega) (hM.fm B) (Fm.refl _ _)
   ·obtain⟨y1,y2,y3,y4⟩:=O H' (D.then u fun _ _ h=>h);have E:=(y1.sp p F).rel g n;exact⟨y1,y2,y3,y4,(u.get _ (by omega) (by omega)).trans x6,E.ty,E.tf,(Y.gl.rs vK).gH u fun c S h=>by have:=U c S;omega⟩
   ·have:=d.sm.t p F g n;omega
   ·intro y hy p F;refine W y.1 ?_ p F;rw[<-f];exact zo hy
   ·unfold q5p;simp(disch:=go_size)only[go_sem,rB,rI,rK,rL,rN,rS,r6];refine q0c I hj d O hN R hb hq k (i+1) H' (by omega) (by omega) ?_ (D.then u fun _ _ h=>h);have V:tsN X i=l.flatMap fun y=>ndE X i (aJ X)[i].1 g y.1:=by
     unfold tsN;rw[lL a];simp only;rw[t];simp only;rw[<-f,lAT]
    unfold tsG at v ⊢;rw[oz,vk,qf5,vw,V];exact v
  ·simp only[go_sem,hl,a];have he:i=N:=by omega
   simp_all
theorem q93(m:aV C)(B:15<=k)(y:bM H sv X)(q:OfW X):Ok (C k (.f 10) [.agg [sv]] H) fun r H'=>∃ b,vJ H' r b (aJ X).length (p9 (aJ X).length (List.replicate ((aJ X).length*(aJ X).length) 0) (tsG X (aJ X).length))/\H.nx<=b/\Fm No H H':=by
 obtain⟨j,rfl⟩:=aU B;rw[(m j).zAf];unfold zAf z0v;simp(disch:=first|go_size|omega)only[go_sem];have f:Fm No H (aN (aN H (aB 0 [sv])) (aB 0 [iN 0,.aA])):=by exact fP2
 have t:=q.n;refine Ok.ve (zyi m (k:=j) (by omega) (y.fm f) q.sm) ?_;intro av H1 o;have n:=o.fm;have D:=n.nx;simp only[np]at D;have E:=o.bS;simp only[go_sem,E];refine Ok.ve (z9z m (k:=j) (by omega) t) ?_;rintro r e ⟨G,p⟩;obtain⟨I,w,l,x⟩:=G;subst I;simp(disch:=first|omega|exact ti rfl)only[go_sem,seval];generalize d:(aN e (aB 0 [iN 0,.aA])).put e.nx (aB 0 [iN ((aJ X).length),.sl (H1.nx+1) 0 ((aJ X).length*(aJ X).length) ((aJ X).length*(aJ X).length) true])=H4;have i:Fm No e H4:=by rw[<-d];exact nA
 have J:H4.nx=e.nx+1:=by rw[<-d];rfl
 have k0:H4.get H.nx=aB 0 [sv]:=((n.trans (p.trans i)).keep (by simp only[np,nq];omega)).trans (by simp(disch:=first|go_size|omega)only[go_sem]);have F:H4.get (H.nx+1)=aB 0 [iN 0,.aA]:=((n.trans (p.trans i)).keep (by simp only[np,nq];omega)).trans (by simp(disch:=go_size)only[go_sem]);have z:H4.get e.nx=aB 0 [iN ((aJ X).length),.sl (H1.nx+1) 0 ((aJ X).length*(aJ X).length) ((aJ X).length*(aJ X).length) true]:=by rw[<-d];exact dL _ _ _
 have A:=((f.trans n).trans p).trans i;unfold zi8;rw[bW];refine q0c m (by omega) q (sv:=sv) (Hb:=H4) (b:=H1.nx+1) (N:=(aJ X).length) (fun H' a=>⟨y.fm (A.then a fun c s h=>by omega),(a.get _ (by omega) (by omega)).trans k0,?_,(a.get _ (by omega) (by omega)).trans z⟩) rfl ⟨by omega,by omega⟩ (by omega) (fun H' g a=>?_) bL 0 H4 (gy _) (by rw[bZ];omega) ⟨rfl,by omega,(i.keep w).trans l,x⟩ (Fm.refl _ _)
 ·refine(((o.rs qpg).fm p).fm i).gH a fun c s h=>?_;have:=o.gl.lt s;omega
 ·unfold qv2;have u:=(a.get (H.nx+1) (by omega) (by omega)).trans F;have v:=(a.get e.nx (by omega) (by omega)).trans z;simp only[go_sem,seval,u,v];have K:=a.nx;refine Ok.ret ⟨H1.nx+1,⟨rfl,by simp only[np,nq];omega,?_,g.ok⟩,by omega,(A.then a fun c s h=>by omega).aD _ _ (by omega)⟩;rw[eB _ _ _ _ (by omega)];exact g.get
def nmL:List SS:=[sU,bY 0,bY 1,bY 2,fD 0,fD 1,fD 2,fD 3]
def Nm(s:SS):Prop:=s∈nmL
theorem Nm.ne{s:SS}(h:Nm s):¬(s.n=0/\s.a=0):=by
 have:∀ s∈nmL,¬(s.n=0/\s.a=0):=by decide
 exact this s h
structure bEa(c:Ev.Call):Prop where
 r:∀ s,Nm s->∀ H,c (.f 129) [s.v] H=.ok (.bool true) H
 p:∀ s,Nm s->∀ H,c (.f 90) [s.v] H=.ok (.bool true) H
abbrev kH(C:Nat->Ev.Call):Prop:=∀ k,bEa (C (k+1))
def Ru.Fit:Ru->Prop
 | .leaf k rl to=>(k=1/\rl=sE/\to=sE)\/(k=2/\Nm rl/\to=sE)\/(k=3/\Nm rl/\Nm to)
 | .node k a b=>(k=4\/k=5\/k=6)/\a.Fit/\b.Fit
theorem qm7(a b c d:Bool):pX true (l8 (fun xs e=>zX p1 ⟨qem⟩ 1 xs e 2 0) (.agg [.bool a,.bool b]) (.agg [.bool c,.bool d]))=.val (.bool (!(a==c&&b==d))):=by cases a<;>cases b<;>cases c<;>cases d<;>rfl
structure sM(H:Hp)(b o:Nat)(cs:List AV):Prop where
 lt:b<H.nx
 at':∀ j (h:j<cs.length),bK (H.get b) (o+j)=.val cs[j]
theorem sM.keep{b o:Nat}(h:sM H b o cs)(a:H.nx<=H'.nx)(e:H'.get b=H.get b):sM H' b o cs:=⟨lq h.lt a,fun j c=>by rw[e];exact h.at' j c⟩
theorem sM.fm{b o:Nat}(h:sM H b o cs)(f:Fm No H H'):sM H' b o cs:=h.keep f.nx (f.keep h.lt)
theorem zu9(s:aV C)(i:kH C)(D:2<=k){b o:Nat}{r:Ru}{P:Nat->Prop}(a:sM H b o cs)(m:iG P H r cs)(n:r.Fit):Ok (C k (.f 101) [.ptr b o] H) fun v H'=>v=iN 0/\Fm No H H':=by
 obtain⟨j,rfl⟩:∃ j,k=j+1+1:=⟨k-2,by omega⟩;rw[(s (j+1)).zDb];unfold zDb zzc;have t:=a.lt;cases r with
 |leaf kd rl to=>
  obtain rfl:cs=xY kd rl to:=m;have c:bK (H.get b) o=.val (.int .u8 (.ofNat kd)):=a.at' 0 (by simp[xY]);have d:bK (H.get b) (o+1)=.val (.str rl.n rl.a):=a.at' 1 (by simp[xY]);have e:bK (H.get b) (o+2)=.val (.str to.n to.a):=a.at' 2 (by simp[xY]);have f:bK (H.get b) (o+3)=.val .aA:=a.at' 3 (by simp[xY]);rcases n with⟨rfl,rfl,rfl⟩|⟨rfl,h,rfl⟩|⟨rfl,h,q⟩
  ·unfold sE at d e;simp(disch:=first|go_size|omega)only[go_sem,seval,c,d,e,f,and_self];unfold qfb;simp(disch:=first|go_size|omega)only[go_sem,rB,rI,rK,rL,rN,rS,r6,c,qm7,and_self];unfold qj8 qnq;exact Ok.ret ⟨rfl,by(repeat(first|exact Fm.refl _ _|assumption|refine Fm.push ?_ _|refine Fm.fC ?_ (by first|omega|simp only[np,nq];omega)|refine Fm.aD ?_ _ _ (by first|omega|simp only[np,nq];omega)))⟩
  ·have l:=h.ne;have g:=(i j).r rl h;unfold SS.v at g;simp(disch:=first|go_size|omega)only[go_sem,rB,rI,rK,rL,rN,rS,r6,c,d,e,f,l,and_self];unfold qfb;simp(disch:=first|go_size|omega)only[go_sem,rB,rI,rK,rL,rN,rS,r6,c,d,qm7,g];unfold qj8 qnq;exact Ok.ret ⟨rfl,by(repeat(first|exact Fm.refl _ _|assumption|refine Fm.push ?_ _|refine Fm.fC ?_ (by first|omega|simp only[np,nq];omega)|refine Fm.aD ?_ _ _ (by first|omega|simp only[np,nq];omega)))⟩
  ·have l:=h.ne;have u:=q.ne;have g:=(i j).r rl h;have p:=(i j).r to q;unfold SS.v at g p;simp(disch:=first|go_size|omega)only[go_sem,seval,c,d,e,f,l,u];unfold qfb;simp(disch:=first|go_size|omega)only[go_sem,rB,rI,rK,rL,rN,rS,r6,c,d,e,qm7,g,p];unfold qj8 qnq;exact Ok.ret ⟨rfl,by(repeat(first|exact Fm.refl _ _|assumption|refine Fm.push ?_ _|refine Fm.fC ?_ (by first|omega|simp only[np,nq];omega)|refine Fm.aD ?_ _ _ (by first|omega|simp only[np,nq];omega)))⟩
 |node kd x y=>
  obtain⟨bl,ca,cb,rfl,w,z,E,A,B⟩:=m;have c:bK (H.get b) o=.val (.int .u8 (.ofNat kd)):=a.at' 0 (by simp);have d:bK (H.get b) (o+1)=.val (.str 0 0):=a.at' 1 (by simp);have e:bK (H.get b) (o+2)=.val (.str 0 0):=a.at' 2 (by simp);have f:bK (H.get b) (o+3)=.val (.sl bl 0 2 2 true):=a.at' 3 (by simp);rcases n.1 with rfl|rfl|rfl<;>(
   simp(disch:=first|omega|exact ti rfl|simp only[np,nq];first|done|omega)only[go_sem,rB,rI,rK,rL,rN,rS,r6,c,d,e,f,and_self];unfold q34;unfold qfb;simp(disch:=first|go_size|omega)only[go_sem,rB,rI,rK,rL,rN,rS,r6,c,qm7,and_self];unfold qj8 qnq;exact Ok.ret ⟨rfl,by(repeat(first|exact Fm.refl _ _|assumption|refine Fm.push ?_ _|refine Fm.fC ?_ (by(first|go_size|omega))|refine Fm.aD ?_ _ _ (by(first|go_size|omega))))⟩)
theorem zka(H:Hp)(b o:Nat)(f:FuncId)(x y:List AV):jX H (.ptr b o) (.fn f x y)=storeAt H b o [.fn f x y] .undef:=id rfl
theorem zn6(O:Ev.Call)(f:FuncId)(c args:List AV)(H:Hp):vP O (.fn f [] c) args H=O (.f f) (args++c) H:=id rfl
theorem aUJ(a b:Nat):pK oO (iN a) [iN b]=.val (iN ((max a b))):=by
 show R0.val (.int .i64 (bif oU (.ofNat a) (.ofNat b)then .ofNat b else .ofNat a))=_;rw[qek];by_cases h:a<b
 ·rw[qw (by simp only[qi];omega),Nat.max_eq_right (by omega)];rfl
 ·rw[uA (by simp only[qi];omega),Nat.max_eq_left (by omega)];rfl
attribute [go_sem] zka zn6 aUJ
structure vG(H:Hp)(nb db fb vb:Nat)(l:List (Nd×AV))(nv:AV)(d:Nat):Prop where
 n:H.get nb=aB 0 [nv]
 d:H.get db=aB 0 [iN d]
 f:H.get fb=aB 0 [iN 0]
 v:H.get vb=aB 0 [.fn 100 [] [.ptr nb 0,.ptr db 0,.ptr fb 0,.ptr vb 0]]
 o:nb<db/\db<fb/\fb<vb/\vb<H.nx
 gl:Gl 5 H nv l.length (l.flatMap jL)
 nin:∀ c,In nv c->vb<c
def WkS(nb db fb:Nat)(nv:AV)(c:Nat):Prop:=c=nb\/c=db\/c=fb\/In nv c
theorem vG.no{nb a b vb:Nat}{l:List (Nd×AV)}{c:AV}{d:Nat}(h:vG H nb a b vb l c d)(f:Fm No H H'):vG H' nb a b vb l c d:=by obtain⟨e,g,i,j⟩:=h.o;exact⟨(f.keep (by omega)).trans h.n,(f.keep (by omega)).trans h.d,(f.keep (by omega)).trans h.f,(f.keep (by omega)).trans h.v,⟨e,g,i,lq j f.nx⟩,h.gl.no f,h.nin⟩
theorem qy5(B:aV C)(D:1<=j){nb s t vb:Nat}{l:List (Nd×AV)}{n:AV}{d:Nat}(a:vG H nb s t vb l n d)(p:i<l.length){x:AV}{xs:List AV}(E:Gl 1 H x m xs):Ok (qnu (C j) (.ptr nb 0) (iN i) x H) fun r H'=>r=.bool true/\∃ v,vG H' nb s t vb v n d/\v.map Prod.fst=l.map Prod.fst/\Fm (In n) H H':=by
 unfold qnu;obtain⟨w,e,F,_,_⟩:=qx9 B (k:=j) D E;have u:=a.n;have y:=qck (Gl.flat a.gl) 63;obtain⟨b,o,H',z,A,g,f,nx⟩:=a.gl.set1 p (j:=3) (by omega) w;rw[zlx w l i p]at g;obtain⟨G,I,J,L⟩:=a.o;have q:∀ c,c<=vb->¬ In n c:=fun c K h=>by have:=a.nin c h;omega
 have fin:vG H' nb s t vb (l.set i (l[i].1,w)) n d:=⟨(f.get _ (by omega) (q _ (by omega))).trans a.n,(f.get _ (by omega) (q _ (by omega))).trans a.d,(f.get _ (by omega) (q _ (by omega))).trans a.f,(f.get _ (by omega) (q _ (by omega))).trans a.v,
  ⟨G,I,J,by omega⟩,by rw[ul];exact g,a.nin⟩
 simp only[go_sem,u];refine Ok.xW e ?_;rcases F.is with⟨h,_⟩|⟨_,_,_,_,_,h,_⟩
 ·subst h;simp only[go_sem,u,y,z,A];exact Ok.ret ⟨rfl,_,fin,q6g p _,f⟩
 ·subst h;simp only[go_sem,u,y,z,A];exact Ok.ret ⟨rfl,_,fin,q6g p _,f⟩
def zok(C:Nat->Ev.Call)(r:Ru)(k:Nat):Prop:=
 ∀(b o lv:Nat) (neg:Bool) (H:Hp) (nb db fb vb:Nat) (l:List (Nd×AV)) (nv:AV) (d:Nat) (cs:List AV),vG H nb db fb vb l nv d->sM H b o cs->iG (· < nb) H r cs->b<nb->lv+r.depth<=9->l.length+r.size<=32->d<=8 ->
  Ok (C k (.f 100) [.ptr b o,iN lv,.bool neg,.ptr nb 0,.ptr db 0,.ptr fb 0,.ptr vb 0] H) fun v H'=>v=.bool true/\∃ l' wR d',vG H' nb db fb vb l' wR d' /\
   l'.map Prod.fst=l.map Prod.fst++r.nodes neg/\d'<=8/\Fm (WkS nb db fb nv) H H'/\∀ c,In wR c->In nv c\/H.nx<=c
theorem qh3(X:aV C)(Y:kH C)(Z:2<=j){b o lv:Nat}{nb m g vb:Nat}{l:List (Nd×AV)}{q:AV}{d:Nat}{r:Ru}{kd:Nat}{rl to:SS}{av:AV}(n:vG H nb m g vb l q d)(s:sM H b o [.int .u8 (.ofNat kd),.str rl.n rl.a,.str to.n to.a,av])(hr:iG (· < nb) H r [.int .u8 (.ofNat kd),.str rl.n rl.a,.str to.n to.a,av])(hf:r.Fit)(hb:b<nb)(hlv:lv<=8)(hll:l.length<32)(hd:d<=8){Q:pH}(hg:∀ H' w S,vG H' nb m g vb (l++[(⟨kd,rl,to,neg⟩,.aA)]) w S->S<=8->Fm (WkS nb m g q) H H'->(∀c,In w c->H.nx<=c) -> Ok (vq (aF av) H' fun A H=>qnv (C j) (fun B H=>.ok B H) (fun bI H=>qnu (C j) (.ptr nb 0) (iN (l.length)) bI H) (.ptr b o) (iN lv) (.bool neg) (.ptr nb 0) (.ptr vb 0) A .aA (iN 0) H) Q):Ok (zbw (C j) (.ptr b o) (iN lv) (.bool neg) (.ptr nb 0) (.ptr m 0) (.ptr g 0) (.ptr vb 0) H) Q:=by
 unfold zbw;obtain⟨o1,o2,o3,o4⟩:=n.o;have T:=n.n;have ed:=n.d;have U:=n.f;have z:=n.gl.bS;have E:¬ l.length=32:=by omega
 have h8:¬ 8<lv:=by omega
 have u:∀ c,c<=vb->¬ In q c:=fun c e h=>by have:=n.nin c h;omega
 simp(disch:=go_size)only[go_sem,rB,rI,rK,rL,rN,rS,r6,T,z,E,h8];unfold zf0;simp(disch:=go_size)only[go_sem,rB,rI,rK,rL,rN,rS,r6,ed,U];have F:Fm (fun c=>c=m) H (H.put m (aB 0 [iN ((max d lv))])):=(Fm.refl _ _).put _ _ fun _=>rfl;refine Ok.ve (zu9 X Y (k:=j) Z (s.keep F.nx (F.get _ (by omega) (by omega))) (hr.gH F fun c e h=>by omega) hf) ?_;rintro _ a ⟨rfl,P⟩;have n2:H.nx<=a.nx:=P.nx;have d2:a.get m=aB 0 [iN ((max d lv))]:=(P.keep (show m<H.nx by omega)).trans (dL _ _ _);have f:∀ c,c<H.nx->c≠m->a.get c=H.get c:=fun c h1 D=>(P.keep (show c<H.nx by omega)).trans (eB _ _ _ _ D);have G:=(f g (by omega) (by omega)).trans U;simp only[go_sem,G];unfold q4d;have v:=(f nb (by omega) (by omega)).trans T;have I:=(f vb (by omega) (by omega)).trans n.v;have p:=f b (by omega) (by omega);have r0:bK (a.get b) o=.val (.int .u8 (.ofNat kd)):=by rw[p];exact s.at' 0 (by simp)
 have r1:bK (a.get b) (o+1)=.val (.str rl.n rl.a):=by rw[p];exact s.at' 1 (by simp)
 have r2:bK (a.get b) (o+2)=.val (.str to.n to.a):=by rw[p];exact s.at' 2 (by simp)
 have r3:bK (a.get b) (o+3)=.val av:=by rw[p];exact s.at' 3 (by simp)
 simp(disch:=omega)only[go_sem,seval,v,z,r0,r1,r2];have g2:Gl 5 ((Hp.mk (a.put g (aB 0 [iN 0])).t (a.nx+18)).put (a.nx+15) (aB 0 [.int .u8 (.ofNat kd),.str rl.n rl.a,.str to.n to.a,.aA,.bool neg])) q l.length (l.flatMap jL):=by refine n.gl.keep (show H.nx<=a.nx+18 by omega) fun c e z=>?_;have:=n.nin c e;rw[eB _ _ _ _ (by omega)];show(a.put g _).get c=_;rw[eB _ _ _ _ (by omega)];exact f c z (by omega)
 obtain⟨y,V,W,q3,R,n3⟩:=g2.append (k:=1) (w:=72) (x:=[.int .u8 (.ofNat kd),.str rl.n rl.a,.str to.n to.a,.aA,.bool neg]) (by omega) rfl (by omega) (by omega);simp only[nq]at V W q3 n3 R;refine Ok.xW V ?_;have i:∀ c,c<a.nx->c≠g->¬ In q c->y.get c=a.get c:=fun c h1 D h3=>by refine(R.get c (show c<a.nx+18 by omega) h3).trans ?_;rw[eB _ _ _ _ (by omega)];show(a.put g _).get c=_;rw[eB _ _ _ _ D]
 have J:y.get g=aB 0 [iN 0]:=by refine(R.get g (show g<a.nx+18 by omega) (u _ (by omega))).trans ?_;rw[eB _ _ _ _ (by omega)];exact dL _ _ _
 have K:=(i nb (by omega) (by omega) (u _ (by omega))).trans v;have L:=(i m (by omega) (by omega) (u _ (by omega))).trans d2;have M:=(i vb (by omega) (by omega) (u _ (by omega))).trans I;have N:=i b (by omega) (by omega) (u _ (by omega));have O:bK (y.get b) (o+3)=.val av:=by rw[N];exact r3
 simp(disch:=omega)only[go_sem,seval,K,O];refine hg _ _ (max d lv) ⟨dL _ _ _,?_,?_,?_,⟨o1,o2,o3,show vb<y.nx by omega⟩,?_,?_⟩ (by omega) ⟨show H.nx<=y.nx by omega,fun c e t=>?_⟩ ?_
 ·rw[eB _ _ _ _ (by omega)];exact L
 ·rw[eB _ _ _ _ (by omega)];exact J
 ·rw[eB _ _ _ _ (by omega)];exact M
 ·rw[ku,vk,vw];exact W.keep (lh _) fun c e _=>by obtain⟨_,_,_,_,e⟩:=e;injection e with e;rw[eB _ _ _ _ (by omega)]
 ·rintro c ⟨_,_,_,_,e⟩;injection e with e;omega
 ·unfold WkS at t;rw[eB _ _ _ _ (fun h=>t (.inl h))];exact(i c (by omega) (fun h=>t (.inr (.inr (.inl h)))) fun h=>t (.inr (.inr (.inr h)))).trans (f c e fun h=>t (.inr (.inl h)))
 ·rintro c ⟨_,_,_,_,e⟩;injection e with e;omega
theorem qko(hC:aV C){r:Ru}(hR:zok C r j){g:AV->pB}{Q:pH}{b o lv bl kd t d nb y z vb:Nat}{l:List (Nd×AV)}{A x:AV}{xs ca cb cc:List AV}(s:vG H nb y z vb l A d)(hx:Gl 1 H x t xs)(ht:t<2)(I:∀ c,In x c->vb<c/\¬ In A c)(h4:sM H b o [.int .u8 (.ofNat kd),.str 0 0,.str 0 0,.sl bl 0 2 2 true])(hb:b<nb)(N:bl<nb)(kb:H.get bl=aB 0 (ca++cb))(la:ca.length=4)(lb:cb.length=4)(J:cc=if t=0 then ca else cb)(P:iG (· < nb) H r cc)(hlv:lv+1+r.depth<=9)(R:l.length+r.size<=32)(hd:d<=8)(hg:∀(S:AV) (H':Hp) (p:List (Nd×AV)) (m:AV) (q:Nat) (U:List AV),vG H' nb y z vb p m q->p.map Prod.fst=l.map Prod.fst++r.nodes (neg||(decide (kd=6)&&decide (t=1)))->q<=8 -> Fm (fun c=>WkS nb y z A c\/In x c) H H'->(∀c,In m c->In A c\/H.nx<=c)->Gl 1 H' S (t+1) U->(∀c,In S c->vb<c/\¬ In m c/\H.nx<=c)->Ok (g S (iN ((t+1))) H') Q):Ok (qnt (C j) qr g (.ptr b o) (iN lv) (.bool neg) (.ptr nb 0) (.ptr vb 0) x (iN t) H) Q:=by
 unfold qnt;obtain⟨o1,o2,o3,o4⟩:=s.o;have e0:=s.n;have W:=s.gl.bS;simp(disch:=go_size)only[go_sem,rB,rI,rK,rL,rN,rS,r6,e0,W];have fp:Fm No H (aN H (aB 0 [iN (l.length)])):=by exact mG
 obtain⟨v,e2,g2,q2,f2,n2⟩:=(hx.no fp).append (k:=1) (w:=8) (x:=[iN (l.length)]) (by omega) rfl (by omega) (by omega);simp only[np]at n2;refine Ok.veE e2 ?_;have L:Fm (In x) H v:=(fp.mono (T:=In x) (fun _ _ h=>absurd h id)).then f2 fun _ _ h=>h;have E:∀ c,c<H.nx->¬ In x c->v.get c=H.get c:=fun c V h2=>L.get c V h2;have F:∀ c,c<=vb->¬ In x c:=fun c a h=>by have:=(I c h).1;omega
 have I2:vG v nb y z vb l A d:=⟨(E _ (by omega) (F _ (by omega))).trans s.n,(E _ (by omega) (F _ (by omega))).trans s.d,(E _ (by omega) (F _ (by omega))).trans s.f,(E _ (by omega) (F _ (by omega))).trans s.v,⟨o1,o2,o3,by omega⟩,
  s.gl.keep L.nx (fun c a W=>E c W fun h=>(I c h).2 a),s.nin⟩
 have Y:=I2.v;have K:=E b (by omega) (F _ (by omega));have Z:bK (v.get b) o=.val (.int .u8 (.ofNat kd)):=by rw[K];exact h4.at' 0 (by simp)
 have r3:bK (v.get b) (o+3)=.val (.sl bl 0 2 2 true):=by rw[K];exact h4.at' 3 (by simp)
 have kb2:=(E bl (by omega) (F _ (by omega))).trans kb;have a4:sM v bl (t*4) cc:=⟨by omega,fun i hi=>by
  rw[kb2,qbx];have:(ca++cb)[t*4+i]? =some cc[i]:=by
   by_cases h0:t=0
   ·subst h0;subst J;rw[lAS,pq,qx (by omega),lL hi]
   ·have V:t=1:=by omega
    subst V;subst J;rw[ug (by omega),show 1*4+i-ca.length=i by omega,lL hi]
  rw[this]⟩
 have aF3:iG (· < nb) v r cc:=P.gH L fun c a=>F c (by omega);have O:∀ n:Bool,Ok (C j (.f 100) [.ptr bl (t*4),iN ((lv+1)),.bool n,.ptr nb 0,.ptr y 0,.ptr z 0,.ptr vb 0] v) _:=fun n=>hR bl (t*4) (lv+1) n v nb y z vb l A d cc I2 a4 aF3 N (by omega) R hd;have fin:∀(n:Bool),n=(neg||(decide (kd=6)&&decide (t=1)))->∀(u:Hp) (p:List (Nd×AV)) (m:AV) (q:Nat),vG u nb y z vb p m q->p.map Prod.fst=l.map Prod.fst++r.nodes n->q<=8->Fm (WkS nb y z A) v u->(∀c,In m c->In A c\/v.nx<=c) ->
   Ok (g (.sl (aN H (aB 0 [iN (l.length)])).nx 0 (t+1) (t+1) false) (iN ((t+1))) u) Q:=by
  rintro _ rfl u p m q G e f B D;have hnew:¬ WkS nb y z A (H.nx+1):=fun h=>by
   rcases h with h|h|h|h
   ·omega
   ·omega
   ·omega
   ·have:=s.gl.lt h;omega
  refine hg _ u p m q _ G e f ((L.mono fun _ _ h=>.inr h).then B fun _ _ h=>.inl h) (fun c a=>?_) (g2.keep B.nx fun c a X=>B.get c X fun h=>?_) fun c a=>?_
  ·rcases D c a with h|h
   ·exact .inl h
   ·omega
  ·obtain⟨_,_,_,_,a⟩:=a;injection a with a;rw[np]at a;simp_all
  ·obtain⟨_,_,_,_,a⟩:=a;injection a with a;rw[np]at a;refine⟨by omega,fun h=>?_,by omega⟩;rcases D c h with h|h
   ·have:=s.gl.lt h;omega
   ·omega
 cases neg
 ·by_cases M:kd=6
  ·have h6t:=zg M;simp(disch:=omega)only[go_sem,Y,Z,r3,h6t];refine Ok.kF (O (decide (t=1))) ?_;rintro _ u ⟨rfl,p,m,q,G,e,f,B,D⟩;simp only[go_sem];unfold qu1;simp(disch:=omega)only[go_sem];exact fin (decide (t=1)) (by simp[M]) u p m q G e f B D
  ·simp(disch:=omega)only[go_sem,Y,Z,r3,M];refine Ok.kF (O false) ?_;rintro _ u ⟨rfl,p,m,q,G,e,f,B,D⟩;unfold qu1;simp(disch:=omega)only[go_sem];exact fin false (by simp[M]) u p m q G e f B D
 ·simp(disch:=omega)only[go_sem,Y,Z,r3];refine Ok.kF (O true) ?_;rintro _ u ⟨rfl,p,m,q,G,e,f,B,D⟩;unfold qu1;simp(disch:=omega)only[go_sem];exact fin true (by simp) u p m q G e f B D
theorem w37(O:Ev.Call)(qr:pB)(q:pB)(a b c d e f:AV)(n:Nat):qu0 O qr q a b c d e f (n+1)=qhw O qr q a b c d e f (qu0 O qr q a b c d e f n):=rfl
theorem q88(n:aV C)(hN:kH C):∀(r:Ru) (k:Nat),r.Fit->r.depth+2<=k->zok C r k:=by
 intro r
 induction r with
 |leaf kd rl to=>intro k F V b o lv neg H nb W X vb l nv d cs G I J p s u hd;unfold Ru.depth at V s;unfold Ru.size at u;obtain⟨j,rfl⟩:∃ j,k=j+1:=⟨k-1,by omega⟩;rw[(n j).zCo];have T:cs=xY kd rl to:=J;subst T;refine qh3 n hN (r:=.leaf kd rl to) (by omega) G I J F p (by omega) (by omega) hd fun H' w d' Q R f' B=>?_;unfold qnv;obtain⟨m,Y⟩:∃ m,bL=m+1:=⟨999999,by rw[bZ]⟩;rw[bW,Y];simp only[go_sem];rw[w37];unfold qhw;refine(qy5 n (j:=j) (by omega) Q (i:=l.length) (by simp) (Gl.nil 1 H')).mono ?_;rintro r H2 ⟨rfl,Z,v,g,z⟩;refine⟨rfl,Z,w,d',v,by rw[g];simp[Ru.nodes],R,f'.then z fun c a h=>?_,fun c a=>.inr (B c a)⟩;have:=B c h;omega
 |node kd x y ihx ihy=>
  intro k F V b o lv neg H nb W X vb l nv d cs G I J p s u hd;unfold Ru.depth at V s;unfold Ru.size at u;obtain⟨j,rfl⟩:∃ j,k=j+1:=⟨k-1,by omega⟩;rw[(n j).zCo];have U:=J;obtain⟨bl,ca,cb,rfl,K,e,kb,L,M⟩:=J;have la:ca.length=4:=by obtain⟨_,_,_,_,h⟩:=L.four;rw[h];rfl
  have lb:cb.length=4:=by obtain⟨_,_,_,_,h⟩:=M.four;rw[h];rfl
  refine qh3 n hN (r:=.node kd x y) (rl:=sE) (to:=sE) (by omega) G I U F p (by omega) (by omega) hd fun H1 w d1 D S f B=>?_;obtain⟨o1,o2,o3,o4⟩:=G.o;have nS:∀ c,c<nb->¬ WkS nb W X nv c:=fun c a h=>by
   rcases h with h|h|h|h
   ·omega
   ·omega
   ·omega
   ·have:=G.nin c h;omega
  unfold qnv;obtain⟨m,Y⟩:∃ m,bL=m+3:=⟨999997,by rw[bZ]⟩;rw[bW,Y];simp only[go_sem];rw[w37];unfold qhw;simp only[go_sem];have nn:∀ c,¬In AV.aA c:=fun c h=>by obtain⟨_,_,_,_,h⟩:=h;cases h
  have l1:(l++[((⟨kd,sE,sE,neg⟩:Nd),AV.aA)]).length=l.length+1:=by simp
  refine qko n (r:=x) (t:=0) (ca:=ca) (cb:=cb) (cc:=ca) (ihx j F.2.1 (by omega)) D (Gl.nil 1 H1) (by omega) (fun c h=>absurd h (nn c)) (I.keep f.nx (f.get _ (by omega) (nS _ p))) p e ((f.get _ K (nS _ e)).trans kb) la lb rfl (L.gH f fun c a=>nS c a) (by omega) (by rw[l1];omega) S ?_;intro x2 H2 l2 nv2 d2 xs2 v g hd2 z N gx2 A;have l2n:l2.length=l.length+1+x.size:=by have:=congrArg List.length g;simp only[pz,ku,gz,uk,qby]at this;omega
  have n1:=f.nx;have n2:=z.nx;have q:∀ c,c<nb->¬(WkS nb W X w c\/In AV.aA c):=fun c a h=>by
   rcases h with(h|h|h|h)|h
   ·omega
   ·omega
   ·omega
   ·have:=D.nin c h;omega
   ·exact nn c h
  rw[w37];unfold qhw;simp only[go_sem];refine qko n (r:=y) (t:=1) (ca:=ca) (cb:=cb) (cc:=cb) (ihy j F.2.2 (by omega)) v gx2 (by omega) (fun c h=>⟨(A c h).1,(A c h).2.1⟩) ((I.keep f.nx (f.get _ (by omega) (nS _ p))).keep n2 (z.get _ (by omega) (q _ p))) p e ((z.get _ (by omega) (q _ e)).trans ((f.get _ K (nS _ e)).trans kb)) la lb rfl ((M.gH f fun c a=>nS c a).gH z fun c a=>q c a) (by omega) (by omega) hd2 ?_;intro x3 H3 l3 O d3 xs3 yZ P hd3 f3 zP gx3 hx3;rw[w37];unfold qhw;have l3n:l3.length=l2.length+y.size:=by have:=congrArg List.length P;simp only[pz,ku,qby]at this;omega
  have E:∀ c,In O c->H.nx<=c:=fun c a=>by
   rcases zP c a with h|h
   ·rcases N c h with h|h
    ·exact B c h
    ·omega
   ·omega
  refine(qy5 n (j:=j) (by omega) yZ (i:=l.length) (by omega) gx3).mono ?_;rintro r H4 ⟨rfl,Z,hI4,hl4,f4⟩;refine⟨rfl,Z,O,d3,hI4,?_,hd3,((f.then z fun c a h=>?_).then f3 fun c a h=>?_).then f4 fun c a h=>?_,fun c a=>.inr (E c a)⟩
  ·rw[hl4,P,g];simp[Ru.nodes]
  ·rcases h with(h|h|h|h)|h
   ·exact .inl h
   ·exact .inr (.inl h)
   ·exact .inr (.inr (.inl h))
   ·have:=B c h;omega
   ·simp_all
  ·rcases h with(h|h|h|h)|h
   ·exact .inl h
   ·exact .inr (.inl h)
   ·exact .inr (.inr (.inl h))
   ·rcases N c h with h|h
    ·have:=B c h;omega
    ·omega
   ·have:=(A c h).2.2;omega
  ·have:=E c h;omega
def NoS(nb db:Nat)(H:Hp):Prop:=(∃x,H.get nb=aB 0 [x])/\∃ x,H.get db=aB 0 [x]
def zol(C:Nat->Ev.Call)(r:Ru)(k:Nat):Prop:=
 ∀(b o lv:Nat) (neg:Bool) (H:Hp) (nb db fb vb:Nat) (l:List (Nd×AV)) (nv:AV) (d:Nat) (cs:List AV),vG H nb db fb vb l nv d->sM H b o cs->iG (· < nb) H r cs->b<nb->9<lv+r.depth->lv<=9->l.length+r.size<=33->d<=8 ->
  Ok (C k (.f 100) [.ptr b o,iN lv,.bool neg,.ptr nb 0,.ptr db 0,.ptr fb 0,.ptr vb 0] H) fun v H'=>v=.bool false/\NoS nb db H'/\Fm (WkS nb db fb nv) H H'
theorem qon(hC:aV C){r:Ru}(Z:zol C r j){g:AV->pB}{Q:pH}{b o lv bl kd t d nb m s vb:Nat}{l:List (Nd×AV)}{u x:AV}{xs ca cb cc:List AV}(e:vG H nb m s vb l u d)(hx:Gl 1 H x t xs)(ht:t<2)(v:∀ c,In x c->vb<c/\¬ In u c)(U:sM H b o [.int .u8 (.ofNat kd),.str 0 0,.str 0 0,.sl bl 0 2 2 true])(hb:b<nb)(E:bl<nb)(kb:H.get bl=aB 0 (ca++cb))(la:ca.length=4)(lb:cb.length=4)(y:cc=if t=0 then ca else cb)(F:iG (· < nb) H r cc)(hlv:9<lv+1+r.depth)(hl8:lv<=8)(G:l.length+r.size<=33)(hd:d<=8)(hg:∀ H':Hp,NoS nb m H'->Fm (fun c=>WkS nb m s u c\/In x c) H H'->Ok (qr (.bool false) H') Q):Ok (qnt (C j) qr g (.ptr b o) (iN lv) (.bool neg) (.ptr nb 0) (.ptr vb 0) x (iN t) H) Q:=by
 unfold qnt;obtain⟨o1,o2,o3,o4⟩:=e.o;have e0:=e.n;have K:=e.gl.bS;simp(disch:=go_size)only[go_sem,rB,rI,rK,rL,rN,rS,r6,e0,K];have W:Fm No H (aN H (aB 0 [iN (l.length)])):=by exact mG
 obtain⟨a,e2,g2,q2,f2,n2⟩:=(hx.no W).append (k:=1) (w:=8) (x:=[iN (l.length)]) (by omega) rfl (by omega) (by omega);simp only[np]at n2;refine Ok.veE e2 ?_;have D:Fm (In x) H a:=(W.mono (T:=In x) (fun _ _ h=>absurd h id)).then f2 fun _ _ h=>h;have p:∀ c,c<H.nx->¬ In x c->a.get c=H.get c:=fun c I h2=>D.get c I h2;have q:∀ c,c<=vb->¬ In x c:=fun c J h=>by have:=(v c h).1;omega
 have X:vG a nb m s vb l u d:=⟨(p _ (by omega) (q _ (by omega))).trans e.n,(p _ (by omega) (q _ (by omega))).trans e.d,(p _ (by omega) (q _ (by omega))).trans e.f,(p _ (by omega) (q _ (by omega))).trans e.v,⟨o1,o2,o3,by omega⟩,
  e.gl.keep D.nx (fun c J K=>p c K fun h=>(v c h).2 J),e.nin⟩
 have L:=X.v;have B:=p b (by omega) (q _ (by omega));have M:bK (a.get b) o=.val (.int .u8 (.ofNat kd)):=by rw[B];exact U.at' 0 (by simp)
 have N:bK (a.get b) (o+3)=.val (.sl bl 0 2 2 true):=by rw[B];exact U.at' 3 (by simp)
 have P:=(p bl (by omega) (q _ (by omega))).trans kb;have a4:sM a bl (t*4) cc:=⟨by omega,fun i V=>by
  rw[P,qbx];have:(ca++cb)[t*4+i]? =some cc[i]:=by
   by_cases h0:t=0
   ·subst h0;subst y;rw[lAS,pq,qx (by omega),lL V]
   ·have I:t=1:=by omega
    subst I;subst y;rw[ug (by omega),show 1*4+i-ca.length=i by omega,lL V]
  rw[this]⟩
 have R:iG (· < nb) a r cc:=F.gH D fun c J=>q c (by omega);have O:∀ n:Bool,Ok (C j (.f 100) [.ptr bl (t*4),iN ((lv+1)),.bool n,.ptr nb 0,.ptr m 0,.ptr s 0,.ptr vb 0] a) _:=fun n=>Z bl (t*4) (lv+1) n a nb m s vb l u d cc X a4 R E (by omega) (by omega) G hd;have fin:∀ f:Hp,NoS nb m f->Fm (WkS nb m s u) a f->Ok (qr (.bool false) f) Q:=fun f z A=>hg f z ((D.mono fun _ _ h=>.inr h).then A fun _ _ h=>.inl h);cases neg
 ·by_cases Y:kd=6
  ·have S:=zg Y;simp(disch:=go_size)only[go_sem,rB,rI,rK,rL,rN,rS,r6,L,M,N,S];refine Ok.kF (O (decide (t=1))) ?_;rintro _ f ⟨rfl,z,A⟩;simp(disch:=first|omega|exact ti rfl)only[go_sem,seval];simp_all
  ·simp(disch:=go_size)only[go_sem,rB,rI,rK,rL,rN,rS,r6,L,M,N,Y];refine Ok.kF (O false) ?_;rintro _ f ⟨rfl,z,A⟩;simp(disch:=first|omega|exact ti rfl)only[go_sem,seval];simp_all
 ·simp(disch:=go_size)only[go_sem,rB,rI,rK,rL,rN,rS,r6,L,M,N];refine Ok.kF (O true) ?_;rintro _ f ⟨rfl,z,A⟩;simp only[go_sem];exact fin f z A
theorem Ru.size_pos:∀ r:Ru,1<=r.size
 | .leaf _ _ _=>lh _
 | .node _ a b=>by unfold Ru.size;omega
theorem Ru.nW:∀ r:Ru,1<=r.depth
 | .leaf _ _ _=>lh _
 | .node _ a b=>by unfold Ru.depth;omega
theorem zsb(s:aV C)(hN:kH C):∀(r:Ru) (k:Nat),r.Fit->r.depth+2<=k->zol C r k:=by
 intro r
 induction r with
 |leaf kd rl to=>
  intro k I X b o lv neg H nb J P vb l Y d cs i K Z p A hl9 L hd;unfold Ru.depth at X A;obtain⟨j,rfl⟩:∃ j,k=j+1:=⟨k-1,by omega⟩;rw[(s j).zCo];unfold zCo zbw;have F:=i.n;have O:=i.gl.bS;have S:8<lv:=by omega
  have q:Ok (R1.ok (.bool false) H) fun v H'=>v=.bool false/\NoS nb J H'/\Fm (WkS nb J P Y) H H':=Ok.ret ⟨rfl,⟨⟨_,F⟩,_,i.d⟩,Fm.refl _ _⟩;by_cases n:l.length=32
  ·simp only[go_sem,F,O,n];exact q
  ·simp only[go_sem,F,O,n,S];exact q
 |node kd x y ihx ihy=>
  intro k I X b o lv neg H nb J P vb l Y d cs i K Z p A hl9 L hd;unfold Ru.depth at X A;unfold Ru.size at L;have sy:=Ru.size_pos y;obtain⟨j,rfl⟩:∃ j,k=j+1:=⟨k-1,by omega⟩;rw[(s j).zCo];unfold zCo;by_cases S:8<lv
  ·unfold zbw;have F:=i.n;have O:=i.gl.bS;have n:¬ l.length=32:=by omega
   simp only[go_sem,F,O,n,S];exact Ok.ret ⟨rfl,⟨⟨_,F⟩,_,i.d⟩,Fm.refl _ _⟩
  have T:=Z;obtain⟨bl,ca,cb,rfl,B,e,kb,D,M⟩:=Z;have U:ca.length=4:=by obtain⟨_,_,_,_,h⟩:=D.four;rw[h];rfl
  have V:cb.length=4:=by obtain⟨_,_,_,_,h⟩:=M.four;rw[h];rfl
  refine qh3 s hN (r:=.node kd x y) (rl:=sE) (to:=sE) (by have:=Ru.nW x;omega) i K T I p (by omega) (by omega) hd fun H1 w d1 u G a Q=>?_;obtain⟨o1,o2,o3,o4⟩:=i.o;have nS:∀ c,c<nb->¬ WkS nb J P Y c:=fun c g h=>by
   rcases h with h|h|h|h
   ·omega
   ·omega
   ·omega
   ·have:=i.nin c h;omega
  unfold qnv;obtain⟨m,hm⟩:∃ m,bL=m+3:=⟨999997,by rw[bZ]⟩;rw[bW,hm];simp only[go_sem];rw[w37];unfold qhw;simp only[go_sem];have W:∀ c,¬In AV.aA c:=fun c h=>by obtain⟨_,_,_,_,h⟩:=h;cases h
  have l1:(l++[((⟨kd,sE,sE,neg⟩:Nd),AV.aA)]).length=l.length+1:=by simp
  have n1:=a.nx;by_cases hx9:9<lv+1+x.depth
  ·refine qon s (r:=x) (t:=0) (ca:=ca) (cb:=cb) (cc:=ca) (ihx j I.2.1 (by omega)) u (Gl.nil 1 H1) (by omega) (fun c h=>absurd h (W c)) (K.keep a.nx (a.get _ (by omega) (nS _ p))) p e ((a.get _ B (nS _ e)).trans kb) U V rfl (D.gH a fun c g=>nS c g) hx9 (by omega) (by rw[l1];omega) G fun H' R f=>?_;refine Ok.ret ⟨rfl,R,a.then f fun c g h=>?_⟩;rcases h with(h|h|h|h)|h
   ·exact .inl h
   ·exact .inr (.inl h)
   ·exact .inr (.inr (.inl h))
   ·have:=Q c h;omega
   ·simp_all
  refine qko s (r:=x) (t:=0) (ca:=ca) (cb:=cb) (cc:=ca) (q88 s hN x j I.2.1 (by omega)) u (Gl.nil 1 H1) (by omega) (fun c h=>absurd h (W c)) (K.keep a.nx (a.get _ (by omega) (nS _ p))) p e ((a.get _ B (nS _ e)).trans kb) U V rfl (D.gH a fun c g=>nS c g) (by omega) (by rw[l1];omega) G ?_;intro x2 H2 l2 nv2 d2 xs2 hI2 hl2 hd2 N hn2 gx2 E;have l2n:l2.length=l.length+1+x.size:=by have:=congrArg List.length hl2;simp only[pz,ku,gz,uk,qby]at this;omega
  have n2:=N.nx;have z:∀ c,c<nb->¬(WkS nb J P w c\/In AV.aA c):=fun c g h=>by
   rcases h with(h|h|h|h)|h
   ·omega
   ·omega
   ·omega
   ·have:=u.nin c h;omega
   ·exact W c h
  rw[w37];refine qon s (r:=y) (t:=1) (ca:=ca) (cb:=cb) (cc:=cb) (ihy j I.2.2 (by omega)) hI2 gx2 (by omega) (fun c h=>⟨(E c h).1,(E c h).2.1⟩) ((K.keep a.nx (a.get _ (by omega) (nS _ p))).keep n2 (N.get _ (by omega) (z _ p))) p e ((N.get _ (by omega) (z _ e)).trans ((a.get _ B (nS _ e)).trans kb)) U V rfl ((M.gH a fun c g=>nS c g).gH N fun c g=>z c g) (by omega) (by omega) (by omega) hd2 fun H' R f=>?_;refine Ok.ret ⟨rfl,R,(a.then N fun c g h=>?_).then f fun c g h=>?_⟩
  ·rcases h with(h|h|h|h)|h
   ·exact .inl h
   ·exact .inr (.inl h)
   ·exact .inr (.inr (.inl h))
   ·have:=Q c h;omega
   ·simp_all
  ·rcases h with(h|h|h|h)|h
   ·exact .inl h
   ·exact .inr (.inl h)
   ·exact .inr (.inr (.inl h))
   ·rcases hn2 c h with h|h
    ·have:=Q c h;omega
    ·omega
   ·have:=(E c h).2.2;omega
theorem zvl(a:aV C)(c:1<=k){v:AV}(h:Gl 5 H v n l):∃w,C k (.f 102) [v] H=.ok w H/\Gl 5 H w n l/\jM w=.val (iN n)/\(∀b,In w b->In v b):=by obtain⟨j,rfl⟩:=aU c;obtain⟨w,e,d,f,g⟩:=h.clip;refine⟨w,?_,d,f,g⟩;rw[(a j).zCp];unfold zCp zzm;simp only[go_sem,h.bS,e]
structure Ru.Rt(r:Ru):Prop where
 fit:r.Fit
 dp:r.depth<=8
 sz:r.size<=32
theorem zjz(p:aV C)(L:kH C)(M:12<=k){b:Nat}{r:Ru}{P:Nat->Prop}(F:sM H b 0 cs)(N:iG P H r cs)(o:r.Rt):Ok (C k (.f 64) [.ptr b 0] H) fun v H'=>∃ q l d,v=.aX [q,iN d,iN 0]/\Ac 5 jL H H' q l/\l.map Prod.fst=r.nodes false:=by
 obtain⟨j,rfl⟩:=aU M;rw[(p j).zBw];unfold zBw zqy;simp(disch:=go_size)only[go_sem,rB,rI,rK,rL,rN,rS,r6];generalize a:(aN ((aN (aN (aN H (aB 0 [.aA])) (aB 0 [iN 0])) (aB 0 [iN 0])).put (H.nx+1+1) (aB 0 [iN 0])) (aB 0 [.iR])).put (H.nx+1+1+1) (aB 0 [.fn 100 [] [.ptr H.nx 0,.ptr (H.nx+1) 0,.ptr (H.nx+1+1) 0,.ptr (H.nx+1+1+1) 0]])=H1;have s:Fm No H H1:=by rw[<-a];(repeat(first|exact Fm.refl _ _|assumption|refine Fm.push ?_ _|refine Fm.fC ?_ (by go_size)|refine Fm.aD ?_ _ _ (by go_size)))
 have W:H1.nx=H.nx+4:=by rw[<-a];rfl
 have k0:H1.get H.nx=aB 0 [.aA]:=by rw[<-a];simp(disch:=first|go_size|omega)only[go_sem,rB,rI,rK,rL,rN,rS,r6]
 have O:H1.get (H.nx+1)=aB 0 [iN 0]:=by rw[<-a];simp(disch:=first|go_size|omega)only[go_sem,rB,rI,rK,rL,rN,rS,r6]
 have k2:H1.get (H.nx+1+1)=aB 0 [iN 0]:=by rw[<-a];simp(disch:=first|go_size|omega)only[go_sem,rB,rI,rK,rL,rN,rS,r6]
 have R:H1.get (H.nx+1+1+1)=aB 0 [.fn 100 [] [.ptr H.nx 0,.ptr (H.nx+1) 0,.ptr (H.nx+1+1) 0,.ptr (H.nx+1+1+1) 0]]:=by rw[<-a];exact dL _ _ _
 have S:vG H1 H.nx (H.nx+1) (H.nx+1+1) (H.nx+1+1+1) [] .aA 0:=⟨k0,O,k2,R,⟨by omega,by omega,by omega,by omega⟩,Gl.nil 5 _,fun c h=>by obtain⟨_,_,_,_,h⟩:=h;cases h⟩;have t:=F.lt;have u:iG (· < H.nx) H1 r cs:=(N.mono (Q:=fun c=>c<H.nx) fun c h _=>h).fm s;refine Ok.ve (q88 p L r j o.fit (by have:=o.dp;omega) b 0 1 false H1 _ _ _ _ [] .aA 0 cs S (F.fm s) (u) t (by have:=o.dp;omega) (by have:=o.sz;simpa using this) (by omega)) ?_;rintro _ B ⟨rfl,l,q,d,f,n,V,J,D⟩;have X:=J.nx;have z:=f.n;have A:=f.d;have T:=f.f;simp(disch:=go_size)only[go_sem,rB,rI,rK,rL,rN,rS,r6];unfold zgn;simp(disch:=go_size)only[go_sem,rB,rI,rK,rL,rN,rS,r6,T];unfold zgo;obtain⟨w,e,K,_,E⟩:=zvl p (k:=j) (by omega) f.gl;have m:=qck (Gl.flat f.gl) 63;simp(disch:=go_size)only[go_sem,rB,rI,rK,rL,rN,rS,r6,z,A];refine Ok.xW e ?_;have U:Fm No H B:=s.then J fun c g h=>by
  rcases h with h|h|h|⟨_,_,_,_,h⟩
  ·omega
  ·omega
  ·omega
  ·cases h
 have i:∀ c,In w c->H.nx+4<=c:=fun c g=>by
  rcases D c (E c g)with⟨_,_,_,_,h⟩|h
  ·cases h
  ·omega
 have G:∀(x y:bO),Gl 5 ((B.put H.nx x).put (H.nx+1) y) w l.length (l.flatMap jL):=fun x y=>K.keep (lh _) fun c g _=>by have:=i c g;rw[eB _ _ _ _ (by omega),eB _ _ _ _ (by omega)]
 have I:∀(x y:bO),Fm No H ((B.put H.nx x).put (H.nx+1) y):=fun x y=>(U.aD _ _ (by omega)).aD _ _ (by omega);rcases K.is with⟨h,_⟩|⟨_,_,_,_,_,h,_⟩
 ·subst h;simp(disch:=go_size)only[go_sem,rB,rI,rK,rL,rN,rS,r6,z,A,m];exact Ok.ret ⟨_,l,d,rfl,⟨G _ _,I _ _,fun c g=>by have:=i c g;omega⟩,by simpa using n⟩
 ·subst h;simp(disch:=go_size)only[go_sem,rB,rI,rK,rL,rN,rS,r6,z,A,m];exact Ok.ret ⟨_,l,d,rfl,⟨G _ _,I _ _,fun c g=>by have:=i c g;omega⟩,by simpa using n⟩
theorem z03(f:aV C)(l:kH C)(m:16<=k){b:Nat}{r:Ru}{P:Nat->Prop}(g:sM H b 0 cs)(n:iG P H r cs)(o:r.Fit)(hd:8<r.depth)(p:r.depth<=13)(q:r.size<=33):Ok (C k (.f 64) [.ptr b 0] H) fun v H'=>v=.aX [.aA,iN 0,iN 3]/\Fm No H H':=by
 obtain⟨j,rfl⟩:=aU m;rw[(f j).zBw];unfold zBw zqy;simp(disch:=go_size)only[go_sem,rB,rI,rK,rL,rN,rS,r6];generalize a:(aN ((aN (aN (aN H (aB 0 [.aA])) (aB 0 [iN 0])) (aB 0 [iN 0])).put (H.nx+1+1) (aB 0 [iN 0])) (aB 0 [.iR])).put (H.nx+1+1+1) (aB 0 [.fn 100 [] [.ptr H.nx 0,.ptr (H.nx+1) 0,.ptr (H.nx+1+1) 0,.ptr (H.nx+1+1+1) 0]])=H1;have d:Fm No H H1:=by rw[<-a];(repeat(first|exact Fm.refl _ _|assumption|refine Fm.push ?_ _|refine Fm.fC ?_ (by go_size)|refine Fm.aD ?_ _ _ (by go_size)))
 have E:H1.nx=H.nx+4:=by rw[<-a];rfl
 have k0:H1.get H.nx=aB 0 [.aA]:=by rw[<-a];simp(disch:=first|go_size|omega)only[go_sem,rB,rI,rK,rL,rN,rS,r6]
 have s:H1.get (H.nx+1)=aB 0 [iN 0]:=by rw[<-a];simp(disch:=first|go_size|omega)only[go_sem,rB,rI,rK,rL,rN,rS,r6]
 have k2:H1.get (H.nx+1+1)=aB 0 [iN 0]:=by rw[<-a];simp(disch:=first|go_size|omega)only[go_sem,rB,rI,rK,rL,rN,rS,r6]
 have t:H1.get (H.nx+1+1+1)=aB 0 [.fn 100 [] [.ptr H.nx 0,.ptr (H.nx+1) 0,.ptr (H.nx+1+1) 0,.ptr (H.nx+1+1+1) 0]]:=by rw[<-a];exact dL _ _ _
 have u:vG H1 H.nx (H.nx+1) (H.nx+1+1) (H.nx+1+1+1) [] .aA 0:=⟨k0,s,k2,t,⟨by omega,by omega,by omega,by omega⟩,Gl.nil 5 _,fun c h=>by obtain⟨_,_,_,_,h⟩:=h;cases h⟩;have e:iG (· < H.nx) H1 r cs:=(n.mono (Q:=fun c=>c<H.nx) fun c h _=>h).fm d;refine Ok.ve (zsb f l r j o (by omega) b 0 1 false H1 _ _ _ _ [] .aA 0 cs u (g.fm d) e g.lt (by omega) (by omega) (by simpa using q) (by omega)) ?_;rintro _ z ⟨rfl,⟨⟨x,A⟩,y,B⟩,i⟩;have F:=i.nx;simp(disch:=go_size)only[go_sem,rB,rI,rK,rL,rN,rS,r6,A,B];have w:Fm No H z:=d.then i fun c D h=>by
  rcases h with h|h|h|⟨_,_,_,_,h⟩
  ·omega
  ·omega
  ·omega
  ·cases h
 exact Ok.ret ⟨rfl,(w.aD _ _ (by omega)).aD _ _ (by omega)⟩
theorem sM.push:sM (aN H (aB 0 cs)) H.nx 0 cs:=⟨by rw[np];omega,fun j h=>by rw[jA,qbx,pq,lL h]⟩
theorem qqj(c:aV C)(g:kH C)(h:13<=k){r:Ru}{P:Nat->Prop}(e:iG P H r cs)(i:r.Rt):Ok (C k (.f 41) [.agg cs] H) fun v H'=>∃ a l,v=.aX [a,iN 0]/\Ac 5 jL H H' a l/\l.map Prod.fst=r.nodes false:=by
 obtain⟨j,rfl⟩:=aU h;rw[(c j).zBk];unfold zBk zz9;obtain⟨c0,m,n,o,b⟩:=e.four;subst b;have f:Fm No H (aN H (aB 0 [c0,m,n,o])):=by exact mG
 refine Ok.ve (zjz c g (k:=j) (by omega) sM.push (e.fm f) i) ?_;rintro _ H1 ⟨a,l,d,rfl,p,q⟩;exact Ok.ret ⟨a,l,rfl,p.trans f,q⟩
structure Ru.Rb(r:Ru):Prop where
 fit:r.Fit
 sz:r.depth<=8->r.size<=32
 dp:r.depth<=13
 s3:r.size<=33
theorem zd0(b:aV C)(g:kH C)(h:17<=k){r:Ru}{P:Nat->Prop}(c:iG P H r cs)(a:r.Rb):Ok (C k (.f 123) [.agg cs] H) fun v H'=>v=iN ((if r.depth<=8 then 0 else 3))/\Fm No H H':=by
 obtain⟨j,rfl⟩:=aU h;rw[(b j).zCx];unfold zCx zzg;obtain⟨c0,i,m,n,e⟩:=c.four;subst e;have f:Fm No H (aN H (aB 0 [c0,i,m,n])):=by exact mG
 by_cases hd:r.depth<=8
 ·rw[kz hd];refine Ok.ve (zjz b g (k:=j) (by omega) sM.push (c.fm f) ⟨a.fit,hd,a.sz hd⟩) ?_;rintro _ H1 ⟨q,l,d,rfl,o,s⟩;exact Ok.ret ⟨rfl,f.trans o.fm⟩
 ·rw[lu hd];refine Ok.ve (z03 b g (k:=j) (by omega) sM.push (c.fm f) a.fit (by omega) a.dp a.s3) ?_;rintro _ H1 ⟨rfl,p⟩;exact Ok.ret ⟨rfl,f.trans p⟩
end Go.Di
end
