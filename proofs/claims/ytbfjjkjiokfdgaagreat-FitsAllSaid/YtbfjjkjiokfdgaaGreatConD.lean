/-
 For countersign/countersignlaw20.FitsAll: functions in direct style, their contracts, and the plain mathematics, part 4 of 10. No conditions beyond those that each theorem states.
-/
import Derived.Test.YtbfjjkjiokfdgaaGreatConC
set_option linter.unusedSimpArgs false
set_option linter.unusedVariables false
open Nat renaming reduceAdd->rB,reduceMul->rI,reduceSub->rK,reduceLeDiff->rL,reduceEqDiff->rN,reduceShiftRight->rS,reduceAnd->r6
section
namespace Go.Di
open Go.Ev
variable {C:Nat->Ev.Call}
variable {H H' H0:Hp} {X:List aN} {b i j k m n o z:Nat} {O:Ev.Call} {cs l:List AV} {g:aN} {ms:List Nat} {neg:Bool} {qr:pD} {sv:AV}
theorem Gl.sub{v:AV}(h:Gl z H v n l)(hi:i<n):∃ b o,aH z v (iN i)=.val (.ptr b o)/\b<H.nx/\In v b/\∀ s k,s+k<=z->eB (H.get b) (o+s) k=some ((((l.drop (i*z)).take z).drop s).take k):=by
 have hl:=h.len;rcases h.is with⟨rfl,rfl⟩|⟨b,o,e,q,L,rfl,h1,h2,h3,h4,h5⟩
 ·omega
 ·have hm:i*z+z<=n*z:=by
   have:(i+1)*z<=n*z:=uz z hi;rw[xh,au]at this;exact this
  have hL:o+n*z=L.length:=by rw[<-h3,xg]at hl;omega
  refine⟨b,o+i*z,sV _ _ _ _ _ _ _ _ hi,h5,⟨_,_,_,_,rfl⟩,fun s k hs=>?_⟩;have e2:((l.drop (i*z)).take z).drop s=(L.drop (o+i*z+s)).take (z-s):=by rw[List.drop_take,<-h3,lAI,lAI,uk]
  rw[e2,List.take_take,yg (by omega),h1,qca,pz (by omega)]
theorem rW.at{A B:Nat}{rv:AV}{gs:List aR}(h:rW A B H rv gs)(hi:i<gs.length):∃b o,aH 6 rv (iN i)=.val (.ptr b o)/\b<H.nx/\In rv b/\dK (H.get b) o=.val (.str gs[i].r.name.n gs[i].r.name.a)/\dK (H.get b) (o+1)=.val gs[i].tv/\eB (H.get b) (o+2) 4=some gs[i].cs/\eB (H.get b) o 6=some (fI gs[i]):=by obtain⟨b,o,h1,h2,h3,h4⟩:=h.gl.sub hi;obtain⟨b',o',g1,_,_,g4,g5⟩:=(h.gl.rs qdm).at' i hi;rw[h1]at g1;injection g1 with g1;injection g1 with g1 g2;subst g1 g2;refine⟨b,o,h1,h2,h3,g5 0 (by rw[qdm];omega),g5 1 (by rw[qdm];omega),?_,g4⟩;rw[h4 2 4 (by omega),qgr qdm gs i hi];obtain⟨c0,c1,c2,c3,hc⟩:=(h.ru gs[i] (lu hi)).four;unfold fI;rw[hc];rfl
def qvt(bG:List jD)(r:jD):Bool:=fM r.rule 1 sE||bG.any fun x=>fM x.rule 3 r.name
theorem qod(hC:aW C){j:Nat}(hj:20<=j){A B:Nat}{rv:AV}{gs:List aR}{H0:Hp}(hI:rW A B H0 rv gs)(hlen:gs.length<=1000)(hd:∀ g∈gs,g.r.rule.depth<=12/\g.r.rule.size<=10000){kk:Nat}(hkk:kk<gs.length){u0:Bool}{Q:pL}{q:pD}(hq:∀ H,Fm No H0 H->Ok (q (.bool (u0||gs.any fun x=>fM x.r.rule 3 gs[kk].r.name)) H) Q):∀(k i:Nat) (u:Bool) (H:Hp),i<=gs.length->gs.length-i<k->Fm No H0 H->u=(u0||(gs.take i).any fun x=>fM x.r.rule 3 gs[kk].r.name) -> Ok (qn6 (C j) q rv (iN kk) k (.bool u) (iN i) H) Q
 |0,i,_,_,_,h,_,_=>by omega
 |k+1,i,u,H,hi,hk,hf,hu=>by
  show Ok (q38 (C j) _ _ _ (qn6 (C j) _ _ _ k) _ _ H) Q;unfold q38;have hIH:=hI.iH hf fun _ _ _ h=>h;have hl:=hIH.gl.cO;by_cases hlt:i<gs.length
  ·simp only[go_sem,hl,hlt];rw[qr2];unfold qvl;have hs:((gs.take (i+1)).any fun x=>fM x.r.rule 3 gs[kk].r.name)=(((gs.take i).any fun x=>fM x.r.rule 3 gs[kk].r.name)||fM gs[i].r.rule 3 gs[kk].r.name):=by
    rw[ku hlt,lAA];simp
   cases u with
   |true=>rw[qkl];unfold qmc;simp(disch:=go_size)only[go_sem,rB,rI,rK,rL,rN,rS,r6];refine qod hC hj hI hlen hd hkk hq k (i+1) true H (by omega) (by omega) hf ?_;rw[hs,<-Bool.or_assoc,<-hu];rfl
   |false=>obtain⟨b,o,e1,e2,_,_,_,e6,_⟩:=hIH.at hlt;obtain⟨b',o',g1,g2,_,g4,_,_,_⟩:=hIH.at hkk;simp only[go_sem,e1,e6,g1,g4];refine Ok.mI (zwy hC (k:=j) (r:=gs[i].r.rule) (by have:=(hd _ (lu hlt)).1;omega) (by have:=(hd _ (lu hlt)).2;omega) (hIH.ru _ (lu hlt)) 3 gs[kk].r.name) ?_;rintro _ H2 ⟨rfl,f2⟩;rw[qkl];unfold qmc;simp(disch:=go_size)only[go_sem,rB,rI,rK,rL,rN,rS,r6];refine qod hC hj hI hlen hd hkk hq k (i+1) _ H2 (by omega) (by omega) (hf.trans f2) ?_;simp_all
  ·have he:i=gs.length:=by omega
   simp only[go_sem,hl,hlt];simp_all
def qM(bG:List jD)(r:jD):jD:=if qvt bG r then r else⟨r.name,[],r.rule⟩
theorem qb9(bG:List jD)(r:jD):(qM bG r).rule=r.rule:=by unfold qM;split<;>rfl
theorem Rs.nil{α:Type}(z:Nat)(f:α->List AV)(H:Hp):Rs z f H .aA ([]:List α):=⟨rfl,fun i h=>by simp at h⟩
def aDO(g:aR):aR:=⟨⟨g.r.name,[],g.r.rule⟩,.aA,g.cs⟩
theorem zjq:∀(l:List aR) (i:Nat) (h:i<l.length),bD (l.flatMap fI) (i*6+1) [.aA]=(l.set i (aDO l[i])).flatMap fI
 | [],_,h=>by simp at h
 |x::l,0,_=>by simp[bD,fI,aDO]
 |x::l,i+1,h=>by
  have:=zjq l i (by simpa using h);rw[List.set_cons_succ,ug,ug,List.getElem_cons_succ,<-this];unfold bD;have e:(i+1)*6+1=(fI x).length+(i*6+1):=by rw[qdm];omega
  rw[e,mf,qw,qw];congr 1;rw[qw];congr 2;rw[uk,mg]
def lM(bG:List jD)(k:Nat):List jD:=(bG.take k).map (qM bG)++bG.drop k
theorem zkv{bG:List jD}(h:k<bG.length)(h':k<(lM bG k).length):(lM bG k)[k]=bG[k]:=by
 have e:(lM bG k)[k]? =some bG[k]:=by unfold lM;rw[uC (by simp;omega)];simp[yg (yw h),h]
 simp_all
theorem zsw(bG:List jD)(k:Nat)(s:SS):(lM bG k).any (fun x=>fM x.rule 3 s)=bG.any (fun x=>fM x.rule 3 s):=by
 unfold lM;rw[lAA,lAZ]
 conv=>rhs;rw[<-bg k bG,lAA]
 congr 2;funext x;simp only[Function.comp,qb9]
theorem qwl(bG:List jD)(k:Nat):(lM bG k).length=bG.length:=by unfold lM;simp;omega
theorem qzg{bG:List jD}(h:k<bG.length):lM bG (k+1)=(lM bG k).set k (qM bG bG[k]):=by
 unfold lM;rw[ku h,ui,zx,qw,List.set_append_right _ _ (by simp;omega)];simp only[qc,qo,yg (yw h),lAM]
 conv=>rhs;rw[ut h]
 rfl
theorem rW.set{A B:Nat}{rv:AV}{gs:List aR}(h:rW A B H rv gs)(hi:i<gs.length):∃b o H',aH 6 rv (iN i)=.val (.ptr b o)/\storeAt H b (o+1) [.aA] .undef=.ok .undef H'/\rW A B H' rv (gs.set i (aDO gs[i]))/\Fm (In rv) H H':=by
 obtain⟨b,o,H',e1,e2,g,f,_⟩:=h.gl.set1 hi (j:=1) (by omega) .aA;rw[zjq gs i hi]at g;refine⟨b,o,H',e1,e2,⟨by rw[xk];exact g,h.xC,fun y hy=>?_,fun y hy=>?_⟩,f⟩
 ·rcases lAH hy with hy|rfl
  ·exact⟨(h.ty y hy).1.iH f fun c hc=>((h.ty y hy).2.2 c hc).2.2,(h.ty y hy).2⟩
  ·exact⟨Rs.nil _ _ _,.inl rfl,fun c hc=>by obtain⟨_,_,_,_,hc⟩:=hc;cases hc⟩
 ·rcases lAH hy with hy|rfl
  ·exact(h.ru y hy).iH f fun c hc=>hc.2.2
  ·exact(h.ru gs[i] (lu hi)).iH f fun c hc=>hc.2.2
theorem qk3(hC:aW C){j:Nat}(hj:20<=j){A B:Nat}{rv:AV}{bG:List jD}{H1:Hp}(hlen:bG.length<=1000)(hd:∀ r∈bG,r.rule.depth<=12/\r.rule.size<=10000){Q:pL}{q:pH}(hq:∀ gs H,gs.map aR.r=bG.map (qM bG)->rW A B H rv gs->Fm (In rv) H1 H->Ok (q H) Q):∀(k i:Nat) (gs:List aR) (H:Hp),i<=bG.length->bG.length-i<k->gs.map aR.r=lM bG i->rW A B H rv gs->Fm (In rv) H1 H -> Ok (qn7 (C j) q rv k (iN i) H) Q
 |0,i,_,_,_,h,_,_,_=>by omega
 |k+1,i,gs,H,hi,hk,hg,hI,hf=>by
  show Ok (q39 (C j) _ _ (qn7 (C j) _ _ k) _ H) Q;unfold q39;have hl:=hI.gl.cO;have hgl:gs.length=bG.length:=by have:=congrArg List.length hg;rwa [qc,qwl]at this
  have hdg:∀ g∈gs,g.r.rule.depth<=12/\g.r.rule.size<=10000:=fun g hgm=>by
   have:g.r∈lM bG i:=by rw[<-hg];exact eQ hgm
   unfold lM at this;rw[gz,qp]at this;rcases this with⟨r,hr,he⟩|h
   ·rw[<-he,qb9];exact hd r (iy hr)
   ·exact hd _ (List.mem_of_mem_drop h)
  by_cases hlt:i<bG.length
  ·have hlt':i<gs.length:=by omega
   simp only[go_sem,hl,hlt'];rw[qr1];unfold qvk;obtain⟨b,o,e1,e2,_,_,_,e6,_⟩:=hI.at hlt';simp only[go_sem,e1,e6];refine Ok.ve (zwy hC (k:=j) (r:=gs[i].r.rule) (by have:=(hdg _ (lu hlt')).1;omega) (by have:=(hdg _ (lu hlt')).2;omega) (hI.ru _ (lu hlt')) 1 sE) ?_;rintro _ H2 ⟨rfl,f2⟩;have hI2:=hI.iH f2 fun _ _ _ h=>h;have hir:gs[i].r=bG[i]:=by have h1:(gs.map aR.r)[i]'(by simpa using hlt')=gs[i].r:=cu ..;rw[<-h1,<-zkv hlt (by rw[qwl];exact hlt)];congr 1
   have xP:(fM gs[i].r.rule 1 sE||gs.any fun x=>fM x.r.rule 3 gs[i].r.name)=qvt bG bG[i]:=by unfold qvt;rw[hir,<-zsw bG i,<-hg,lAZ];rfl
   unfold zif;rw[dB];refine qod hC hj hI2 (by omega) hdg hlt' (u0:=fM gs[i].r.rule 1 sE) (fun H3 f3=>?_) bX 0 _ H2 (gq _) (by rw[dI];omega) (Fm.refl _ _) (by simp);rw[xP];rw[qr3];unfold qvm;have uZ:=hI2.iH f3 fun _ _ _ h=>h;have hf3:Fm (In rv) H1 H3:=(hf.then f2 fun _ _ h=>absurd h id).then f3 fun _ _ h=>absurd h id;cases hu:qvt bG bG[i]with
   |true=>
    rw[qkm];unfold qmd;simp(disch:=go_size)only[go_sem,rB,rI,rK,rL,rN,rS,r6];refine qk3 hC hj hlen hd hq k (i+1) gs H3 (by omega) (by omega) ?_ uZ hf3;rw[qzg hlt,hg];have:qM bG bG[i]=(lM bG i)[i]'(by rw[qwl];exact hlt):=by rw[zkv hlt];unfold qM;rw[hu];rfl
    simp_all
   |false=>obtain⟨b',o',H4,g1,g2,g3,g4⟩:=uZ.set hlt';simp only[go_sem,g1,g2];rw[qkm];unfold qmd;simp(disch:=go_size)only[go_sem,rB,rI,rK,rL,rN,rS,r6];refine qk3 hC hj hlen hd hq k (i+1) _ H4 (by omega) (by omega) ?_ g3 (hf3.then g4 fun _ _ h=>h);rw[qzg hlt,lEA,hg];congr 1;unfold qM aDO;simp_all
  ·have he:i=bG.length:=by omega
   have hlt':¬ i<gs.length:=by omega
   simp only[go_sem,hl,hlt'];refine hq gs H ?_ hI hf;rw[hg,he];unfold lM;simp
theorem zav(L:List (List Nat))(n:Nat):∀(d i:Nat) (neg:Bool),i<=(eT L n d i neg).2/\(eT L n d i neg).1.size<=2*((eT L n d i neg).2-i)+1/\(eT L n d i neg).1.depth<=d+1:=by
 have hl:∀ neg,(qjt neg).size=1/\(qjt neg).depth=1:=fun neg=>by cases neg<;>exact⟨rfl,rfl⟩
 have ha:∀ c neg,(uM L n c neg).size=1/\(uM L n c neg).depth=1:=fun c neg=>by
  unfold uM;split
  ·exact hl neg
  ·trivial
 intro d
 induction d with
 |zero=>intro i neg;unfold eT;have:=hl neg;simp only;omega
 |succ d ih=>
  intro i neg;unfold eT;have h1:=hl neg;split
  ·simp_all
  split
  ·simp_all
  split
  ·simp only[z8,Ru.size,Ru.depth];omega
  split
  ·have:=ha (eG L n i / 8) neg;simp only;omega
  have h1:=ih (i+1) neg;have h2:=ih (eT L n d (i+1) neg).2 (neg||decide (uU n (eG L n i)=6));simp only[Ru.size,Ru.depth];omega
theorem qop(L:List (List Nat))(n:Nat):(lT L n).rule.size<=21/\(lT L n).rule.depth<=7:=by have h1:=zav L n 6 2 false;have h2:=(qmi L n 6 2 false).2;unfold lT;simp only;omega
def q9x(p:xM):xM:=⟨p.name,p.bG.map (qM p.bG)⟩
def sQ(L:List (List Nat)):List xM:=⟨sU,[]⟩::(List.range ((bF L+3) / 4)).map fun i=>spN L i (min (bF L) (4*i+4))
def xI(L:List (List Nat)):List xM:=(sQ L).map q9x
theorem St.raw{L:List (List Nat)}{l:List aN}(h:St L (bF L) l g):(l++[g]).map aN.sp=sQ L:=by
 unfold sQ;rw[ui,zx];rcases h with⟨h0,rfl,h⟩|⟨q,h1,h2,h3,h5⟩
 ·rw[h0,h];rfl
 ·have hq:(bF L+3) / 4=q+1:=by omega
  rw[hq,lA9,ui,zx,h1,h2];unfold pre;rw[nz];congr 2
  ·refine lA0 fun i hi=>?_;rw[uu]at hi;unfold spF;rw[Nat.min_eq_right (by omega)]
  ·simp_all
theorem zju{L:List (List Nat)}{p:xM}(hp:p∈sQ L):p.bG.length<=4/\∀ r∈p.bG,∃n,n<bF L/\r=lT L n:=by
 unfold sQ at hp;rw[qg,qp]at hp;rcases hp with rfl|⟨i,hi,rfl⟩
 ·simp
 ·refine⟨by simp only[spN,qc,qli];omega,fun r hr=>?_⟩;simp only[spN,qp,qgm]at hr;obtain⟨n,hn,rfl⟩:=hr;exact⟨n,by omega,rfl⟩
theorem rW.flat{A B:Nat}{rv:AV}{gs:List aR}(h:rW A B H rv gs):xO rv=true:=by rcases h.gl.is with⟨h,_⟩|⟨_,_,_,_,_,h,_⟩<;>(rw[h];rfl)
theorem lS.aV3(m:lS H sv X)(hi:i<X.length){gs:List aR}(hr:rW X[i].A X[i].B H' X[i].rv gs)(f:Fm (In X[i].rv) H H'):lS H' sv (X.set i ⟨X[i].name,gs,X[i].rv,X[i].A,X[i].B⟩):=by
 have hm:=lu hi;have rin:=(m.rel _ hm).1.xC;refine⟨?_,?_,?_,?_⟩
 ·have e:(X.set i ⟨X[i].name,gs,X[i].rv,X[i].A,X[i].B⟩).flatMap pX=X.flatMap pX:=by
   rw[List.flatMap_def,List.flatMap_def,lEA];congr 1;have:(X.map pX)[i]'(by simpa using hi)=pX ⟨X[i].name,gs,X[i].rv,X[i].A,X[i].B⟩:=by rw[cu];rfl
   rw[<-this,List.set_getElem_self]
  rw[xk,e];exact m.gl.fm f fun b h1 h2=>m.dj _ hm b h1 (rin b h2)
 ·have ho:=m.ord;rw[uw]at ho ⊢;intro a b ha hb hab;rw[xk]at ha hb;have:=ho a b ha hb hab;rw[lE3,lE3];split<;>split<;>(subst_vars;first|exact this|omega)
 ·intro g hg;rw[lE2]at hg;obtain⟨j,hj,rfl⟩:=hg;rw[xk]at hj;rw[lE3];split
  ·exact⟨hr,tq (m.rel _ hm).2 f.nx⟩
  ·rename_i hne;have hjm:=lu hj;refine⟨(m.rel _ hjm).1.iH f fun b h1 h2 h3=>?_,tq (m.rel _ hjm).2 f.nx⟩;have h4:=rin b h3;have ho:=m.ord;rw[uw]at ho;rcases Nat.lt_or_gt_of_ne hne with h|h
   ·have:=ho i j hi hj h;omega
   ·have:=ho j i hj hi h;omega
 ·intro g hg b hb;rcases lAH hg with hg|rfl
  ·exact m.dj g hg b hb
  ·exact m.dj _ hm b hb
structure ClI(H0 H:Hp)(sb:Nat)(sv:AV)(X:List aN):Prop where
 m:lS H sv X
 an:∀ x∈X,H0.nx<=x.A/\¬(x.A<=sb/\sb<x.B)
 sbk:H.get sb=aB 0 [sv]
 sbl:H0.nx<=sb/\sb<H.nx
 tK:∀ b,In sv b->H0.nx<=b
 fm:Fm No H0 H
theorem qog(hC:aW C){j:Nat}(hj:20<=j){H0:Hp}{sb:Nat}{sv:AV}{S:List xM}(hS:S.length<=1000)(hr:∀ p∈S,p.bG.length<=1000/\∀ r∈p.bG,r.rule.depth<=12/\r.rule.size<=10000){Q:pL}{q:pH}(hq:∀ X H,X.map aN.sp=S.map q9x->ClI H0 H sb sv X->Ok (q H) Q):∀(k i:Nat) (X:List aN) (H:Hp),i<=S.length->S.length-i<k->X.map aN.sp=(S.take i).map q9x++S.drop i->ClI H0 H sb sv X -> Ok (qkj (C j) q (.ptr sb 0) k (iN i) H) Q
 |0,i,_,_,_,h,_,_=>by omega
 |k+1,i,X,H,hi,hk,hX,hI=>by
  show Ok (q4a (C j) _ _ (qkj (C j) _ _ k) _ H) Q;unfold q4a;have hl:=hI.m.gl.cO;have e0:=hI.sbk;have hXl:X.length=S.length:=by have:=congrArg List.length hX;simp only[qc,lq,qo,xg]at this;omega
  by_cases hlt:i<S.length
  ·have hlt':i<X.length:=by omega
   simp only[go_sem,e0,hl,hlt'];rw[qr0];unfold qvj;obtain⟨b,o,e1,e2,_,_,e4⟩:=(hI.m.gl.rs qco).at' i hlt';have r1:dK (H.get b) (o+1)=.val X[i].rv:=e4 1 (by rw[qco];omega);simp only[go_sem,e0,e1,r1];unfold zih;rw[dB];have hsp:X[i].sp=S[i]:=by have h1:(X.map aN.sp)[i]'(by simpa using hlt')=X[i].sp:=cu ..;simp_all
   have hrl:X[i].gs.map aR.r=S[i].bG:=congrArg xM.bG hsp;have hSm:=hr S[i] (lu hlt);have hm:=lu hlt';refine qk3 hC hj (bG:=S[i].bG) (A:=X[i].A) (B:=X[i].B) (rv:=X[i].rv) (H1:=H) hSm.1 hSm.2 (fun gs H' hg hR f=>?_) bX 0 X[i].gs H (gq _) (by rw[dI];omega) (by rw[hrl];simp[lM]) (hI.m.rel _ hm).1 (Fm.refl _ _);rw[qr4];unfold qvn;simp(disch:=go_size)only[go_sem,rB,rI,rK,rL,rN,rS,r6];have rin:=(hI.m.rel _ hm).1.xC;have han:=hI.an _ hm;have aF7:=hI.sbl;refine qog hC hj hS hr hq k (i+1) _ H' (by omega) (by omega) ?_ ⟨hI.m.aV3 hlt' hR f,?_,?_,?_,hI.tK,?_⟩
   ·rw[lEA,hX,ku hlt,ui,zx,qw,List.set_append_right _ _ (by simp;omega)];simp only[qc,qo,yg hi,lAM];rw[ut hlt,List.set_cons_zero,List.singleton_append];congr 2;unfold aN.sp q9x;congr 1;exact congrArg xM.name hsp
   ·intro x hx;rcases lAH hx with hx|rfl
    ·exact hI.an x hx
    ·exact han
   ·exact(f.get _ aF7.2 fun h=>han.2 (rin _ h)).trans hI.sbk
   ·exact⟨aF7.1,lL aF7.2 f.nx⟩
   ·exact hI.fm.then f fun c hc h=>by have:=(rin c h).1;omega
  ·have he:i=S.length:=by omega
   have hlt':¬ i<X.length:=by omega
   simp only[go_sem,e0,hl,hlt'];refine hq X H ?_ hI;simp_all
structure kR(H:Hp)(g:aR):Prop where
 ty:Rs 2 tC H g.tv g.r.types
 tc:g.tv=.aA\/∃ b o n m e,g.tv=.sl b o n m e/\n<=m/\0<n
 ru:jN (fun _=>True) H g.r.rule g.cs
structure xZ(H:Hp)(g:aN):Prop where
 len:aD g.rv=.val (iN (g.gs.length))
 fl:xO g.rv=true
 at':∀ i (h:i<g.gs.length),∃b o,aH 6 g.rv (iN i)=.val (.ptr b o)/\b<H.nx/\dK (H.get b) o=.val (.str g.gs[i].r.name.n g.gs[i].r.name.a)/\dK (H.get b) (o+1)=.val g.gs[i].tv/\eB (H.get b) (o+2) 4=some g.gs[i].cs/\eB (H.get b) o 6=some (fI g.gs[i])
 rel:∀ x∈g.gs,kR H x
structure bS(H:Hp)(sv:AV)(X:List aN):Prop where
 rs:Rs 2 pX H sv X
 fl:xO sv=true
 sp:∀ g∈X,xZ H g
theorem kR.tf{g:aR}(h:kR H g):xO g.tv=true:=by rcases h.tc with h|⟨_,_,_,_,_,h,_⟩<;>(rw[h];rfl)
theorem kR.fm{g:aR}(h:kR H g)(f:Fm No H H'):kR H' g:=⟨h.ty.fm f,h.tc,h.ru.fm f⟩
theorem xZ.fm(h:xZ H g)(f:Fm No H H'):xZ H' g:=⟨h.len,h.fl,fun i hi=>by obtain⟨b,o,e1,e2,e3,e4,e5,e6⟩:=h.at' i hi;have e:=f.keep e2;exact⟨b,o,e1,lL e2 f.nx,by rw[e];exact e3,by rw[e];exact e4,by rw[e];exact e5,by rw[e];exact e6⟩,fun x hx=>(h.rel x hx).fm f⟩
theorem bS.fm(h:bS H sv X)(f:Fm No H H'):bS H' sv X:=⟨h.rs.fm f,h.fl,fun g hg=>(h.sp g hg).fm f⟩
theorem lS.sr(m:lS H sv X):bS H sv X:=by
 refine⟨m.gl.rs qco,?_,fun g hg=>?_⟩
 ·rcases m.gl.is with⟨h,_⟩|⟨_,_,_,_,_,h,_⟩<;>(rw[h];rfl)
 ·have r:=(m.rel g hg).1;refine⟨r.gl.cO,r.flat,fun i hi=>?_,fun x hx=>⟨(r.ty x hx).1,(r.ty x hx).2.1,(r.ru x hx).mono fun _ _ _=>trivial⟩⟩
  ·obtain⟨b,o,e1,e2,_,e4,e5,e6,e7⟩:=r.at hi;exact⟨b,o,e1,e2,e4,e5,e6,e7⟩
def kI(X:List aN)(a b:SS):Option aR:=match X.find? fun g=>decide (g.name=a)with
 |none=>none
 |some g=>g.gs.find? fun x=>decide (x.r.name=b)
theorem zlv{α:Type}{p:α->Bool}{l:List α}(hi:i<l.length)(h:p l[i]=true)(hb:∀ k (hk:k<i),p (l[k]'(by omega))=false):l.find? p=some l[i]:=by rw[List.find?_eq_some_iff_getElem];exact⟨h,i,hi,rfl,fun j hj=>by rw[hb j hj];rfl⟩
theorem zlu{α:Type}{p:α->Bool}{l:List α}(hb:∀ k (hk:k<l.length),p (l[k])=false):l.find? p=none:=by rw[List.find?_eq_none];intro x hx;obtain⟨i,hi,rfl⟩:=ay hx;simp_all
theorem qsd{O:Ev.Call}{H:Hp}{sb:Nat}{sv:AV}{X:List aN}(hX:bS H sv X)(hs:X.length<1000000)(hb:H.get sb=aB 0 [sv])(a:SS){Q:pL}{q:pH}{qr:pD}(hr:∀ i (hi:i<X.length),X[i].name=a->(∀k (hk:k<i),X[k].name≠a)->Ok (qr (iN i) H) Q)(hq:(∀k (hk:k<X.length),X[k].name≠a)->Ok (q H) Q):∀(k i:Nat),i<=X.length->X.length-i<k->(∀k (hk:k<i) (hl:k<X.length),X[k].name≠a)->Ok (q6w O qr q a.v (.ptr sb 0) k (iN i) H) Q
 |0,i,_,h,_=>by omega
 |k+1,i,hi,hk,hn=>by
  show Ok (zgc O _ _ _ _ (q6w O _ _ _ _ k) _ H) Q;unfold zgc;have hl:=hX.rs.len;by_cases hlt:i<X.length
  ·simp only[go_sem,hb,hl,hlt];unfold zga;obtain⟨b,o,e1,e2,_,_,e4⟩:=hX.rs.at' i hlt;have r0:dK (H.get b) o=.val (.str X[i].name.n X[i].name.a):=e4 0 (by rw[qco];omega);unfold SS.v;by_cases h:X[i].name.n=a.n/\X[i].name.a=a.a
   ·have ht:=dh h;simp only[go_sem,hb,e1,r0,ht];exact hr i hlt ((sJ _ _).2 h) fun k hk=>hn k hk (by omega)
   ·simp only[go_sem,hb,e1,r0,h];unfold zvx;simp(disch:=go_size)only[go_sem,rB,rI,rK,rL,rN,rS,r6];refine qsd hX hs hb a hr hq k (i+1) (by omega) (by omega) fun m hm hl=>?_;by_cases he:m=i
    ·subst he;exact fun h'=>h ((sJ _ _).1 h')
    ·exact hn m (by omega) hl
  ·simp only[go_sem,hb,hl,hlt];exact hq fun m hm=>hn m (by omega) hm
theorem zuk(hC:aW C)(hk:1<=k)(hX:bS H sv X)(hs:X.length<1000000)(a:SS):Ok (C k (.f 66) [.agg [sv],a.v] H) fun r H'=>Fm No H H'/\((∃i,∃hi:i<X.length,r=iN i/\X.find? (fun g=>decide (g.name=a))=some X[i])\/(r=.int .i64 (.negSucc 0)/\X.find? (fun g=>decide (g.name=a))=none)):=by
 obtain⟨j,rfl⟩:=aS hk;rw[(hC j).zBs];unfold zBs zzl;simp only[go_sem];have f:Fm No H (aO H (aB 0 [sv])):=by exact jY
 unfold zvy;rw[dB];refine qsd (hX.fm f) hs (lC _ _) a (fun i hi h1 h2=>?_) (fun h=>?_) bX 0 (gq _) (by rw[dI];omega) (fun k hk=>by omega)
 ·refine Ok.ret ⟨f,.inl ⟨i,hi,rfl,zlv hi (by simpa using h1) fun k hk=>by simpa using h2 k hk⟩⟩
 ·unfold zgb;refine Ok.ret ⟨f,.inr ⟨rfl,zlu fun k hk=>by simpa using h k hk⟩⟩
def q48:List AV:=[.str 0 0,.aA,.int .u8 (.ofNat 0),.str 0 0,.str 0 0,.aA]
def z3w(X:List aN)(a b:SS)(r:AV):Prop:=match kI X a b with
 |some g=>r=.aX [.agg (fI g),.bool true]
 |none=>r=.aX [.agg q48,.bool false]
theorem qzu{O:Ev.Call}{H:Hp}{sb rb:Nat}{sv:AV}{X:List aN}(hX:bS H sv X){s:Nat}(hs:s<X.length)(hb:H.get sb=aB 0 [sv])(hg:X[s].gs.length<1000000)(he:H.get rb=aB 0 q48)(b:SS){Q:pL}{q:pH}{qr:pD}(hr:∀ g,X[s].gs.find? (fun x=>decide (x.r.name=b))=some g->Ok (qr (.bool true) (H.put rb (aB 0 (fI g)))) Q)(hq:X[s].gs.find? (fun x=>decide (x.r.name=b))=none->Ok (q H) Q):∀(k i:Nat),i<=X[s].gs.length->X[s].gs.length-i<k->(∀k (hk:k<i) (hl:k<X[s].gs.length),X[s].gs[k].r.name≠b)->Ok (qxr O qr q b.v (.ptr sb 0) (.ptr rb 0) (iN s) k (iN i) H) Q
 |0,i,_,h,_=>by omega
 |k+1,i,hi,hk,hn=>by
  show Ok (qxs O _ _ _ _ _ _ (qxr O _ _ _ _ _ _ k) _ H) Q;unfold qxs;obtain⟨b1,o1,e1,e2,_,_,e4⟩:=hX.rs.at' s hs;have r1:dK (H.get b1) (o1+1)=.val X[s].rv:=e4 1 (by rw[qco];omega);have hp:=hX.sp _ (lu hs);have hl:=hp.len;by_cases hlt:i<X[s].gs.length
  ·simp only[go_sem,hb,e1,r1,hl,hlt,gq];unfold zg5;obtain⟨b2,o2,g1,g2,g3,g4,g5,g6⟩:=hp.at' i hlt;unfold SS.v;by_cases h:X[s].gs[i].r.name.n=b.n/\X[s].gs[i].r.name.a=b.a
   ·have ht:=dh h;simp only[go_sem,hb,e1,r1,g1,g3,ht,g6];simp only[go_sem,he];refine hr X[s].gs[i] (zlv hlt (by simpa using (sJ _ _).2 h) fun k hk=>by simpa using hn k hk (by omega))
   ·simp only[go_sem,hb,e1,r1,g1,g3,h];unfold zv7;simp(disch:=go_size)only[go_sem,rB,rI,rK,rL,rN,rS,r6];refine qzu hX hs hb hg he b hr hq k (i+1) (by omega) (by omega) fun m hm hl=>?_;by_cases he:m=i
    ·subst he;exact fun h'=>h ((sJ _ _).1 h')
    ·exact hn m (by omega) hl
  ·simp only[go_sem,hb,e1,r1,hl,hlt,gq];exact hq (zlu fun m hm=>by simpa using hn m (by omega) hm)
theorem z3v(hC:aW C)(hk:2<=k)(hX:bS H sv X)(hs:X.length<1000000)(hg:∀ g∈X,g.gs.length<900000)(a b:SS):Ok (C k (.f 39) [.agg [sv],a.v,b.v] H) fun r H'=>Fm No H H'/\z3w X a b r:=by
 obtain⟨j,rfl⟩:=aS hk;rw[(hC j).zAy];unfold zAy zz1;simp(disch:=first|go_size|omega)only[go_sem,seval];have f:Fm No H (aO (aO H (aB 0 [sv])) (aB 0 q48)):=by exact pU
 refine Ok.ve (zuk hC (k:=j) (by omega) (hX.fm f) hs a) ?_;rintro r H1 ⟨f1,h⟩;have n1:=f1.nx;have hb:H1.get H.nx=aB 0 [sv]:=(f1.keep (by(first|go_size|omega))).trans (by simp(disch:=first|go_size|omega)only[go_sem,seval]);have hr:H1.get (H.nx+1)=aB 0 q48:=(f1.keep (by go_size)).trans (by simp(disch:=go_size)only[go_sem,seval]);unfold zv8;obtain⟨m,hm⟩:∃ m,bX=m+1:=⟨999999,by rw[dI]⟩;unfold z3w kI;have fin:Ok (q60 (C j) (.ptr (H.nx+1) 0) H1) fun r H'=>Fm No H H'/\r=.aX [.agg q48,.bool false]:=by unfold q60;unfold q48 at hr ⊢;simp only[go_sem,seval,hr];exact Ok.ret ⟨(f.trans f1).aF _ _ (by omega),rfl⟩
 rcases h with⟨i,hi,rfl,h⟩|⟨rfl,h⟩
 ·rw[dB,h];refine qzu ((hX.fm f).fm f1) hi hb (by have:=hg _ (lu hi);omega) hr b (fun g h2=>?_) (fun h2=>?_) bX 0 (gq _) (by have:=hg _ (lu hi);rw[dI];omega) (fun k hk=>by omega)
  ·simp only;rw[h2];simp only[go_sem];exact Ok.ret ⟨(f.trans f1).aF _ _ (by omega),rfl⟩
  ·simp only;rw[h2];exact fin
 ·rw[dB,hm,h];show Ok (qxs (C j) _ _ _ _ _ _ (qxr (C j) _ _ _ _ _ _ m) _ H1) _;unfold qxs;simp only[go_sem];exact fin
def pC(p:SS×SS):List AV:=[p.1.v,p.2.v]
def aJ(X:List aN):List (SS×SS):=X.flatMap fun g=>g.gs.map fun x=>(g.name,x.r.name)
structure yD(X:List aN):Prop where
 n:X.length<=100
 r:∀ g∈X,g.gs.length<=100
 t:∀ g∈X,∀x∈g.gs,x.r.types.length<=100
theorem yD.all(h:yD X):∀ i,((X.take i).flatMap fun g=>g.gs.map fun x=>(g.name,x.r.name)).length<=10000:=fun i=>by
 have h1:∀ l:List aN,(∀g∈l,g.gs.length<=100)->(l.flatMap fun g=>g.gs.map fun x=>(g.name,x.r.name)).length<=100*l.length:=by
  intro l
  induction l with
  |nil=>intro _;simp
  |cons a l ih=>intro h;rw[ug,lq,qc,pg];have:=ih fun g hg=>h g (qx _ hg);have:=h a ql;omega
 have h2:=h1 (X.take i) fun g hg=>h.r g (iy hg);have h3:(X.take i).length<=X.length:=by rw[qo];omega
 have:=h.n;omega
theorem q0e{O:Ev.Call}{H0:Hp}{sb:Nat}{sv:AV}{X:List aN}(hX:bS H0 sv X)(hS:yD X)(hb:H0.get sb=aB 0 [sv])(hbl:sb<H0.nx){s:Nat}(hs:s<X.length){A:List (SS×SS)}(hA:A.length<=1000000){Q:pL}{q:pD}(hq:∀ w H,Ac 2 pC H0 H w (A++X[s].gs.map fun x=>(X[s].name,x.r.name))->Ok (q w H) Q):∀(k i:Nat) (w:AV) (H:Hp),i<=X[s].gs.length->X[s].gs.length-i<k->Ac 2 pC H0 H w (A++(X[s].gs.take i).map fun x=>(X[s].name,x.r.name)) -> Ok (q7d O q (.ptr sb 0) (iN s) k w (iN i) H) Q
 |0,i,_,_,_,h,_=>by omega
 |k+1,i,w,H,hi,hk,hw=>by
  show Ok (zhy O _ _ _ (q7d O _ _ _ k) _ _ H) Q;unfold zhy;have hX1:=hX.fm hw.fm;have hb1:=(hw.fm.keep hbl).trans hb;obtain⟨b1,o1,e1,e2,_,_,e4⟩:=hX1.rs.at' s hs;have r0:dK (H.get b1) o1=.val (.str X[s].name.n X[s].name.a):=e4 0 (by rw[qco];omega);have r1:dK (H.get b1) (o1+1)=.val X[s].rv:=e4 1 (by rw[qco];omega);have hp:=hX1.sp _ (lu hs);have hl:=hp.len;have hr:=hS.r _ (lu hs);by_cases hlt:i<X[s].gs.length
  ·simp only[go_sem,hb1,e1,r1,hl,hlt];unfold zhw;obtain⟨b2,o2,g1,g2,g3,_,_,_⟩:=hp.at' i hlt;have hll:(A++(X[s].gs.take i).map fun x=>(X[s].name,x.r.name)).length<=1001000:=by
    rw[lq,qc,qo];omega
   simp only[go_sem,seval,hb1,e1,r0,r1,g1,g3];refine Ok.mI ((hw.no (by(repeat(first|exact Fm.refl _ _|assumption|refine Fm.push ?_ _|refine Fm.lF ?_ (by go_size)|refine Fm.aF ?_ _ _ (by go_size))))).add (X[s].name,X[s].gs[i].r.name) 32 rfl (by omega) (by omega)) ?_;intro w2 H2 hw2;unfold zwd;simp(disch:=go_size)only[go_sem,rB,rI,rK,rL,rN,rS,r6];refine q0e hX hS hb hbl hs hA hq k (i+1) w2 H2 (by omega) (by omega) ?_;rw[ku hlt,ui,zx,<-qw];exact hw2
  ·simp only[go_sem,hb1,e1,r1,hl,hlt];have he:i=X[s].gs.length:=by omega
   simp_all
theorem q91{O:Ev.Call}{H0:Hp}{sb:Nat}{sv:AV}{X:List aN}(hX:bS H0 sv X)(hS:yD X)(hb:H0.get sb=aB 0 [sv])(hbl:sb<H0.nx){Q:pL}{q:pD}(hq:∀ w H,Ac 2 pC H0 H w (aJ X)->Ok (q w H) Q):∀(k i:Nat) (w:AV) (H:Hp),i<=X.length->X.length-i<k->Ac 2 pC H0 H w ((X.take i).flatMap fun g=>g.gs.map fun x=>(g.name,x.r.name)) -> Ok (qxt O q (.ptr sb 0) k w (iN i) H) Q
 |0,i,_,_,_,h,_=>by omega
 |k+1,i,w,H,hi,hk,hw=>by
  show Ok (zhz O _ _ (qxt O _ _ k) _ _ H) Q;unfold zhz;have hn:=hS.n;have hX1:=hX.fm hw.fm;have hb1:=(hw.fm.keep hbl).trans hb;have hl:=hX1.rs.len;by_cases hlt:i<X.length
  ·simp only[go_sem,hb1,hl,hlt];unfold zhv zwe;rw[dB];have hr:=hS.r _ (lu hlt);refine q0e hX hS hb hbl hlt (tq (hS.all i) (by omega)) (fun w2 H2 hw2=>?_) bX 0 w H (gq _) (by rw[dI];omega) (by simpa using hw);unfold zhu;simp(disch:=go_size)only[go_sem,rB,rI,rK,rL,rN,rS,r6];refine q91 hX hS hb hbl hq k (i+1) w2 H2 (by omega) (by omega) ?_;rw[ku hlt,uA,uB];exact hw2
  ·simp only[go_sem,hb1,hl,hlt];have he:i=X.length:=by omega
   rw[he,uj]at hw;exact hq w H hw
theorem zxf(hC:aW C)(hk:1<=k)(hX:bS H sv X)(hS:yD X):Ok (C k (.f 35) [.agg [sv]] H) fun r H'=>Ac 2 pC H H' r (aJ X):=by
 obtain⟨j,rfl⟩:=aS hk;rw[(hC j).zAh];unfold zAh z0a;simp only[go_sem];have f:Fm No H (aO H (aB 0 [sv])):=by exact jY
 have hn:=hS.n;unfold zwf;rw[dB];refine q91 (hX.fm f) hS (lC _ _) (by simp only[np,nq];omega) (fun w H2 hw=>?_) bX 0 .aA _ (gq _) (by rw[dI];omega) (Ac.nil _ _ (Fm.refl _ _));exact Ok.ret (hw.trans f)
def bW(X:List aN)(a b:SS):Nat:=(aJ X).findIdx fun p=>decide (p=(a,b))
def tgP(X:List aN)(to:SS)(t:iQ):Bool:=decide (t.rl=sE)&&(kI X t.sp to).isSome
def tgL(X:List aN)(to:SS)(l:List iQ):List SS:=(l.filter (tgP X to)).map iQ.sp
def sG(X:List aN)(a rel to:SS):List SS:=match kI X a rel with
 |none=>[]
 |some g=>tgL X to g.r.types
theorem q4h(X:List aN)(to:SS)(l:List iQ):(tgL X to l).length<=l.length:=by unfold tgL;rw[qc];exact yt _ _
theorem zrk(X:List aN)(to:SS){l:List iQ}(h:i<l.length):tgL X to (l.take (i+1))=tgL X to (l.take i)++if tgP X to l[i]then[l[i].sp]else[]:=by unfold tgL;rw[ku h,yj,ui,iw];split<;>simp
theorem zs7(hC:aW C)(hk:1<=k)(n:Int)(H:Hp):C k (.f 171) [.int .i64 n] H=.ok (.bool false) H:=by obtain⟨j,rfl⟩:=aS hk;rw[(hC j).zDc];unfold zDc zyt;simp only[go_sem]
def iT(a b:Int):Int:=if a<b then -1 else if b<a then 1 else 0
theorem qw8(hC:aW C)(hk:2<=k)(a b:Int)(H:Hp):C k (.f 144) [.int .i64 a,.int .i64 b] H=.ok (.int .i64 (iT a b)) H:=by
 obtain⟨j,rfl⟩:=aS hk;rw[(hC j).zCr];unfold zCr zy2;simp only[zs7 hC (show 1<=j by omega),go_sem];unfold zvl zvm zvn zvo iT;by_cases h:a<b
 ·simp only[h,go_sem];rfl
 ·by_cases h2:b<a
  ·simp only[h,h2,go_sem];rfl
  ·simp only[h,h2,go_sem];rfl
def sgn(s:Bool):Int:=if s then 1 else 0
theorem z0s(hC:aW C)(hk:1<=k)(a b:AV)(s:Bool)(H:Hp):C k (.f 145) [.agg [a,b,.bool s]] H=.ok (.int .i64 (sgn s)) (aO H (aB 0 [a,b,.bool s])):=by obtain⟨j,rfl⟩:=aS hk;rw[(hC j).zCs];unfold zCs zy1 zvk;cases s<;>simp(disch:=omega)only[go_sem,seval,Nat.beq]<;>rfl
def ints(l:List Int):List AV:=l.map (fun n=>.int .i64 n)
theorem zs9(l:List Int)(i:Nat)(h:i<l.length):(ints l)[i]? =some (.int .i64 l[i]):=by simp[ints,h]
def orI:List Int->Int
 | []=>0
 |x::l=>if x=0 then orI l else x
theorem znl{O:Ev.Call}{H:Hp}{b m:Nat}{e:Bool}{q:Nat}{l:List Int}(h0:H.get b=aB q (ints l))(hl:l.length<1000000):∀(k i:Nat),i<=l.length->l.length-i<k->q6o O (fun x2 H=>.ok x2 H) (fun H=>zfa O (.int .i64 (.ofNat 0)) H) (.int .i64 (.ofNat 0)) (.sl b 0 l.length m e) (.int .i64 (.ofNat l.length)) k (.int .i64 (.ofNat i)) H=.ok (.int .i64 (orI (l.drop i))) H
 |0,i,_,h=>by omega
 |k+1,i,hi,hk=>by
  show zfb O _ _ _ _ _ (q6o O _ _ _ _ _ k) _ H=_;unfold zfb;by_cases hlt:i<l.length
  ·simp(disch:=omega)only[go_sem,hlt];unfold zvh;have hd:l.drop i=l[i]::l.drop (i+1):=ut hlt;simp(disch:=omega)only[go_sem,h0,zs9 _ _ hlt];rw[hd];show _=R1.ok (.int .i64 (if l[i]=0 then orI (l.drop (i+1))else l[i])) H;by_cases hz:l[i]=Int.ofNat 0
   ·have hz':l[i]=0:=hz;simp only[hz',go_sem];unfold zvi;simp(disch:=omega)only[go_sem];exact znl h0 hl k (i+1) (by omega) (by omega)
   ·have hz':¬ l[i]=0:=hz;simp only[hz,hz',go_sem]
  ·have hd:l.drop i=[]:=vk (by omega);simp(disch:=omega)only[go_sem,hlt];rw[hd];rfl
theorem aM0(hC:aW C)(hk:1<=k){e:Bool}{q n:Nat}{l:List Int}(hn:l.length=n)(h0:H.get b=aB q (ints l))(hl:l.length<1000000):C k (.f 93) [.sl b 0 n m e] H=.ok (.int .i64 (orI l)) H:=by obtain⟨j,rfl⟩:=aS hk;subst hn;rw[(hC j).zCt];unfold zCt zy0 zvj;simp only[go_sem];rw[dB];exact znl h0 hl _ 0 (gq _) (by rw[dI];omega)
structure Edge where
 (f t:Nat)
 s:Bool
deriving DecidableEq
def Edge.cells(e:Edge):List AV:=[.int .i64 (.ofNat e.f),.int .i64 (.ofNat e.t),.bool e.s]
def sI(x y:Edge):Int:=orI [iT (.ofNat x.f) (.ofNat y.f),iT (.ofNat x.t) (.ofNat y.t),iT (sgn x.s) (sgn y.s)]
theorem zbx(hC:aW C)(hk:3<=k)(x y:Edge)(H:Hp):Ok (C k (.f 113) [.agg x.cells,.agg y.cells] H) fun v H'=>v=.int .i64 (sI x y)/\Fm No H H':=by obtain⟨j,rfl⟩:=aS hk;rw[(hC j).zBz];unfold zBz zzg Edge.cells;simp(disch:=first|go_size|omega)only[go_sem,seval,Nat.beq,qw8 hC (show 2<=j by omega),z0s hC (show 1<=j by omega)];refine Ok.deE (aM0 hC (show 1<=j by omega) (l:=[iT (.ofNat x.f) (.ofNat y.f),iT (.ofNat x.t) (.ofNat y.t),iT (sgn x.s) (sgn y.s)]) rfl (dS _ _ _) (by simp)) ?_;simp only[go_sem];exact Ok.ret ⟨rfl,by(repeat(first|exact Fm.refl _ _|assumption|refine Fm.push ?_ _|refine Fm.lF ?_ (by go_size)|refine Fm.aF ?_ _ _ (by go_size)))⟩
def z8g(es:List Edge):List AV:=(es.map Edge.cells).flatten
structure qdj(n:Nat)(es:List Edge):Prop where
 rng:∀ e∈es,e.f<n/\e.t<n
 ord:∀ i,(h:i+1<es.length)->sI es[i] es[i+1]<0
theorem q5j(a b:Int)(k:IntKind):qE oI (.int k a) [.int k b]=.val (.int k (min a b)):=by
 show R0.val (.int k (bif pO b a then b else a))=_;rw[qei];by_cases h:b<a
 ·rw[gp h,Int.min_eq_right (by omega)];rfl
 ·rw[qi h,Int.min_eq_left (by omega)];rfl
theorem q5k(a b:Int)(k:IntKind):qE qC (.int k a) [.int k b]=.val (.int k (max a b)):=by
 show R0.val (.int k (bif pO a b then b else a))=_;rw[qei];by_cases h:a<b
 ·rw[gp h,Int.max_eq_right (by omega)];rfl
 ·rw[qi h,Int.max_eq_left (by omega)];rfl
structure kP(H:Hp)(v:AV)(es:List Edge):Prop where
 flat:xO v=true
 len:aD v=.val (.int .i64 (.ofNat es.length))
 lt':∀ b,In v b->b<H.nx
 at':∀(i:Nat) (hi:i<es.length),∃b o,aH 3 v (.int .i64 (.ofNat i))=.val (.ptr b o)/\b<H.nx/\eB (H.get b) o 3=some es[i].cells
theorem kP.at{v:AV}{es:List Edge}(h:kP H v es)(hi:i<es.length):∃ b o,aH 3 v (.int .i64 (.ofNat i))=.val (.ptr b o)/\b<H.nx/\eB (H.get b) o 3=some es[i].cells:=h.at' i hi
theorem kP.fm{v:AV}{es:List Edge}(h:kP H v es)(a:Fm No H H'):kP H' v es:=⟨h.flat,h.len,fun b hb=>lL (h.lt' b hb) a.nx,fun i hi=>by obtain⟨b,o,e1,e2,e3⟩:=h.at' i hi;exact⟨b,o,e1,lL e2 a.nx,by rw[a.keep e2];exact e3⟩⟩
theorem z7l{v:AV}(h:aH z v (.int .i64 (.ofNat i))=.val (.ptr b o)):In v b:=by
 cases v with
 |sl b' o' n m e=>
  have h:(bif Nat.blt i n then R0.val (.ptr b' (o'+i*z))else .bad)=.val (.ptr b o):=h;cases hb:Nat.blt i n with
  |true=>rw[hb]at h;cases h;exact⟨_,_,_,_,rfl⟩
  |false=>rw[hb]at h;cases h
 |_=>cases h
theorem kP.keep{v:AV}{es:List Edge}(h:kP H v es)(hn:H.nx<=H'.nx)(hk:∀ b,In v b->b<H.nx->H'.get b=H.get b):kP H' v es:=⟨h.flat,h.len,fun b hb=>lL (h.lt' b hb) hn,fun i hi=>by obtain⟨b,o,e1,e2,e3⟩:=h.at' i hi;exact⟨b,o,e1,lL e2 hn,by rw[hk b (z7l e1) e2];exact e3⟩⟩
theorem kP.lt{v:AV}{es:List Edge}(h:kP H v es)(hb:In v b):b<H.nx:=h.lt' b hb
theorem Gl.flat{v:AV}(h:Gl z H v n l):xO v=true:=by rcases h.is with⟨rfl,rfl⟩|⟨b,o,e,q,L,rfl,_⟩<;>rfl
theorem kP.pN{v:AV}{es:List Edge}(h:kP H v es):pN 64 v v=true:=qck h.flat 63
theorem qlb(hC:aW C){j:Nat}(hj:3<=j){n:Nat}{es:List Edge}(hE:qdj n es){v:AV}{g:Nat}{H0:Hp}(hlen:es.length<1000000){Q:pL}{fU:pH}(hq:∀ H,Fm No H0 H->Ok (fU H) Q):∀(k i:Nat) (H:Hp),i<=es.length->es.length-i<k->kP H v es->g<H.nx->H.get g=aB 0 [.int .i64 (.ofNat n),v]->Fm No H0 H -> Ok (q6u (C j) (fun x2 H=>.ok x2 H) fU (.ptr g 0) v (.int .i64 (.ofNat es.length)) k (.int .i64 (.ofNat i)) H) Q
 |0,i,_,_,h,_,_,_,_=>by omega
 |k+1,i,H,hi,hk,hv,hg1,hg2,hf=>by
  show Ok (zfv (C j) _ _ _ _ _ (q6u (C j) _ _ _ _ _ k) _ H) Q;unfold zfv;by_cases hlt:i<es.length
  ·obtain⟨b,o1,e1,e2,e3⟩:=hv.at hlt;have hr:=hE.rng es[i] (lu hlt);simp only[go_sem,hlt];unfold zfu z4j;have hmin:(min (Int.ofNat es[i].f) (Int.ofNat es[i].t)<Int.ofNat 0)=False:=by simp only[rq,eq_iff_iff,iff_false];omega
   have hmax:(Int.ofNat n<=max (Int.ofNat es[i].f) (Int.ofNat es[i].t))=False:=by simp only[rq,eq_iff_iff,iff_false];omega
   by_cases h0:0<i
   ·obtain⟨p,rfl⟩:∃ p,i=p+1:=⟨i-1,by omega⟩;obtain⟨b',o2,e1',e2',e3'⟩:=hv.at (show p<es.length by omega);have hv64:=hv.pN;simp(disch:=go_size)only[go_sem,rB,rI,rK,rL,rN,rS,r6,e1,e3,Edge.cells,q5j,q5k,hmin,hmax,hg2,h0,e1',e3',lA6];refine Ok.mI (zbx hC hj es[p] es[p+1] _) ?_;rintro v' H' ⟨rfl,f'⟩;have k1:H'.get g=aB 0 [.int .i64 (.ofNat n),v]:=(f'.keep (by go_size)).trans (by simp(disch:=omega)only[go_sem,seval,hg2]);have k2:eB (H'.get b') o2 3=some es[p].cells:=by rw[f'.keep (by go_size)];simp(disch:=omega)only[go_sem,seval,e3']
    have k3:H'.get H.nx=aB 0 es[p+1].cells:=(f'.keep (by simp only[np,nq];omega)).trans (by simp only[go_sem,seval,Edge.cells]);have ho:(Int.ofNat 0<=sI es[p] es[p+1])=False:=by have:=hE.ord p hlt;simp_all
    simp only[go_sem,k1,k2,k3,hv64,Edge.cells,ho];unfold zfs;simp(disch:=go_size)only[go_sem,rB,rI,rK,rL,rN,rS,r6];have fH:Fm No H H':=by refine Fm.trans ?_ f';exact oJ
    exact qlb hC hj hE hlen hq k (p+1+1) H' (by omega) (by omega) (hv.fm fH) (lL hg1 fH.nx) k1 (hf.trans fH)
   ·simp(disch:=go_size)only[go_sem,rB,rI,rK,rL,rN,rS,r6,e1,e3,Edge.cells,q5j,q5k,hmin,hmax,hg2,h0];unfold zfs;simp(disch:=go_size)only[go_sem,rB,rI,rK,rL,rN,rS,r6];have fH:Fm No H ((aO H (aB 0 [.int .i64 (.ofNat 0),.int .i64 (.ofNat 0),.bool false])).put H.nx (aB 0 [.int .i64 (.ofNat es[i].f),.int .i64 (.ofNat es[i].t),.bool es[i].s])):=by exact oJ
    exact qlb hC hj hE hlen hq k (i+1) _ (by omega) (by omega) (hv.fm fH) (lL hg1 fH.nx) ((fH.keep hg1).trans hg2) (hf.trans fH)
  ·simp only[go_sem,hlt];exact hq H hf
theorem zuv(hC:aW C)(hk:4<=k){es:List Edge}(hE:qdj n es)(hn:n<=256)(hlen:es.length<1000000){v:AV}(hv:kP H v es):Ok (C k (.f 117) [.agg [.int .i64 (.ofNat n),v]] H) fun r H'=>r=.int .i64 (.ofNat 0)/\Fm No H H':=by
 obtain⟨j,rfl⟩:=aS hk;rw[(hC j).zCd];unfold zCd zze;have jP:(256<n)=False:=by simp only[eq_iff_iff,iff_false];omega
 simp(disch:=go_size)only[go_sem,rB,rI,rK,rL,rN,rS,r6,jP,ig];unfold zft zvu;have fH:Fm No H (aO H (aB 0 [.int .i64 (.ofNat n),v])):=by exact jY
 simp(disch:=go_size)only[go_sem,rB,rI,rK,rL,rN,rS,r6,hv.len];rw[dB];refine qlb hC (by omega) hE hlen (fun H hf=>?_) _ 0 _ (gq _) (by rw[dI];omega) (hv.fm fH) (by go_size) (lC _ _) fH;exact Ok.ret ⟨rfl,hf⟩
def aK(l:List Nat):List AV:=l.map (fun n=>.int .i64 (.ofNat n))
theorem ints_set(l:List Int)(i:Nat)(n:Int)(h:i<l.length):bD (ints l) i [.int .i64 n]=ints (l.set i n):=by
 unfold bD ints;apply List.ext_getElem
 ·simp;omega
 ·intro j h1 h2;simp only[cu,lE3];by_cases hj:j<i
  ·rw[List.getElem_append_left (by simp;omega),List.getElem_append_left (by simp;omega)];simp[show ¬i=j by omega]
  ·by_cases he:i=j
   ·subst he;simp[yg (yw h)]
   ·rw[List.getElem_append_right (by simp;omega)];simp[he,yg (yw h)];congr 2;omega
theorem qzm(l:List Nat):ints (l.map Int.ofNat)=aK l:=by unfold ints aK;rw[bu];rfl
theorem Gl.at{v:AV}(h:Gl 1 H v n l){x:AV}(hx:l[i]? =some x):∃ b o,aH 1 v (.int .i64 (.ofNat i))=.val (.ptr b o)/\b<H.nx/\In v b/\dK (H.get b) o=.val x:=by
 have hl:=h.len;have hi:i<l.length:=by
  rcases yf i l.length with h|h
  ·exact h
  ·simp_all
 rcases h.is with⟨rfl,rfl⟩|⟨b,o,e,q,L,rfl,h1,h2,h3,h4,h5⟩
 ·omega
 ·refine⟨b,o+i,?_,h5,⟨_,_,_,_,rfl⟩,?_⟩
  ·rw[sV _ _ _ _ _ _ _ _ (by omega),qj]
  ·have:L[o+i]? =some x:=by rw[<-zf,h3];exact hx
   rw[h1,qb0,this]
theorem Gl.clip{v:AV}(h:Gl z H v n l):∃ w,kM z v none (some (.int .i64 (.ofNat n))) (some (.int .i64 (.ofNat n)))=.val w/\Gl z H w n l/\gW w=.val (.int .i64 (.ofNat n))/\(∀b,In w b->In v b):=by
 rcases h.is with⟨rfl,rfl⟩|⟨b,o,e,q,L,rfl,h1,h2,h3,h4,h5⟩
 ·exact⟨.aA,rfl,h,rfl,fun b h=>h⟩
 ·have e1:kM z (.sl b o n n e) none (some (.int .i64 (.ofNat n))) (some (.int .i64 (.ofNat n)))=iD b o z ⟨0,n,n⟩ true:=by
   show(match bounds n n none (some (.int .i64 (.ofNat n))) (some (.int .i64 (.ofNat n)))with|some bd=>iD b o z bd true|none=>R0.bad)=_;have:bounds n n none (some (.int .i64 (.ofNat n))) (some (.int .i64 (.ofNat n)))=some ⟨0,n,n⟩:=by show(match(bif Nat.ble n n then some n else none)with|none=>none|some m=>match(bif Nat.ble n m then some n else none)with|none=>none|some h=>match(some 0:Option Nat)with|none=>none|some l=>some (Bd.mk l h m))=_;rw[ble_eq,gp (lg n)];simp only[qy,ble_eq,gp (lg n)]
   rw[this]
  rw[e1];unfold iD;simp only[beq_eq];by_cases hn:n=0
  ·subst hn;exact⟨.sl b o 0 0 true,rfl,⟨h.len,.inr ⟨b,o,true,q,L,rfl,h1,h2,h3,.inl rfl,h5⟩⟩,rfl,fun c hc=>by obtain⟨_,_,_,_,h'⟩:=hc;cases h';exact⟨_,_,_,_,rfl⟩⟩
  ·rw[qi hn];refine⟨.sl b o n n true,?_,⟨h.len,.inr ⟨b,o,true,q,L,rfl,h1,h2,h3,.inl rfl,h5⟩⟩,rfl,fun c hc=>by obtain⟨_,_,_,_,h'⟩:=hc;cases h';exact⟨_,_,_,_,rfl⟩⟩;simp
theorem znn(hC:aW C)(hk:1<=k){v:AV}(h:Gl 1 H v n l):∃w,C k (.f 120) [v] H=.ok w H/\Gl 1 H w n l/\gW w=.val (.int .i64 (.ofNat n))/\(∀b,In w b->In v b):=by obtain⟨j,rfl⟩:=aS hk;obtain⟨w,e,h1,h2,h3⟩:=h.clip;refine⟨w,?_,h1,h2,h3⟩;rw[(hC j).zBd];unfold zBd zqv;simp only[go_sem,h.cO,e]
theorem qwk(l:List Nat)(i:Nat)(h:i<l.length):(aK l)[i]? =some (.int .i64 (.ofNat l[i])):=by simp[aK,h]
theorem qwi(l:List Nat)(i n:Nat)(h:i<l.length):bD (aK l) i [.int .i64 (.ofNat n)]=aK (l.set i n):=by rw[<-qzm,ints_set _ _ _ (by simpa using h),<-qzm,lEA]
structure MOk(n:Nat)(ms:List Nat):Prop where
 hn:n<=256
 len:ms.length=n*n
 le:∀ x∈ms,x<=3
structure IsM(H:Hp)(v:AV)(b n:Nat)(ms:List Nat):Prop where
 hv:v=.agg [.int .i64 (.ofNat n),.sl b 0 (n*n) (n*n) true]
 lt:b<H.nx
 get:H.get b=aB 0 (aK ms)
 ok:MOk n ms
theorem IsM.fm{v:AV}(h:IsM H v b n ms)(a:Fm No H H'):IsM H' v b n ms:=⟨h.hv,lL h.lt a.nx,(a.keep h.lt).trans h.get,h.ok⟩
theorem z7k(hi:i<n)(hk:k<n):i*n+k<n*n:=by have:(i+1)*n<=n*n:=uz n hi;rw[xh,au]at this;omega
def p9(n:Nat)(ms:List Nat)(f t:Nat)(s:Bool):List Nat:=
 if ms.getD (f*n+t) 0 / (if s then 2 else 1)%2=0 then ms.set (f*n+t) (ms.getD (f*n+t) 0+(if s then 2 else 1))else ms
structure T3 where
 (f t s:Nat)
def T3.cells(e:T3):List AV:=[.int .i64 (.ofNat e.f),.int .i64 (.ofNat e.t),.int .i64 (.ofNat e.s)]
def qwb(n:Nat):List Nat->List T3->List Nat
 |ms,[]=>ms
 |ms,e::l=>qwb n (p9 n ms e.f e.t (decide (e.s=1))) l
def ent(n:Nat)(ms:List Nat)(i k:Nat):List T3:=(if ms.getD (i*n+k) 0%2=1 then[⟨i,k,0⟩]else[])++(if 1<ms.getD (i*n+k) 0 then[⟨i,k,1⟩]else[])
def eR(n:Nat)(ms:List Nat)(i:Nat):Nat->List T3
 |0=>[]
 |k+1=>eR n ms i k++ent n ms i k
def eM(n:Nat)(ms:List Nat):Nat->List T3
 |0=>[]
 |i+1=>eM n ms i++eR n ms i n
theorem z2k(n:Nat)(ms:List Nat)(i k:Nat):(ent n ms i k).length<=2:=by unfold ent;split<;>split<;>simp
theorem zw2(n:Nat)(ms:List Nat)(i:Nat):∀ k,(eR n ms i k).length<=2*k
 |0=>lg _
 |k+1=>by have h1:=zw2 n ms i k;have h2:=z2k n ms i k;simp only[eR,lq];omega
theorem zw4(n:Nat)(ms:List Nat):∀ i,(eM n ms i).length<=2*(i*n)
 |0=>by simp[eM]
 |i+1=>by have h1:=zw4 n ms i;have h2:=zw2 n ms i n;simp only[eM,lq,xh,au];omega
def toE(e:T3):Edge:=⟨e.f,e.t,decide (e.s=1)⟩
def qex(n:Nat)(ms:List Nat):List Edge:=(eM n ms n).map toE
def tE(X:List aN)(n:Nat)(neg:Bool)(p:SS×SS):T3:=⟨n,bW X p.1 p.2,if neg then 1 else 0⟩
structure OfR(X:List aN)(sv:AV)(cb gb b rb:Nat)(av nv:AV)(N:Nat)(g:aR)(l:List (Nd×AV))(H:Hp):Prop where
 sch:bS H sv X
 x1:H.get cb=aB 0 [sv]
 x3:Rs 2 pC H av (aJ X)
 x4:H.get gb=aB 0 [iN N,.sl b 0 (N*N) (N*N) true]
 x6:H.get rb=aB 0 (fI g)
 ty:Rs 2 tC H g.tv g.r.types
 tf:xO g.tv=true
 x8:Rs 5 kW H nv l
theorem zwv{a b:SS}(h:(a,b)∈aJ X):bW X a b<(aJ X).length:=by unfold bW;simp_all
def y9(l:List iQ):List (SS×SS):=(l.filter fun t=> !decide (t.rl=sE)).map fun t=>(t.sp,t.rl)
theorem zrh{l:List iQ}(h:i<l.length):y9 (l.take (i+1))=y9 (l.take i)++if l[i].rl=sE then[]else[(l[i].sp,l[i].rl)]:=by
 unfold y9;rw[ku h,yj,ui,iw];by_cases h:l[i].rl=sE
 ·simp[h]
 ·simp[h]
def ndT(X:List aN)(a:SS)(g:aR)(x:Nd):List (SS×SS):=
 if x.k=1 then y9 g.r.types else if x.k=2 then[(a,x.rl)]else if x.k=3 then(sG X a x.rl x.to).map fun s=>(s,x.to)else[]
def ndE(X:List aN)(n:Nat)(a:SS)(g:aR)(x:Nd):List T3:=(ndT X a g x).map (tE X n x.neg)
theorem qx7(hS:yD X)(a b to:SS):(sG X a b to).length<=100:=by
 unfold sG;cases h:kI X a b with
 |none=>simp
 |some g=>
  refine tq (q4h X to _) ?_;unfold kI at h;cases h2:X.find? fun g=>decide (g.name=a)with
  |none=>rw[h2]at h;cases h
  |some p=>rw[h2]at h;exact hS.t p (vw h2) g (vw h)
theorem qft{a b:SS}{g:aR}(h:kI X a b=some g):∃ p∈X,g∈p.gs/\p.name=a/\g.r.name=b:=by
 unfold kI at h;cases h2:X.find? fun g=>decide (g.name=a)with
 |none=>rw[h2]at h;cases h
 |some p=>rw[h2]at h;exact⟨p,vw h2,vw h,by simpa using lE8 h2,by simpa using lE8 h⟩
structure OfW(X:List aN):Prop where
 sm:yD X
 n:(aJ X).length<=256
 at':∀ i (h:i<(aJ X).length),∃g,kI X (aJ X)[i].1 (aJ X)[i].2=some g/\g.r.rule.depth<=12/\g.r.rule.size<=10000/\∀ x∈g.r.rule.nodes false,∀p∈ndT X (aJ X)[i].1 g x,p∈aJ X
def tsN(X:List aN)(n:Nat):List T3:=match(aJ X)[n]? with
 |none=>[]
 |some p=>match kI X p.1 p.2 with
  |none=>[]
  |some g=>(g.r.rule.nodes false).flatMap (ndE X n p.1 g)
def tsG(X:List aN)(m:Nat):List T3:=(List.range m).flatMap (tsN X)
def nmL:List SS:=[sU,bZ 0,bZ 1,bZ 2,gD 0,gD 1,gD 2,gD 3,⟨4,1701998445⟩]
def Nm(s:SS):Prop:=s∈nmL
theorem Nm.ne{s:SS}(h:Nm s):¬(s.n=0/\s.a=0):=by
 have:∀ s∈nmL,¬(s.n=0/\s.a=0):=by decide
 exact this s h
structure bEQ(c:Ev.Call):Prop where
 r:∀ s,Nm s->∀ H,c (.f 170) [s.v] H=.ok (.bool true) H
 p:∀ s,Nm s->∀ H,c (.f 130) [s.v] H=.ok (.bool true) H
abbrev mG(C:Nat->Ev.Call):Prop:=∀ k,bEQ (C (k+1))
def Ru.Fit:Ru->Prop
 | .leaf k rl to=>(k=1/\rl=sE/\to=sE)\/(k=2/\Nm rl/\to=sE)\/(k=3/\Nm rl/\Nm to)
 | .node k a b=>(k=4\/k=5\/k=6)/\a.Fit/\b.Fit
theorem qmr(a b c d:Bool):mF true (dQ (fun xs ys=>zJ p1 ⟨qhw⟩ 1 xs ys 2 0) (.agg [.bool a,.bool b]) (.agg [.bool c,.bool d]))=.val (.bool (!(a==c&&b==d))):=by cases a<;>cases b<;>cases c<;>cases d<;>rfl
structure yF(H:Hp)(b o:Nat)(cs:List AV):Prop where
 lt:b<H.nx
 at':∀ j (h:j<cs.length),dK (H.get b) (o+j)=.val cs[j]
theorem yF.keep(h:yF H b o cs)(hn:H.nx<=H'.nx)(e:H'.get b=H.get b):yF H' b o cs:=⟨lL h.lt hn,fun j hj=>by rw[e];exact h.at' j hj⟩
theorem yF.fm(h:yF H b o cs)(f:Fm No H H'):yF H' b o cs:=h.keep f.nx (f.keep h.lt)
theorem zui(hC:aW C)(hN:mG C)(hk:2<=k){r:Ru}{P:Nat->Prop}(h4:yF H b o cs)(hr:jN P H r cs)(hf:r.Fit):Ok (C k (.f 141) [.ptr b o] H) fun v H'=>v=iN 0/\Fm No H H':=by
 obtain⟨j,rfl⟩:∃ j,k=j+1+1:=⟨k-2,by omega⟩;rw[(hC (j+1)).zDb];unfold zDb zyu;have hlt:=h4.lt;cases r with
 |leaf kd rl to=>
  obtain rfl:cs=lfC kd rl to:=hr;have r0:dK (H.get b) o=.val (.int .u8 (.ofNat kd)):=h4.at' 0 (by simp[lfC]);have r1:dK (H.get b) (o+1)=.val (.str rl.n rl.a):=h4.at' 1 (by simp[lfC]);have r2:dK (H.get b) (o+2)=.val (.str to.n to.a):=h4.at' 2 (by simp[lfC]);have r3:dK (H.get b) (o+3)=.val .aA:=h4.at' 3 (by simp[lfC]);rcases hf with⟨rfl,rfl,rfl⟩|⟨rfl,h1,rfl⟩|⟨rfl,h1,h2⟩
  ·unfold sE at r1 r2;simp(disch:=first|go_size|omega)only[go_sem,seval,r0,r1,r2,r3,and_self];unfold qff;simp(disch:=first|go_size|omega)only[go_sem,rB,rI,rK,rL,rN,rS,r6,r0,qmr,and_self];unfold qj8 qnl;exact Ok.ret ⟨rfl,by(repeat(first|exact Fm.refl _ _|assumption|refine Fm.push ?_ _|refine Fm.lF ?_ (by first|omega|simp only[np,nq];omega)|refine Fm.aF ?_ _ _ (by first|omega|simp only[np,nq];omega)))⟩
  ·have n1:=h1.ne;have e1:=(hN j).r rl h1;unfold SS.v at e1;simp(disch:=first|go_size|omega)only[go_sem,rB,rI,rK,rL,rN,rS,r6,r0,r1,r2,r3,n1,and_self];unfold qff;simp(disch:=first|go_size|omega)only[go_sem,rB,rI,rK,rL,rN,rS,r6,r0,r1,qmr,e1];unfold qj8 qnl;exact Ok.ret ⟨rfl,by(repeat(first|exact Fm.refl _ _|assumption|refine Fm.push ?_ _|refine Fm.lF ?_ (by first|omega|simp only[np,nq];omega)|refine Fm.aF ?_ _ _ (by first|omega|simp only[np,nq];omega)))⟩
  ·have n1:=h1.ne;have n2:=h2.ne;have e1:=(hN j).r rl h1;have e2:=(hN j).r to h2;unfold SS.v at e1 e2;simp(disch:=first|go_size|omega)only[go_sem,seval,r0,r1,r2,r3,n1,n2];unfold qff;simp(disch:=first|go_size|omega)only[go_sem,rB,rI,rK,rL,rN,rS,r6,r0,r1,r2,qmr,e1,e2];unfold qj8 qnl;exact Ok.ret ⟨rfl,by(repeat(first|exact Fm.refl _ _|assumption|refine Fm.push ?_ _|refine Fm.lF ?_ (by first|omega|simp only[np,nq];omega)|refine Fm.aF ?_ _ _ (by first|omega|simp only[np,nq];omega)))⟩
 |node kd x y=>
  obtain⟨bl,ca,cb,rfl,hbl,hPb,kb,hca,hcb⟩:=hr;have r0:dK (H.get b) o=.val (.int .u8 (.ofNat kd)):=h4.at' 0 (by simp);have r1:dK (H.get b) (o+1)=.val (.str 0 0):=h4.at' 1 (by simp);have r2:dK (H.get b) (o+2)=.val (.str 0 0):=h4.at' 2 (by simp);have r3:dK (H.get b) (o+3)=.val (.sl bl 0 2 2 true):=h4.at' 3 (by simp);rcases hf.1 with rfl|rfl|rfl<;>(
   simp(disch:=first|omega|exact ti rfl|simp only[np,nq];first|done|omega)only[go_sem,rB,rI,rK,rL,rN,rS,r6,r0,r1,r2,r3,and_self];unfold q2c;unfold qff;simp(disch:=first|go_size|omega)only[go_sem,rB,rI,rK,rL,rN,rS,r6,r0,qmr,and_self];unfold qj8 qnl;exact Ok.ret ⟨rfl,by(repeat(first|exact Fm.refl _ _|assumption|refine Fm.push ?_ _|refine Fm.lF ?_ (by(first|go_size|omega))|refine Fm.aF ?_ _ _ (by(first|go_size|omega))))⟩)
theorem ziz(H:Hp)(b o:Nat)(f:FuncId)(x y:List AV):kL H (.ptr b o) (.fn f x y)=storeAt H b o [.fn f x y] .undef:=id rfl
theorem qz4(O:Ev.Call)(f:FuncId)(c args:List AV)(H:Hp):uG O (.fn f [] c) args H=O (.f f) (args++c) H:=id rfl
theorem aUA(a b:Nat):qE qC (iN a) [iN b]=.val (iN ((max a b))):=by
 show R0.val (.int .i64 (bif pO (.ofNat a) (.ofNat b)then .ofNat b else .ofNat a))=_;rw[qei];by_cases h:a<b
 ·rw[gp (by simp only[rq];omega),Nat.max_eq_right (by omega)];rfl
 ·rw[qi (by simp only[rq];omega),Nat.max_eq_left (by omega)];rfl
attribute [go_sem] ziz qz4 aUA
structure WkI(H:Hp)(nb db fb vb:Nat)(l:List (Nd×AV))(nv:AV)(d:Nat):Prop where
 n:H.get nb=aB 0 [nv]
 d:H.get db=aB 0 [iN d]
 f:H.get fb=aB 0 [iN 0]
 v:H.get vb=aB 0 [.fn 140 [] [.ptr nb 0,.ptr db 0,.ptr fb 0,.ptr vb 0]]
 o:nb<db/\db<fb/\fb<vb/\vb<H.nx
 gl:Gl 5 H nv l.length (l.flatMap kW)
 nin:∀ c,In nv c->vb<c
def WkS(nb db fb:Nat)(nv:AV)(c:Nat):Prop:=c=nb\/c=db\/c=fb\/In nv c
theorem WkI.no{nb db fb vb:Nat}{l:List (Nd×AV)}{nv:AV}{d:Nat}(h:WkI H nb db fb vb l nv d)(f:Fm No H H'):WkI H' nb db fb vb l nv d:=by obtain⟨o1,o2,o3,o4⟩:=h.o;exact⟨(f.keep (by omega)).trans h.n,(f.keep (by omega)).trans h.d,(f.keep (by omega)).trans h.f,(f.keep (by omega)).trans h.v,⟨o1,o2,o3,lL o4 f.nx⟩,h.gl.no f,h.nin⟩
theorem qx4(hC:aW C)(hj:1<=j){nb db fb vb:Nat}{l:List (Nd×AV)}{nv:AV}{d:Nat}(hI:WkI H nb db fb vb l nv d)(hi:i<l.length){x:AV}{xs:List AV}(hx:Gl 1 H x m xs):Ok (qno (C j) (.ptr nb 0) (iN i) x H) fun r H'=>r=.bool true/\∃ l',WkI H' nb db fb vb l' nv d/\l'.map Prod.fst=l.map Prod.fst/\Fm (In nv) H H':=by
 unfold qno;obtain⟨w,e,hw,_,_⟩:=znn hC (k:=j) hj hx;have e0:=hI.n;have ef:=qck (Gl.flat hI.gl) 63;obtain⟨b,o,H',i1,i2,g,f,nx⟩:=hI.gl.set1 hi (j:=3) (by omega) w;rw[zkp w l i hi]at g;obtain⟨o1,o2,o3,o4⟩:=hI.o;have nn:∀ c,c<=vb->¬ In nv c:=fun c hc h=>by have:=hI.nin c h;omega
 have fin:WkI H' nb db fb vb (l.set i (l[i].1,w)) nv d:=⟨(f.get _ (by omega) (nn _ (by omega))).trans hI.n,(f.get _ (by omega) (nn _ (by omega))).trans hI.d,(f.get _ (by omega) (nn _ (by omega))).trans hI.f,(f.get _ (by omega) (nn _ (by omega))).trans hI.v,
  ⟨o1,o2,o3,by omega⟩,by rw[xk];exact g,hI.nin⟩
 simp only[go_sem,e0];refine Ok.deE e ?_;rcases hw.is with⟨h,_⟩|⟨_,_,_,_,_,h,_⟩
 ·subst h;simp only[go_sem,e0,ef,i1,i2];exact Ok.ret ⟨rfl,_,fin,q4t hi _,f⟩
 ·subst h;simp only[go_sem,e0,ef,i1,i2];exact Ok.ret ⟨rfl,_,fin,q4t hi _,f⟩
def zne(C:Nat->Ev.Call)(r:Ru)(k:Nat):Prop:=
 ∀(b o lv:Nat) (neg:Bool) (H:Hp) (nb db fb vb:Nat) (l:List (Nd×AV)) (nv:AV) (d:Nat) (cs:List AV),WkI H nb db fb vb l nv d->yF H b o cs->jN (· < nb) H r cs->b<nb->lv+r.depth<=9->l.length+r.size<=32->d<=8 ->
  Ok (C k (.f 140) [.ptr b o,iN lv,.bool neg,.ptr nb 0,.ptr db 0,.ptr fb 0,.ptr vb 0] H) fun v H'=>v=.bool true/\∃ l' vQ d',WkI H' nb db fb vb l' vQ d' /\
   l'.map Prod.fst=l.map Prod.fst++r.nodes neg/\d'<=8/\Fm (WkS nb db fb nv) H H'/\∀ c,In vQ c->In nv c\/H.nx<=c
theorem qob(hC:aW C)(hN:mG C)(hj:2<=j){b o lv:Nat}{nb db fb vb:Nat}{l:List (Nd×AV)}{nv:AV}{d:Nat}{r:Ru}{kd:Nat}{rl to:SS}{av:AV}(hI:WkI H nb db fb vb l nv d)(h4:yF H b o [.int .u8 (.ofNat kd),.str rl.n rl.a,.str to.n to.a,av])(hr:jN (· < nb) H r [.int .u8 (.ofNat kd),.str rl.n rl.a,.str to.n to.a,av])(hf:r.Fit)(hb:b<nb)(hlv:lv<=8)(hll:l.length<32)(hd:d<=8){Q:pL}(hg:∀ H' w d',WkI H' nb db fb vb (l++[(⟨kd,rl,to,neg⟩,.aA)]) w d'->d'<=8->Fm (WkS nb db fb nv) H H'->(∀c,In w c->H.nx<=c) -> Ok (vq (aD av) H' fun a36 H=>qub (C j) (fun x10 H=>.ok x10 H) (fun bA H=>qno (C j) (.ptr nb 0) (iN (l.length)) bA H) (.ptr b o) (iN lv) (.bool neg) (.ptr nb 0) (.ptr vb 0) a36 .aA (iN 0) H) Q):Ok (zpt (C j) (.ptr b o) (iN lv) (.bool neg) (.ptr nb 0) (.ptr db 0) (.ptr fb 0) (.ptr vb 0) H) Q:=by
 unfold zpt;obtain⟨o1,o2,o3,o4⟩:=hI.o;have e0:=hI.n;have ed:=hI.d;have ef:=hI.f;have hl:=hI.gl.cO;have h32:¬ l.length=32:=by omega
 have h8:¬ 8<lv:=by omega
 have nn:∀ c,c<=vb->¬ In nv c:=fun c hc h=>by have:=hI.nin c h;omega
 simp(disch:=go_size)only[go_sem,rB,rI,rK,rL,rN,rS,r6,e0,hl,h32,h8];unfold zfc;simp(disch:=go_size)only[go_sem,rB,rI,rK,rL,rN,rS,r6,ed,ef];have f1:Fm (fun c=>c=db) H (H.put db (aB 0 [iN ((max d lv))])):=(Fm.refl _ _).put _ _ fun _=>rfl;refine Ok.ve (zui hC hN (k:=j) hj (h4.keep f1.nx (f1.get _ (by omega) (by omega))) (hr.iH f1 fun c hc h=>by omega) hf) ?_;rintro _ H2 ⟨rfl,f2⟩;have n2:H.nx<=H2.nx:=f2.nx;have d2:H2.get db=aB 0 [iN ((max d lv))]:=(f2.keep (show db<H.nx by omega)).trans (dS _ _ _);have kp2:∀ c,c<H.nx->c≠db->H2.get c=H.get c:=fun c h1 h2=>(f2.keep (show c<H.nx by omega)).trans (dG _ _ _ _ h2);have f22:=(kp2 fb (by omega) (by omega)).trans ef;simp only[go_sem,f22];unfold q2m;have n22:=(kp2 nb (by omega) (by omega)).trans e0;have v22:=(kp2 vb (by omega) (by omega)).trans hI.v;have hb2:=kp2 b (by omega) (by omega);have r0:dK (H2.get b) o=.val (.int .u8 (.ofNat kd)):=by rw[hb2];exact h4.at' 0 (by simp)
 have r1:dK (H2.get b) (o+1)=.val (.str rl.n rl.a):=by rw[hb2];exact h4.at' 1 (by simp)
 have r2:dK (H2.get b) (o+2)=.val (.str to.n to.a):=by rw[hb2];exact h4.at' 2 (by simp)
 have r3:dK (H2.get b) (o+3)=.val av:=by rw[hb2];exact h4.at' 3 (by simp)
 simp(disch:=omega)only[go_sem,seval,n22,hl,r0,r1,r2];have g2:Gl 5 ((Hp.mk (H2.put fb (aB 0 [iN 0])).t (H2.nx+18)).put (H2.nx+15) (aB 0 [.int .u8 (.ofNat kd),.str rl.n rl.a,.str to.n to.a,.aA,.bool neg])) nv l.length (l.flatMap kW):=by refine hI.gl.keep (show H.nx<=H2.nx+18 by omega) fun c hc hl=>?_;have:=hI.nin c hc;rw[dG _ _ _ _ (by omega)];show(H2.put fb _).get c=_;rw[dG _ _ _ _ (by omega)];exact kp2 c hl (by omega)
 obtain⟨H3,e3,g3,q3,f3,n3⟩:=g2.append (k:=1) (w:=72) (x:=[.int .u8 (.ofNat kd),.str rl.n rl.a,.str to.n to.a,.aA,.bool neg]) (by omega) rfl (by omega) (by omega);simp only[nq]at e3 g3 q3 n3 f3;refine Ok.deE e3 ?_;have kp3:∀ c,c<H2.nx->c≠fb->¬ In nv c->H3.get c=H2.get c:=fun c h1 h2 h3=>by refine(f3.get c (show c<H2.nx+18 by omega) h3).trans ?_;rw[dG _ _ _ _ (by omega)];show(H2.put fb _).get c=_;rw[dG _ _ _ _ h2]
 have f33:H3.get fb=aB 0 [iN 0]:=by refine(f3.get fb (show fb<H2.nx+18 by omega) (nn _ (by omega))).trans ?_;rw[dG _ _ _ _ (by omega)];exact dS _ _ _
 have n33:=(kp3 nb (by omega) (by omega) (nn _ (by omega))).trans n22;have d33:=(kp3 db (by omega) (by omega) (nn _ (by omega))).trans d2;have v33:=(kp3 vb (by omega) (by omega) (nn _ (by omega))).trans v22;have hb3:=kp3 b (by omega) (by omega) (nn _ (by omega));have r33:dK (H3.get b) (o+3)=.val av:=by rw[hb3];exact r3
 simp(disch:=omega)only[go_sem,seval,n33,r33];refine hg _ _ (max d lv) ⟨dS _ _ _,?_,?_,?_,⟨o1,o2,o3,show vb<H3.nx by omega⟩,?_,?_⟩ (by omega) ⟨show H.nx<=H3.nx by omega,fun c hc hs=>?_⟩ ?_
 ·rw[dG _ _ _ _ (by omega)];exact d33
 ·rw[dG _ _ _ _ (by omega)];exact f33
 ·rw[dG _ _ _ _ (by omega)];exact v33
 ·rw[lq,uA,uB];exact g3.keep (lg _) fun c hc _=>by obtain⟨_,_,_,_,hc⟩:=hc;injection hc with hc;rw[dG _ _ _ _ (by omega)]
 ·rintro c ⟨_,_,_,_,hc⟩;injection hc with hc;omega
 ·unfold WkS at hs;rw[dG _ _ _ _ (fun h=>hs (.inl h))];exact(kp3 c (by omega) (fun h=>hs (.inr (.inr (.inl h)))) fun h=>hs (.inr (.inr (.inr h)))).trans (kp2 c hc fun h=>hs (.inr (.inl h)))
 ·rintro c ⟨_,_,_,_,hc⟩;injection hc with hc;omega
theorem qr8(hC:aW C){r:Ru}(hR:zne C r j){g:AV->pD}{Q:pL}{b o lv bl kd t d nb db fb vb:Nat}{l:List (Nd×AV)}{nv x:AV}{xs ca cb cc:List AV}(hI:WkI H nb db fb vb l nv d)(hx:Gl 1 H x t xs)(ht:t<2)(hxd:∀ c,In x c->vb<c/\¬ In nv c)(h4:yF H b o [.int .u8 (.ofNat kd),.str 0 0,.str 0 0,.sl bl 0 2 2 true])(hb:b<nb)(hbl:bl<nb)(kb:H.get bl=aB 0 (ca++cb))(la:ca.length=4)(lb:cb.length=4)(hcc:cc=if t=0 then ca else cb)(hrc:jN (· < nb) H r cc)(hlv:lv+1+r.depth<=9)(hll:l.length+r.size<=32)(hd:d<=8)(hg:∀(x':AV) (H':Hp) (l':List (Nd×AV)) (vQ:AV) (d':Nat) (xs':List AV),WkI H' nb db fb vb l' vQ d'->l'.map Prod.fst=l.map Prod.fst++r.nodes (neg||(decide (kd=6)&&decide (t=1)))->d'<=8 -> Fm (fun c=>WkS nb db fb nv c\/In x c) H H'->(∀c,In vQ c->In nv c\/H.nx<=c)->Gl 1 H' x' (t+1) xs'->(∀c,In x' c->vb<c/\¬ In vQ c/\H.nx<=c)->Ok (g x' (iN ((t+1))) H') Q):Ok (q2n (C j) qr g (.ptr b o) (iN lv) (.bool neg) (.ptr nb 0) (.ptr vb 0) x (iN t) H) Q:=by
 unfold q2n;obtain⟨o1,o2,o3,o4⟩:=hI.o;have e0:=hI.n;have hl:=hI.gl.cO;simp(disch:=go_size)only[go_sem,rB,rI,rK,rL,rN,rS,r6,e0,hl];have fp:Fm No H (aO H (aB 0 [iN (l.length)])):=by exact jY
 obtain⟨H2,e2,g2,q2,f2,n2⟩:=(hx.no fp).append (k:=1) (w:=8) (x:=[iN (l.length)]) (by omega) rfl (by omega) (by omega);simp only[np]at n2;refine Ok.veE e2 ?_;have fA:Fm (In x) H H2:=(fp.mono (T:=In x) (fun _ _ h=>absurd h id)).then f2 fun _ _ h=>h;have kp:∀ c,c<H.nx->¬ In x c->H2.get c=H.get c:=fun c h1 h2=>fA.get c h1 h2;have nix:∀ c,c<=vb->¬ In x c:=fun c hc h=>by have:=(hxd c h).1;omega
 have I2:WkI H2 nb db fb vb l nv d:=⟨(kp _ (by omega) (nix _ (by omega))).trans hI.n,(kp _ (by omega) (nix _ (by omega))).trans hI.d,(kp _ (by omega) (nix _ (by omega))).trans hI.f,(kp _ (by omega) (nix _ (by omega))).trans hI.v,⟨o1,o2,o3,by omega⟩,
  hI.gl.keep fA.nx (fun c hc hl=>kp c hl fun h=>(hxd c h).2 hc),hI.nin⟩
 have v2:=I2.v;have hb2:=kp b (by omega) (nix _ (by omega));have r0:dK (H2.get b) o=.val (.int .u8 (.ofNat kd)):=by rw[hb2];exact h4.at' 0 (by simp)
 have r3:dK (H2.get b) (o+3)=.val (.sl bl 0 2 2 true):=by rw[hb2];exact h4.at' 3 (by simp)
 have kb2:=(kp bl (by omega) (nix _ (by omega))).trans kb;have a4:yF H2 bl (t*4) cc:=⟨by omega,fun i hi=>by
  rw[kb2,qb0];have:(ca++cb)[t*4+i]? =some cc[i]:=by
   by_cases h0:t=0
   ·subst h0;subst hcc;rw[lAL,qf,uf (by omega),lh hi]
   ·have h1:t=1:=by omega
    subst h1;subst hcc;rw[uC (by omega),show 1*4+i-ca.length=i by omega,lh hi]
  rw[this]⟩
 have aSU:jN (· < nb) H2 r cc:=hrc.iH fA fun c hc=>nix c (by omega);have O:∀ n:Bool,Ok (C j (.f 140) [.ptr bl (t*4),iN ((lv+1)),.bool n,.ptr nb 0,.ptr db 0,.ptr fb 0,.ptr vb 0] H2) _:=fun n=>hR bl (t*4) (lv+1) n H2 nb db fb vb l nv d cc I2 a4 aSU hbl (by omega) hll hd;have fin:∀(n:Bool),n=(neg||(decide (kd=6)&&decide (t=1)))->∀(H3:Hp) (l':List (Nd×AV)) (vQ:AV) (d':Nat),WkI H3 nb db fb vb l' vQ d'->l'.map Prod.fst=l.map Prod.fst++r.nodes n->d'<=8->Fm (WkS nb db fb nv) H2 H3->(∀c,In vQ c->In nv c\/H2.nx<=c) ->
   Ok (g (.sl (aO H (aB 0 [iN (l.length)])).nx 0 (t+1) (t+1) false) (iN ((t+1))) H3) Q:=by
  rintro _ rfl H3 l' vQ d' uZ hl3 hd3 f3 yV;have hnew:¬ WkS nb db fb nv (H.nx+1):=fun h=>by
   rcases h with h|h|h|h
   ·omega
   ·omega
   ·omega
   ·have:=hI.gl.lt h;omega
  refine hg _ H3 l' vQ d' _ uZ hl3 hd3 ((fA.mono fun _ _ h=>.inr h).then f3 fun _ _ h=>.inl h) (fun c hc=>?_) (g2.keep f3.nx fun c hc hlt=>f3.get c hlt fun h=>?_) fun c hc=>?_
  ·rcases yV c hc with h|h
   ·exact .inl h
   ·omega
  ·obtain⟨_,_,_,_,hc⟩:=hc;injection hc with hc;rw[np]at hc;simp_all
  ·obtain⟨_,_,_,_,hc⟩:=hc;injection hc with hc;rw[np]at hc;refine⟨by omega,fun h=>?_,by omega⟩;rcases yV c h with h|h
   ·have:=hI.gl.lt h;omega
   ·omega
 cases neg
 ·by_cases h6:kd=6
  ·have h6t:=dh h6;simp(disch:=omega)only[go_sem,v2,r0,r3,h6t];refine Ok.mI (O (decide (t=1))) ?_;rintro _ H3 ⟨rfl,l',vQ,d',uZ,hl3,hd3,f3,yV⟩;simp only[go_sem];unfold qua;simp(disch:=omega)only[go_sem];exact fin (decide (t=1)) (by simp[h6]) H3 l' vQ d' uZ hl3 hd3 f3 yV
  ·simp(disch:=omega)only[go_sem,v2,r0,r3,h6];refine Ok.mI (O false) ?_;rintro _ H3 ⟨rfl,l',vQ,d',uZ,hl3,hd3,f3,yV⟩;unfold qua;simp(disch:=omega)only[go_sem];exact fin false (by simp[h6]) H3 l' vQ d' uZ hl3 hd3 f3 yV
 ·simp(disch:=omega)only[go_sem,v2,r0,r3];refine Ok.mI (O true) ?_;rintro _ H3 ⟨rfl,l',vQ,d',uZ,hl3,hd3,f3,yV⟩;unfold qua;simp(disch:=omega)only[go_sem];exact fin true (by simp) H3 l' vQ d' uZ hl3 hd3 f3 yV
theorem w37(O:Ev.Call)(qr:pD)(q:pD)(a b c d e f:AV)(n:Nat):qt9 O qr q a b c d e f (n+1)=qj9 O qr q a b c d e f (qt9 O qr q a b c d e f n):=rfl
theorem zre(hC:aW C)(hN:mG C):∀(r:Ru) (k:Nat),r.Fit->r.depth+2<=k->zne C r k:=by
 intro r
 induction r with
 |leaf kd rl to=>intro k hf hk b o lv neg H nb db fb vb l nv d cs hI h4 hr hb hlv hll hd;unfold Ru.depth at hk hlv;unfold Ru.size at hll;obtain⟨j,rfl⟩:∃ j,k=j+1:=⟨k-1,by omega⟩;rw[(hC j).zCo];have hcs:cs=lfC kd rl to:=hr;subst hcs;refine qob hC hN (r:=.leaf kd rl to) (by omega) hI h4 hr hf hb (by omega) (by omega) hd fun H' w d' hI' hd' f' hw=>?_;unfold qub;obtain⟨m,hm⟩:∃ m,bX=m+1:=⟨999999,by rw[dI]⟩;rw[dB,hm];simp only[go_sem];rw[w37];unfold qj9;refine(qx4 hC (j:=j) (by omega) hI' (i:=l.length) (by simp) (Gl.nil 1 H')).mono ?_;rintro r H2 ⟨rfl,l',hI2,hl2,f2⟩;refine⟨rfl,l',w,d',hI2,by rw[hl2];simp[Ru.nodes],hd',f'.then f2 fun c hc h=>?_,fun c hc=>.inr (hw c hc)⟩;have:=hw c h;omega
 |node kd x y ihx ihy=>
  intro k hf hk b o lv neg H nb db fb vb l nv d cs hI h4 hr hb hlv hll hd;unfold Ru.depth at hk hlv;unfold Ru.size at hll;obtain⟨j,rfl⟩:∃ j,k=j+1:=⟨k-1,by omega⟩;rw[(hC j).zCo];have hr':=hr;obtain⟨bl,ca,cb,rfl,hbl,hPb,kb,hca,hcb⟩:=hr;have la:ca.length=4:=by obtain⟨_,_,_,_,h⟩:=hca.four;rw[h];rfl
  have lb:cb.length=4:=by obtain⟨_,_,_,_,h⟩:=hcb.four;rw[h];rfl
  refine qob hC hN (r:=.node kd x y) (rl:=sE) (to:=sE) (by omega) hI h4 hr' hf hb (by omega) (by omega) hd fun H1 w d1 hI1 hd1 f1 hw=>?_;obtain⟨o1,o2,o3,o4⟩:=hI.o;have nS:∀ c,c<nb->¬ WkS nb db fb nv c:=fun c hc h=>by
   rcases h with h|h|h|h
   ·omega
   ·omega
   ·omega
   ·have:=hI.nin c h;omega
  unfold qub;obtain⟨m,hm⟩:∃ m,bX=m+3:=⟨999997,by rw[dI]⟩;rw[dB,hm];simp only[go_sem];rw[w37];unfold qj9;simp only[go_sem];have nn:∀ c,¬In AV.aA c:=fun c h=>by obtain⟨_,_,_,_,h⟩:=h;cases h
  have l1:(l++[((⟨kd,sE,sE,neg⟩:Nd),AV.aA)]).length=l.length+1:=by simp
  refine qr8 hC (r:=x) (t:=0) (ca:=ca) (cb:=cb) (cc:=ca) (ihx j hf.2.1 (by omega)) hI1 (Gl.nil 1 H1) (by omega) (fun c h=>absurd h (nn c)) (h4.keep f1.nx (f1.get _ (by omega) (nS _ hb))) hb hPb ((f1.get _ hbl (nS _ hPb)).trans kb) la lb rfl (hca.iH f1 fun c hc=>nS c hc) (by omega) (by rw[l1];omega) hd1 ?_;intro x2 H2 l2 nv2 d2 xs2 hI2 hl2 hd2 f2 hn2 gx2 hx2;have l2n:l2.length=l.length+1+x.size:=by have:=congrArg List.length hl2;simp only[qc,lq,pg,uo,qce]at this;omega
  have n1:=f1.nx;have n2:=f2.nx;have nS2:∀ c,c<nb->¬(WkS nb db fb w c\/In AV.aA c):=fun c hc h=>by
   rcases h with(h|h|h|h)|h
   ·omega
   ·omega
   ·omega
   ·have:=hI1.nin c h;omega
   ·exact nn c h
  rw[w37];unfold qj9;simp only[go_sem];refine qr8 hC (r:=y) (t:=1) (ca:=ca) (cb:=cb) (cc:=cb) (ihy j hf.2.2 (by omega)) hI2 gx2 (by omega) (fun c h=>⟨(hx2 c h).1,(hx2 c h).2.1⟩) ((h4.keep f1.nx (f1.get _ (by omega) (nS _ hb))).keep n2 (f2.get _ (by omega) (nS2 _ hb))) hb hPb ((f2.get _ (by omega) (nS2 _ hPb)).trans ((f1.get _ hbl (nS _ hPb)).trans kb)) la lb rfl ((hcb.iH f1 fun c hc=>nS c hc).iH f2 fun c hc=>nS2 c hc) (by omega) (by omega) hd2 ?_;intro x3 H3 l3 nv3 d3 xs3 uZ hl3 hd3 f3 yV gx3 hx3;rw[w37];unfold qj9;have l3n:l3.length=l2.length+y.size:=by have:=congrArg List.length hl3;simp only[qc,lq,qce]at this;omega
  have aEc:∀ c,In nv3 c->H.nx<=c:=fun c hc=>by
   rcases yV c hc with h|h
   ·rcases hn2 c h with h|h
    ·exact hw c h
    ·omega
   ·omega
  refine(qx4 hC (j:=j) (by omega) uZ (i:=l.length) (by omega) gx3).mono ?_;rintro r H4 ⟨rfl,l',hI4,hl4,f4⟩;refine⟨rfl,l',nv3,d3,hI4,?_,hd3,((f1.then f2 fun c hc h=>?_).then f3 fun c hc h=>?_).then f4 fun c hc h=>?_,fun c hc=>.inr (aEc c hc)⟩
  ·rw[hl4,hl3,hl2];simp[Ru.nodes]
  ·rcases h with(h|h|h|h)|h
   ·exact .inl h
   ·exact .inr (.inl h)
   ·exact .inr (.inr (.inl h))
   ·have:=hw c h;omega
   ·simp_all
  ·rcases h with(h|h|h|h)|h
   ·exact .inl h
   ·exact .inr (.inl h)
   ·exact .inr (.inr (.inl h))
   ·rcases hn2 c h with h|h
    ·have:=hw c h;omega
    ·omega
   ·have:=(hx2 c h).2.2;omega
  ·have:=aEc c h;omega
theorem zut(hC:aW C)(hk:1<=k){v:AV}(h:Gl 5 H v n l):∃w,C k (.f 142) [v] H=.ok w H/\Gl 5 H w n l/\gW w=.val (iN n)/\(∀b,In w b->In v b):=by obtain⟨j,rfl⟩:=aS hk;obtain⟨w,e,h1,h2,h3⟩:=h.clip;refine⟨w,?_,h1,h2,h3⟩;rw[(hC j).zCp];unfold zCp zy4;simp only[go_sem,h.cO,e]
structure Ru.Rt(r:Ru):Prop where
 fit:r.Fit
 dp:r.depth<=8
 sz:r.size<=32
theorem zin(hC:aW C)(hN:mG C)(hk:12<=k){r:Ru}{P:Nat->Prop}(h4:yF H b 0 cs)(hr:jN P H r cs)(hf:r.Rt):Ok (C k (.f 110) [.ptr b 0] H) fun v H'=>∃ nv l d,v=.aX [nv,iN d,iN 0]/\Ac 5 kW H H' nv l/\l.map Prod.fst=r.nodes false:=by
 obtain⟨j,rfl⟩:=aS hk;rw[(hC j).zBw];unfold zBw zzi;simp(disch:=go_size)only[go_sem,rB,rI,rK,rL,rN,rS,r6];generalize hH1:(aO ((aO (aO (aO H (aB 0 [.aA])) (aB 0 [iN 0])) (aB 0 [iN 0])).put (H.nx+1+1) (aB 0 [iN 0])) (aB 0 [.jH])).put (H.nx+1+1+1) (aB 0 [.fn 140 [] [.ptr H.nx 0,.ptr (H.nx+1) 0,.ptr (H.nx+1+1) 0,.ptr (H.nx+1+1+1) 0]])=H1;have f1:Fm No H H1:=by rw[<-hH1];(repeat(first|exact Fm.refl _ _|assumption|refine Fm.push ?_ _|refine Fm.lF ?_ (by go_size)|refine Fm.aF ?_ _ _ (by go_size)))
 have n1:H1.nx=H.nx+4:=by rw[<-hH1];rfl
 have k0:H1.get H.nx=aB 0 [.aA]:=by rw[<-hH1];simp(disch:=first|go_size|omega)only[go_sem,rB,rI,rK,rL,rN,rS,r6]
 have k1:H1.get (H.nx+1)=aB 0 [iN 0]:=by rw[<-hH1];simp(disch:=first|go_size|omega)only[go_sem,rB,rI,rK,rL,rN,rS,r6]
 have k2:H1.get (H.nx+1+1)=aB 0 [iN 0]:=by rw[<-hH1];simp(disch:=first|go_size|omega)only[go_sem,rB,rI,rK,rL,rN,rS,r6]
 have k3:H1.get (H.nx+1+1+1)=aB 0 [.fn 140 [] [.ptr H.nx 0,.ptr (H.nx+1) 0,.ptr (H.nx+1+1) 0,.ptr (H.nx+1+1+1) 0]]:=by rw[<-hH1];exact dS _ _ _
 have hI:WkI H1 H.nx (H.nx+1) (H.nx+1+1) (H.nx+1+1+1) [] .aA 0:=⟨k0,k1,k2,k3,⟨by omega,by omega,by omega,by omega⟩,Gl.nil 5 _,fun c h=>by obtain⟨_,_,_,_,h⟩:=h;cases h⟩;have hlt:=h4.lt;have hr2:jN (· < H.nx) H1 r cs:=(hr.mono (Q:=fun c=>c<H.nx) fun c h _=>h).fm f1;refine Ok.ve (zre hC hN r j hf.fit (by have:=hf.dp;omega) b 0 1 false H1 _ _ _ _ [] .aA 0 cs hI (h4.fm f1) (hr2) hlt (by have:=hf.dp;omega) (by have:=hf.sz;simpa using this) (by omega)) ?_;rintro _ H2 ⟨rfl,l,nv,d,hI2,hl2,hd2,f2,hn2⟩;have n2:=f2.nx;have e0:=hI2.n;have ed:=hI2.d;have ef:=hI2.f;simp(disch:=go_size)only[go_sem,rB,rI,rK,rL,rN,rS,r6];unfold zfz;simp(disch:=go_size)only[go_sem,rB,rI,rK,rL,rN,rS,r6,ef];unfold zf0;obtain⟨w,e,hw,_,hwi⟩:=zut hC (k:=j) (by omega) hI2.gl;have hfl:=qck (Gl.flat hI2.gl) 63;simp(disch:=go_size)only[go_sem,rB,rI,rK,rL,rN,rS,r6,e0,ed];refine Ok.deE e ?_;have fA:Fm No H H2:=f1.then f2 fun c hc h=>by
  rcases h with h|h|h|⟨_,_,_,_,h⟩
  ·omega
  ·omega
  ·omega
  ·cases h
 have inw:∀ c,In w c->H.nx+4<=c:=fun c hc=>by
  rcases hn2 c (hwi c hc)with⟨_,_,_,_,h⟩|h
  ·cases h
  ·omega
 have gk:∀(x y:bO),Gl 5 ((H2.put H.nx x).put (H.nx+1) y) w l.length (l.flatMap kW):=fun x y=>hw.keep (lg _) fun c hc _=>by have:=inw c hc;rw[dG _ _ _ _ (by omega),dG _ _ _ _ (by omega)]
 have fk:∀(x y:bO),Fm No H ((H2.put H.nx x).put (H.nx+1) y):=fun x y=>(fA.aF _ _ (by omega)).aF _ _ (by omega);rcases hw.is with⟨h,_⟩|⟨_,_,_,_,_,h,_⟩
 ·subst h;simp(disch:=go_size)only[go_sem,rB,rI,rK,rL,rN,rS,r6,e0,ed,hfl];exact Ok.ret ⟨_,l,d,rfl,⟨gk _ _,fk _ _,fun c hc=>by have:=inw c hc;omega⟩,by simpa using hl2⟩
 ·subst h;simp(disch:=go_size)only[go_sem,rB,rI,rK,rL,rN,rS,r6,e0,ed,hfl];exact Ok.ret ⟨_,l,d,rfl,⟨gk _ _,fk _ _,fun c hc=>by have:=inw c hc;omega⟩,by simpa using hl2⟩
theorem yF.push:yF (aO H (aB 0 cs)) H.nx 0 cs:=⟨by rw[np];omega,fun j h=>by rw[lC,qb0,qf,lh h]⟩
theorem qp5(hC:aW C)(hN:mG C)(hk:13<=k){r:Ru}{P:Nat->Prop}(hr:jN P H r cs)(hf:r.Rt):Ok (C k (.f 85) [.agg cs] H) fun v H'=>∃ nv l,v=.aX [nv,iN 0]/\Ac 5 kW H H' nv l/\l.map Prod.fst=r.nodes false:=by
 obtain⟨j,rfl⟩:=aS hk;rw[(hC j).zBk];unfold zBk zzs;obtain⟨c0,c1,c2,c3,hcs⟩:=hr.four;subst hcs;have f:Fm No H (aO H (aB 0 [c0,c1,c2,c3])):=by exact jY
 refine Ok.ve (zin hC hN (k:=j) (by omega) yF.push (hr.fm f) hf) ?_;rintro _ H1 ⟨nv,l,d,rfl,ha,hl⟩;exact Ok.ret ⟨nv,l,rfl,ha.trans f,hl⟩
theorem zcg(hC:aW C)(hN:mG C)(hk:13<=k){r:Ru}{P:Nat->Prop}(hr:jN P H r cs)(hf:r.Rt):Ok (C k (.f 165) [.agg cs] H) fun v H'=>v=iN 0/\Fm No H H':=by
 obtain⟨j,rfl⟩:=aS hk;rw[(hC j).zCx];unfold zCx zyy;obtain⟨c0,c1,c2,c3,hcs⟩:=hr.four;subst hcs;have f:Fm No H (aO H (aB 0 [c0,c1,c2,c3])):=by exact jY
 refine Ok.ve (zin hC hN (k:=j) (by omega) yF.push (hr.fm f) hf) ?_;rintro _ H1 ⟨nv,l,d,rfl,ha,hl⟩;exact Ok.ret ⟨rfl,f.trans ha.fm⟩
structure vG(X:List aN):Prop where
 n:X.length<=16
 r:∀ g∈X,g.gs.length<=16/\Nm g.name
 x:∀ g∈X,∀x∈g.gs,x.r.types.length<=8/\Nm x.r.name/\x.r.rule.Rt/\∀ t∈x.r.types,Nm t.sp/\(t.rl=sE\/Nm t.rl)
theorem vG.sml(h:vG X):yD X:=⟨by have:=h.n;omega,fun g hg=>by have:=(h.r g hg).1;omega,fun g hg x hx=>by have:=(h.x g hg x hx).1;omega⟩
theorem qow(hN:mG C){j:Nat}(hj:1<=j){ts:List iQ}{tv:AV}{Hb:Hp}(ht:Rs 2 tC Hb tv ts)(htl:ts.length<=8)(hnm:∀ t∈ts,Nm t.sp/\(t.rl=sE\/Nm t.rl)){Q:pL}{q:pH}{qr:pD}(hq:∀ H,Fm No Hb H->Ok (q H) Q):∀(k i:Nat) (H:Hp),i<=ts.length->ts.length-i<k->Fm No Hb H->Ok (q6q (C j) qr q tv (iN (ts.length)) k (iN i) H) Q
 |0,i,_,_,h,_=>by omega
 |k+1,i,H,hi,hk,hf=>by
  show Ok (zfg (C j) _ _ _ _ (q6q (C j) _ _ _ _ k) _ H) Q;unfold zfg;obtain⟨m,rfl⟩:∃ m,j=m+1:=⟨j-1,by omega⟩;by_cases hlt:i<ts.length
  ·simp only[go_sem,hlt];unfold zff;have h1:=ht.fm hf;obtain⟨b1,o1,e1,e2,_,e3,e4⟩:=h1.at' i hlt;have hn:=hnm ts[i] (lu hlt);have m1:=(hN m).p _ hn.1;unfold tC SS.v at e3;unfold SS.v at m1;by_cases hz:ts[i].rl.n=0/\ts[i].rl.a=0
   ·have hzt:=dh hz;simp(disch:=first|omega|exact ti rfl)only[go_sem,seval,e1,e3,m1,hzt];unfold q2o;simp(disch:=go_size)only[go_sem,rB,rI,rK,rL,rN,rS,r6];exact qow hN hj ht htl hnm hq k (i+1) _ (by omega) (by omega) (hf.trans (by(repeat(first|exact Fm.refl _ _|assumption|refine Fm.push ?_ _|refine Fm.lF ?_ (by go_size)|refine Fm.aF ?_ _ _ (by go_size)))))
   ·have m2:=(hN m).p ts[i].rl (by
     rcases hn.2 with h|h
     ·exact absurd ((sJ _ _).1 h) hz
     ·exact h)
    unfold SS.v at m2;simp(disch:=first|omega|exact ti rfl)only[go_sem,seval,e1,e3,m1,hz,m2];unfold q2o;simp(disch:=go_size)only[go_sem,rB,rI,rK,rL,rN,rS,r6];exact qow hN hj ht htl hnm hq k (i+1) _ (by omega) (by omega) (hf.trans (by(repeat(first|exact Fm.refl _ _|assumption|refine Fm.push ?_ _|refine Fm.lF ?_ (by go_size)|refine Fm.aF ?_ _ _ (by go_size)))))
  ·simp only[go_sem,hlt];exact hq H hf
theorem z3t(hC:aW C)(hN:mG C)(hk:14<=k){g:aR}(hg:kR H g)(hp:g.r.types.length<=8/\Nm g.r.name/\g.r.rule.Rt/\∀ t∈g.r.types,Nm t.sp/\(t.rl=sE\/Nm t.rl)):Ok (C k (.f 131) [.agg (fI g)] H) fun v H'=>v=iN 0/\Fm No H H':=by
 obtain⟨j,rfl⟩:∃ j,k=j+1+1:=⟨k-2,by omega⟩;rw[(hC (j+1)).zCi];unfold zCi zza;obtain⟨c0,c1,c2,c3,hcs⟩:=hg.ru.four;have hrc:fI g=[.str g.r.name.n g.r.name.a,g.tv,c0,c1,c2,c3]:=by unfold fI;rw[hcs];rfl
 rw[hrc];have m1:=(hN j).p _ hp.2.1;unfold SS.v at m1;have h8:¬ 8<g.r.types.length:=by omega
 have f:Fm No H (aO H (aB 0 [.str g.r.name.n g.r.name.a,g.tv,c0,c1,c2,c3])):=by exact jY
 have ht:=hg.ty.fm f;have hl:=ht.len;simp(disch:=go_size)only[go_sem,rB,rI,rK,rL,rN,rS,r6,m1,hl,h8];unfold zfe;simp(disch:=go_size)only[go_sem,rB,rI,rK,rL,rN,rS,r6,hl];unfold zvr;rw[dB];refine qow hN (by omega) ht hp.1 hp.2.2.2 (fun H2 f2=>?_) bX 0 _ (gq _) (by rw[dI];omega) (Fm.refl _ _);unfold zfd;have k2:H2.get H.nx=aB 0 [.str g.r.name.n g.r.name.a,g.tv,c0,c1,c2,c3]:=(f2.keep (by simp only[np,nq];omega)).trans (lC _ _);simp only[go_sem,k2];have mE:=hg.ru.fm (f.trans f2);rw[hcs]at mE;refine Ok.ve (zcg hC hN (k:=j+1) (by omega) mE hp.2.2.1) ?_;rintro _ H3 ⟨rfl,f3⟩;exact Ok.ret ⟨rfl,(f.trans f2).trans f3⟩
theorem qoz(hC:aW C)(hN:mG C){j:Nat}(hj:14<=j){g:aN}{Hb:Hp}(hg:xZ Hb g)(hgl:g.gs.length<=16)(hp:∀ x∈g.gs,x.r.types.length<=8/\Nm x.r.name/\x.r.rule.Rt/\∀ t∈x.r.types,Nm t.sp/\(t.rl=sE\/Nm t.rl)){Q:pL}{q:pH}{qr:pD}(hq:∀ H,Fm No Hb H->Ok (q H) Q):∀(k i:Nat) (H:Hp),i<=g.gs.length->g.gs.length-i<k->Fm No Hb H->Ok (quf (C j) qr q g.rv (iN (g.gs.length)) k (iN i) H) Q
 |0,i,_,_,h,_=>by omega
 |k+1,i,H,hi,hk,hf=>by
  show Ok (q2w (C j) _ _ _ _ (quf (C j) _ _ _ _ k) _ H) Q;unfold q2w;by_cases hlt:i<g.gs.length
  ·simp only[go_sem,hlt];unfold zf5;have h1:=hg.fm hf;obtain⟨b1,o1,e1,e2,_,_,_,e6⟩:=h1.at' i hlt;have hm:=lu hlt;have hr:=h1.rel _ hm;obtain⟨c0,c1,c2,c3,hcs⟩:=hr.ru.four;have hrc:fI g.gs[i]=[.str g.gs[i].r.name.n g.gs[i].r.name.a,g.gs[i].tv,c0,c1,c2,c3]:=by unfold fI;rw[hcs];rfl
   have f2:Fm No H ((aO H (aB 0 [.str 0 0,.aA,.int .u8 (.ofNat 0),.str 0 0,.str 0 0,.aA])).put H.nx (aB 0 (fI g.gs[i]))):=by exact oJ
   have O:=z3t hC hN (k:=j) hj (hr.fm f2) (hp _ hm);rw[hrc]at e6 f2 O;simp(disch:=omega)only[go_sem,seval,e1,e6];refine Ok.ve O ?_;rintro _ H3 ⟨rfl,f3⟩;unfold zf6;simp(disch:=go_size)only[go_sem,rB,rI,rK,rL,rN,rS,r6];exact qoz hC hN hj hg hgl hp hq k (i+1) _ (by omega) (by omega) ((hf.trans f2).trans f3)
  ·simp only[go_sem,hlt];exact hq H hf
theorem qsl(hC:aW C)(hN:mG C){j:Nat}(hj:14<=j){sv:AV}{X:List aN}{Hb:Hp}(hX:bS Hb sv X)(hP:vG X){Q:pL}{q:pH}{qr:pD}(hq:∀ H,Fm No Hb H->Ok (q H) Q):∀(k i:Nat) (H:Hp),i<=X.length->X.length-i<k->Fm No Hb H->Ok (qxp (C j) qr q sv (iN (X.length)) k (iN i) H) Q
 |0,i,_,_,h,_=>by omega
 |k+1,i,H,hi,hk,hf=>by
  show Ok (zf8 (C j) _ _ _ _ (qxp (C j) _ _ _ _ k) _ H) Q;unfold zf8;obtain⟨m,rfl⟩:∃ m,j=m+1:=⟨j-1,by omega⟩;have hn:=hP.n;by_cases hlt:i<X.length
  ·simp only[go_sem,hlt];unfold zf3;have h1:=hX.fm hf;obtain⟨b1,o1,e1,e2,_,e3,_⟩:=h1.rs.at' i hlt;have hm:=lu hlt;unfold pX SS.v at e3;have hr:=hP.r _ hm;have m1:=(hN m).p _ hr.2;unfold SS.v at m1;have hsp:=h1.sp _ hm;have hl:=hsp.len;have h16:¬ 16<X[i].gs.length:=by omega
   simp(disch:=go_size)only[go_sem,rB,rI,rK,rL,rN,rS,r6,e1,e3,m1,hl,h16];unfold zf4;simp(disch:=go_size)only[go_sem,rB,rI,rK,rL,rN,rS,r6,hl];unfold zf9;rw[dB];have f2:Fm No H ((aO H (aB 0 [.str 0 0,.aA])).put H.nx (aB 0 [.str X[i].name.n X[i].name.a,X[i].rv])):=by exact oJ
   refine qoz hC hN hj (hsp.fm f2) hr.1 (hP.x _ hm) (fun H3 f3=>?_) bX 0 _ (gq _) (by rw[dI];omega) (Fm.refl _ _);unfold zf1;simp(disch:=go_size)only[go_sem,rB,rI,rK,rL,rN,rS,r6];exact qsl hC hN hj hX hP hq k (i+1) _ (by omega) (by omega) ((hf.trans f2).trans f3)
  ·simp only[go_sem,hlt];exact hq H hf
theorem znj(hC:aW C)(hN:mG C)(hk:15<=k)(hX:bS H sv X)(hP:vG X):Ok (C k (.f 107) [.agg [sv]] H) fun v H'=>v=iN 0/\Fm No H H':=by
 obtain⟨j,rfl⟩:=aS hk;rw[(hC j).zBu];unfold zBu zzk;have f:Fm No H (aO H (aB 0 [sv])):=by exact jY
 have hl:=hX.rs.len;have hn:=hP.n;have h16:¬ 16<X.length:=by omega
 simp(disch:=go_size)only[go_sem,rB,rI,rK,rL,rN,rS,r6,hl,h16];unfold zf2;simp(disch:=go_size)only[go_sem,rB,rI,rK,rL,rN,rS,r6,hl];unfold zvw;rw[dB];refine qsl hC hN (by omega) (hX.fm f) hP (fun H3 f3=>?_) bX 0 _ (gq _) (by rw[dI];omega) (Fm.refl _ _);exact Ok.ret ⟨rfl,f.trans f3⟩
theorem zlx(e:AV->AV->Option Bool)(k:AV)(i:Nat):xQ e k [] i=some none:=rfl
theorem zbn(e:AV->AV->Option Bool)(k:AV)(x:lD)(es:List lD)(i:Nat):xQ e k (x::es) i=match e k x.key with|some true=>some (some ⟨i,x⟩)|some false=>xQ e k es (i+1)|none=>none:=rfl
def eqPr:AV->AV->Option Bool:=dQ (eqFields [(p1,⟨bH⟩,0),(p1,⟨bH⟩,1)])
theorem tN(s t:SS):bH s.v t.v=some (decide (s=t)):=by show some (Nat.beq s.n t.n&&Nat.beq s.a t.a)=_;rw[beq_eq,beq_eq,<-Bool.decide_and];congr 1;exact decide_eq_decide.2 (sJ s t).symm
theorem qw2(p q:SS×SS):eqPr (.agg (pC p)) (.agg (pC q))=some (decide (p=q)):=by
 show andThen (bH p.1.v q.1.v) (andThen (bH p.2.v q.2.v) (some true))=_;rw[tN,tN];obtain⟨a,b⟩:=p;obtain⟨c,d⟩:=q;by_cases h1:a=c
 ·by_cases h2:b=d
  ·simp[h1,h2,andThen]
  ·simp[h1,h2,andThen]
 ·simp[h1,andThen]
theorem qhe{α:Type}[DecidableEq α]{e:AV->AV->Option Bool}{ky:α->AV}(he:∀ p q,e (ky p) (ky q)=some (decide (p=q)))(p:α):∀(es:List lD) (ps:List α) (i:Nat),es.map lD.key=ps.map ky -> (p∉ps->xQ e (ky p) es i=some none)/\(p∈ps->∃ x,es[ps.findIdx fun q=>decide (q=p)]? =some x/\xQ e (ky p) es i=some (some ⟨i+ps.findIdx (fun q=>decide (q=p)),x⟩))
 | [],[],i,_=>⟨fun _=>zlx _ _ _,fun h=>by cases h⟩
 | [],_::_,_,h=>by cases h
 |_::_,[],_,h=>by cases h
 |x::es,q::ps,i,h=>by
  injection h with h1 h2;obtain⟨i1,i2⟩:=qhe he p es ps (i+1) h2;rw[zbn,h1,he];by_cases hpq:p=q
  ·subst hpq;refine⟨fun h=>absurd ql h,fun _=>⟨x,?_,?_⟩⟩
   ·simp[List.findIdx_cons]
   ·simp[List.findIdx_cons]
  ·have hqp:¬ q=p:=fun h=>hpq h.symm;refine⟨fun h=>?_,fun h=>?_⟩
   ·simp_all
   ·have h':p∈ps:=by
     simp_all
    obtain⟨y,y1,y2⟩:=i2 h';refine⟨y,?_,?_⟩
    ·simp[List.findIdx_cons,hqp];exact y1
    ·simp only[hpq,decide_false];rw[y2];simp only[List.findIdx_cons,hqp,decide_false,zh];congr 3;omega
structure lW{α:Type}(ky:α->AV)(vl:Nat->Nat)(H:Hp)(b:Nat)(ps:List α):Prop where
 ex:∃ es c,H.get b=.map es c/\es.map lD.key=ps.map ky/\es.map lD.val=(List.range ps.length).map fun i=>iN ((vl i))
theorem lW.eq{α:Type}{ky:α->AV}{vl:Nat->Nat}{ps:List α}(h:lW ky vl H b ps)(e:H'.get b=H.get b):lW ky vl H' b ps:=by obtain⟨es,c,h1,h2,h3⟩:=h.ex;exact⟨es,c,e.trans h1,h2,h3⟩
theorem lW.len{α:Type}{ky:α->AV}{vl:Nat->Nat}{ps:List α}(h:lW ky vl H b ps):aAe H (.map b)=.val (iN (ps.length)):=by
 obtain⟨es,c,h1,h2,h3⟩:=h.ex;have hl:es.length=ps.length:=by have:=congrArg List.length h2;simpa using this
 show(match H.get b with| .map es _=>R0.val (i64 es.length)|_=>.bad)=_;rw[h1,<-hl];rfl
theorem lW.look{α:Type}[DecidableEq α]{ky:α->AV}{vl:Nat->Nat}{ps:List α}(h:lW ky vl H b ps){e:AV->AV->Option Bool}{s:Option Nat}(he:∀ p q,e (ky p) (ky q)=some (decide (p=q)))(hs:∀ p,qii s (ky p)=true)(z:AV)(ok:Bool)(p:α):qL ⟨e,s⟩ z ok H (.map b) (ky p)=if p∈ps then .val (bif ok then .aX [iN ((vl (ps.findIdx fun q=>decide (q=p)))),.bool true]else iN ((vl (ps.findIdx fun q=>decide (q=p)))))else .val (bif ok then .aX [z,.bool false]else z):=by
 obtain⟨es,c,h1,h2,h3⟩:=h.ex;obtain⟨g1,g2⟩:=qhe he p es ps 0 h2;show(match(match H.get b with| .map es _=>some es|_=>none)with|some es=>zkz ok z (bif qii s (ky p)then xQ e (ky p) es 0 else none)|none=>.bad)=_;rw[h1,hs];simp only[qy];by_cases hp:p∈ps
 ·rw[pz hp];obtain⟨x,x1,x2⟩:=g2 hp;rw[x2];have hv:x.val=iN ((vl (ps.findIdx fun q=>decide (q=p)))):=by
   have hlt:(ps.findIdx fun q=>decide (q=p))<ps.length:=by rw[List.findIdx_lt_length];exact⟨p,hp,by simp⟩
   have h4:(es.map lD.val)[ps.findIdx fun q=>decide (q=p)]? =some x.val:=by rw[xw,x1];rfl
   simp_all
  show R0.val (bif ok then .aX [x.val,.bool true]else x.val)=_;rw[hv]
 ·rw[kz hp,g1 hp];rfl
theorem lW.upd{α:Type}[DecidableEq α]{ky:α->AV}{vl:Nat->Nat}{ps:List α}(h:lW ky vl H b ps){e:AV->AV->Option Bool}{s:Option Nat}(he:∀ p q,e (ky p) (ky q)=some (decide (p=q)))(hs:∀ p,qii s (ky p)=true){p:α}(hp:p∉ps):∃k,nI ⟨e,s⟩ H (.map b) (ky p) (iN ((vl ps.length)))=.ok .undef (H.put b k)/\lW ky vl (H.put b k) b (ps++[p]):=by
 obtain⟨es,c,h1,h2,h3⟩:=h.ex;obtain⟨g1,_⟩:=qhe he p es ps 0 h2;refine⟨.map (es++[⟨ky p,iN ((vl ps.length)),c⟩]) (c+1),?_,⟨_,_,dS _ _ _,?_,?_⟩⟩
 ·have hf:qqe ⟨e,s⟩ (ky p) es=some none:=by
   show(bif qii s (ky p)then xQ e (ky p) es 0 else none)=_;simp_all
  unfold nI;simp_all
 ·simp_all
 ·rw[ui,h3,lq,lE0,lA9,ui];rfl
theorem lW.nil{α:Type}(ky:α->AV)(vl:Nat->Nat){b c:Nat}(h:H.get b=.map [] c):lW ky vl H b ([]:List α):=⟨[],c,h,rfl,rfl⟩
def kyP(p:SS×SS):AV:=.agg [.str p.1.n p.1.a,.str p.2.n p.2.a]
def kyS(s:SS):AV:=.str s.n s.a
theorem qln(p q:SS×SS):dQ (eqFields [(p1,⟨bH⟩,0),(p1,⟨bH⟩,1)]) (kyP p) (kyP q)=some (decide (p=q)):=qw2 p q
theorem zlc(p q:SS):bH (kyS p) (kyS q)=some (decide (p=q)):=tN p q
abbrev jE(H:Hp)(b:Nat)(ps:List (SS×SS)):Prop:=lW kyP id H b ps
abbrev sD(H:Hp)(b:Nat)(ss:List SS):Prop:=lW kyS (fun _=>1) H b ss
theorem jE.find{ps:List (SS×SS)}(h:jE H b ps)(z:AV)(x y:SS)(hp:(x,y)∈ps):qL ⟨dQ (eqFields [(p1,⟨bH⟩,0),(p1,⟨bH⟩,1)]),some 2⟩ z true H (.map b) (.agg [.str x.n x.a,.str y.n y.a])=.val (.aX [iN ((ps.findIdx fun q=>decide (q=(x,y)))),.bool true]):=by have:=h.look (s:=some 2) qln (fun _=>rfl) z true (x,y);rw[pz hp]at this;exact this
theorem jE.aMo{ps:List (SS×SS)}(h:jE H b ps)(z:AV)(x y:SS)(hp:(x,y)∈ps):qL ⟨dQ (eqFields [(p1,⟨bH⟩,0),(p1,⟨bH⟩,1)]),some 2⟩ z false H (.map b) (.agg [.str x.n x.a,.str y.n y.a])=.val (iN ((ps.findIdx fun q=>decide (q=(x,y))))):=by have:=h.look (s:=some 2) qln (fun _=>rfl) z false (x,y);rw[pz hp]at this;exact this
theorem jE.miss{ps:List (SS×SS)}(h:jE H b ps)(z:AV)(x y:SS)(hp:(x,y)∉ps):qL ⟨dQ (eqFields [(p1,⟨bH⟩,0),(p1,⟨bH⟩,1)]),some 2⟩ z true H (.map b) (.agg [.str x.n x.a,.str y.n y.a])=.val (.aX [z,.bool false]):=by have:=h.look (s:=some 2) qln (fun _=>rfl) z true (x,y);rw[kz hp]at this;exact this
theorem jE.put{ps:List (SS×SS)}(h:jE H b ps)(x y:SS)(hp:(x,y)∉ps):∃k,nI ⟨dQ (eqFields [(p1,⟨bH⟩,0),(p1,⟨bH⟩,1)]),some 2⟩ H (.map b) (.agg [.str x.n x.a,.str y.n y.a]) (iN (ps.length))=.ok .undef (H.put b k)/\jE (H.put b k) b (ps++[(x,y)]):=
 h.upd (s:=some 2) qln (fun _=>rfl) hp
theorem sD.find{ss:List SS}(h:sD H b ss)(z:AV)(x:SS)(hp:x∈ss):qL ⟨bH,none⟩ z false H (.map b) (.str x.n x.a)=.val (iN 1):=by have:=h.look (s:=none) zlc (fun _=>rfl) z false x;rw[pz hp]at this;exact this
theorem sD.miss{ss:List SS}(h:sD H b ss)(z:AV)(x:SS)(hp:x∉ss):qL ⟨bH,none⟩ z false H (.map b) (.str x.n x.a)=.val z:=by have:=h.look (s:=none) zlc (fun _=>rfl) z false x;rw[kz hp]at this;exact this
theorem sD.put{ss:List SS}(h:sD H b ss)(x:SS)(hp:x∉ss):∃k,nI ⟨bH,none⟩ H (.map b) (.str x.n x.a) (iN 1)=.ok .undef (H.put b k)/\sD (H.put b k) b (ss++[x]):=
 h.upd (s:=none) zlc (fun _=>rfl) hp
def ptC(q:Nat×Nat):List AV:=[.ptr q.1 q.2]
theorem q42(q:Nat×Nat):(ptC q).length=1:=rfl
def nmC(q:SS×aR):List AV:=[q.1.v]
def kq(q:SS×aR):SS×SS:=(q.1,q.2.r.name)
def fD(X:List aN):List (SS×aR):=X.flatMap fun g=>g.gs.map fun x=>(g.name,x)
theorem yA(X:List aN):(fD X).map kq=aJ X:=by unfold fD aJ;rw[List.map_flatMap];congr 1;funext g;rw[bu];rfl
structure PtR(H:Hp)(q:Nat×Nat)(x:aR):Prop where
 lt:q.1<H.nx
 nm:dK (H.get q.1) q.2=.val (.str x.r.name.n x.r.name.a)
 tv:dK (H.get q.1) (q.2+1)=.val x.tv
 ru:eB (H.get q.1) (q.2+2) 4=some x.cs
 all:eB (H.get q.1) q.2 6=some (fI x)
theorem PtR.fm{q:Nat×Nat}{x:aR}(h:PtR H q x)(f:Fm No H H'):PtR H' q x:=by have e:=f.keep h.lt;exact⟨lL h.lt f.nx,by rw[e];exact h.nm,by rw[e];exact h.tv,by rw[e];exact h.ru,by rw[e];exact h.all⟩
theorem xZ.pt(h:xZ H g)(hi:i<g.gs.length):∃ b o,aH 6 g.rv (iN i)=.val (.ptr b o)/\PtR H (b,o) g.gs[i]:=by obtain⟨b,o,e1,e2,e3,e4,e5,e6⟩:=h.at' i hi;exact⟨b,o,e1,e2,e3,e4,e5,e6⟩
structure IxI(H0 H:Hp)(ib mb nb:Nat)(sv av iv:AV)(ss:List SS)(rs:List (SS×aR))(qs:List (Nat×Nat)):Prop where
 blk:H.get ib=aB 0 [sv,.map mb,.map nb,av,iv]
 ms:sD H mb ss
 mn:jE H nb (rs.map kq)
 a:Gl 1 H av qs.length (qs.flatMap ptC)
 i:Gl 1 H iv rs.length (rs.flatMap nmC)
 len:qs.length=rs.length
 pt:∀ i (h:i<qs.length) (h':i<rs.length),PtR H0 qs[i] rs[i].2
 o:H0.nx<=mb/\mb<nb/\nb<ib/\ib<H.nx
 an:∀ c,In av c->ib<c/\¬ In iv c
 xC:∀ c,In iv c->ib<c
 fm:Fm No H0 H
theorem zak(H:Hp)(b o x y:Nat):kL H (.ptr b o) (.ptr x y)=storeAt H b o [.ptr x y] .undef:=id rfl
theorem zb3(a b:Nat):yS (.ptr a b)=some [.ptr a b]:=id rfl
theorem z5h(a b c d e x:AV):bD [a,b,c,d,e] 3 [x]=[a,b,c,x,e]:=id rfl
theorem z5g(a b c d e x:AV):bD [a,b,c,d,e] 4 [x]=[a,b,c,d,x]:=id rfl
attribute [go_sem] zak zb3 z5h z5g
theorem z15{g31:pD}{ib mb nb pb:Nat}{sv av iv:AV}{ss:List SS}{rs:List (SS×aR)}{qs:List (Nat×Nat)}(hI:IxI H0 H ib mb nb sv av iv ss rs qs){x:aR}(hrv:aH 6 g.rv (iN i)=.val (.ptr b o))(hpt:PtR H0 (b,o) x)(hnew:(g.name,x.r.name)∉rs.map kq)(hi:i<1000)(hpb:H.get pb=aB 0 [.str g.name.n g.name.a,g.rv])(hpl:pb<H.nx)(hrl:rs.length<=1000)(hpn:¬ In av pb/\¬ In iv pb/\ib<pb){Q:pL}(hg:∀ H' av' iv',IxI H0 H' ib mb nb sv av' iv' ss (rs++[(g.name,x)]) (qs++[(b,o)])->Fm (fun c=>c=nb\/c=ib\/In av c\/In iv c) H H'->(∀c,In av' c\/In iv' c->H.nx<=c)->Ok (g31 (iN ((i+1))) H') Q):Ok (q2x O g31 (.ptr ib 0) (.ptr pb 0) (iN i) H) Q:=by
 unfold q2x;obtain⟨o1,o2,o3,o4⟩:=hI.o;have e0:=hI.blk;have p1:=hpt.fm hI.fm;have r0:dK (H.get b) o=.val (.str x.r.name.n x.r.name.a):=p1.nm;have em:=hI.mn.miss (iN 0) g.name x.r.name hnew;have la:=hI.a.cO;have hln:=hI.len;have hfi:=qck (Gl.flat hI.i) 63;simp(disch:=go_size)only[go_sem,rB,rI,rK,rL,rN,rS,r6,hpb,hrv,e0,r0,em];obtain⟨k,eu,mu⟩:=hI.mn.put g.name x.r.name hnew;rw[qc,<-hln]at eu;simp(disch:=go_size)only[go_sem,rB,rI,rK,rL,rN,rS,r6,hpb,e0,r0,la];refine Ok.deE eu ?_;unfold q2y;have kp1:∀ c,c≠nb->(H.put nb k).get c=H.get c:=fun c h=>dG _ _ _ _ h;have e1:(H.put nb k).get ib=aB 0 [sv,.map mb,.map nb,av,iv]:=(kp1 _ (by omega)).trans e0;have q1:(H.put nb k).get pb=aB 0 [.str g.name.n g.name.a,g.rv]:=(kp1 _ (by omega)).trans hpb;simp only[go_sem,seval,e1,q1];have aVd:∀ c,In iv c->c<H.nx:=fun c hc=>hI.i.lt hc;have g2:Gl 1 ((Hp.mk (H.put nb k).t (H.nx+23)).put (H.nx+7) (aB 0 [.ptr b o])) av qs.length (qs.flatMap ptC):=by refine hI.a.keep (show H.nx<=H.nx+23 by omega) fun c hc hl=>?_;have:=(hI.an c hc).1;rw[dG _ _ _ _ (by omega)];exact kp1 c (by omega)
 obtain⟨H2,e2,a2,_,f2,n2⟩:=g2.append (k:=1) (w:=8) (x:=[.ptr b o]) (by omega) rfl (by omega) (by omega);simp only[nq]at e2 a2 f2 n2;refine Ok.deE e2 ?_;have kp2:∀ c,c<H.nx->c≠nb->¬ In av c->H2.get c=H.get c:=fun c h1 h2 h3=>by refine(f2.get c (show c<H.nx+23 by omega) h3).trans ?_;rw[dG _ _ _ _ (by omega)];exact kp1 c h2
 have aKS:¬ In av ib:=fun h=>by have:=(hI.an ib h).1;omega
 have bE9:¬ In iv ib:=fun h=>by have:=hI.xC ib h;omega
 have aYJ:=(kp2 ib (by omega) (by omega) aKS).trans e0;have pb2:=(kp2 pb (by omega) (by omega) hpn.1).trans hpb;simp only[go_sem,seval,aYJ,pb2,hfi];have g3:Gl 1 (H2.put (H.nx+15) (aB 0 [.str g.name.n g.name.a])) iv rs.length (rs.flatMap nmC):=by refine hI.i.keep (show H.nx<=H2.nx by omega) fun c hc hl=>?_;have:=hI.xC c hc;rw[dG _ _ _ _ (by omega)];exact kp2 c hl (by omega) fun h=>(hI.an c h).2 hc
 obtain⟨H3,e3,a3,_,f3,n3⟩:=g3.append (k:=1) (w:=16) (x:=[.str g.name.n g.name.a]) (by omega) rfl (by omega) (by omega);simp only[nq]at e3 a3 f3 n3;refine Ok.deE e3 ?_;have kp3:∀ c,c<H.nx->c≠nb->¬ In av c->¬ In iv c->H3.get c=H.get c:=fun c h1 h2 h3 h4=>by refine(f3.get c (show c<H2.nx by omega) h4).trans ?_;rw[dG _ _ _ _ (by omega)];simp_all
 have bCZ:=(kp3 ib (by omega) (by omega) aKS bE9).trans e0;simp only[go_sem,seval,bCZ];unfold zgf;simp(disch:=go_size)only[go_sem,rB,rI,rK,rL,rN,rS,r6];have aGI:∀ c,In (.sl (H.nx+23) 0 (qs.length+1) (qs.length+1) false) c->c=H.nx+23:=fun c hc=>by obtain⟨_,_,_,_,hc⟩:=hc;simp_all
 have aEB:∀ c,In (.sl H2.nx 0 (rs.length+1) (rs.length+1) false) c->c=H2.nx:=fun c hc=>by obtain⟨_,_,_,_,hc⟩:=hc;simp_all
 generalize hH4:((H3.put ib (aB 0 [sv,.map mb,.map nb,.sl (H.nx+23) 0 (qs.length+1) (qs.length+1) false,iv])).put ib (aB 0 [sv,.map mb,.map nb,.sl (H.nx+23) 0 (qs.length+1) (qs.length+1) false,.sl H2.nx 0 (rs.length+1) (rs.length+1) false]))=H4;have n4:H4.nx=H3.nx:=by rw[<-hH4];rfl
 have kp4:∀ c,c≠ib->H4.get c=H3.get c:=fun c h=>by rw[<-hH4,dG _ _ _ _ h,dG _ _ _ _ h]
 have b4:H4.get ib=aB 0 [sv,.map mb,.map nb,.sl (H.nx+23) 0 (qs.length+1) (qs.length+1) false,.sl H2.nx 0 (rs.length+1) (rs.length+1) false]:=by rw[<-hH4];exact dS _ _ _
 have hmb:H4.get mb=H.get mb:=(kp4 mb (by omega)).trans (kp3 mb (by omega) (by omega) (fun h=>by have:=(hI.an mb h).1;omega) (fun h=>by have:=hI.xC mb h;omega));have hnb:H4.get nb=(H.put nb k).get nb:=by refine(kp4 nb (by omega)).trans ((f3.get nb (show nb<H2.nx by omega) (fun h=>by have:=hI.xC nb h;omega)).trans ?_);rw[dG _ _ _ _ (by omega)];refine(f2.get nb (show nb<H.nx+23 by omega) (fun h=>by have:=(hI.an nb h).1;omega)).trans ?_;rw[dG _ _ _ _ (by omega)];rfl
 have fF:Fm (fun c=>c=nb\/c=ib\/In av c\/In iv c) H H4:=⟨by omega,fun c hc hs=>(kp4 c fun h=>hs (.inr (.inl h))).trans (kp3 c hc (fun h=>hs (.inl h)) (fun h=>hs (.inr (.inr (.inl h)))) fun h=>hs (.inr (.inr (.inr h))))⟩;refine hg H4 (.sl (H.nx+23) 0 (qs.length+1) (qs.length+1) false) (.sl H2.nx 0 (rs.length+1) (rs.length+1) false) ⟨b4,hI.ms.eq hmb,?_,?_,?_,?_,?_,⟨o1,o2,o3,by omega⟩,?_,?_,?_⟩ fF ?_
 ·rw[ui];exact mu.eq hnb
 ·rw[lq,uA,uB];refine a2.keep (by omega) fun c hc hl=>?_;have:=aGI c hc;rw[kp4 c (by omega),f3.get c (show c<H2.nx by omega) (fun h=>by have:=aVd c h;omega),dG _ _ _ _ (by omega)]
 ·rw[lq,uA,uB];refine a3.keep (by omega) fun c hc hl=>?_;have:=aEB c hc;exact kp4 c (by omega)
 ·simp[hln]
 ·intro m h1 h2;rw[List.getElem_append,List.getElem_append];split
  ·rename_i h;rw[dif_pos (by omega)];exact hI.pt m h (by omega)
  ·rename_i h;rw[dif_neg (by omega)];simpa using hpt
 ·intro c hc;have:=aGI c hc;refine⟨by omega,fun h=>?_⟩;have:=aEB c h;omega
 ·intro c hc;have:=aEB c hc;omega
 ·refine hI.fm.then fF fun c hc h=>?_;rcases h with h|h|h|h
  ·omega
  ·omega
  ·have:=(hI.an c h).1;omega
  ·have:=hI.xC c h;omega
 ·intro c hc;rcases hc with hc|hc
  ·have:=aGI c hc;omega
  ·have:=aEB c hc;omega
theorem qll{α:Type}{l:List α}(h:l.Nodup)(hi:i<l.length):l[i]∉l.take i:=fun hm=>by obtain⟨j,hj,e⟩:=ay hm;rw[List.getElem_take]at e;exact uw.1 h j i (by simp at hj;omega) hi (by simp at hj;omega) e
theorem qcf{α β:Type}(g:α->List β)(c:Nat):∀ l:List α,(∀x∈l,(g x).length<=c)->(l.flatMap g).length<=c*l.length
 | [],_=>by simp
 |a::l,h=>by rw[ug,lq,pg,Nat.mul_add,qj];have:=qcf g c l fun x hx=>h x (qx _ hx);have:=h a ql;omega
theorem vG.len(h:vG X):(fD X).length<=256:=by
 have:=qcf (fun g:aN=>g.gs.map fun x=>(g.name,x)) 16 X fun g hg=>by rw[qc];exact(h.r g hg).1
 have:=h.n;unfold fD;omega
def dA(X:List aN)(s:Nat):List (SS×aR):=fD (X.take s)
theorem q8j(X:List aN)(s:Nat):(dA X s).length<=(fD X).length:=by
 unfold dA fD
 conv=>rhs;rw[<-bg s X,uA,lq]
 omega
theorem zj6{s i:Nat}(hs:s<X.length)(hi:i<X[s].gs.length):∃ Z,fD X=(dA X s++(X[s].gs.take i).map fun x=>(X[s].name,x))++(X[s].name,X[s].gs[i])::Z:=by
 refine⟨(X[s].gs.drop (i+1)).map (fun x=>(X[s].name,x))++fD (X.drop (s+1)),?_⟩;have h1:X=X.take s++X[s]::X.drop (s+1):=by rw[<-ut hs,bg]
 have h2:X[s].gs=X[s].gs.take i++X[s].gs[i]::X[s].gs.drop (i+1):=by rw[<-ut hi,bg]
 unfold dA fD
 conv=>lhs;rw[h1,uA,ug]
 conv=>lhs;rw[h2,ui,zy]
 simp
theorem qwd(hN:(aJ X).Nodup){s i:Nat}(hs:s<X.length)(hi:i<X[s].gs.length):(X[s].name,X[s].gs[i].r.name)∉(dA X s++(X[s].gs.take i).map fun x=>(X[s].name,x)).map kq:=by obtain⟨Z,h⟩:=zj6 hs hi;rw[<-yA,h,ui,zy]at hN;intro hm;exact(xf.1 hN).2.2 _ hm (kq (X[s].name,X[s].gs[i])) ql rfl
theorem q8z{O:Ev.Call}{H0 Hb:Hp}{ib mb nb pb:Nat}{sv:AV}{ss:List SS}{X:List aN}(hX:bS H0 sv X)(hN:(aJ X).Nodup)(hL:(fD X).length<=256){s:Nat}(hs:s<X.length)(hgl:X[s].gs.length<=16){Q:pL}{q:pH}(hq:∀ H av iv qs,IxI H0 H ib mb nb sv av iv ss (dA X s++X[s].gs.map fun x=>(X[s].name,x)) qs->Hb.nx<=H.nx->Ok (q H) Q):∀(k i:Nat) (H:Hp) (av iv:AV) (qs:List (Nat×Nat)),i<=X[s].gs.length->X[s].gs.length-i<k->IxI H0 H ib mb nb sv av iv ss (dA X s++(X[s].gs.take i).map fun x=>(X[s].name,x)) qs -> H.get pb=aB 0 [.str X[s].name.n X[s].name.a,X[s].rv]->pb<H.nx->(¬In av pb/\¬ In iv pb/\ib<pb)->Hb.nx<=H.nx -> Ok (qug O q (.ptr ib 0) (.ptr pb 0) (iN (X[s].gs.length)) k (iN i) H) Q
 |0,i,_,_,_,_,_,h,_,_,_,_,_=>by omega
 |k+1,i,H,av,iv,qs,hi,hk,hI,hpb,hpl,hpn,hbn=>by
  show Ok (q21 O _ _ _ _ (qug O _ _ _ _ k) _ H) Q;unfold q21;by_cases hlt:i<X[s].gs.length
  ·simp only[go_sem,hlt];obtain⟨b,o,e1,p1⟩:=(hX.sp _ (lu hs)).pt hlt;have aLq:(dA X s++(X[s].gs.take i).map fun x=>(X[s].name,x)).length<=1000:=by
    have:=q8j X s;rw[lq,qc,qo];omega
   obtain⟨o1,o2,o3,o4⟩:=hI.o;refine z15 hI e1 p1 (qwd hN hs hlt) (by omega) hpb hpl aLq hpn fun H' av' iv' hI' f' hn'=>?_;refine q8z hX hN hL hs hgl hq k (i+1) H' av' iv' (qs++[(b,o)]) (by omega) (by omega) ?_ ((f'.get pb hpl fun h=>?_).trans hpb) (lL hpl f'.nx) ⟨fun h=>?_,fun h=>?_,hpn.2.2⟩ (tq hbn f'.nx)
   ·rw[ku hlt,ui,zx,<-qw];exact hI'
   ·rcases h with h|h|h|h
    ·omega
    ·omega
    ·exact hpn.1 h
    ·exact hpn.2.1 h
   ·have:=hn' pb (.inl h);omega
   ·have:=hn' pb (.inr h);omega
  ·simp only[go_sem,hlt];have he:i=X[s].gs.length:=by omega
   rw[he,uj]at hI;exact hq H av iv qs hI hbn
theorem q8y{O:Ev.Call}{H0:Hp}{ib mb nb:Nat}{sv:AV}{X:List aN}(hX:bS H0 sv X)(hN:(aJ X).Nodup)(hS:(X.map aN.name).Nodup)(hP:vG X){Q:pL}{q:pH}(hq:∀ H av iv qs,IxI H0 H ib mb nb sv av iv (X.map aN.name) (fD X) qs->Ok (q H) Q):∀(k s:Nat) (H:Hp) (av iv:AV) (qs:List (Nat×Nat)),s<=X.length->X.length-s<k->IxI H0 H ib mb nb sv av iv ((X.take s).map aN.name) (dA X s) qs -> Ok (qnt O q (.ptr ib 0) sv (iN (X.length)) k (iN s) H) Q
 |0,s,_,_,_,_,_,h,_=>by omega
 |k+1,s,H,av,iv,qs,hs,hk,hI=>by
  show Ok (q23 O _ _ _ _ (qnt O _ _ _ _ k) _ H) Q;unfold q23;have hn:=hP.n;by_cases hlt:s<X.length
  ·simp only[go_sem,hlt];unfold zgd;have h1:=hX.fm hI.fm;obtain⟨b1,o1,e1,e2,_,e3,_⟩:=h1.rs.at' s hlt;unfold pX SS.v at e3;have hm:=lu hlt;obtain⟨o1,o2,o3,o4⟩:=hI.o;have e0:=hI.blk;have hnew:X[s].name∉(X.take s).map aN.name:=by
    have h2:=qll hS (i:=s) (by simpa using hlt);simp_all
   have fp:Fm No H ((aO H (aB 0 [.str 0 0,.aA])).put H.nx (aB 0 [.str X[s].name.n X[s].name.a,X[s].rv])):=by exact oJ
   have ms1:sD ((aO H (aB 0 [.str 0 0,.aA])).put H.nx (aB 0 [.str X[s].name.n X[s].name.a,X[s].rv])) mb ((X.take s).map aN.name):=hI.ms.eq (fp.keep (by omega));have em:=ms1.miss (iN 0) X[s].name hnew;have e0':=(fp.keep o4).trans e0;have em':qL ⟨bH,none⟩ (iN 0) false ⟨((aO H (aB 0 [.str 0 0,.aA])).put H.nx (aB 0 [.str X[s].name.n X[s].name.a,X[s].rv])).t,H.nx+1⟩ (.map mb) (.str X[s].name.n X[s].name.a)=.val (iN 0):=em;simp(disch:=go_size)only[go_sem,rB,rI,rK,rL,rN,rS,r6,e1,e3,e0',em'];obtain⟨kk,eu,mu⟩:=ms1.put X[s].name hnew;refine Ok.deE eu ?_;have hsp:=hX.sp _ hm;have hl:=hsp.len;have aXS:=(hP.r _ hm).1;simp(disch:=omega)only[go_sem,seval,hl];unfold zgg;rw[dB];generalize hH2:((aO H (aB 0 [.str 0 0,.aA])).put H.nx (aB 0 [.str X[s].name.n X[s].name.a,X[s].rv])).put mb kk=H2 at mu;have n2:H2.nx=H.nx+1:=by rw[<-hH2];rfl
   have kp:∀ c,c<H.nx->c≠mb->H2.get c=H.get c:=fun c h1 h2=>by rw[<-hH2,dG _ _ _ _ h2];exact fp.keep h1
   have pbk:H2.get H.nx=aB 0 [.str X[s].name.n X[s].name.a,X[s].rv]:=by rw[<-hH2,dG _ _ _ _ (by omega)];exact dS _ _ _
   have hI2:IxI H0 H2 ib mb nb sv av iv ((X.take s).map aN.name++[X[s].name]) (dA X s++(X[s].gs.take 0).map fun x=>(X[s].name,x)) qs:=by
    rw[dE,lA8,uh];refine⟨(kp ib o4 (by omega)).trans e0,mu,hI.mn.eq (kp nb (by omega) (by omega)),hI.a.keep (by omega) fun c hc hl=>kp c hl ?_,hI.i.keep (by omega) fun c hc hl=>kp c hl ?_,hI.len,hI.pt,⟨o1,o2,o3,by omega⟩,hI.an,hI.xC,?_⟩
    ·have:=(hI.an c hc).1;omega
    ·have:=hI.xC c hc;omega
    ·exact⟨by have:=hI.fm.nx;omega,fun c hc _=>(kp c (lL hc hI.fm.nx) (by omega)).trans (hI.fm.keep hc)⟩
   refine q8z hX hN hP.len hlt aXS (Hb:=H2) (fun H3 av3 iv3 qs3 uZ hb3=>?_) bX 0 H2 av iv qs (gq _) (by rw[dI];omega) hI2 pbk (by omega) ⟨fun h=>?_,fun h=>?_,by omega⟩ (lg _)
   ·unfold q20;simp(disch:=go_size)only[go_sem,rB,rI,rK,rL,rN,rS,r6];refine q8y hX hN hS hP hq k (s+1) H3 av3 iv3 qs3 (by omega) (by omega) ?_;have hx:dA X (s+1)=dA X s++X[s].gs.map fun x=>(X[s].name,x):=by
     unfold dA fD;rw[ku hlt,uA,uB]
    rw[ku hlt,ui,zx,hx];exact uZ
   ·have:=hI.a.lt h;omega
   ·have:=hI.i.lt h;omega
  ·simp only[go_sem,hlt];have he:s=X.length:=by omega
   rw[he,uj]at hI;refine hq H av iv qs ?_;have:dA X X.length=fD X:=by unfold dA;rw[uj]
   simp_all
structure xN(H:Hp)(ib:Nat)(sv:AV)(X:List aN):Prop where
 ex:∃ mb nb av iv qs,H.get ib=aB 0 [sv,.map mb,.map nb,av,iv]/\sD H mb (X.map aN.name)/\jE H nb (aJ X)/\Rs 1 ptC H av qs/\Rs 1 nmC H iv (fD X)/\xO av=true/\xO iv=true/\qs.length=(fD X).length /\
  (∀i (h:i<qs.length) (h':i<(fD X).length),PtR H qs[i] (fD X)[i].2)/\mb<H.nx/\nb<H.nx
 lt:ib<H.nx
theorem xN.fm{ib:Nat}(h:xN H ib sv X)(f:Fm No H H'):xN H' ib sv X:=by obtain⟨mb,nb,av,iv,qs,h1,h2,h3,h4,h5,h6,h7,h8,h9,l1,l2⟩:=h.ex;exact⟨⟨mb,nb,av,iv,qs,(f.keep h.lt).trans h1,h2.eq (f.keep l1),h3.eq (f.keep l2),h4.fm f,h5.fm f,h6,h7,h8,fun i a b=>(h9 i a b).fm f,lL l1 f.nx,lL l2 f.nx⟩,lL h.lt f.nx⟩
theorem z1q(q:SS×aR):(nmC q).length=1:=rfl
theorem zxc(hC:aW C)(hk:1<=k)(hX:bS H sv X)(hP:vG X)(hN:(aJ X).Nodup)(hS:(X.map aN.name).Nodup):Ok (C k (.f 108) [.agg [sv]] H) fun r H'=>∃ ib,r=.ptr ib 0/\xN H' ib sv X/\Fm No H H':=by
 obtain⟨j,rfl⟩:=aS hk;rw[(hC j).zBr];unfold zBr zzm;have hl:=hX.rs.len;have hn:=hP.n;have hsv:yS sv=some [sv]:=by cases sv<;>first|rfl|(exfalso;revert hl;exact fun h=>by cases h)
 have hcm:∀ b,yS (.map b)=some [.map b]:=fun b=>rfl;simp(disch:=first|go_size|omega)only[go_sem,seval,hsv,hl,hcm];unfold zgh;rw[dB];generalize hH1:aO (aO (aO (aO H (aB 0 [sv])) (.map [] 0)) (.map [] 0)) (aB 0 [sv,.map (H.nx+1),.map (H.nx+1+1),.aA,.aA])=H1;have f1:Fm No H H1:=by rw[<-hH1];exact fP4
 have n1:H1.nx=H.nx+4:=by rw[<-hH1];rfl
 have k1:H1.get (H.nx+1)=.map [] 0:=by rw[<-hH1];simp(disch:=first|go_size|omega)only[go_sem,rB,rI,rK,rL,rN,rS,r6]
 have k2:H1.get (H.nx+1+1)=.map [] 0:=by rw[<-hH1];simp(disch:=first|go_size|omega)only[go_sem,rB,rI,rK,rL,rN,rS,r6]
 have k3:H1.get (H.nx+1+1+1)=aB 0 [sv,.map (H.nx+1),.map (H.nx+1+1),.aA,.aA]:=by rw[<-hH1];simp(disch:=go_size)only[go_sem,rB,rI,rK,rL,rN,rS,r6]
 have nn:∀ c,¬In AV.aA c:=fun c h=>by obtain⟨_,_,_,_,h⟩:=h;cases h
 refine q8y hX hN hS hP (fun H2 av iv qs hI=>?_) bX 0 H1 .aA .aA [] (gq _) (by rw[dI];omega) ⟨k3,lW.nil _ _ k1,lW.nil _ _ k2,Gl.nil 1 _,Gl.nil 1 _,rfl,fun i h=>by simp at h,⟨by omega,by omega,by omega,by omega⟩,fun c h=>absurd h (nn c),fun c h=>absurd h (nn c),f1⟩;obtain⟨o1,o2,o3,o4⟩:=hI.o;refine Ok.ret ⟨_,rfl,⟨⟨_,_,av,iv,qs,hI.blk,hI.ms,?_,hI.a.rs q42,hI.i.rs z1q,Gl.flat hI.a,Gl.flat hI.i,hI.len,fun i a b=>(hI.pt i a b).fm hI.fm,by omega,by omega⟩,o4⟩,hI.fm⟩;have:=hI.mn;rw[yA]at this;exact this
end Go.Di
end
