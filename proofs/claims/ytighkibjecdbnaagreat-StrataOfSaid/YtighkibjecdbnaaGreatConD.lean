/-
 For StrataOf: functions in direct style, their contracts, and the plain mathematics, part 4 of 9. No conditions beyond those that each theorem states.
-/
import Derived.Test.YtighkibjecdbnaaGreatConC
set_option linter.unusedSimpArgs false
set_option linter.unusedVariables false
open Nat (reduceAdd reduceMul reduceSub reduceLeDiff reduceEqDiff reduceShiftRight reduceAnd)
section
namespace Go.Di
open Go.Ev
variable {C:Nat->Ev.Call}
def pQ(bG:List iQ)(r:iQ):iQ:=if qr7 bG r then r else⟨r.name,[],r.rule⟩
theorem qbv(bG:List iQ)(r:iQ):(pQ bG r).rule=r.rule:=by unfold pQ;split<;>rfl
theorem Rs.nil{α:Type}(z:Nat)(f:α->List AV)(H:Hp):Rs z f H .aA ([]:List α):=⟨rfl,fun i h=>by simp at h⟩
def aCD(g:aY):aY:=⟨⟨g.r.name,[],g.r.rule⟩,.aA,g.cs⟩
theorem zdl:∀(l:List aY) (i:Nat) (h:i<l.length),bD (l.flatMap gQ) (i*6+1) [.aA]=(l.set i (aCD l[i])).flatMap gQ
 | [],_,h=>by simp at h
 |x::l,0,_=>by simp[bD,gQ,aCD]
 |x::l,i+1,h=>by
  have:=zdl l i (by simpa using h)
  rw[List.set_cons_succ,List.flatMap_cons,List.flatMap_cons,List.getElem_cons_succ,<-this]
  unfold bD
  have e:(i+1)*6+1=(gQ x).length+(i*6+1):=by rw[qhk];omega
  rw[e,List.take_length_add_append,List.append_assoc,List.append_assoc]
  congr 1
  rw[List.append_assoc]
  congr 2
  rw[Nat.add_assoc,List.drop_length_add_append]
def kM(bG:List iQ)(k:Nat):List iQ:=(bG.take k).map (pQ bG)++bG.drop k
theorem zeg{bG:List iQ}{k:Nat}(h:k<bG.length)(h':k<(kM bG k).length):(kM bG k)[k]=bG[k]:=by
 have e:(kM bG k)[k]? =some bG[k]:=by
  unfold kM
  rw[List.getElem?_append_right (by simp;omega)]
  simp[Nat.min_eq_left (Nat.le_of_lt h),h]
 simp_all
theorem zld(bG:List iQ)(k:Nat)(s:SS):(kM bG k).any (fun x=>eU x.rule 3 s)=bG.any (fun x=>eU x.rule 3 s):=by
 unfold kM
 rw[List.any_append,List.any_map]
 conv=>rhs;rw[<-List.take_append_drop k bG,List.any_append]
 congr 2
 funext x
 simp only[Function.comp,qbv]
theorem qsw(bG:List iQ)(k:Nat):(kM bG k).length=bG.length:=by
 unfold kM;simp;omega
theorem qvn{bG:List iQ}{k:Nat}(h:k<bG.length):kM bG (k+1)=(kM bG k).set k (pQ bG bG[k]):=by
 unfold kM
 rw[List.take_succ_eq_append_getElem h,List.map_append,List.map_singleton,List.append_assoc,List.set_append_right _ _ (by simp;omega)]
 simp only[List.length_map,List.length_take,Nat.min_eq_left (Nat.le_of_lt h),Nat.sub_self]
 conv=>rhs;rw[List.drop_eq_getElem_cons h]
 rfl
theorem pW.set{A B:Nat}{H:Hp}{rv:AV}{gs:List aY}(h:pW A B H rv gs){i:Nat}(hi:i<gs.length) :
  ∃b o H',aL 6 rv (iN i)= .val (.ptr b o)/\storeAt H b (o+1) [.aA] .undef= .ok .undef H'/\pW A B H' rv (gs.set i (aCD gs[i]))/\Fm (In rv) H H':=by
 obtain⟨b,o,H',e1,e2,g,f,_⟩:=h.gl.set1 hi (j:=1) (by omega) .aA
 rw[zdl gs i hi]at g
 refine⟨b,o,H',e1,e2,⟨by rw[List.length_set];exact g,h.tT,fun y hy=> ?_,fun y hy=> ?_⟩,f⟩
 ·rcases List.mem_or_eq_of_mem_set hy with hy|rfl
  ·exact⟨(h.ty y hy).1.iD f fun c hc=>((h.ty y hy).2.2 c hc).2.2,(h.ty y hy).2⟩
  ·exact⟨Rs.nil _ _ _,.inl rfl,fun c hc=>by obtain⟨_,_,_,_,hc⟩:=hc;cases hc⟩
 ·rcases List.mem_or_eq_of_mem_set hy with hy|rfl
  ·exact(h.ru y hy).iD f fun c hc=>hc.2.2
  ·exact(h.ru gs[i] (List.getElem_mem hi)).iD f fun c hc=>hc.2.2
theorem qi2(hC:bC C){j:Nat}(hj:20<=j){A B:Nat}{rv:AV}{bG:List iQ}{H1:Hp}(hlen:bG.length<=1000)(hd:∀ r∈bG,r.rule.depth<=12/\r.rule.size<=10000)
  {Q:AV->Hp->Prop} {q:Hp->R1} (hq:∀ gs H,gs.map aY.r=bG.map (pQ bG)->pW A B H rv gs->Fm (In rv) H1 H->Ok (q H) Q) :
  ∀(k i:Nat) (gs:List aY) (H:Hp),i<=bG.length->bG.length-i<k->gs.map aY.r=kM bG i->pW A B H rv gs->Fm (In rv) H1 H ->
   Ok (qk4 (C j) q rv k (iN i) H) Q
 |0,i,_,_,_,h,_,_,_=>by omega
 |k+1,i,gs,H,hi,hk,hg,hI,hf=>by
  show Ok (qyq (C j) _ _ (qk4 (C j) _ _ k) _ H) Q
  unfold qyq
  have hl:=hI.gl.cO
  have hgl:gs.length=bG.length:=by
   have:=congrArg List.length hg
   rwa [List.length_map,qsw]at this
  have hdg:∀ g∈gs,g.r.rule.depth<=12/\g.r.rule.size<=10000:=fun g hgm=>by
   have:g.r∈kM bG i:=by rw[<-hg];exact List.mem_map_of_mem hgm
   unfold kM at this
   rw[List.mem_append,List.mem_map]at this
   rcases this with⟨r,hr,he⟩|h
   ·rw[<-he,qbv];exact hd r (List.mem_of_mem_take hr)
   ·exact hd _ (List.mem_of_mem_drop h)
  by_cases hlt:i<bG.length
  ·have hlt':i<gs.length:=by omega
   simp only[go_sem,hl,hlt']
   rw[qoc]
   unfold qrn
   obtain⟨b,o,e1,e2,_,_,_,e6,_⟩:=hI.at hlt'
   simp only[go_sem,e1,e6]
   refine Ok.ve (zpm hC (k:=j) (r:=gs[i].r.rule) (by have:=(hdg _ (List.getElem_mem hlt')).1;omega) (by have:=(hdg _ (List.getElem_mem hlt')).2;omega) (hI.ru _ (List.getElem_mem hlt')) 1 sE) ?_
   rintro _ H2 ⟨rfl,f2⟩
   have hI2:=hI.iD f2 fun _ _ _ h=>h
   have hir:gs[i].r=bG[i]:=by
    have h1:(gs.map aY.r)[i]'(by simpa using hlt')=gs[i].r:=List.getElem_map ..
    rw[<-h1,<-zeg hlt (by rw[qsw];exact hlt)]
    congr 1
   have wB:(eU gs[i].r.rule 1 sE||gs.any fun x=>eU x.r.rule 3 gs[i].r.name)=qr7 bG bG[i]:=by
    unfold qr7
    rw[hir,<-zld bG i,<-hg,List.any_map];rfl
   unfold zb6
   rw[dI]
   refine qlf hC hj hI2 (by omega) hdg hlt' (u0:=eU gs[i].r.rule 1 sE) (fun H3 f3=> ?_) cK 0 _ H2 (Nat.zero_le _) (by rw[dK];omega) (Fm.refl _ _) (by simp)
   rw[wB]
   rw[qoe]
   unfold qrp
   have vM:=hI2.iD f3 fun _ _ _ h=>h
   have hf3:Fm (In rv) H1 H3:=(hf.then f2 fun _ _ h=>absurd h id).then f3 fun _ _ h=>absurd h id
   cases hu:qr7 bG bG[i]with
   |true =>
    rw[qil]
    unfold qjt
    simp(disch:=omega) only[go_sem]
    refine qi2 hC hj hlen hd hq k (i+1) gs H3 (by omega) (by omega) ?_ vM hf3
    rw[qvn hlt,hg]
    have:pQ bG bG[i]=(kM bG i)[i]'(by rw[qsw];exact hlt):=by rw[zeg hlt];unfold pQ;rw[hu];rfl
    simp_all
   |false =>
    obtain⟨b',o',H4,g1,g2,g3,g4⟩:=vM.set hlt'
    simp only[go_sem,g1,g2]
    rw[qil]
    unfold qjt
    simp(disch:=omega) only[go_sem]
    refine qi2 hC hj hlen hd hq k (i+1) _ H4 (by omega) (by omega) ?_ g3 (hf3.then g4 fun _ _ h=>h)
    rw[qvn hlt,List.map_set,hg]
    congr 1
    unfold pQ aCD
    simp_all
  ·have he:i=bG.length:=by omega
   have hlt':¬ i<gs.length:=by omega
   simp only[go_sem,hl,hlt']
   refine hq gs H ?_ hI hf
   rw[hg,he]
   unfold kM
   simp
theorem q40(L:List (List Nat))(n:Nat):∀(d i:Nat) (neg:Bool),i<=(eB L n d i neg).2/\(eB L n d i neg).1.size<=2*((eB L n d i neg).2-i)+1/\(eB L n d i neg).1.depth<=d+1:=by
 have hl:∀ neg,(zA neg).size=1/\(zA neg).depth=1:=fun neg=>by cases neg<;>exact⟨rfl,rfl⟩
 have ha:∀ c neg,(rE L n c neg).size=1/\(rE L n c neg).depth=1:=fun c neg=>by
  unfold rE;split
  ·exact hl neg
  ·trivial
 intro d
 induction d with
 |zero=>intro i neg;unfold eB;have:=hl neg;simp only;omega
 |succ d ih =>
  intro i neg
  unfold eB
  have h1:=hl neg
  split
  ·simp_all
  split
  ·simp_all
  split
  ·simp only[wS,Ru.size,Ru.depth];omega
  split
  ·have:=ha (dW L n i / 8) neg;simp only;omega
  have h1:=ih (i+1) neg
  have h2:=ih (eB L n d (i+1) neg).2 (neg||decide (sI n (dW L n i)=6))
  simp only[Ru.size,Ru.depth]
  omega
theorem qlq(L:List (List Nat))(n:Nat):(kP L n).rule.size<=21/\(kP L n).rule.depth<=7:=by
 have h1:=q40 L n 6 2 false
 have h2:=(qjz L n 6 2 false).2
 unfold kP
 simp only
 omega
def q4a(p:vC):vC:=⟨p.name,p.bG.map (pQ p.bG)⟩
def qI(L:List (List Nat)):List vC:=⟨sU,[]⟩::(List.range ((bF L+3) / 4)).map fun i=>spN L i (min (bF L) (4*i+4))
def zZ(L:List (List Nat)):List vC:=(qI L).map q4a
theorem St.raw{L:List (List Nat)}{l:List aS}{g:aS}(h:St L (bF L) l g):(l++[g]).map aS.sp=qI L:=by
 unfold qI
 rw[List.map_append,List.map_singleton]
 rcases h with⟨h0,rfl,h⟩|⟨q,h1,h2,h3,h5⟩
 ·rw[h0,h];rfl
 ·have hq:(bF L+3) / 4=q+1:=by omega
  rw[hq,List.range_succ,List.map_append,List.map_singleton,h1,h2]
  unfold pre
  rw[List.cons_append]
  congr 2
  ·refine List.map_congr_left fun i hi=> ?_
   rw[List.mem_range]at hi
   unfold spF
   rw[Nat.min_eq_right (by omega)]
  ·simp_all
theorem zdo{L:List (List Nat)}{p:vC}(hp:p∈qI L):p.bG.length<=4/\∀ r∈p.bG,∃n,n<bF L/\r=kP L n:=by
 unfold qI at hp
 rw[List.mem_cons,List.mem_map]at hp
 rcases hp with rfl|⟨i,hi,rfl⟩
 ·simp
 ·refine⟨by simp only[spN,List.length_map,qjd];omega,fun r hr=> ?_⟩
  simp only[spN,List.mem_map,qfg]at hr
  obtain⟨n,hn,rfl⟩:=hr
  exact⟨n,by omega,rfl⟩
theorem pW.flat{A B:Nat}{H:Hp}{rv:AV}{gs:List aY}(h:pW A B H rv gs):sZ rv=true:=by
 rcases h.gl.is with⟨h,_⟩|⟨_,_,_,_,_,h,_⟩<;>(rw[h];rfl)
theorem lN.aUl{H H':Hp}{sv:AV}{X:List aS}(m:lN H sv X){i:Nat}(hi:i<X.length){gs:List aY}(hr:pW X[i].A X[i].B H' X[i].rv gs)(f:Fm (In X[i].rv) H H') :
  lN H' sv (X.set i ⟨X[i].name,gs,X[i].rv,X[i].A,X[i].B⟩):=by
 have hm:=List.getElem_mem hi
 have rin:=(m.rel _ hm).1.tT
 refine⟨?_,?_,?_,?_⟩
 ·have e:(X.set i ⟨X[i].name,gs,X[i].rv,X[i].A,X[i].B⟩).flatMap u6=X.flatMap u6:=by
   rw[List.flatMap_def,List.flatMap_def,List.map_set]
   congr 1
   have:(X.map u6)[i]'(by simpa using hi)=u6 ⟨X[i].name,gs,X[i].rv,X[i].A,X[i].B⟩:=by rw[List.getElem_map];rfl
   rw[<-this,List.set_getElem_self]
  rw[List.length_set,e]
  exact m.gl.fm f fun b h1 h2=>m.dj _ hm b h1 (rin b h2)
 ·have ho:=m.ord
  rw[List.pairwise_iff_getElem]at ho ⊢
  intro a b ha hb hab
  rw[List.length_set]at ha hb
  have:=ho a b ha hb hab
  rw[List.getElem_set,List.getElem_set]
  split<;>split<;>(subst_vars;first|exact this|omega)
 ·intro g hg
  rw[List.mem_iff_getElem]at hg
  obtain⟨j,hj,rfl⟩:=hg
  rw[List.length_set]at hj
  rw[List.getElem_set]
  split
  ·exact⟨hr,Nat.le_trans (m.rel _ hm).2 f.nx⟩
  ·rename_i hne
   have hjm:=List.getElem_mem hj
   refine⟨(m.rel _ hjm).1.iD f fun b h1 h2 h3=> ?_,Nat.le_trans (m.rel _ hjm).2 f.nx⟩
   have h4:=rin b h3
   have ho:=m.ord
   rw[List.pairwise_iff_getElem]at ho
   rcases Nat.lt_or_gt_of_ne hne with h|h
   ·have:=ho i j hi hj h;omega
   ·have:=ho j i hj hi h;omega
 ·intro g hg b hb
  rcases List.mem_or_eq_of_mem_set hg with hg|rfl
  ·exact m.dj g hg b hb
  ·exact m.dj _ hm b hb
structure ClI(H0 H:Hp)(sb:Nat)(sv:AV)(X:List aS):Prop where
 m:lN H sv X
 an:∀ x∈X,H0.nx<=x.A/\¬(x.A<=sb/\sb<x.B)
 sbk:H.get sb=aD 0 [sv]
 sbl:H0.nx<=sb/\sb<H.nx
 sK:∀ b,In sv b->H0.nx<=b
 fm:Fm No H0 H
theorem qli(hC:bC C){j:Nat}(hj:20<=j){H0:Hp}{sb:Nat}{sv:AV}{S:List vC}(hS:S.length<=1000)(hr:∀ p∈S,p.bG.length<=1000/\∀ r∈p.bG,r.rule.depth<=12/\r.rule.size<=10000)
  {Q:AV->Hp->Prop} {q:Hp->R1} (hq:∀ X H,X.map aS.sp=S.map q4a->ClI H0 H sb sv X->Ok (q H) Q) :
  ∀(k i:Nat) (X:List aS) (H:Hp),i<=S.length->S.length-i<k->X.map aS.sp=(S.take i).map q4a++S.drop i->ClI H0 H sb sv X ->
   Ok (qii (C j) q (.ptr sb 0) k (iN i) H) Q
 |0,i,_,_,_,h,_,_=>by omega
 |k+1,i,X,H,hi,hk,hX,hI=>by
  show Ok (qyr (C j) _ _ (qii (C j) _ _ k) _ H) Q
  unfold qyr
  have hl:=hI.m.gl.cO
  have e0:=hI.sbk
  have hXl:X.length=S.length:=by
   have:=congrArg List.length hX
   simp only[List.length_map,List.length_append,List.length_take,List.length_drop]at this
   omega
  by_cases hlt:i<S.length
  ·have hlt':i<X.length:=by omega
   simp only[go_sem,e0,hl,hlt']
   rw[qob]
   unfold qrm
   obtain⟨b,o,e1,e2,_,_,e4⟩:=(hI.m.gl.rs qd6).at' i hlt'
   have r1:bT (H.get b) (o+1)= .val X[i].rv:=e4 1 (by rw[qd6];omega)
   simp only[go_sem,e0,e1,r1]
   unfold zb7
   rw[dI]
   have hsp:X[i].sp=S[i]:=by
    have h1:(X.map aS.sp)[i]'(by simpa using hlt')=X[i].sp:=List.getElem_map ..
    simp_all
   have hrl:X[i].gs.map aY.r=S[i].bG:=congrArg vC.bG hsp
   have hSm:=hr S[i] (List.getElem_mem hlt)
   have hm:=List.getElem_mem hlt'
   refine qi2 hC hj (bG:=S[i].bG) (A:=X[i].A) (B:=X[i].B) (rv:=X[i].rv) (H1:=H) hSm.1 hSm.2 (fun gs H' hg hR f=> ?_) cK 0 X[i].gs H (Nat.zero_le _) (by rw[dK];omega) (by rw[hrl];simp[kM]) (hI.m.rel _ hm).1 (Fm.refl _ _)
   rw[qof]
   unfold qrq
   simp(disch:=omega) only[go_sem]
   have rin:=(hI.m.rel _ hm).1.tT
   have han:=hI.an _ hm
   have aE5:=hI.sbl
   refine qli hC hj hS hr hq k (i+1) _ H' (by omega) (by omega) ?_ ⟨hI.m.aUl hlt' hR f,?_,?_,?_,hI.sK,?_⟩
   ·rw[List.map_set,hX,List.take_succ_eq_append_getElem hlt,List.map_append,List.map_singleton,List.append_assoc,List.set_append_right _ _ (by simp;omega)]
    simp only[List.length_map,List.length_take,Nat.min_eq_left hi,Nat.sub_self]
    rw[List.drop_eq_getElem_cons hlt,List.set_cons_zero,List.singleton_append]
    congr 2
    unfold aS.sp q4a
    congr 1
    exact congrArg vC.name hsp
   ·intro x hx
    rcases List.mem_or_eq_of_mem_set hx with hx|rfl
    ·exact hI.an x hx
    ·exact han
   ·exact(f.get _ aE5.2 fun h=>han.2 (rin _ h)).trans hI.sbk
   ·exact⟨aE5.1,Nat.lt_of_lt_of_le aE5.2 f.nx⟩
   ·exact hI.fm.then f fun c hc h=>by have:=(rin c h).1;omega
  ·have he:i=S.length:=by omega
   have hlt':¬ i<X.length:=by omega
   simp only[go_sem,e0,hl,hlt']
   refine hq X H ?_ hI
   simp_all
structure oQ(H:Hp)(g:aY):Prop where
 ty:Rs 2 tC H g.tv g.r.types
 tc:g.tv= .aA\/∃ b o n m e,g.tv= .sl b o n m e/\n<=m
 ru:jK (fun _=>True) H g.r.rule g.cs
structure SpR(H:Hp)(g:aS):Prop where
 len:aG g.rv= .val (iN (g.gs.length))
 fl:sZ g.rv=true
 at':∀ i (h:i<g.gs.length),∃b o,aL 6 g.rv (iN i)= .val (.ptr b o)/\b<H.nx/\bT (H.get b) o= .val (.str g.gs[i].r.name.n g.gs[i].r.name.a)/\bT (H.get b) (o+1)= .val g.gs[i].tv/\iZ (H.get b) (o+2) 4=some g.gs[i].cs/\iZ (H.get b) o 6=some (gQ g.gs[i])
 rel:∀ x∈g.gs,oQ H x
structure dF(H:Hp)(sv:AV)(X:List aS):Prop where
 rs:Rs 2 u6 H sv X
 fl:sZ sv=true
 sp:∀ g∈X,SpR H g
theorem oQ.tf{H:Hp}{g:aY}(h:oQ H g):sZ g.tv=true:=by
 rcases h.tc with h|⟨_,_,_,_,_,h,_⟩<;>(rw[h];rfl)
theorem oQ.fm{H H':Hp}{g:aY}(h:oQ H g)(f:Fm No H H'):oQ H' g:=⟨h.ty.fm f,h.tc,h.ru.fm f⟩
theorem SpR.fm{H H':Hp}{g:aS}(h:SpR H g)(f:Fm No H H'):SpR H' g:=⟨h.len,h.fl,fun i hi=>by
 obtain⟨b,o,e1,e2,e3,e4,e5,e6⟩:=h.at' i hi
 have e:=f.keep e2
 exact⟨b,o,e1,Nat.lt_of_lt_of_le e2 f.nx,by rw[e];exact e3,by rw[e];exact e4,by rw[e];exact e5,by rw[e];exact e6⟩,fun x hx=>(h.rel x hx).fm f⟩
theorem dF.fm{H H':Hp}{sv:AV}{X:List aS}(h:dF H sv X)(f:Fm No H H'):dF H' sv X:=⟨h.rs.fm f,h.fl,fun g hg=>(h.sp g hg).fm f⟩
theorem lN.sr{H:Hp}{sv:AV}{X:List aS}(m:lN H sv X):dF H sv X:=by
 refine⟨m.gl.rs qd6,?_,fun g hg=> ?_⟩
 ·rcases m.gl.is with⟨h,_⟩|⟨_,_,_,_,_,h,_⟩<;>(rw[h];rfl)
 ·have r:=(m.rel g hg).1
  refine⟨r.gl.cO,r.flat,fun i hi=> ?_,fun x hx=>⟨(r.ty x hx).1,(r.ty x hx).2.1,(r.ru x hx).mono fun _ _ _=>trivial⟩⟩
  ·obtain⟨b,o,e1,e2,_,e4,e5,e6,e7⟩:=r.at hi
   exact⟨b,o,e1,e2,e4,e5,e6,e7⟩
theorem zyu(hC:bC C){k:Nat}(hk:21<=k){v:AV}{L:List (List Nat)}{H:Hp}(hv:gJ H v L) :
  Ok (C k (.f 6) [.agg [v]] H) fun r H'=>∃ sv X,r= .agg [sv]/\dF H' sv X/\X.map aS.sp=zZ L/\Fm No H H':=by
 obtain⟨j,rfl⟩:=aW hk
 rw[(hC j).zAc]
 unfold zAc zr9
 simp(disch:=first|omega|exact ti rfl|(simp only[np,nq];first|done|omega)) only[go_sem,seval]
 unfold zb5
 rw[dI]
 have f0:Fm No H (aR (aR H (aD 0 [v])) (aD 0 [.aA])):=by exact yN
 have hv0:=hv.fm f0
 refine zd9 hC (by omega) (H0:=aR (aR H (aD 0 [v])) (aD 0 [.aA])) (cb:=H.nx) (sb:=H.nx+3) hv0 (fun H1 sv l g hI hS=> ?_) cK 0 [] ⟨sU,[],.aA,H.nx+4,H.nx+4⟩ (.sl (H.nx+2) 0 1 1 true) _ (Nat.zero_le _) (by have:bF L<=12:=Nat.min_le_right _ _;rw[dK];omega) ⟨?_,?_,?_,?_,?_,?_,?_,?_,?_,?_,?_,?_⟩ (.inl ⟨rfl,rfl,rfl⟩)
 ·rw[qoa]
  unfold qrl zb8
  rw[dI]
  have hraw:=hS.raw
  refine qli hC (by omega) (H0:=aR (aR H (aD 0 [v])) (aD 0 [.aA])) (sb:=H.nx+3) (sv:=sv) (S:=qI L) ?_ (fun p hp=> ?_) (fun X H2 hX hI2=> ?_) cK 1 (l++[g]) H1 ?_ ?_ ?_ ⟨hI.m,fun x hx=>⟨hI.an x hx,?_⟩,hI.sbk,⟨hI.sbl.1,hI.sbl.2.2⟩,fun b hb=>(hI.sK b hb).1,hI.fm⟩
  ·unfold qI
   have:bF L<=12:=Nat.min_le_right _ _
   simp;omega
  ·have h1:=zdo hp
   refine⟨by omega,fun r hr=> ?_⟩
   obtain⟨n,_,rfl⟩:=h1.2 r hr
   have:=qlq L n
   omega
  ·rw[qt5]
   unfold qyl
   have e0:=hI2.sbk
   have nx2:=hI2.fm.nx
   have er:H2.get (H.nx+1)=aD 0 [.aA]:=(hI2.fm.keep (by simp only[np];omega)).trans (by simp(disch:=first|omega|exact ti rfl|(simp only[np,nq];first|done|omega)) only[go_sem])
   have fF:Fm (fun b=>b=H.nx+1) H2 (H2.put (H.nx+1) (aD 0 [sv])):=(Fm.refl _ _).put _ _ fun _=>rfl
   have sb2:=hI2.sbl
   simp only[go_sem,seval,e0,er]
   refine Ok.ret ⟨sv,X,rfl,(hI2.m.iD fF (fun b hb h=> ?_) (fun g hg b h1 _ h=> ?_)).sr,hX,(f0.trans hI2.fm).then fF fun c hc h=> ?_⟩
   ·have:=hI2.sK b hb
    simp only[np]at this
    omega
   ·have:=(hI2.an g hg).1
    simp only[np]at this
    omega
   ·omega
  ·have:=hS.len (Nat.min_le_right _ _)
   rw[<-hraw]
   simp
  ·rw[<-hraw]
   have:=hS.len (Nat.min_le_right _ _)
   rw[dK];simp;omega
  ·trivial
  ·rw[List.mem_append,List.mem_singleton]at hx
   rcases hx with hx|rfl
   ·exact hI.sbd x hx
   ·have:=hI.sbl;omega
 ·exact⟨by simp only[np,nq];omega,by simp(disch:=first|omega|exact ti rfl|(simp only[np,nq];first|done|omega)) only[go_sem]⟩
 ·simp only[go_sem]
 ·simp only[np,nq];omega
 ·simp
 ·left;omega
 ·constructor<;>(rintro ⟨_,_,_,_,h⟩;injection h;omega)
 ·rintro b ⟨_,_,_,_,h⟩
  cases h
  simp only[np];omega
 ·simp
 ·refine⟨⟨rfl,.inr ⟨H.nx+2,0,true,0,_,rfl,?_,Nat.zero_le _,rfl,.inl rfl,?_⟩⟩,List.pairwise_singleton _ _,fun x hx=> ?_,fun x hx b hb=> ?_⟩
  ·simp(disch:=first|omega|exact ti rfl|(simp only[np,nq];first|done|omega)) only[go_sem];rfl
  ·simp only[np,nq];omega
  ·rw[List.nil_append,List.mem_singleton]at hx
   subst hx
   exact⟨pW.nil _ _ _,by simp only[np,nq];omega⟩
  ·simp_all
 ·intro x hx
  rw[List.nil_append,List.mem_singleton]at hx
  subst hx
  simp only[np];omega
 ·simp only[np,nq];omega
 ·repeat first|exact Fm.refl _ _|assumption|refine Fm.push ?_ _|refine Fm.aM ?_ _ _ (by simp only[np];omega)
def pI(X:List aS)(a b:SS):Option aY:=match X.find? fun g=>decide (g.name=a)with
 |none=>none
 |some g=>g.gs.find? fun x=>decide (x.r.name=b)
theorem zfd{α:Type}{p:α->Bool}{l:List α}{i:Nat}(hi:i<l.length)(h:p l[i]=true)(hb:∀ k (hk:k<i),p (l[k]'(by omega))=false):l.find? p=some l[i]:=by
 rw[List.find?_eq_some_iff_getElem]
 exact⟨h,i,hi,rfl,fun j hj=>by rw[hb j hj];rfl⟩
theorem zfc{α:Type}{p:α->Bool}{l:List α}(hb:∀ k (hk:k<l.length),p (l[k])=false):l.find? p=none:=by
 rw[List.find?_eq_none]
 intro x hx
 obtain⟨i,hi,rfl⟩:=List.getElem_of_mem hx
 simp_all
theorem qot{call:Ev.Call}{H:Hp}{sb:Nat}{sv:AV}{X:List aS}(hX:dF H sv X)(hs:X.length<1000000)(hb:H.get sb=aD 0 [sv])(a:SS){Q:AV->Hp->Prop}{q:Hp->R1}{qr:AV->Hp->R1}
  (hr:∀ i (hi:i<X.length),X[i].name=a->(∀k (hk:k<i),X[k].name≠a)->Ok (qr (iN i) H) Q) (hq:(∀k (hk:k<X.length),X[k].name≠a)->Ok (q H) Q) :
  ∀(k i:Nat),i<=X.length->X.length-i<k->(∀k (hk:k<i) (hl:k<X.length),X[k].name≠a)->Ok (q0w call qr q a.v (.ptr sb 0) k (iN i) H) Q
 |0,i,_,h,_=>by omega
 |k+1,i,hi,hk,hn=>by
  show Ok (q8y call _ _ _ _ (q0w call _ _ _ _ k) _ H) Q
  unfold q8y
  have hl:=hX.rs.len
  by_cases hlt:i<X.length
  ·simp only[go_sem,hb,hl,hlt]
   unfold q8w
   obtain⟨b,o,e1,e2,_,_,e4⟩:=hX.rs.at' i hlt
   have r0:bT (H.get b) o= .val (.str X[i].name.n X[i].name.a):=e4 0 (by rw[qd6];omega)
   unfold SS.v
   by_cases h:X[i].name.n=a.n/\X[i].name.a=a.a
   ·have ht:=eq_true h
    simp only[go_sem,hb,e1,r0,ht]
    exact hr i hlt ((nI _ _).2 h) fun k hk=>hn k hk (by omega)
   ·simp only[go_sem,hb,e1,r0,h]
    unfold zoa
    simp(disch:=omega) only[go_sem]
    refine qot hX hs hb a hr hq k (i+1) (by omega) (by omega) fun m hm hl=> ?_
    by_cases he:m=i
    ·subst he;exact fun h'=>h ((nI _ _).1 h')
    ·exact hn m (by omega) hl
  ·simp only[go_sem,hb,hl,hlt]
   exact hq fun m hm=>hn m (by omega) hm
theorem zmv(hC:bC C){k:Nat}(hk:1<=k){H:Hp}{sv:AV}{X:List aS}(hX:dF H sv X)(hs:X.length<1000000)(a:SS) :
  Ok (C k (.f 46) [.agg [sv],a.v] H) fun r H'=>Fm No H H'/\((∃i,∃hi:i<X.length,r=iN i/\X.find? (fun g=>decide (g.name=a))=some X[i])\/(r= .int .i64 (.negSucc 0)/\X.find? (fun g=>decide (g.name=a))=none)):=by
 obtain⟨j,rfl⟩:=aW hk
 rw[(hC j).zBs]
 unfold zBs zq6
 simp only[go_sem]
 have f:Fm No H (aR H (aD 0 [sv])):=by exact jW
 unfold zob
 rw[dI]
 refine qot (hX.fm f) hs (kL _ _) a (fun i hi h1 h2=> ?_) (fun h=> ?_) cK 0 (Nat.zero_le _) (by rw[dK];omega) (fun k hk=>by omega)
 ·refine Ok.ret ⟨f,.inl ⟨i,hi,rfl,zfd hi (by simpa using h1) fun k hk=>by simpa using h2 k hk⟩⟩
 ·unfold q8x
  refine Ok.ret ⟨f,.inr ⟨rfl,zfc fun k hk=>by simpa using h k hk⟩⟩
def qvl:List AV:=[.str 0 0,.aA,.int .u8 (.ofNat 0),.str 0 0,.str 0 0,.aA]
def zgy(X:List aS)(a b:SS)(r:AV):Prop:=match pI X a b with
 |some g=>r= .aZ [.agg (gQ g),.bool true]
 |none=>r= .aZ [.agg qvl,.bool false]
theorem qv4{call:Ev.Call}{H:Hp}{sb rb:Nat}{sv:AV}{X:List aS}(hX:dF H sv X){s:Nat}(hs:s<X.length)(hb:H.get sb=aD 0 [sv])(hg:X[s].gs.length<1000000)(he:H.get rb=aD 0 qvl)(b:SS){Q:AV->Hp->Prop}{q:Hp->R1}{qr:AV->Hp->R1}
  (hr:∀ g,X[s].gs.find? (fun x=>decide (x.r.name=b))=some g->Ok (qr (.bool true) (H.put rb (aD 0 (gQ g)))) Q) (hq:X[s].gs.find? (fun x=>decide (x.r.name=b))=none->Ok (q H) Q) :
  ∀(k i:Nat),i<=X[s].gs.length->X[s].gs.length-i<k->(∀k (hk:k<i) (hl:k<X[s].gs.length),X[s].gs[k].r.name≠b)->Ok (qtx call qr q b.v (.ptr sb 0) (.ptr rb 0) (iN s) k (iN i) H) Q
 |0,i,_,h,_=>by omega
 |k+1,i,hi,hk,hn=>by
  show Ok (qty call _ _ _ _ _ _ (qtx call _ _ _ _ _ _ k) _ H) Q
  unfold qty
  obtain⟨b1,o1,e1,e2,_,_,e4⟩:=hX.rs.at' s hs
  have r1:bT (H.get b1) (o1+1)= .val X[s].rv:=e4 1 (by rw[qd6];omega)
  have hp:=hX.sp _ (List.getElem_mem hs)
  have hl:=hp.len
  by_cases hlt:i<X[s].gs.length
  ·simp only[go_sem,hb,e1,r1,hl,hlt,Nat.zero_le]
   unfold q9w
   obtain⟨b2,o2,g1,g2,g3,g4,g5,g6⟩:=hp.at' i hlt
   unfold SS.v
   by_cases h:X[s].gs[i].r.name.n=b.n/\X[s].gs[i].r.name.a=b.a
   ·have ht:=eq_true h
    simp only[go_sem,hb,e1,r1,g1,g3,ht,g6]
    simp only[go_sem,he]
    refine hr X[s].gs[i] (zfd hlt (by simpa using (nI _ _).2 h) fun k hk=>by simpa using hn k hk (by omega))
   ·simp only[go_sem,hb,e1,r1,g1,g3,h]
    unfold zok
    simp(disch:=omega) only[go_sem]
    refine qv4 hX hs hb hg he b hr hq k (i+1) (by omega) (by omega) fun m hm hl=> ?_
    by_cases he:m=i
    ·subst he;exact fun h'=>h ((nI _ _).1 h')
    ·exact hn m (by omega) hl
  ·simp only[go_sem,hb,e1,r1,hl,hlt,Nat.zero_le]
   exact hq (zfc fun m hm=>by simpa using hn m (by omega) hm)
theorem q0b(hC:bC C){k:Nat}(hk:2<=k){H:Hp}{sv:AV}{X:List aS}(hX:dF H sv X)(hs:X.length<1000000)(hg:∀ g∈X,g.gs.length<900000)(a b:SS) :
  Ok (C k (.f 34) [.agg [sv],a.v,b.v] H) fun r H'=>Fm No H H'/\zgy X a b r:=by
 obtain⟨j,rfl⟩:=aW hk
 rw[(hC j).zAy]
 unfold zAy zro
 simp(disch:=first|omega|exact ti rfl|(simp only[np,nq];first|done|omega)) only[go_sem]
 have f:Fm No H (aR (aR H (aD 0 [sv])) (aD 0 qvl)):=by exact yN
 refine Ok.ve (zmv hC (k:=j) (by omega) (hX.fm f) hs a) ?_
 rintro r H1 ⟨f1,h⟩
 have n1:=f1.nx
 have hb:H1.get H.nx=aD 0 [sv]:=(f1.keep (by simp only[np];omega)).trans (by simp(disch:=first|omega|exact ti rfl|(simp only[np,nq];first|done|omega)) only[go_sem])
 have hr:H1.get (H.nx+1)=aD 0 qvl:=(f1.keep (by simp only[np];omega)).trans (by simp(disch:=first|omega|exact ti rfl|(simp only[np,nq];first|done|omega)) only[go_sem])
 unfold zol
 obtain⟨m,hm⟩:∃ m,cK=m+1:=⟨999999,by rw[dK]⟩
 unfold zgy pI
 have fin:Ok (q00 (C j) (.ptr (H.nx+1) 0) H1) fun r H'=>Fm No H H'/\r= .aZ [.agg qvl,.bool false]:=by
  unfold q00
  unfold qvl at hr ⊢
  simp only[go_sem,seval,hr]
  exact Ok.ret ⟨(f.trans f1).aM _ _ (by omega),rfl⟩
 rcases h with⟨i,hi,rfl,h⟩|⟨rfl,h⟩
 ·rw[dI,h]
  refine qv4 ((hX.fm f).fm f1) hi hb (by have:=hg _ (List.getElem_mem hi);omega) hr b (fun g h2=> ?_) (fun h2=> ?_) cK 0 (Nat.zero_le _) (by have:=hg _ (List.getElem_mem hi);rw[dK];omega) (fun k hk=>by omega)
  ·simp only
   rw[h2]
   simp only[go_sem]
   exact Ok.ret ⟨(f.trans f1).aM _ _ (by omega),rfl⟩
  ·simp only
   rw[h2]
   exact fin
 ·rw[dI,hm,h]
  show Ok (qty (C j) _ _ _ _ _ _ (qtx (C j) _ _ _ _ _ _ m) _ H1) _
  unfold qty
  simp only[go_sem]
  exact fin
def pC(p:SS×SS):List AV:=[p.1.v,p.2.v]
theorem qgk(p:SS×SS):(pC p).length=2:=rfl
def aF(X:List aS):List (SS×SS):=X.flatMap fun g=>g.gs.map fun x=>(g.name,x.r.name)
structure rM(X:List aS):Prop where
 n:X.length<=100
 r:∀ g∈X,g.gs.length<=100
 t:∀ g∈X,∀x∈g.gs,x.r.types.length<=100
theorem rM.all{X:List aS}(h:rM X):∀ i,((X.take i).flatMap fun g=>g.gs.map fun x=>(g.name,x.r.name)).length<=10000:=fun i=>by
 have h1:∀ l:List aS,(∀g∈l,g.gs.length<=100)->(l.flatMap fun g=>g.gs.map fun x=>(g.name,x.r.name)).length<=100*l.length:=by
  intro l
  induction l with
  |nil=>intro _;simp
  |cons a l ih =>
   intro h
   rw[List.flatMap_cons,List.length_append,List.length_map,List.length_cons]
   have:=ih fun g hg=>h g (List.mem_cons_of_mem _ hg)
   have:=h a List.mem_cons_self
   omega
 have h2:=h1 (X.take i) fun g hg=>h.r g (List.mem_of_mem_take hg)
 have h3:(X.take i).length<=X.length:=by rw[List.length_take];omega
 have:=h.n
 omega
theorem qwn{call:Ev.Call}{H0:Hp}{sb:Nat}{sv:AV}{X:List aS}(hX:dF H0 sv X)(hS:rM X)(hb:H0.get sb=aD 0 [sv])(hbl:sb<H0.nx){s:Nat}(hs:s<X.length){A:List (SS×SS)}(hA:A.length<=1000000){Q:AV->Hp->Prop}{q:AV->Hp->R1}
  (hq:∀ w H,Ac 2 pC H0 H w (A++X[s].gs.map fun x=>(X[s].name,x.r.name))->Ok (q w H) Q) :
  ∀(k i:Nat) (w:AV) (H:Hp),i<=X[s].gs.length->X[s].gs.length-i<k->Ac 2 pC H0 H w (A++(X[s].gs.take i).map fun x=>(X[s].name,x.r.name)) ->
   Ok (q1j call q (.ptr sb 0) (iN s) k w (iN i) H) Q
 |0,i,_,_,_,h,_=>by omega
 |k+1,i,w,H,hi,hk,hw=>by
  show Ok (za9 call _ _ _ (q1j call _ _ _ k) _ _ H) Q
  unfold za9
  have hX1:=hX.fm hw.fm
  have hb1:=(hw.fm.keep hbl).trans hb
  obtain⟨b1,o1,e1,e2,_,_,e4⟩:=hX1.rs.at' s hs
  have r0:bT (H.get b1) o1= .val (.str X[s].name.n X[s].name.a):=e4 0 (by rw[qd6];omega)
  have r1:bT (H.get b1) (o1+1)= .val X[s].rv:=e4 1 (by rw[qd6];omega)
  have hp:=hX1.sp _ (List.getElem_mem hs)
  have hl:=hp.len
  have hr:=hS.r _ (List.getElem_mem hs)
  by_cases hlt:i<X[s].gs.length
  ·simp only[go_sem,hb1,e1,r1,hl,hlt]
   unfold za7
   obtain⟨b2,o2,g1,g2,g3,_,_,_⟩:=hp.at' i hlt
   have hll:(A++(X[s].gs.take i).map fun x=>(X[s].name,x.r.name)).length<=1001000:=by
    rw[List.length_append,List.length_map,List.length_take];omega
   simp only[go_sem,seval,hb1,e1,r0,r1,g1,g3]
   refine Ok.lX ((hw.no (by(repeat(first|exact Fm.refl _ _|assumption|refine Fm.push ?_ _|refine Fm.uF ?_ (by(first|omega|(simp only[np,nq];omega)))|refine Fm.aM ?_ _ _ (by(first|omega|(simp only[np,nq];omega))))))).add (X[s].name,X[s].gs[i].r.name) 32 rfl (by omega) (by omega)) ?_
   intro w2 H2 hw2
   unfold zo1
   simp(disch:=omega) only[go_sem]
   refine qwn hX hS hb hbl hs hA hq k (i+1) w2 H2 (by omega) (by omega) ?_
   rw[List.take_succ_eq_append_getElem hlt,List.map_append,List.map_singleton,<-List.append_assoc]
   exact hw2
  ·simp only[go_sem,hb1,e1,r1,hl,hlt]
   have he:i=X[s].gs.length:=by omega
   simp_all
theorem q4e{call:Ev.Call}{H0:Hp}{sb:Nat}{sv:AV}{X:List aS}(hX:dF H0 sv X)(hS:rM X)(hb:H0.get sb=aD 0 [sv])(hbl:sb<H0.nx){Q:AV->Hp->Prop}{q:AV->Hp->R1}
  (hq:∀ w H,Ac 2 pC H0 H w (aF X)->Ok (q w H) Q) :
  ∀(k i:Nat) (w:AV) (H:Hp),i<=X.length->X.length-i<k->Ac 2 pC H0 H w ((X.take i).flatMap fun g=>g.gs.map fun x=>(g.name,x.r.name)) ->
   Ok (qt1 call q (.ptr sb 0) k w (iN i) H) Q
 |0,i,_,_,_,h,_=>by omega
 |k+1,i,w,H,hi,hk,hw=>by
  show Ok (zba call _ _ (qt1 call _ _ k) _ _ H) Q
  unfold zba
  have hn:=hS.n
  have hX1:=hX.fm hw.fm
  have hb1:=(hw.fm.keep hbl).trans hb
  have hl:=hX1.rs.len
  by_cases hlt:i<X.length
  ·simp only[go_sem,hb1,hl,hlt]
   unfold za6 zo2
   rw[dI]
   have hr:=hS.r _ (List.getElem_mem hlt)
   refine qwn hX hS hb hbl hlt (Nat.le_trans (hS.all i) (by omega)) (fun w2 H2 hw2=> ?_) cK 0 w H (Nat.zero_le _) (by rw[dK];omega) (by simpa using hw)
   unfold za5
   simp(disch:=omega) only[go_sem]
   refine q4e hX hS hb hbl hq k (i+1) w2 H2 (by omega) (by omega) ?_
   rw[List.take_succ_eq_append_getElem hlt,List.flatMap_append,List.flatMap_singleton]
   exact hw2
  ·simp only[go_sem,hb1,hl,hlt]
   have he:i=X.length:=by omega
   rw[he,List.take_length]at hw
   exact hq w H hw
theorem zg1(hC:bC C){k:Nat}(hk:1<=k){H:Hp}{sv:AV}{X:List aS}(hX:dF H sv X)(hS:rM X) :
  Ok (C k (.f 11) [.agg [sv]] H) fun r H'=>Ac 2 pC H H' r (aF X):=by
 obtain⟨j,rfl⟩:=aW hk
 rw[(hC j).zAh]
 unfold zAh zr4
 simp only[go_sem]
 have f:Fm No H (aR H (aD 0 [sv])):=by exact jW
 have hn:=hS.n
 unfold zo3
 rw[dI]
 refine q4e (hX.fm f) hS (kL _ _) (by simp only[np];omega) (fun w H2 hw=> ?_) cK 0 .aA _ (Nat.zero_le _) (by rw[dK];omega) (Ac.nil _ _ (Fm.refl _ _))
 exact Ok.ret (hw.trans f)
def bJ(X:List aS)(a b:SS):Nat:=(aF X).findIdx fun p=>decide (p=(a,b))
theorem q29{call:Ev.Call}{H:Hp}{v:AV}{l:List (SS×SS)}(hv:Rs 2 pC H v l)(a b:SS){Q:AV->Hp->Prop}{q:Hp->R1}{qr:AV->Hp->R1}
  (hr:l.findIdx (fun p=>decide (p=(a,b)))<l.length->Ok (qr (iN ((l.findIdx fun p=>decide (p=(a,b))))) H) Q) (hq:(a,b)∉l->Ok (q H) Q) (hll:l.length<=1000000000) :
  ∀(k i:Nat),i<=l.length->l.length-i<k->(∀m (_:m<i) (hl:m<l.length),l[m]≠(a,b))->Ok (qtz call qr q a.v b.v v k (iN i) H) Q
 |0,i,_,h,_=>by omega
 |k+1,i,hi,hk,hn=>by
  show Ok (zas call _ _ _ _ _ (qtz call _ _ _ _ _ k) _ H) Q
  unfold zas
  have hl:=hv.len
  have next:i<l.length->l[i]? ≠ some (a,b)->Ok (zao call (qtz call qr q a.v b.v v k) (iN i) H) Q:=fun hlt hne=>by
   unfold zao
   simp(disch:=omega) only[go_sem]
   refine q29 hv a b hr hq hll k (i+1) (by omega) (by omega) fun m hm hl=> ?_
   by_cases he:m=i
   ·simp_all
   ·exact hn m (by omega) hl
  by_cases hlt:i<l.length
  ·simp only[go_sem,hl,hlt]
   unfold zar
   obtain⟨b1,o1,e1,e2,_,_,e4⟩:=hv.at' i hlt
   have r0:bT (H.get b1) o1= .val (.str l[i].1.n l[i].1.a):=e4 0 (by rw[qgk];omega)
   have r1:bT (H.get b1) (o1+1)= .val (.str l[i].2.n l[i].2.a):=e4 1 (by rw[qgk];omega)
   unfold SS.v
   by_cases h1:l[i].1.n=a.n/\l[i].1.a=a.a
   ·have oH:=eq_true h1
    by_cases h2:l[i].2.n=b.n/\l[i].2.a=b.a
    ·have h2t:=eq_true h2
     simp only[go_sem,e1,r0,r1,oH,h2t]
     have hp:l[i]=(a,b):=Prod.ext ((nI _ _).2 h1) ((nI _ _).2 h2)
     have hx:l.findIdx (fun p=>decide (p=(a,b)))=i:=by
      rw[List.findIdx_eq hlt]
      simp_all
     simp_all
    ·simp only[go_sem,e1,r0,r1,oH,h2]
     refine next hlt fun h=>h2 ?_
     simp_all
   ·simp only[go_sem,e1,r0,h1]
    refine next hlt fun h=>h1 ?_
    simp_all
  ·simp only[go_sem,hl,hlt]
   refine hq fun hm=> ?_
   obtain⟨m,hm,he⟩:=List.getElem_of_mem hm
   exact hn m (by omega) hm he
theorem qm8(hC:bC C){k:Nat}(hk:2<=k){H:Hp}{sv:AV}{X:List aS}(hX:dF H sv X)(hS:rM X)(a b:SS) :
  Ok (C k (.f 16) [.agg [sv],a.v,b.v] H) fun r H'=>Fm No H H'/\((bJ X a b<(aF X).length/\r=iN ((bJ X a b)))\/((a,b)∉aF X/\r= .int .i64 (.negSucc 0))):=by
 obtain⟨j,rfl⟩:=aW hk
 rw[(hC j).zAm]
 unfold zAm zr0
 simp(disch:=omega) only[go_sem]
 have f:Fm No H (aR H (aD 0 [sv])):=by exact jW
 refine Ok.ve (zg1 hC (k:=j) (by omega) (hX.fm f) hS) ?_
 intro w H1 hw
 have hal:(aF X).length<=10000:=by have:=hS.all X.length;rwa [List.take_length]at this
 unfold zor
 rw[dI]
 refine q29 (hw.rs qgk) a b (fun h=> ?_) (fun h=> ?_) (by omega) cK 0 (Nat.zero_le _) (by rw[dK];omega) (fun m hm=>by omega)
 ·exact Ok.ret ⟨f.trans hw.fm,.inl ⟨h,rfl⟩⟩
 ·unfold zaq
  exact Ok.ret ⟨f.trans hw.fm,.inr ⟨h,rfl⟩⟩
def tgP(X:List aS)(to:SS)(t:kF):Bool:=decide (t.rl=sE)&&(pI X t.sp to).isSome
def tgL(X:List aS)(to:SS)(l:List kF):List SS:=(l.filter (tgP X to)).map kF.sp
def qW(X:List aS)(a rel to:SS):List SS:=match pI X a rel with
 |none=>[]
 |some g=>tgL X to g.r.types
theorem qj1(g:aY):∃ c2 c3 c4 c5,gQ g=[.str g.r.name.n g.r.name.a,g.tv,c2,c3,c4,c5]:=⟨_,_,_,_,rfl⟩
theorem qr9(X:List aS)(to:SS)(l:List kF):(tgL X to l).length<=l.length:=by
 unfold tgL
 rw[List.length_map];exact List.length_filter_le _ _
theorem q14(X:List aS)(to:SS){l:List kF}{i:Nat}(h:i<l.length):tgL X to (l.take (i+1))=tgL X to (l.take i)++if tgP X to l[i]then[l[i].sp]else[]:=by
 unfold tgL
 rw[List.take_succ_eq_append_getElem h,List.filter_append,List.map_append,List.filter_cons]
 split<;>simp
theorem qhd(hC:bC C){j:Nat}(hj:2<=j){H0:Hp}{sb rb:Nat}{sv tv c0 c2 c3 c4 c5:AV}{X:List aS}(hX:dF H0 sv X)(hS:rM X)(hb:H0.get sb=aD 0 [sv])(hbl:sb<H0.nx)(hr:H0.get rb=aD 0 [c0,tv,c2,c3,c4,c5])(hrl:rb<H0.nx)
  {ts:List kF} (ht:Rs 2 tC H0 tv ts) (htl:ts.length<=1000) (to:SS) {Q:AV->Hp->Prop} {q:AV->Hp->R1}
  (hq:∀ w H,Ac 1 sC H0 H w (tgL X to ts)->Ok (q w H) Q) :
  ∀(k i:Nat) (w:AV) (H:Hp),i<=ts.length->ts.length-i<k->Ac 1 sC H0 H w (tgL X to (ts.take i)) ->
   Ok (qkp (C j) q to.v (.ptr sb 0) (.ptr rb 0) k w (iN i) H) Q
 |0,i,_,_,_,h,_=>by omega
 |k+1,i,w,H,hi,hk,hw=>by
  show Ok (q9u (C j) _ _ _ _ (qkp (C j) _ _ _ _ k) _ _ H) Q
  unfold q9u
  have hX1:=hX.fm hw.fm
  have hb1:=(hw.fm.keep hbl).trans hb
  have hr1:=(hw.fm.keep hrl).trans hr
  have ht1:=ht.fm hw.fm
  have hl:=ht1.len
  have nx1:=hw.fm.nx
  have hn:=hS.n
  by_cases hlt:i<ts.length
  ·simp only[go_sem,hr1,hl,hlt]
   rw[qnv]
   unfold qql
   obtain⟨b1,o1,e1,e2,_,_,e4⟩:=ht1.at' i hlt
   have r0:bT (H.get b1) o1= .val (.str ts[i].sp.n ts[i].sp.a):=e4 0 (by rw[qhe];omega)
   have r1:bT (H.get b1) (o1+1)= .val (.str ts[i].rl.n ts[i].rl.a):=e4 1 (by rw[qhe];omega)
   simp only[go_sem,seval,hr1,hb1,e1,r0]
   have fU:Fm No H ⟨H.t,H.nx+15⟩:=by(repeat(first|exact Fm.refl _ _|assumption|refine Fm.push ?_ _|refine Fm.uF ?_ (by(first|omega|(simp only[np,nq];omega)))|refine Fm.aM ?_ _ _ (by(first|omega|(simp only[np,nq];omega)))))
   refine Ok.lX (q0b hC (k:=j) hj (hX1.fm fU) (by omega) (fun g hg=>by have:=hS.r g hg;omega) ts[i].sp to) ?_
   rintro r H2 ⟨f2,hfr⟩
   have qM:=fU.trans f2
   have hs:=q14 X to hlt
   have hll:=qr9 X to (ts.take i)
   rw[List.length_take]at hll
   have skip:∀ H3,Fm No H H3->tgP X to ts[i]=false->Ok (qh9 (C j) (qkp (C j) q to.v (.ptr sb 0) (.ptr rb 0) k) w (iN i) H3) Q:=fun H3 f3 h=>by
    unfold qh9
    simp(disch:=omega) only[go_sem]
    refine qhd hC hj hX hS hb hbl hr hrl ht htl to hq k (i+1) w H3 (by omega) (by omega) ?_
    rw[hs,h]
    simpa using hw.no f3
   have push:∀ H3,Fm No H H3->tgP X to ts[i]=true->Ok (ve (iJ 1 16 (aR H3 (aD 0 [.str ts[i].sp.n ts[i].sp.a])) w (some ⟨1,[.str ts[i].sp.n ts[i].sp.a]⟩)) fun a41 H=>qh9 (C j) (qkp (C j) q to.v (.ptr sb 0) (.ptr rb 0) k) a41 (iN i) H) Q:=fun H3 f3 h=>by
    refine Ok.ve ((hw.no (f3.trans (by exact jW))).add ts[i].sp 16 rfl (by omega) (by omega)) ?_
    intro w4 H4 hw4
    unfold qh9
    simp(disch:=omega) only[go_sem]
    refine qhd hC hj hX hS hb hbl hr hrl ht htl to hq k (i+1) w4 H4 (by omega) (by omega) ?_
    simp_all
   unfold zgy at hfr
   have hr2:=(qM.keep (by omega)).trans hr1
   have r02:bT (H2.get b1) o1= .val (.str ts[i].sp.n ts[i].sp.a):=by rw[qM.keep e2];exact r0
   have r12:bT (H2.get b1) (o1+1)= .val (.str ts[i].rl.n ts[i].rl.a):=by rw[qM.keep e2];exact r1
   unfold tgP at skip push
   by_cases h1:ts[i].rl.n=0/\ts[i].rl.a=0
   ·have h1':ts[i].rl=sE:=(nI _ _).2 h1
    have oH:=eq_true h1
    rw[decide_eq_true h1']at skip push
    cases hf:pI X ts[i].sp to with
    |none =>
     rw[hf]at hfr skip
     subst hfr
     unfold qvl
     simp(disch:=omega) only[go_sem,seval,hr2,e1,r12,oH]
     exact skip _ (((qM.aM (H.nx+12) _ (by omega))).aM (H.nx+12) _ (by omega)) rfl
    |some g =>
     rw[hf]at hfr push
     subst hfr
     obtain⟨d2,d3,d4,d5,hd⟩:=qj1 g
     rw[hd]
     simp(disch:=first|omega|exact ti rfl|(simp only[np,nq];first|done|omega)) only[go_sem,seval,hr2,e1,r02,r12,oH]
     exact push _ (((qM.aM (H.nx+12) _ (by omega))).aM (H.nx+12) _ (by omega)) rfl
   ·rw[decide_eq_false (fun h=>h1 ((nI _ _).1 h))]at skip
    cases hf:pI X ts[i].sp to with
    |none =>
     rw[hf]at hfr skip
     subst hfr
     unfold qvl
     simp(disch:=omega) only[go_sem,seval,hr2,e1,r12,h1]
     exact skip _ (((qM.aM (H.nx+12) _ (by omega))).aM (H.nx+12) _ (by omega)) rfl
    |some g =>
     rw[hf]at hfr skip
     subst hfr
     obtain⟨d2,d3,d4,d5,hd⟩:=qj1 g
     rw[hd]
     simp(disch:=omega) only[go_sem,seval,hr2,e1,r12,h1]
     exact skip _ (((qM.aM (H.nx+12) _ (by omega))).aM (H.nx+12) _ (by omega)) rfl
  ·simp only[go_sem,hr1,hl,hlt]
   have he:i=ts.length:=by omega
   simp_all
theorem q6j(hC:bC C){k:Nat}(hk:3<=k){H:Hp}{sv:AV}{X:List aS}(hX:dF H sv X)(hS:rM X)(a b to:SS) :
  Ok (C k (.f 37) [.agg [sv],a.v,b.v,to.v] H) fun r H'=>Ac 1 sC H H' r (qW X a b to):=by
 obtain⟨j,rfl⟩:=aW hk
 rw[(hC j).zBb]
 unfold zBb zrm
 simp(disch:=omega) only[go_sem]
 have f:Fm No H (aR H (aD 0 [sv])):=by exact jW
 have hn:=hS.n
 refine Ok.ve (q0b hC (k:=j) (by omega) (hX.fm f) (by omega) (fun g hg=>by have:=hS.r g hg;omega) a b) ?_
 rintro r H2 ⟨f2,hfr⟩
 have n2:=f2.nx
 simp only[np]at n2
 have qM:=f.trans f2
 have b2:H2.get H.nx=aD 0 [sv]:=(f2.keep (by simp only[np];omega)).trans (kL _ _)
 unfold zgy at hfr
 unfold qW
 cases hf:pI X a b with
 |none =>
  rw[hf]at hfr
  subst hfr
  simp(disch:=omega) only[go_sem]
  have f4:Fm No H2 ((aR H2 (aD 0 [.str 0 0,.aA,.int .u8 (.ofNat 0),.str 0 0,.str 0 0,.aA])).put H2.nx (aD 0 [.str 0 0,.aA,.int .u8 (.ofNat 0),.str 0 0,.str 0 0,.aA])):=by exact kI
  unfold q9v
  rw[dI]
  refine qhd hC (by omega) (hX.fm (qM.trans f4)) hS ((f4.keep (by omega)).trans b2) (by simp only[np,nq];omega) (eP _ _ _) (by simp only[np,nq];omega) (Rs.nil 2 tC _) (by simp) to (fun w H5 hw=> ?_) cK 0 .aA _ (Nat.zero_le _) (by rw[dK];simp) (Ac.nil _ _ (Fm.refl _ _))
  exact Ok.ret (hw.trans (qM.trans f4))
 |some g =>
  rw[hf]at hfr
  subst hfr
  obtain⟨d2,d3,d4,d5,hd⟩:=qj1 g
  rw[hd]
  simp(disch:=omega) only[go_sem]
  have f4:Fm No H2 ((aR H2 (aD 0 [.str 0 0,.aA,.int .u8 (.ofNat 0),.str 0 0,.str 0 0,.aA])).put H2.nx (aD 0 [.str g.r.name.n g.r.name.a,g.tv,d2,d3,d4,d5])):=by exact kI
  unfold q9v
  rw[dI]
  obtain⟨p,hp,hg⟩:∃ p∈X,g∈p.gs:=by
   unfold pI at hf
   cases h:X.find? fun g=>decide (g.name=a)with
   |none=>rw[h]at hf;cases hf
   |some p =>
    rw[h]at hf
    exact⟨p,List.mem_of_find?_eq_some h,List.mem_of_find?_eq_some hf⟩
  have hty:=hS.t p hp g hg
  refine qhd hC (by omega) (hX.fm (qM.trans f4)) hS ((f4.keep (by omega)).trans b2) (by simp only[np,nq];omega) (eP _ _ _) (by simp only[np,nq];omega) ((((hX.sp p hp).rel g hg).ty).fm (qM.trans f4)) (by omega) to (fun w H5 hw=> ?_) cK 0 .aA _ (Nat.zero_le _) (by rw[dK];omega) (Ac.nil _ _ (Fm.refl _ _))
  exact Ok.ret (hw.trans (qM.trans f4))
theorem zln(hC:bC C){k:Nat}(hk:1<=k)(n:Int)(H:Hp):C k (.f 130) [.int .i64 n] H= .ok (.bool false) H:=by
 obtain⟨j,rfl⟩:=aW hk
 rw[(hC j).zDc]
 unfold zDc zqd
 simp only[go_sem]
def iK(a b:Int):Int:=if a<b then -1 else if b<a then 1 else 0
theorem qti(hC:bC C){k:Nat}(hk:2<=k)(a b:Int)(H:Hp):C k (.f 105) [.int .i64 a,.int .i64 b] H= .ok (.int .i64 (iK a b)) H:=by
 obtain⟨j,rfl⟩:=aW hk
 rw[(hC j).zCr]
 unfold zCr zqm
 simp only[zln hC (show 1<=j by omega),go_sem]
 unfold znv znw znx zny iK
 by_cases h:a<b
 ·simp only[h,go_sem];rfl
 ·by_cases h2:b<a
  ·simp only[h,h2,go_sem];rfl
  ·simp only[h,h2,go_sem];rfl
def sgn(s:Bool):Int:=if s then 1 else 0
theorem zso(hC:bC C){k:Nat}(hk:1<=k)(a b:AV)(s:Bool)(H:Hp):C k (.f 106) [.agg [a,b,.bool s]] H= .ok (.int .i64 (sgn s)) (aR H (aD 0 [a,b,.bool s])):=by
 obtain⟨j,rfl⟩:=aW hk
 rw[(hC j).zCs]
 unfold zCs zql znu
 cases s<;>simp(disch:=omega) only[go_sem,Nat.beq]<;>rfl
def ints(l:List Int):List AV:=l.map (fun n=> .int .i64 n)
theorem zlp(l:List Int)(i:Nat)(h:i<l.length):(ints l)[i]? =some (.int .i64 l[i]):=by simp[ints,h]
def orI:List Int->Int
 | []=>0
 |x::l=>if x=0 then orI l else x
theorem zgw{call:Ev.Call}{H:Hp}{b m:Nat}{e:Bool}{q:Nat}{l:List Int}(h0:H.get b=aD q (ints l))(hl:l.length<1000000) :
  ∀(k i:Nat),i<=l.length->l.length-i<k->q0o call (fun x2 H=> .ok x2 H) (fun H=>q7p call (.int .i64 (.ofNat 0)) H) (.int .i64 (.ofNat 0)) (.sl b 0 l.length m e) (.int .i64 (.ofNat l.length)) k (.int .i64 (.ofNat i)) H= .ok (.int .i64 (orI (l.drop i))) H
 |0,i,_,h=>by omega
 |k+1,i,hi,hk=>by
  show q7q call _ _ _ _ _ (q0o call _ _ _ _ _ k) _ H=_
  unfold q7q
  by_cases hlt:i<l.length
  ·simp only[go_sem,hlt]
   unfold znr
   have hd:l.drop i=l[i]::l.drop (i+1):=List.drop_eq_getElem_cons hlt
   simp(disch:=omega) only[go_sem,h0,zlp _ _ hlt]
   rw[hd]
   show _=R1.ok (.int .i64 (if l[i]=0 then orI (l.drop (i+1))else l[i])) H
   by_cases hz:l[i]=Int.ofNat 0
   ·have hz':l[i]=0:=hz
    simp only[hz',go_sem]
    unfold zns
    simp(disch:=omega) only[go_sem]
    exact zgw h0 hl k (i+1) (by omega) (by omega)
   ·have hz':¬ l[i]=0:=hz
    simp only[hz,hz',go_sem]
  ·have hd:l.drop i=[]:=List.drop_eq_nil_of_le (by omega)
   simp only[go_sem,hlt]
   rw[hd];rfl
theorem aJ7(hC:bC C){k:Nat}(hk:1<=k){H:Hp}{b m:Nat}{e:Bool}{q n:Nat}{l:List Int}(hn:l.length=n)(h0:H.get b=aD q (ints l))(hl:l.length<1000000) :
  C k (.f 104) [.sl b 0 n m e] H= .ok (.int .i64 (orI l)) H:=by
 obtain⟨j,rfl⟩:=aW hk
 subst hn
 rw[(hC j).zCt]
 unfold zCt zqk znt
 simp only[go_sem]
 rw[dI]
 exact zgw h0 hl _ 0 (Nat.zero_le _) (by rw[dK];omega)
structure Edge where
 (f t:Nat)
 s:Bool
deriving DecidableEq
def Edge.cells(e:Edge):List AV:=[.int .i64 (.ofNat e.f),.int .i64 (.ofNat e.t),.bool e.s]
def p9(x y:Edge):Int:=orI [iK (.ofNat x.f) (.ofNat y.f),iK (.ofNat x.t) (.ofNat y.t),iK (sgn x.s) (sgn y.s)]
theorem q50(hC:bC C){k:Nat}(hk:3<=k)(x y:Edge)(H:Hp):Ok (C k (.f 67) [.agg x.cells,.agg y.cells] H) fun v H'=>v= .int .i64 (p9 x y)/\Fm No H H':=by
 obtain⟨j,rfl⟩:=aW hk
 rw[(hC j).zBz]
 unfold zBz zq1 Edge.cells
 simp(disch:=first|omega|exact ti rfl|(simp only[np,nq];first|done|omega)) only[go_sem,seval,Nat.beq,qti hC (show 2<=j by omega),zso hC (show 1<=j by omega)]
 refine Ok.y7 (aJ7 hC (show 1<=j by omega) (l:=[iK (.ofNat x.f) (.ofNat y.f),iK (.ofNat x.t) (.ofNat y.t),iK (sgn x.s) (sgn y.s)]) rfl (eP _ _ _) (by simp)) ?_
 simp only[go_sem]
 exact Ok.ret ⟨rfl,by(repeat(first|exact Fm.refl _ _|assumption|refine Fm.push ?_ _|refine Fm.uF ?_ (by(first|omega|(simp only[np,nq];omega)))|refine Fm.aM ?_ _ _ (by(first|omega|(simp only[np,nq];omega)))))⟩
def zxr(es:List Edge):List AV:=(es.map Edge.cells).flatten
structure qdt(n:Nat)(es:List Edge):Prop where
 rng:∀ e∈es,e.f<n/\e.t<n
 ord:∀ i,(h:i+1<es.length)->p9 es[i] es[i+1]<0
theorem qzu(a b:Int)(k:IntKind):nW mI (.int k a) [.int k b]= .val (.int k (min a b)):=by
 show R0.val (.int k (bif nO b a then b else a))=_
 rw[yX]
 by_cases h:b<a
 ·rw[decide_eq_true h,Int.min_eq_right (by omega)];rfl
 ·rw[decide_eq_false h,Int.min_eq_left (by omega)];rfl
theorem qzv(a b:Int)(k:IntKind):nW mY (.int k a) [.int k b]= .val (.int k (max a b)):=by
 show R0.val (.int k (bif nO a b then b else a))=_
 rw[yX]
 by_cases h:a<b
 ·rw[decide_eq_true h,Int.max_eq_right (by omega)];rfl
 ·rw[decide_eq_false h,Int.max_eq_left (by omega)];rfl
structure jS(H:Hp)(v:AV)(es:List Edge):Prop where
 flat:sZ v=true
 len:aG v= .val (.int .i64 (.ofNat es.length))
 lt':∀ b,In v b->b<H.nx
 at':∀(i:Nat) (hi:i<es.length),∃b o,aL 3 v (.int .i64 (.ofNat i))= .val (.ptr b o)/\b<H.nx/\iZ (H.get b) o 3=some es[i].cells
theorem jS.at{H:Hp}{v:AV}{es:List Edge}(h:jS H v es){i:Nat}(hi:i<es.length):∃ b o,aL 3 v (.int .i64 (.ofNat i))= .val (.ptr b o)/\b<H.nx/\iZ (H.get b) o 3=some es[i].cells:=h.at' i hi
theorem jS.fm{H H':Hp}{v:AV}{es:List Edge}(h:jS H v es)(a:Fm No H H'):jS H' v es:=⟨h.flat,h.len,fun b hb=>Nat.lt_of_lt_of_le (h.lt' b hb) a.nx,fun i hi=>by
 obtain⟨b,o,e1,e2,e3⟩:=h.at' i hi
 exact⟨b,o,e1,Nat.lt_of_lt_of_le e2 a.nx,by rw[a.keep e2];exact e3⟩⟩
theorem zxc{z i b o:Nat}{v:AV}(h:aL z v (.int .i64 (.ofNat i))= .val (.ptr b o)):In v b:=by
 cases v with
 |sl b' o' n m e =>
  have h:(bif Nat.blt i n then R0.val (.ptr b' (o'+i*z))else .bad)= .val (.ptr b o):=h
  cases hb:Nat.blt i n with
  |true=>rw[hb]at h;cases h;exact⟨_,_,_,_,rfl⟩
  |false=>rw[hb]at h;cases h
 |_=>cases h
theorem jS.keep{H H':Hp}{v:AV}{es:List Edge}(h:jS H v es)(hn:H.nx<=H'.nx)(hk:∀ b,In v b->b<H.nx->H'.get b=H.get b):jS H' v es:=⟨h.flat,h.len,fun b hb=>Nat.lt_of_lt_of_le (h.lt' b hb) hn,fun i hi=>by
 obtain⟨b,o,e1,e2,e3⟩:=h.at' i hi
 exact⟨b,o,e1,Nat.lt_of_lt_of_le e2 hn,by rw[hk b (zxc e1) e2];exact e3⟩⟩
theorem jS.lt{H:Hp}{v:AV}{es:List Edge}(h:jS H v es){b:Nat}(hb:In v b):b<H.nx:=h.lt' b hb
theorem Gl.flat{z n:Nat}{H:Hp}{v:AV}{l:List AV}(h:Gl z H v n l):sZ v=true:=by
 rcases h.is with⟨rfl,rfl⟩|⟨b,o,e,q,L,rfl,_⟩<;>rfl
theorem jS.nP{H:Hp}{v:AV}{es:List Edge}(h:jS H v es):nP 64 v v=true:=qb7 h.flat 63
theorem qi9(hC:bC C){j:Nat}(hj:3<=j){n:Nat}{es:List Edge}(hE:qdt n es){v:AV}{g:Nat}{H0:Hp}(hlen:es.length<1000000){Q:AV->Hp->Prop}{dU:Hp->R1}
  (hq:∀ H,Fm No H0 H->Ok (dU H) Q) :
  ∀(k i:Nat) (H:Hp),i<=es.length->es.length-i<k->jS H v es->g<H.nx->H.get g=aD 0 [.int .i64 (.ofNat n),v]->Fm No H0 H ->
   Ok (q0t (C j) (fun x2 H=> .ok x2 H) dU (.ptr g 0) v (.int .i64 (.ofNat es.length)) k (.int .i64 (.ofNat i)) H) Q
 |0,i,_,_,h,_,_,_,_=>by omega
 |k+1,i,H,hi,hk,hv,hg1,hg2,hf=>by
  show Ok (q8b (C j) _ _ _ _ _ (q0t (C j) _ _ _ _ _ k) _ H) Q
  unfold q8b
  by_cases hlt:i<es.length
  ·obtain⟨b,o1,e1,e2,e3⟩:=hv.at hlt
   have hr:=hE.rng es[i] (List.getElem_mem hlt)
   simp only[go_sem,hlt]
   unfold q8a zva
   have hmin:(min (Int.ofNat es[i].f) (Int.ofNat es[i].t)<Int.ofNat 0)=False:=by simp only[Int.ofNat_eq_natCast,eq_iff_iff,iff_false];omega
   have hmax:(Int.ofNat n<=max (Int.ofNat es[i].f) (Int.ofNat es[i].t))=False:=by simp only[Int.ofNat_eq_natCast,eq_iff_iff,iff_false];omega
   by_cases h0:0<i
   ·obtain⟨p,rfl⟩:∃ p,i=p+1:=⟨i-1,by omega⟩
    obtain⟨b',o2,e1',e2',e3'⟩:=hv.at (show p<es.length by omega)
    have hv64:=hv.nP
    simp(disch:=first|omega|exact ti rfl|(simp only[np,nq];first|done|omega)) only[go_sem,reduceAdd,reduceLeDiff,e1,e3,Edge.cells,qzu,qzv,hmin,hmax,hg2,h0,e1',e3',Nat.add_sub_cancel]
    refine Ok.lX (q50 hC hj es[p] es[p+1] _) ?_
    rintro v' H' ⟨rfl,f'⟩
    have k1:H'.get g=aD 0 [.int .i64 (.ofNat n),v]:=(f'.keep (by simp only[np];omega)).trans (by simp(disch:=omega) only[go_sem,hg2])
    have k2:iZ (H'.get b') o2 3=some es[p].cells:=by rw[f'.keep (by simp only[np];omega)];simp(disch:=omega) only[go_sem,e3']
    have k3:H'.get H.nx=aD 0 es[p+1].cells:=(f'.keep (by simp only[np];omega)).trans (by simp only[go_sem,Edge.cells])
    have ho:(Int.ofNat 0<=p9 es[p] es[p+1])=False:=by
     have:=hE.ord p hlt
     simp_all
    simp only[go_sem,ho]
    unfold q78
    simp(disch:=omega) only[go_sem]
    have fH:Fm No H H':=by refine Fm.trans ?_ f';exact kI
    exact qi9 hC hj hE hlen hq k (p+1+1) H' (by omega) (by omega) (hv.fm fH) (Nat.lt_of_lt_of_le hg1 fH.nx) k1 (hf.trans fH)
   ·simp(disch:=first|omega|exact ti rfl|(simp only[np,nq];first|done|omega)) only[go_sem,reduceAdd,reduceLeDiff,e1,e3,Edge.cells,qzu,qzv,hmin,hmax,hg2,h0]
    unfold q78
    simp(disch:=omega) only[go_sem]
    have fH:Fm No H ((aR H (aD 0 [.int .i64 (.ofNat 0),.int .i64 (.ofNat 0),.bool false])).put H.nx (aD 0 [.int .i64 (.ofNat es[i].f),.int .i64 (.ofNat es[i].t),.bool es[i].s])):=by exact kI
    exact qi9 hC hj hE hlen hq k (i+1) _ (by omega) (by omega) (hv.fm fH) (Nat.lt_of_lt_of_le hg1 fH.nx) ((fH.keep hg1).trans hg2) (hf.trans fH)
  ·simp only[go_sem,hlt]
   exact hq H hf
theorem zm6(hC:bC C){k:Nat}(hk:4<=k){n:Nat}{es:List Edge}(hE:qdt n es)(hn:n<=256)(hlen:es.length<1000000){v:AV}{H:Hp}(hv:jS H v es) :
  Ok (C k (.f 74) [.agg [.int .i64 (.ofNat n),v]] H) fun r H'=>r= .int .i64 (.ofNat 0)/\Fm No H H':=by
 obtain⟨j,rfl⟩:=aW hk
 rw[(hC j).zCd]
 unfold zCd zqy
 have iX:(256<n)=False:=by simp only[eq_iff_iff,iff_false];omega
 simp(disch:=omega) only[go_sem,iX,Nat.not_lt_zero]
 unfold q79 zn4
 have fH:Fm No H (aR H (aD 0 [.int .i64 (.ofNat n),v])):=by exact jW
 simp(disch:=omega) only[go_sem,hv.len]
 rw[dI]
 refine qi9 hC (by omega) hE hlen (fun H hf=> ?_) _ 0 _ (Nat.zero_le _) (by rw[dK];omega) (hv.fm fH) (by simp only[np];omega) (kL _ _) fH
 exact Ok.ret ⟨rfl,hf⟩
def aJ(l:List Nat):List AV:=l.map (fun n=> .int .i64 (.ofNat n))
theorem ints_set(l:List Int)(i:Nat)(n:Int)(h:i<l.length):bD (ints l) i [.int .i64 n]=ints (l.set i n):=by
 unfold bD ints
 apply List.ext_getElem
 ·simp;omega
 ·intro j h1 h2
  simp only[List.getElem_map,List.getElem_set]
  by_cases hj:j<i
  ·rw[List.getElem_append_left (by simp;omega),List.getElem_append_left (by simp;omega)]
   simp[show ¬i=j by omega]
  ·by_cases he:i=j
   ·subst he
    simp[Nat.min_eq_left (Nat.le_of_lt h)]
   ·rw[List.getElem_append_right (by simp;omega)]
    simp[he,Nat.min_eq_left (Nat.le_of_lt h)]
    congr 2;omega
theorem qvx(l:List Nat):ints (l.map Int.ofNat)=aJ l:=by unfold ints aJ;rw[List.map_map];rfl
theorem Gl.at{n:Nat}{H:Hp}{v:AV}{l:List AV}(h:Gl 1 H v n l){i:Nat}{x:AV}(hx:l[i]? =some x):∃ b o,aL 1 v (.int .i64 (.ofNat i))= .val (.ptr b o)/\b<H.nx/\In v b/\bT (H.get b) o= .val x:=by
 have hl:=h.len
 have hi:i<l.length:=by
  rcases Nat.lt_or_ge i l.length with h|h
  ·exact h
  ·simp_all
 rcases h.is with⟨rfl,rfl⟩|⟨b,o,e,q,L,rfl,h1,h2,h3,h4,h5⟩
 ·omega
 ·refine⟨b,o+i,?_,h5,⟨_,_,_,_,rfl⟩,?_⟩
  ·rw[sP _ _ _ _ _ _ _ _ (by omega),Nat.mul_one]
  ·have:L[o+i]? =some x:=by rw[<-List.getElem?_drop,h3];exact hx
   rw[h1,qb3,this]
theorem Gl.clip{z n:Nat}{H:Hp}{v:AV}{l:List AV}(h:Gl z H v n l):∃ w,lH z v none (some (.int .i64 (.ofNat n))) (some (.int .i64 (.ofNat n)))= .val w/\Gl z H w n l/\iI w= .val (.int .i64 (.ofNat n))/\(∀b,In w b->In v b):=by
 rcases h.is with⟨rfl,rfl⟩|⟨b,o,e,q,L,rfl,h1,h2,h3,h4,h5⟩
 ·exact⟨.aA,rfl,h,rfl,fun b h=>h⟩
 ·have e1:lH z (.sl b o n n e) none (some (.int .i64 (.ofNat n))) (some (.int .i64 (.ofNat n)))=gU b o z ⟨0,n,n⟩ true:=by
   show(match bounds n n none (some (.int .i64 (.ofNat n))) (some (.int .i64 (.ofNat n)))with|some bd=>gU b o z bd true|none=>R0.bad)=_
   have:bounds n n none (some (.int .i64 (.ofNat n))) (some (.int .i64 (.ofNat n)))=some ⟨0,n,n⟩:=by
    show(match(bif Nat.ble n n then some n else none)with|none=>none|some m=>match(bif Nat.ble n m then some n else none)with|none=>none|some h=>match(some 0:Option Nat)with|none=>none|some l=>some (Bd.mk l h m))=_
    rw[ble_eq,decide_eq_true (Nat.le_refl n)];simp only[cond_true,ble_eq,decide_eq_true (Nat.le_refl n)]
   rw[this]
  rw[e1]
  unfold gU
  simp only[beq_eq]
  by_cases hn:n=0
  ·subst hn
   exact⟨.sl b o 0 0 true,rfl,⟨h.len,.inr ⟨b,o,true,q,L,rfl,h1,h2,h3,.inl rfl,h5⟩⟩,rfl,fun c hc=>by obtain⟨_,_,_,_,h'⟩:=hc;cases h';exact⟨_,_,_,_,rfl⟩⟩
  ·rw[decide_eq_false hn]
   refine⟨.sl b o n n true,?_,⟨h.len,.inr ⟨b,o,true,q,L,rfl,h1,h2,h3,.inl rfl,h5⟩⟩,rfl,fun c hc=>by obtain⟨_,_,_,_,h'⟩:=hc;cases h';exact⟨_,_,_,_,rfl⟩⟩
   simp
theorem q0d(hC:bC C){k:Nat}(hk:1<=k){n:Nat}{H:Hp}{v:AV}{l:List AV}(h:Gl 1 H v n l) :
  ∃w,C k (.f 39) [v] H= .ok w H/\Gl 1 H w n l/\iI w= .val (.int .i64 (.ofNat n))/\(∀b,In w b->In v b):=by
 obtain⟨j,rfl⟩:=aW hk
 obtain⟨w,e,h1,h2,h3⟩:=h.clip
 refine⟨w,?_,h1,h2,h3⟩
 rw[(hC j).zBd]
 unfold zBd zi1
 simp only[go_sem,h.cO,e]
theorem zla(l:List Nat):(aJ l).length=l.length:=by simp[aJ]
theorem qj4(l:List Nat)(i:Nat)(h:i<l.length):(aJ l)[i]? =some (.int .i64 (.ofNat l[i])):=by simp[aJ,h]
theorem qhs(l:List Nat)(i n:Nat)(h:i<l.length):bD (aJ l) i [.int .i64 (.ofNat n)]=aJ (l.set i n):=by
 rw[<-qvx,ints_set _ _ _ (by simpa using h),<-qvx,List.map_set]
structure MOk(n:Nat)(ms:List Nat):Prop where
 hn:n<=256
 len:ms.length=n*n
 le:∀ x∈ms,x<=3
structure sW(H:Hp)(v:AV)(b n:Nat)(ms:List Nat):Prop where
 hv:v= .agg [.int .i64 (.ofNat n),.sl b 0 (n*n) (n*n) true]
 lt:b<H.nx
 get:H.get b=aD 0 (aJ ms)
 ok:MOk n ms
theorem sW.fm{H H':Hp}{v:AV}{b n:Nat}{ms:List Nat}(h:sW H v b n ms)(a:Fm No H H'):sW H' v b n ms:=⟨h.hv,Nat.lt_of_lt_of_le h.lt a.nx,(a.keep h.lt).trans h.get,h.ok⟩
theorem zvs{n:Nat}(h:n<=256):n*n<=65536:=Nat.mul_le_mul h h
theorem ze3{n i k:Nat}(hi:i<n)(hk:k<n):i*n+k<n*n:=by
 have:(i+1)*n<=n*n:=Nat.mul_le_mul_right n hi
 rw[Nat.add_mul,Nat.one_mul]at this;omega
theorem zyp(hC:bC C){k:Nat}(hk:1<=k){n:Nat}(hn:n<=256){H:Hp} :
  Ok (C k (.f 33) [.int .i64 (.ofNat n)] H) fun r H'=>sW H' r (H.nx+1) n (List.replicate (n*n) 0)/\Fm No H H':=by
 obtain⟨j,rfl⟩:=aW hk
 rw[(hC j).zAx]
 unfold zAx zrp
 have hs:=zvs hn
 have hr:bB [.int .i64 (.ofNat 0)] (n*n)=aJ (List.replicate (n*n) 0):=by rw[qct];simp[aJ]
 simp(disch:=first|omega|exact ti rfl|(simp only[np,nq];first|done|omega)) only[go_sem,reduceAdd,reduceLeDiff,qcz,hr]
 refine Ok.ret ⟨⟨rfl,?_,?_,⟨hn,List.length_replicate,fun x hx=>by rw[List.eq_of_mem_replicate hx];omega⟩⟩,by repeat first|exact Fm.refl _ _|assumption|refine Fm.push ?_ _|refine Fm.aM ?_ _ _ (by omega)⟩
 ·simp only[np,nq];omega
 ·simp(disch:=first|omega|exact ti rfl|(simp only[np,nq];first|done|omega)) only[go_sem]
def jN(n:Nat)(ms:List Nat)(f t:Nat)(s:Bool):List Nat :=
 if ms.getD (f*n+t) 0 / (if s then 2 else 1)%2=0 then ms.set (f*n+t) (ms.getD (f*n+t) 0+(if s then 2 else 1))else ms
theorem qzi(hC:bC C){k:Nat}(hk:1<=k){n b f t:Nat}{ms:List Nat}{v:AV}{H:Hp}(hM:sW H v b n ms)(hf:f<n)(ht:t<n)(s:Bool) :
  Ok (C k (.f 36) [v,.int .i64 (.ofNat f),.int .i64 (.ofNat t),.bool s] H) fun _ H'=>sW H' v b n (jN n ms f t s)/\Fm (· =b) H H':=by
 obtain⟨j,rfl⟩:=aW hk
 obtain⟨rfl,hb,hg,hok⟩:=hM
 rw[(hC j).zBa]
 unfold zBa zrn
 have hs:=zvs hok.hn
 have hi:=ze3 hf ht
 have hl:=hok.len
 have hget:=qj4 ms (f*n+t) (by omega)
 have hle:=hok.le ms[f*n+t] (List.getElem_mem _)
 have h1:f*n+t+1<=n*n:=hi
 have hgd:ms.getD (f*n+t) 0=ms[f*n+t]:=by rw[List.getD_eq_getElem?_getD,List.getElem?_eq_getElem (by omega)];rfl
 have fin:∀ d:Nat,0<d->d<3->d=(if s then 2 else 1)->(ms[f*n+t] / d%2=0->ms[f*n+t]+d<=3)->Ok (qqm (C j) (.int .i64 (.ofNat f)) (.int .i64 (.ofNat t)) (.ptr H.nx 0) (.int .i64 (.ofNat d)) (aR H (aD 0 [.int .i64 (.ofNat n),.sl b 0 (n*n) (n*n) true]))) fun _ H'=>sW H' (.agg [.int .i64 (.ofNat n),.sl b 0 (n*n) (n*n) true]) b n (jN n ms f t s)/\Fm (· =b) H H':=by
  intro d hd1 hd hds hd2
  unfold qqm
  by_cases hz:ms[f*n+t] / d%2=0
  ·simp(disch:=omega) only[go_sem,hg,hget,hz,zla,hl,h1,qhs]
   have hp:jN n ms f t s=ms.set (f*n+t) (ms[f*n+t]+d):=by
    unfold jN
    simp_all
   rw[hp]
   refine Ok.ret ⟨⟨rfl,by simp only[np,nq];omega,eP _ _ _,⟨hok.hn,by rw[List.length_set];exact hl,fun x hx=> ?_⟩⟩,by(repeat(first|exact Fm.refl _ _|assumption|refine Fm.push ?_ _|refine Fm.uF ?_ (by(first|omega|(simp only[np,nq];omega)))|refine Fm.aM ?_ _ _ (by(first|omega|(simp only[np,nq];omega)))|refine Fm.put ?_ _ _ (fun _=>rfl)))⟩
   rcases List.mem_or_eq_of_mem_set hx with h|h
   ·exact hok.le x h
   ·omega
  ·simp(disch:=omega) only[go_sem,hg,hget,hz]
   have hp:jN n ms f t s=ms:=by
    unfold jN
    simp_all
   rw[hp]
   exact Ok.ret ⟨⟨rfl,by simp only[np];omega,(qbp _ _ _ hb).trans hg,hok⟩,by(repeat refine Fm.push ?_ _);exact Fm.refl _ _⟩
 cases s
 ·simp only[go_sem]
  exact fin 1 (by omega) (by omega) rfl (fun h=>by omega)
 ·simp only[go_sem]
  exact fin 2 (by omega) (by omega) rfl (fun h=>by omega)
structure T3 where
 (f t s:Nat)
def T3.cells(e:T3):List AV:=[.int .i64 (.ofNat e.f),.int .i64 (.ofNat e.t),.int .i64 (.ofNat e.s)]
def nT(n:Nat):List Nat->List T3->List Nat
 |ms,[]=>ms
 |ms,e::l=>nT n (jN n ms e.f e.t (decide (e.s=1))) l
def ent(n:Nat)(ms:List Nat)(i k:Nat):List T3:=(if ms.getD (i*n+k) 0%2=1 then[⟨i,k,0⟩]else[])++(if 1<ms.getD (i*n+k) 0 then[⟨i,k,1⟩]else[])
def eR(n:Nat)(ms:List Nat)(i:Nat):Nat->List T3
 |0=>[]
 |k+1=>eR n ms i k++ent n ms i k
def eM(n:Nat)(ms:List Nat):Nat->List T3
 |0=>[]
 |i+1=>eM n ms i++eR n ms i n
theorem zt7(n:Nat)(ms:List Nat)(i k:Nat):(ent n ms i k).length<=2:=by
 unfold ent;split<;>split<;>simp
theorem zpp(n:Nat)(ms:List Nat)(i:Nat):∀ k,(eR n ms i k).length<=2*k
 |0=>Nat.le_refl _
 |k+1=>by
  have h1:=zpp n ms i k
  have h2:=zt7 n ms i k
  simp only[eR,List.length_append];omega
theorem zps(n:Nat)(ms:List Nat):∀ i,(eM n ms i).length<=2*(i*n)
 |0=>by simp[eM]
 |i+1=>by
  have h1:=zps n ms i
  have h2:=zpp n ms i n
  simp only[eM,List.length_append,Nat.add_mul,Nat.one_mul];omega
def toE(e:T3):Edge:=⟨e.f,e.t,decide (e.s=1)⟩
def zY(n:Nat)(ms:List Nat):List Edge:=(eM n ms n).map toE
def tE(X:List aS)(n:Nat)(neg:Bool)(p:SS×SS):T3:=⟨n,bJ X p.1 p.2,if neg then 1 else 0⟩
structure OfR(X:List aS)(sv:AV)(cb gb b rb:Nat)(av nv:AV)(N:Nat)(g:aY)(l:List (Nd×AV))(H:Hp):Prop where
 oG:dF H sv X
 x1:H.get cb=aD 0 [sv]
 x3:Rs 2 pC H av (aF X)
 x4:H.get gb=aD 0 [iN N,.sl b 0 (N*N) (N*N) true]
 x6:H.get rb=aD 0 (gQ g)
 ty:Rs 2 tC H g.tv g.r.types
 tf:sZ g.tv=true
 x8:Rs 5 jZ H nv l
theorem qsp(X:List aS)(N n:Nat)(neg:Bool)(p:SS×SS)(ms:List Nat):nT N ms [tE X n neg p]=jN N ms n (bJ X p.1 p.2) neg:=by
 cases neg<;>rfl
theorem qfb(n:Nat):∀(l l':List T3) (ms:List Nat),nT n ms (l++l')=nT n (nT n ms l) l'
 | [],_,_=>rfl
 |_::l,l',_=>qfb n l l' _
theorem qvi{X:List aS}{a b:SS}(h:(a,b)∈aF X):bJ X a b<(aF X).length:=by
 unfold bJ
 simp_all
theorem qm9(hC:bC C){k:Nat}(hk:2<=k){H:Hp}{sv:AV}{X:List aS}(hX:dF H sv X)(hS:rM X){a b:SS}(h:(a,b)∈aF X) :
  Ok (C k (.f 16) [.agg [sv],a.v,b.v] H) fun r H'=>r=iN ((bJ X a b))/\Fm No H H' :=
 (qm8 hC hk hX hS a b).mono fun r H' ⟨f,h'⟩=>by
  simp_all
def vY(l:List kF):List (SS×SS):=(l.filter fun t=> !decide (t.rl=sE)).map fun t=>(t.sp,t.rl)
theorem q11{l:List kF}{i:Nat}(h:i<l.length):vY (l.take (i+1))=vY (l.take i)++if l[i].rl=sE then[]else[(l[i].sp,l[i].rl)]:=by
 unfold vY
 rw[List.take_succ_eq_append_getElem h,List.filter_append,List.map_append,List.filter_cons]
 by_cases h:l[i].rl=sE
 ·simp[h]
 ·simp[h]
theorem ql6(hC:bC C){j:Nat}(hj:2<=j){X:List aS}(hS:rM X){sv av nv:AV}{cb gb b rb N:Nat}{g:aY}{l:List (Nd×AV)}{Hb:Hp}(hR:∀ H,Fm (· =b) Hb H->OfR X sv cb gb b rb av nv N g l H)
  (hN:N=(aF X).length) {n x:Nat} (hn:n<N) (hx:x<l.length) (hcb:cb<Hb.nx/\gb<Hb.nx/\rb<Hb.nx) (hty:g.r.types.length<=1000) (hin:∀ p∈vY g.r.types,p∈aF X) {Q:AV->Hp->Prop} {q:Hp->R1} {ms:List Nat}
  (hq:∀ H,sW H (.agg [iN N,.sl b 0 (N*N) (N*N) true]) b N (nT N ms ((vY g.r.types).map (tE X n l[x].1.neg)))->Fm (· =b) Hb H->Ok (q H) Q) :
  ∀(k i:Nat) (H:Hp),i<=g.r.types.length->g.r.types.length-i<k->sW H (.agg [iN N,.sl b 0 (N*N) (N*N) true]) b N (nT N ms ((vY (g.r.types.take i)).map (tE X n l[x].1.neg)))->Fm (· =b) Hb H ->
   Ok (qq7 (C j) q (.ptr cb 0) (.ptr gb 0) (iN n) (.ptr rb 0) nv (iN x) k (iN i) H) Q
 |0,i,_,_,h,_,_=>by omega
 |k+1,i,H,hi,hk,hM,hf=>by
  show Ok (qyg (C j) _ _ _ _ _ _ _ (qq7 (C j) _ _ _ _ _ _ _ k) _ H) Q
  unfold qyg
  have h1:=hR H hf
  have x6:=h1.x6
  obtain⟨d2,d3,d4,d5,hd⟩:=qj1 g
  rw[hd]at x6
  have hl:=h1.ty.len
  have hnx:=hf.nx
  by_cases hlt:i<g.r.types.length
  ·simp only[go_sem,x6,hl,hlt]
   unfold zbi
   obtain⟨b1,o1,e1,e2,_,_,e4⟩:=h1.ty.at' i hlt
   have r0:bT (H.get b1) o1= .val (.str g.r.types[i].sp.n g.r.types[i].sp.a):=e4 0 (by rw[qhe];omega)
   have r1:bT (H.get b1) (o1+1)= .val (.str g.r.types[i].rl.n g.r.types[i].rl.a):=e4 1 (by rw[qhe];omega)
   obtain⟨b2,o2,g1,g2,_,_,g4⟩:=h1.x8.at' x hx
   have r4:bT (H.get b2) (o2+4)= .val (.bool l[x].1.neg):=g4 4 (by rw[wO];omega)
   have x1:=h1.x1
   have x4:=h1.x4
   have hs:=q11 hlt
   by_cases hz:g.r.types[i].rl.n=0/\g.r.types[i].rl.a=0
   ·have hzt:=eq_true hz
    rw[if_pos ((nI _ _).2 hz),List.append_nil]at hs
    simp only[go_sem,x6,e1,r1,hzt]
    unfold qq8
    simp(disch:=omega) only[go_sem]
    exact ql6 hC hj hS hR hN hn hx hcb hty hin hq k (i+1) H (by omega) (by omega) (by rw[hs];exact hM) hf
   ·have hz':¬ g.r.types[i].rl=sE:=fun h=>hz ((nI _ _).1 h)
    rw[if_neg hz']at hs
    have hpm:(g.r.types[i].sp,g.r.types[i].rl)∈aF X:=hin _ (by
     unfold vY
     rw[List.mem_map]
     exact⟨g.r.types[i],by rw[List.mem_filter];exact⟨List.getElem_mem hlt,by simpa using hz'⟩,rfl⟩)
    simp only[go_sem,seval,x6,x1,x4,e1,r0,r1,hz,g1,r4]
    refine Ok.lX (qm9 hC (k:=j) hj h1.oG hS hpm) ?_
    rintro _ H2 ⟨rfl,f2⟩
    have x42:=(f2.keep (by omega)).trans x4
    have r42:bT (H2.get b2) (o2+4)= .val (.bool l[x].1.neg):=by rw[f2.keep g2];exact r4
    simp(disch:=first|omega|exact ti rfl) only[go_sem,seval,x42,r42]
    refine Ok.lX (qzi hC (k:=j) (by omega) (hM.fm f2) hn (by rw[hN];exact qvi hpm) l[x].1.neg) ?_
    rintro _ H3 ⟨hM3,f3⟩
    unfold qq8
    simp(disch:=omega) only[go_sem]
    refine ql6 hC hj hS hR hN hn hx hcb hty hin hq k (i+1) H3 (by omega) (by omega) ?_ ((hf.then f2 fun _ _ h=>absurd h id).then f3 fun _ _ h=>h)
    rw[hs,List.map_append,qfb,List.map_singleton,qsp]
    exact hM3
  ·simp only[go_sem,x6,hl,hlt]
   have he:i=g.r.types.length:=by omega
   simp_all
theorem qvd(hC:bC C){j:Nat}(hj:2<=j){X:List aS}(hS:rM X){sv av nv tv:AV}{cb gb b rb N:Nat}{g:aY}{l:List (Nd×AV)}{Hb:Hp}(hR:∀ H,Fm (· =b) Hb H->OfR X sv cb gb b rb av nv N g l H)
  (hN:N=(aF X).length) {n x:Nat} (hn:n<N) (hx:x<l.length) (hcb:cb<Hb.nx/\gb<Hb.nx/\rb<Hb.nx) {ts:List SS} (hT:∀ H,Fm (· =b) Hb H->Rs 1 sC H tv ts) (hty:ts.length<=1000) (hin:∀ s∈ts,(s,l[x].1.to)∈aF X) {Q:AV->Hp->Prop} {q:Hp->R1} {ms:List Nat}
  (hq:∀ H,sW H (.agg [iN N,.sl b 0 (N*N) (N*N) true]) b N (nT N ms ((ts.map fun s=>(s,l[x].1.to)).map (tE X n l[x].1.neg)))->Fm (· =b) Hb H->Ok (q H) Q) :
  ∀(k i:Nat) (H:Hp),i<=ts.length->ts.length-i<k->sW H (.agg [iN N,.sl b 0 (N*N) (N*N) true]) b N (nT N ms (((ts.take i).map fun s=>(s,l[x].1.to)).map (tE X n l[x].1.neg)))->Fm (· =b) Hb H ->
   Ok (qjr (C j) q (.ptr cb 0) (.ptr gb 0) (iN n) nv (iN x) tv k (iN i) H) Q
 |0,i,_,_,h,_,_=>by omega
 |k+1,i,H,hi,hk,hM,hf=>by
  show Ok (qra (C j) _ _ _ _ _ _ _ (qjr (C j) _ _ _ _ _ _ _ k) _ H) Q
  unfold qra
  have h1:=hR H hf
  have ht:=hT H hf
  have hl:=ht.len
  have hnx:=hf.nx
  by_cases hlt:i<ts.length
  ·simp only[go_sem,hl,hlt]
   unfold q1m
   obtain⟨b1,o1,e1,e2,e3⟩:=ht.at1 (g:=SS.v) (fun _=>rfl) hlt
   obtain⟨b2,o2,g1,g2,_,_,g4⟩:=h1.x8.at' x hx
   have r2:bT (H.get b2) (o2+2)= .val (.str l[x].1.to.n l[x].1.to.a):=g4 2 (by rw[wO];omega)
   have r4:bT (H.get b2) (o2+4)= .val (.bool l[x].1.neg):=g4 4 (by rw[wO];omega)
   have x1:=h1.x1
   have x4:=h1.x4
   have hpm:=hin ts[i] (List.getElem_mem hlt)
   simp only[go_sem,seval,x1,x4,e1,e3,g1,r2,r4]
   refine Ok.lX (qm9 hC (k:=j) hj h1.oG hS hpm) ?_
   rintro _ H2 ⟨rfl,f2⟩
   have x42:=(f2.keep (by omega)).trans x4
   have r42:bT (H2.get b2) (o2+4)= .val (.bool l[x].1.neg):=by rw[f2.keep g2];exact r4
   simp(disch:=first|omega|exact ti rfl) only[go_sem,seval,x42,r42]
   refine Ok.lX (qzi hC (k:=j) (by omega) (hM.fm f2) hn (by rw[hN];exact qvi hpm) l[x].1.neg) ?_
   rintro _ H3 ⟨hM3,f3⟩
   unfold q1n
   simp(disch:=omega) only[go_sem]
   refine qvd hC hj hS hR hN hn hx hcb hT hty hin hq k (i+1) H3 (by omega) (by omega) ?_ ((hf.then f2 fun _ _ h=>absurd h id).then f3 fun _ _ h=>h)
   rw[List.take_succ_eq_append_getElem hlt,List.map_append,List.map_append,qfb,List.map_singleton,List.map_singleton,qsp]
   exact hM3
  ·simp only[go_sem,hl,hlt]
   have he:i=ts.length:=by omega
   simp_all
def vU(X:List aS)(a:SS)(g:aY)(x:Nd):List (SS×SS) :=
 if x.k=1 then vY g.r.types else if x.k=2 then[(a,x.rl)]else if x.k=3 then(qW X a x.rl x.to).map fun s=>(s,x.to)else[]
def ndE(X:List aS)(n:Nat)(a:SS)(g:aY)(x:Nd):List T3:=(vU X a g x).map (tE X n x.neg)
theorem qlg{X:List aS}(hS:rM X)(a b to:SS):(qW X a b to).length<=100:=by
 unfold qW
 cases h:pI X a b with
 |none=>simp
 |some g =>
  refine Nat.le_trans (qr9 X to _) ?_
  unfold pI at h
  cases h2:X.find? fun g=>decide (g.name=a)with
  |none=>rw[h2]at h;cases h
  |some p =>
   rw[h2]at h
   exact hS.t p (List.mem_of_find?_eq_some h2) g (List.mem_of_find?_eq_some h)
theorem qvf(hC:bC C){j:Nat}(hj:4<=j){X:List aS}(hS:rM X){sv av nv:AV}{cb gb b rb N:Nat}{g:aY}{l:List (Nd×AV)}{Hb:Hp}(hR:∀ H,Fm (· =b) Hb H->OfR X sv cb gb b rb av nv N g l H)
  (hN:N=(aF X).length) {n:Nat} (hn:n<(aF X).length) (hcb:cb<Hb.nx/\gb<Hb.nx/\rb<Hb.nx) (hb:b<Hb.nx) (hty:g.r.types.length<=100) (hll:l.length<=100000) (hin:∀ y∈l,∀p∈vU X (aF X)[n].1 g y.1,p∈aF X) {Q:AV->Hp->Prop} {q:Hp->R1} {ms:List Nat}
  (hq:∀ H,sW H (.agg [iN N,.sl b 0 (N*N) (N*N) true]) b N (nT N ms (l.flatMap fun y=>ndE X n (aF X)[n].1 g y.1))->Fm (· =b) Hb H->Ok (q H) Q) :
  ∀(k i:Nat) (H:Hp),i<=l.length->l.length-i<k->sW H (.agg [iN N,.sl b 0 (N*N) (N*N) true]) b N (nT N ms ((l.take i).flatMap fun y=>ndE X n (aF X)[n].1 g y.1))->Fm (· =b) Hb H ->
   Ok (qig (C j) q (.ptr cb 0) av (.ptr gb 0) (iN n) (.ptr rb 0) nv k (iN i) H) Q
 |0,i,_,_,h,_,_=>by omega
 |k+1,i,H,hi,hk,hM,hf=>by
  show Ok (qyh (C j) _ _ _ _ _ _ _ (qig (C j) _ _ _ _ _ _ _ k) _ H) Q
  unfold qyh
  have h1:=hR H hf
  have hl:=h1.x8.len
  have hnx:=hf.nx
  by_cases hlt:i<l.length
  ·simp only[go_sem,hl,hlt]
   unfold q1l
   obtain⟨b2,o2,g1,g2,_,_,g4⟩:=h1.x8.at' i hlt
   have r0:bT (H.get b2) o2= .val (.int .u8 (.ofNat l[i].1.k)):=g4 0 (by rw[wO];omega)
   have r1:bT (H.get b2) (o2+1)= .val (.str l[i].1.rl.n l[i].1.rl.a):=g4 1 (by rw[wO];omega)
   have r2:bT (H.get b2) (o2+2)= .val (.str l[i].1.to.n l[i].1.to.a):=g4 2 (by rw[wO];omega)
   have r4:bT (H.get b2) (o2+4)= .val (.bool l[i].1.neg):=g4 4 (by rw[wO];omega)
   obtain⟨b3,o3,k1,k2,_,_,k4⟩:=h1.x3.at' n hn
   have s0:bT (H.get b3) o3= .val (.str (aF X)[n].1.n (aF X)[n].1.a):=k4 0 (by rw[qgk];omega)
   have x1:=h1.x1
   have x4:=h1.x4
   have hlm:=List.getElem_mem hlt
   have jQ:=hin _ hlm
   have next:∀ H,sW H (.agg [iN N,.sl b 0 (N*N) (N*N) true]) b N (nT N (nT N ms ((l.take i).flatMap fun y=>ndE X n (aF X)[n].1 g y.1)) (ndE X n (aF X)[n].1 g l[i].1))->Fm (· =b) Hb H ->
     Ok (qgr (C j) (qig (C j) q (.ptr cb 0) av (.ptr gb 0) (iN n) (.ptr rb 0) nv k) (iN i) H) Q:=fun H hM hf=>by
    unfold qgr
    simp(disch:=omega) only[go_sem]
    refine qvf hC hj hS hR hN hn hcb hb hty hll hin hq k (i+1) H (by omega) (by omega) ?_ hf
    rw[List.take_succ_eq_append_getElem hlt,List.flatMap_append,qfb,List.flatMap_singleton]
    exact hM
   unfold ndE vU at next
   unfold vU at jQ
   by_cases q1:l[i].1.k=1
   ·have q1t:=eq_true q1
    rw[if_pos q1]at next jQ
    simp only[go_sem,g1,r0,q1t]
    unfold zbj
    rw[dI]
    refine ql6 hC (by omega) hS (Hb:=H) (fun H' f'=>hR H' (hf.then f' fun _ _ h=>h)) hN (by omega) hlt ⟨by omega,by omega,by omega⟩ (by omega) jQ (fun H' hM' f'=>next H' hM' (hf.then f' fun _ _ h=>h)) cK 0 H (Nat.zero_le _) (by rw[dK];omega) hM (Fm.refl _ _)
   ·rw[if_neg q1]at next jQ
    by_cases q2:l[i].1.k=2
    ·have q2t:=eq_true q2
     rw[if_pos q2]at next jQ
     have hpm:=jQ _ List.mem_cons_self
     simp(disch:=first|omega|exact ti rfl|(simp only[np,nq];first|done|omega)) only[go_sem,reduceAdd,reduceLeDiff,g1,r0,q1,q2t,x1,x4,k1,s0,r1,r4]
     refine Ok.lX (qm9 hC (k:=j) (by omega) h1.oG hS hpm) ?_
     rintro _ H2 ⟨rfl,f2⟩
     have x42:=(f2.keep (by omega)).trans x4
     have r42:bT (H2.get b2) (o2+4)= .val (.bool l[i].1.neg):=by rw[f2.keep g2];exact r4
     simp(disch:=first|omega|exact ti rfl) only[go_sem,seval,x42,r42]
     refine Ok.lX (qzi hC (k:=j) (by omega) (hM.fm f2) (by omega) (by rw[hN];exact qvi hpm) l[i].1.neg) ?_
     rintro _ H3 ⟨hM3,f3⟩
     simp only[go_sem]
     refine next H3 ?_ ((hf.then f2 fun _ _ h=>absurd h id).then f3 fun _ _ h=>h)
     rw[List.map_singleton,qsp]
     exact hM3
    ·rw[if_neg q2]at next jQ
     by_cases q3:l[i].1.k=3
     ·have q3t:=eq_true q3
      rw[if_pos q3]at next jQ
      simp(disch:=first|omega|exact ti rfl|(simp only[np,nq];first|done|omega)) only[go_sem,reduceLeDiff,g1,r0,q1,q2,q3t,x1,k1,s0,r1,r2]
      refine Ok.lX (q6j hC (k:=j) (by omega) h1.oG hS (aF X)[n].1 l[i].1.rl l[i].1.to) ?_
      intro tv H2 ht
      simp only[go_sem,seval]
      unfold q1o
      rw[dI]
      have f2:=ht.fm
      have hf2:Fm (· =b) Hb H2:=hf.then f2 fun _ _ h=>absurd h id
      have n2:=f2.nx
      have htl:=qlg hS (aF X)[n].1 l[i].1.rl l[i].1.to
      refine qvd hC (by omega) hS (Hb:=H2) (fun H' f'=>hR H' (hf2.then f' fun _ _ h=>h)) hN (by omega) hlt ⟨by omega,by omega,by omega⟩ (fun H' f'=>(ht.rs zde).iD f' fun c hc h=>by have:=ht.nw c hc;omega) (by omega) (fun s hs=>jQ _ (List.mem_map_of_mem hs)) (fun H' hM' f'=>next H' hM' (hf2.then f' fun _ _ h=>h)) cK 0 H2 (Nat.zero_le _) (by rw[dK];omega) (hM.fm f2) (Fm.refl _ _)
     ·rw[if_neg q3]at next
      simp only[go_sem,g1,r0,q1,q2,q3]
      exact next H hM hf
  ·simp only[go_sem,hl,hlt]
   have he:i=l.length:=by omega
   simp_all
theorem qhu{X:List aS}{a b:SS}{g:aY}(h:pI X a b=some g):∃ p∈X,g∈p.gs/\p.name=a/\g.r.name=b:=by
 unfold pI at h
 cases h2:X.find? fun g=>decide (g.name=a)with
 |none=>rw[h2]at h;cases h
 |some p =>
  rw[h2]at h
  exact⟨p,List.mem_of_find?_eq_some h2,List.mem_of_find?_eq_some h,by simpa using List.find?_some h2,by simpa using List.find?_some h⟩
structure OfW(X:List aS):Prop where
 sm:rM X
 n:(aF X).length<=256
 at':∀ i (h:i<(aF X).length),∃g,pI X (aF X)[i].1 (aF X)[i].2=some g/\g.r.rule.depth<=12/\g.r.rule.size<=10000/\∀ x∈g.r.rule.nodes false,∀p∈vU X (aF X)[i].1 g x,p∈aF X
def tsN(X:List aS)(n:Nat):List T3:=match(aF X)[n]? with
 |none=>[]
 |some p=>match pI X p.1 p.2 with
  |none=>[]
  |some g=>(g.r.rule.nodes false).flatMap (ndE X n p.1 g)
def tsG(X:List aS)(m:Nat):List T3:=(List.range m).flatMap (tsN X)
theorem qve(hC:bC C){j:Nat}(hj:14<=j){X:List aS}(hW:OfW X){sv av:AV}{cb gb b N:Nat}{Hb:Hp}
  (hR:∀ H,Fm (· =b) Hb H->dF H sv X/\H.get cb=aD 0 [sv]/\Rs 2 pC H av (aF X)/\H.get gb=aD 0 [iN N,.sl b 0 (N*N) (N*N) true])
  (hN:N=(aF X).length) (hcb:cb<Hb.nx/\gb<Hb.nx) (hb:b<Hb.nx) {Q:AV->Hp->Prop} {q:Hp->R1} {ms:List Nat}
  (hq:∀ H,sW H (.agg [iN N,.sl b 0 (N*N) (N*N) true]) b N (nT N ms (tsG X N))->Fm (· =b) Hb H->Ok (q H) Q) :
  ∀(k i:Nat) (H:Hp),i<=N->N-i<k->sW H (.agg [iN N,.sl b 0 (N*N) (N*N) true]) b N (nT N ms (tsG X i))->Fm (· =b) Hb H ->
   Ok (qky (C j) q (.ptr cb 0) av (.ptr gb 0) k (iN i) H) Q
 |0,i,_,_,h,_,_=>by omega
 |k+1,i,H,hi,hk,hM,hf=>by
  show Ok (qyi (C j) _ _ _ _ (qky (C j) _ _ _ _ k) _ H) Q
  unfold qyi
  obtain⟨hX,x1,x3,x4⟩:=hR H hf
  have hl:=x3.len
  have hnx:=hf.nx
  have aD5:=hW.n
  have hsn:=hW.sm.n
  by_cases hlt:i<(aF X).length
  ·simp only[go_sem,hl,hlt]
   unfold q1k
   obtain⟨b3,o3,k1,k2,_,_,k4⟩:=x3.at' i hlt
   have s0:bT (H.get b3) o3= .val (.str (aF X)[i].1.n (aF X)[i].1.a):=k4 0 (by rw[qgk];omega)
   have s1:bT (H.get b3) (o3+1)= .val (.str (aF X)[i].2.n (aF X)[i].2.a):=k4 1 (by rw[qgk];omega)
   simp only[go_sem,seval,x1,k1,s0,s1]
   have fU:Fm No H ⟨H.t,H.nx+18⟩:=by(repeat(first|exact Fm.refl _ _|assumption|refine Fm.push ?_ _|refine Fm.uF ?_ (by(first|omega|(simp only[np,nq];omega)))|refine Fm.aM ?_ _ _ (by(first|omega|(simp only[np,nq];omega)))))
   refine Ok.lX (q0b hC (k:=j) (by omega) (hX.fm fU) (by omega) (fun g hg=>by have:=hW.sm.r g hg;omega) (aF X)[i].1 (aF X)[i].2) ?_
   rintro r H2 ⟨f2,hfr⟩
   obtain⟨g,hg,hgd,hgs,hgi⟩:=hW.at' i hlt
   unfold zgy at hfr
   rw[hg]at hfr
   subst hfr
   have qM:=fU.trans f2
   have n2:H.nx+18<=H2.nx:=f2.nx
   obtain⟨p,hp,hgp,_,_⟩:=qhu hg
   have aEN:=(((hX.sp p hp).rel g hgp).ru)
   obtain⟨c0,c1,c2,c3,hcs⟩:=aEN.four
   have hrc:gQ g=[.str g.r.name.n g.r.name.a,g.tv,c0,c1,c2,c3]:=by unfold gQ;rw[hcs];rfl
   rw[hrc]
   simp only[go_sem,seval]
   have f3':Fm No H ((H2.put (H.nx+15) (aD 0 [.str 0 0,.aA,.int .u8 (.ofNat 0),.str 0 0,.str 0 0,.aA])).put (H.nx+15) (aD 0 [.str g.r.name.n g.r.name.a,g.tv,c0,c1,c2,c3])):=(qM.aM (H.nx+15) _ (by omega)).aM (H.nx+15) _ (by omega)
   have nn:∀ x,¬In AV.aA x:=fun x h=>by obtain⟨_,_,_,_,h⟩:=h;cases h
   refine Ok.ve (q3c hC g.r.rule j (by omega) .aA false _ (l:=[]) (P:=fun _=>True) (cs:=[c0,c1,c2,c3]) (Gl.nil 5 _) ?_ (fun b _=>nn b) (by simp;omega)) ?_
   ·rw[hcs]at aEN;exact aEN.fm f3'
   rintro w H4 ⟨l,hw,hlr⟩
   have f4:Fm No ((H2.put (H.nx+15) (aD 0 [.str 0 0,.aA,.int .u8 (.ofNat 0),.str 0 0,.str 0 0,.aA])).put (H.nx+15) (aD 0 [.str g.r.name.n g.r.name.a,g.tv,c0,c1,c2,c3])) H4:=hw.fm.mono fun c _ h=>absurd h (nn c)
   have n4:H2.nx<=H4.nx:=f4.nx
   have f04:=f3'.trans f4
   have hf4:Fm (· =b) Hb H4:=hf.then f04 fun _ _ h=>absurd h id
   have aFp:l.map Prod.fst=g.r.rule.nodes false:=by simpa using hlr
   have hln:l.length=g.r.rule.size:=by
    have:=congrArg List.length aFp
    simpa [qbw] using this
   have x6:H4.get (H.nx+15)=aD 0 (gQ g):=by
    rw[hrc]
    exact(f4.keep (show H.nx+15<H2.nx by omega)).trans (eP _ _ _)
   have hwn:∀ c,In w c->H2.nx<=c:=fun c hc=>by
    rcases hw.nw c hc with h|h
    ·simp_all
    ·exact h
   unfold zbk
   rw[dI]
   refine qvf hC (by omega) hW.sm (sv:=sv) (Hb:=H4) (X:=X) (g:=g) (l:=l) (rb:=H.nx+15) (N:=N) (fun H' f'=> ?_) hN hlt ⟨by omega,by omega,by omega⟩ (by omega) ?_ (by omega) ?_ (fun H' hM' f'=> ?_) cK 0 H4 (Nat.zero_le _) (by rw[dK];omega) (hM.fm f04) (Fm.refl _ _)
   ·obtain⟨y1,y2,y3,y4⟩:=hR H' (hf4.then f' fun _ _ h=>h)
    have hrr:=(y1.sp p hp).rel g hgp
    exact⟨y1,y2,y3,y4,(f'.get _ (by omega) (by omega)).trans x6,hrr.ty,hrr.tf,(hw.gl.rs wO).iD f' fun c hc h=>by have:=hwn c hc;omega⟩
   ·have:=hW.sm.t p hp g hgp;omega
   ·intro y hy p hp
    refine hgi y.1 ?_ p hp
    rw[<-aFp]
    exact List.mem_map_of_mem hy
   ·unfold qyf
    simp(disch:=omega) only[go_sem]
    refine qve hC hj hW hR hN hcb hb hq k (i+1) H' (by omega) (by omega) ?_ (hf4.then f' fun _ _ h=>h)
    have hts:tsN X i=l.flatMap fun y=>ndE X i (aF X)[i].1 g y.1:=by
     unfold tsN
     rw[List.getElem?_eq_getElem hlt]
     simp only
     rw[hg]
     simp only
     rw[<-aFp,List.flatMap_map]
    unfold tsG at hM' ⊢
    rw[List.range_succ,List.flatMap_append,qfb,List.flatMap_singleton,hts]
    exact hM'
  ·simp only[go_sem,hl,hlt]
   have he:i=N:=by omega
   simp_all
theorem zkm(hC:bC C){k:Nat}(hk:15<=k){H:Hp}{sv:AV}{X:List aS}(hX:dF H sv X)(hW:OfW X) :
  Ok (C k (.f 10) [.agg [sv]] H) fun r H'=>∃ b,sW H' r b (aF X).length (nT (aF X).length (List.replicate ((aF X).length*(aF X).length) 0) (tsG X (aF X).length))/\H.nx<=b/\Fm No H H':=by
 obtain⟨j,rfl⟩:=aW hk
 rw[(hC j).zAf]
 unfold zAf zr6
 simp(disch:=first|omega|exact ti rfl|(simp only[np,nq];first|done|omega)) only[go_sem]
 have f:Fm No H (aR (aR H (aD 0 [sv])) (aD 0 [iN 0,.aA])):=by exact yN
 have aD5:=hW.n
 refine Ok.ve (zg1 hC (k:=j) (by omega) (hX.fm f) hW.sm) ?_
 intro av H1 ha
 have f1:=ha.fm
 have n1:=f1.nx
 simp only[np]at n1
 have hl:=ha.cO
 simp only[go_sem,hl]
 refine Ok.ve (zyp hC (k:=j) (by omega) aD5) ?_
 rintro r H2 ⟨hM,f2⟩
 obtain⟨hr,hbl,hget,hok⟩:=hM
 subst hr
 simp(disch:=first|omega|exact ti rfl) only[go_sem,seval]
 generalize hH4:(aR H2 (aD 0 [iN 0,.aA])).put H2.nx (aD 0 [iN ((aF X).length),.sl (H1.nx+1) 0 ((aF X).length*(aF X).length) ((aF X).length*(aF X).length) true])=H4
 have f4:Fm No H2 H4:=by rw[<-hH4];exact kI
 have n4:H4.nx=H2.nx+1:=by rw[<-hH4];rfl
 have k0:H4.get H.nx=aD 0 [sv]:=((f1.trans (f2.trans f4)).keep (by simp only[np];omega)).trans (by simp(disch:=first|omega|exact ti rfl|(simp only[np,nq];first|done|omega)) only[go_sem])
 have k1:H4.get (H.nx+1)=aD 0 [iN 0,.aA]:=((f1.trans (f2.trans f4)).keep (by simp only[np];omega)).trans (by simp(disch:=first|omega|exact ti rfl|(simp only[np,nq];first|done|omega)) only[go_sem])
 have k4:H4.get H2.nx=aD 0 [iN ((aF X).length),.sl (H1.nx+1) 0 ((aF X).length*(aF X).length) ((aF X).length*(aF X).length) true]:=by rw[<-hH4];exact eP _ _ _
 have fA:=((f.trans f1).trans f2).trans f4
 unfold zbl
 rw[dI]
 refine qve hC (by omega) hW (sv:=sv) (Hb:=H4) (b:=H1.nx+1) (N:=(aF X).length) (fun H' f'=>⟨hX.fm (fA.then f' fun c hc h=>by omega),(f'.get _ (by omega) (by omega)).trans k0,?_,(f'.get _ (by omega) (by omega)).trans k4⟩) rfl ⟨by omega,by omega⟩ (by omega) (fun H' hM' f'=> ?_) cK 0 H4 (Nat.zero_le _) (by rw[dK];omega) ⟨rfl,by omega,(f4.keep hbl).trans hget,hok⟩ (Fm.refl _ _)
 ·refine(((ha.rs qgk).fm f2).fm f4).iD f' fun c hc h=> ?_
  have:=ha.gl.lt hc
  omega
 ·unfold qq9
  have k1':=(f'.get (H.nx+1) (by omega) (by omega)).trans k1
  have k4':=(f'.get H2.nx (by omega) (by omega)).trans k4
  simp only[go_sem,seval,k1',k4']
  have n5:=f'.nx
  refine Ok.ret ⟨H1.nx+1,⟨rfl,by simp only[nq];omega,?_,hM'.ok⟩,by omega,(fA.then f' fun c hc h=>by omega).aM _ _ (by omega)⟩
  rw[dZ _ _ _ _ (by omega)]
  exact hM'.get
def nmL:List SS:=[sU,bX 0,bX 1,bX 2,fC 0,fC 1,fC 2,fC 3]
def Nm(s:SS):Prop:=s∈nmL
theorem Nm.ne{s:SS}(h:Nm s):¬(s.n=0/\s.a=0):=by
 have:∀ s∈nmL,¬(s.n=0/\s.a=0):=by decide
 exact this s h
structure aUB(c:Ev.Call):Prop where
 r:∀ s,Nm s->∀ H,c (.f 129) [s.v] H= .ok (.bool true) H
 p:∀ s,Nm s->∀ H,c (.f 90) [s.v] H= .ok (.bool true) H
abbrev l9(C:Nat->Ev.Call):Prop:=∀ k,aUB (C (k+1))
def Ru.Fit:Ru->Prop
 | .leaf k rl to=>(k=1/\rl=sE/\to=sE)\/(k=2/\Nm rl/\to=sE)\/(k=3/\Nm rl/\Nm to)
 | .node k a b=>(k=4\/k=5\/k=6)/\a.Fit/\b.Fit
theorem qj8(a b c d:Bool):qZ true (lT (fun xs ys=>wQ p1 ⟨qfo⟩ 1 xs ys 2 0) (.agg [.bool a,.bool b]) (.agg [.bool c,.bool d]))= .val (.bool (!(a==c&&b==d))):=by
 cases a<;>cases b<;>cases c<;>cases d<;>rfl
structure vO(H:Hp)(b o:Nat)(cs:List AV):Prop where
 lt:b<H.nx
 at':∀ j (h:j<cs.length),bT (H.get b) (o+j)= .val cs[j]
theorem vO.keep{H H':Hp}{b o:Nat}{cs:List AV}(h:vO H b o cs)(hn:H.nx<=H'.nx)(e:H'.get b=H.get b):vO H' b o cs:=⟨Nat.lt_of_lt_of_le h.lt hn,fun j hj=>by rw[e];exact h.at' j hj⟩
theorem vO.fm{H H':Hp}{b o:Nat}{cs:List AV}(h:vO H b o cs)(f:Fm No H H'):vO H' b o cs:=h.keep f.nx (f.keep h.lt)
theorem zmt(hC:bC C)(hN:l9 C){k:Nat}(hk:2<=k){H:Hp}{b o:Nat}{r:Ru}{cs:List AV}{P:Nat->Prop}(h4:vO H b o cs)(hr:jK P H r cs)(hf:r.Fit) :
  Ok (C k (.f 101) [.ptr b o] H) fun v H'=>v=iN 0/\Fm No H H':=by
 obtain⟨j,rfl⟩:∃ j,k=j+1+1:=⟨k-2,by omega⟩
 rw[(hC (j+1)).zDb]
 unfold zDb zqe
 have hlt:=h4.lt
 cases r with
 |leaf kd rl to =>
  obtain rfl:cs=lfC kd rl to:=hr
  have r0:bT (H.get b) o= .val (.int .u8 (.ofNat kd)):=h4.at' 0 (by simp[lfC])
  have r1:bT (H.get b) (o+1)= .val (.str rl.n rl.a):=h4.at' 1 (by simp[lfC])
  have r2:bT (H.get b) (o+2)= .val (.str to.n to.a):=h4.at' 2 (by simp[lfC])
  have r3:bT (H.get b) (o+3)= .val .aA:=h4.at' 3 (by simp[lfC])
  rcases hf with⟨rfl,rfl,rfl⟩|⟨rfl,h1,rfl⟩|⟨rfl,h1,h2⟩
  ·unfold sE at r1 r2
   simp(disch:=first|omega|exact ti rfl|(simp only[np,nq];first|done|omega)) only[go_sem,seval,r0,r1,r2,r3,and_self]
   unfold qem
   simp(disch:=first|omega|exact ti rfl|(simp only[np,nq];first|done|omega)) only[go_sem,seval,r0,qj8]
   unfold qh5 qkb
   exact Ok.ret ⟨rfl,by(repeat(first|exact Fm.refl _ _|assumption|refine Fm.push ?_ _|refine Fm.uF ?_ (by(first|omega|(simp only[np,nq];omega)))|refine Fm.aM ?_ _ _ (by(first|omega|(simp only[np,nq];omega)))))⟩
  ·have n1:=h1.ne
   have e1:=(hN j).r rl h1
   unfold SS.v at e1
   simp(disch:=first|omega|exact ti rfl|(simp only[np,nq];first|done|omega)) only[go_sem,reduceAdd,reduceLeDiff,reduceEqDiff,reduceShiftRight,reduceAnd,r0,r1,r2,r3,n1]
   unfold qem
   simp(disch:=first|omega|exact ti rfl|(simp only[np,nq];first|done|omega)) only[go_sem,seval,r0,r1,qj8,e1]
   unfold qh5 qkb
   exact Ok.ret ⟨rfl,by(repeat(first|exact Fm.refl _ _|assumption|refine Fm.push ?_ _|refine Fm.uF ?_ (by(first|omega|(simp only[np,nq];omega)))|refine Fm.aM ?_ _ _ (by(first|omega|(simp only[np,nq];omega)))))⟩
  ·have n1:=h1.ne
   have n2:=h2.ne
   have e1:=(hN j).r rl h1
   have e2:=(hN j).r to h2
   unfold SS.v at e1 e2
   simp(disch:=first|omega|exact ti rfl|(simp only[np,nq];first|done|omega)) only[go_sem,seval,r0,r1,r2,r3,n1,n2]
   unfold qem
   simp(disch:=first|omega|exact ti rfl|(simp only[np,nq];first|done|omega)) only[go_sem,seval,r0,r1,r2,qj8,e1,e2]
   unfold qh5 qkb
   exact Ok.ret ⟨rfl,by(repeat(first|exact Fm.refl _ _|assumption|refine Fm.push ?_ _|refine Fm.uF ?_ (by(first|omega|(simp only[np,nq];omega)))|refine Fm.aM ?_ _ _ (by(first|omega|(simp only[np,nq];omega)))))⟩
 |node kd x y =>
  obtain⟨bl,ca,cb,rfl,hbl,hPb,kb,hca,hcb⟩:=hr
  have r0:bT (H.get b) o= .val (.int .u8 (.ofNat kd)):=h4.at' 0 (by simp)
  have r1:bT (H.get b) (o+1)= .val (.str 0 0):=h4.at' 1 (by simp)
  have r2:bT (H.get b) (o+2)= .val (.str 0 0):=h4.at' 2 (by simp)
  have r3:bT (H.get b) (o+3)= .val (.sl bl 0 2 2 true):=h4.at' 3 (by simp)
  rcases hf.1 with rfl|rfl|rfl<;>(
   simp(disch:=first|omega|exact ti rfl|(simp only[np,nq];first|done|omega)) only[go_sem,reduceAdd,reduceLeDiff,reduceEqDiff,reduceShiftRight,reduceAnd,r0,r1,r2,r3,and_self]
   unfold qww
   unfold qem
   simp(disch:=first|omega|exact ti rfl|(simp only[np,nq];first|done|omega)) only[go_sem,seval,r0,qj8]
   unfold qh5 qkb
   exact Ok.ret ⟨rfl,by(repeat(first|exact Fm.refl _ _|assumption|refine Fm.push ?_ _|refine Fm.uF ?_ (by(first|omega|(simp only[np,nq];omega)))|refine Fm.aM ?_ _ _ (by(first|omega|(simp only[np,nq];omega)))))⟩)
theorem zcw(H:Hp)(b o:Nat)(f:FuncId)(x y:List AV):eY H (.ptr b o) (.fn f x y)=storeAt H b o [.fn f x y] .undef:=id rfl
theorem zgb(call:Ev.Call)(f:FuncId)(c args:List AV)(H:Hp):vN call (.fn f [] c) args H=call (.f f) (args++c) H:=id rfl
theorem aRz(a b:Nat):nW mY (iN a) [iN b]= .val (iN ((max a b))):=by
 show R0.val (.int .i64 (bif nO (.ofNat a) (.ofNat b)then .ofNat b else .ofNat a))=_
 rw[yX]
 by_cases h:a<b
 ·rw[decide_eq_true (by simp only[Int.ofNat_eq_natCast];omega),Nat.max_eq_right (by omega)];rfl
 ·rw[decide_eq_false (by simp only[Int.ofNat_eq_natCast];omega),Nat.max_eq_left (by omega)];rfl
attribute [go_sem] zcw zgb aRz
structure wF(H:Hp)(nb db fb vb:Nat)(l:List (Nd×AV))(nv:AV)(d:Nat):Prop where
 n:H.get nb=aD 0 [nv]
 d:H.get db=aD 0 [iN d]
 f:H.get fb=aD 0 [iN 0]
 v:H.get vb=aD 0 [.fn 100 [] [.ptr nb 0,.ptr db 0,.ptr fb 0,.ptr vb 0]]
 o:nb<db/\db<fb/\fb<vb/\vb<H.nx
 gl:Gl 5 H nv l.length (l.flatMap jZ)
 nin:∀ c,In nv c->vb<c
def WkS(nb db fb:Nat)(nv:AV)(c:Nat):Prop:=c=nb\/c=db\/c=fb\/In nv c
theorem wF.no{H H':Hp}{nb db fb vb:Nat}{l:List (Nd×AV)}{nv:AV}{d:Nat}(h:wF H nb db fb vb l nv d)(f:Fm No H H'):wF H' nb db fb vb l nv d:=by
 obtain⟨o1,o2,o3,o4⟩:=h.o
 exact⟨(f.keep (by omega)).trans h.n,(f.keep (by omega)).trans h.d,(f.keep (by omega)).trans h.f,(f.keep (by omega)).trans h.v,⟨o1,o2,o3,Nat.lt_of_lt_of_le o4 f.nx⟩,h.gl.no f,h.nin⟩
theorem qud(hC:bC C){j:Nat}(hj:1<=j){H:Hp}{nb db fb vb:Nat}{l:List (Nd×AV)}{nv:AV}{d:Nat}(hI:wF H nb db fb vb l nv d){i:Nat}(hi:i<l.length){x:AV}{m:Nat}{xs:List AV}(hx:Gl 1 H x m xs) :
  Ok (qke (C j) (.ptr nb 0) (iN i) x H) fun r H'=>r= .bool true/\∃ l',wF H' nb db fb vb l' nv d/\l'.map Prod.fst=l.map Prod.fst/\Fm (In nv) H H':=by
 unfold qke
 obtain⟨w,e,hw,_,_⟩:=q0d hC (k:=j) hj hx
 have e0:=hI.n
 have ef:=qb7 (Gl.flat hI.gl) 63
 obtain⟨b,o,H',i1,i2,g,f,nx⟩:=hI.gl.set1 hi (j:=3) (by omega) w
 rw[zed w l i hi]at g
 obtain⟨o1,o2,o3,o4⟩:=hI.o
 have nn:∀ c,c<=vb->¬ In nv c:=fun c hc h=>by have:=hI.nin c h;omega
 have fin:wF H' nb db fb vb (l.set i (l[i].1,w)) nv d:=⟨(f.get _ (by omega) (nn _ (by omega))).trans hI.n,(f.get _ (by omega) (nn _ (by omega))).trans hI.d,(f.get _ (by omega) (nn _ (by omega))).trans hI.f,(f.get _ (by omega) (nn _ (by omega))).trans hI.v,
  ⟨o1,o2,o3,by omega⟩,by rw[List.length_set];exact g,hI.nin⟩
 simp only[go_sem,e0]
 refine Ok.y7 e ?_
 rcases hw.is with⟨h,_⟩|⟨_,_,_,_,_,h,_⟩
 ·subst h
  simp only[go_sem,e0,ef,i1,i2]
  exact Ok.ret ⟨rfl,_,fin,qy9 hi _,f⟩
 ·subst h
  simp only[go_sem,e0,ef,i1,i2]
  exact Ok.ret ⟨rfl,_,fin,qy9 hi _,f⟩
def zgn(C:Nat->Ev.Call)(r:Ru)(k:Nat):Prop :=
 ∀(b o lv:Nat) (neg:Bool) (H:Hp) (nb db fb vb:Nat) (l:List (Nd×AV)) (nv:AV) (d:Nat) (cs:List AV),wF H nb db fb vb l nv d->vO H b o cs->jK (· < nb) H r cs->b<nb->lv+r.depth<=9->l.length+r.size<=32->d<=8 ->
  Ok (C k (.f 100) [.ptr b o,iN lv,.bool neg,.ptr nb 0,.ptr db 0,.ptr fb 0,.ptr vb 0] H) fun v H'=>v= .bool true/\∃ l' uQ d',wF H' nb db fb vb l' uQ d' /\
   l'.map Prod.fst=l.map Prod.fst++r.nodes neg/\d'<=8/\Fm (WkS nb db fb nv) H H'/\∀ c,In uQ c->In nv c\/H.nx<=c
theorem qld(hC:bC C)(hN:l9 C){j:Nat}(hj:2<=j){b o lv:Nat}{neg:Bool}{H:Hp}{nb db fb vb:Nat}{l:List (Nd×AV)}{nv:AV}{d:Nat}{r:Ru}{kd:Nat}{rl to:SS}{av:AV}(hI:wF H nb db fb vb l nv d)
  (h4:vO H b o [.int .u8 (.ofNat kd),.str rl.n rl.a,.str to.n to.a,av]) (hr:jK (· < nb) H r [.int .u8 (.ofNat kd),.str rl.n rl.a,.str to.n to.a,av]) (hf:r.Fit) (hb:b<nb) (hlv:lv<=8) (hll:l.length<32) (hd:d<=8) {Q:AV->Hp->Prop}
  (hg:∀ H' w d',wF H' nb db fb vb (l++[(⟨kd,rl,to,neg⟩,.aA)]) w d'->d'<=8->Fm (WkS nb db fb nv) H H'->(∀c,In w c->H.nx<=c) ->
   Ok (vq (aG av) H' fun a36 H=>qp6 (C j) (fun x10 H=> .ok x10 H) (fun bI H=>qke (C j) (.ptr nb 0) (iN (l.length)) bI H) (.ptr b o) (iN lv) (.bool neg) (.ptr nb 0) (.ptr vb 0) a36 .aA (iN 0) H) Q) :
  Ok (zhx (C j) (.ptr b o) (iN lv) (.bool neg) (.ptr nb 0) (.ptr db 0) (.ptr fb 0) (.ptr vb 0) H) Q:=by
 unfold zhx
 obtain⟨o1,o2,o3,o4⟩:=hI.o
 have e0:=hI.n
 have ed:=hI.d
 have ef:=hI.f
 have hl:=hI.gl.cO
 have h32:¬ l.length=32:=by omega
 have h8:¬ 8<lv:=by omega
 have nn:∀ c,c<=vb->¬ In nv c:=fun c hc h=>by have:=hI.nin c h;omega
 simp only[go_sem,e0,hl,h32,h8]
 unfold q7s
 simp(disch:=omega) only[go_sem,seval,ed,ef]
 have f1:Fm (fun c=>c=db) H (H.put db (aD 0 [iN ((max d lv))])):=(Fm.refl _ _).put _ _ fun _=>rfl
 refine Ok.ve (zmt hC hN (k:=j) hj (h4.keep f1.nx (f1.get _ (by omega) (by omega))) (hr.iD f1 fun c hc h=>by omega) hf) ?_
 rintro _ H2 ⟨rfl,f2⟩
 have n2:H.nx<=H2.nx:=f2.nx
 have d2:H2.get db=aD 0 [iN ((max d lv))]:=(f2.keep (show db<H.nx by omega)).trans (eP _ _ _)
 have kp2:∀ c,c<H.nx->c≠db->H2.get c=H.get c:=fun c h1 h2=>(f2.keep (show c<H.nx by omega)).trans (dZ _ _ _ _ h2)
 have f22:=(kp2 fb (by omega) (by omega)).trans ef
 simp only[go_sem,f22]
 unfold qw5
 have n22:=(kp2 nb (by omega) (by omega)).trans e0
 have v22:=(kp2 vb (by omega) (by omega)).trans hI.v
 have hb2:=kp2 b (by omega) (by omega)
 have r0:bT (H2.get b) o= .val (.int .u8 (.ofNat kd)):=by rw[hb2];exact h4.at' 0 (by simp)
 have r1:bT (H2.get b) (o+1)= .val (.str rl.n rl.a):=by rw[hb2];exact h4.at' 1 (by simp)
 have r2:bT (H2.get b) (o+2)= .val (.str to.n to.a):=by rw[hb2];exact h4.at' 2 (by simp)
 have r3:bT (H2.get b) (o+3)= .val av:=by rw[hb2];exact h4.at' 3 (by simp)
 simp(disch:=omega) only[go_sem,seval,n22,hl,r0,r1,r2]
 have g2:Gl 5 ((Hp.mk (H2.put fb (aD 0 [iN 0])).t (H2.nx+18)).put (H2.nx+15) (aD 0 [.int .u8 (.ofNat kd),.str rl.n rl.a,.str to.n to.a,.aA,.bool neg])) nv l.length (l.flatMap jZ):=by
  refine hI.gl.keep (show H.nx<=H2.nx+18 by omega) fun c hc hl=> ?_
  have:=hI.nin c hc
  rw[dZ _ _ _ _ (by omega)]
  show(H2.put fb _).get c=_
  rw[dZ _ _ _ _ (by omega)]
  exact kp2 c hl (by omega)
 obtain⟨H3,e3,g3,q3,f3,n3⟩:=g2.append (k:=1) (w:=72) (x:=[.int .u8 (.ofNat kd),.str rl.n rl.a,.str to.n to.a,.aA,.bool neg]) (by omega) rfl (by omega) (by omega)
 simp only[nq]at e3 g3 q3 n3 f3
 refine Ok.y7 e3 ?_
 have kp3:∀ c,c<H2.nx->c≠fb->¬ In nv c->H3.get c=H2.get c:=fun c h1 h2 h3=>by
  refine(f3.get c (show c<H2.nx+18 by omega) h3).trans ?_
  rw[dZ _ _ _ _ (by omega)]
  show(H2.put fb _).get c=_
  rw[dZ _ _ _ _ h2]
 have f33:H3.get fb=aD 0 [iN 0]:=by
  refine(f3.get fb (show fb<H2.nx+18 by omega) (nn _ (by omega))).trans ?_
  rw[dZ _ _ _ _ (by omega)]
  exact eP _ _ _
 have n33:=(kp3 nb (by omega) (by omega) (nn _ (by omega))).trans n22
 have d33:=(kp3 db (by omega) (by omega) (nn _ (by omega))).trans d2
 have v33:=(kp3 vb (by omega) (by omega) (nn _ (by omega))).trans v22
 have hb3:=kp3 b (by omega) (by omega) (nn _ (by omega))
 have r33:bT (H3.get b) (o+3)= .val av:=by rw[hb3];exact r3
 simp(disch:=omega) only[go_sem,seval,n33,r33]
 refine hg _ _ (max d lv) ⟨eP _ _ _,?_,?_,?_,⟨o1,o2,o3,show vb<H3.nx by omega⟩,?_,?_⟩ (by omega) ⟨show H.nx<=H3.nx by omega,fun c hc hs=> ?_⟩ ?_
 ·rw[dZ _ _ _ _ (by omega)];exact d33
 ·rw[dZ _ _ _ _ (by omega)];exact f33
 ·rw[dZ _ _ _ _ (by omega)];exact v33
 ·rw[List.length_append,List.flatMap_append,List.flatMap_singleton]
  exact g3.keep (Nat.le_refl _) fun c hc _=>by
   obtain⟨_,_,_,_,hc⟩:=hc
   injection hc with hc
   rw[dZ _ _ _ _ (by omega)]
 ·rintro c ⟨_,_,_,_,hc⟩
  injection hc with hc
  omega
 ·unfold WkS at hs
  rw[dZ _ _ _ _ (fun h=>hs (.inl h))]
  exact(kp3 c (by omega) (fun h=>hs (.inr (.inr (.inl h)))) fun h=>hs (.inr (.inr (.inr h)))).trans (kp2 c hc fun h=>hs (.inr (.inl h)))
 ·rintro c ⟨_,_,_,_,hc⟩
  injection hc with hc
  omega
theorem qon(hC:bC C){j:Nat}{r:Ru}(hR:zgn C r j){g:AV->AV->Hp->R1}{qr:AV->Hp->R1}{Q:AV->Hp->Prop}{b o lv bl kd t d nb db fb vb:Nat}{neg:Bool}{H:Hp}{l:List (Nd×AV)}{nv x:AV}{xs ca cb cc:List AV}
  (hI:wF H nb db fb vb l nv d) (hx:Gl 1 H x t xs) (ht:t<2) (hxd:∀ c,In x c->vb<c/\¬ In nv c) (h4:vO H b o [.int .u8 (.ofNat kd),.str 0 0,.str 0 0,.sl bl 0 2 2 true]) (hb:b<nb) (hbl:bl<nb)
  (kb:H.get bl=aD 0 (ca++cb)) (la:ca.length=4) (lb:cb.length=4) (hcc:cc=if t=0 then ca else cb) (hrc:jK (· < nb) H r cc) (hlv:lv+1+r.depth<=9) (hll:l.length+r.size<=32) (hd:d<=8)
  (hg:∀(x':AV) (H':Hp) (l':List (Nd×AV)) (uQ:AV) (d':Nat) (xs':List AV),wF H' nb db fb vb l' uQ d'->l'.map Prod.fst=l.map Prod.fst++r.nodes (neg||(decide (kd=6)&&decide (t=1)))->d'<=8 ->
   Fm (fun c=>WkS nb db fb nv c\/In x c) H H'->(∀c,In uQ c->In nv c\/H.nx<=c)->Gl 1 H' x' (t+1) xs'->(∀c,In x' c->vb<c/\¬ In uQ c/\H.nx<=c)->Ok (g x' (iN ((t+1))) H') Q) :
  Ok (qw6 (C j) qr g (.ptr b o) (iN lv) (.bool neg) (.ptr nb 0) (.ptr vb 0) x (iN t) H) Q:=by
 unfold qw6
 obtain⟨o1,o2,o3,o4⟩:=hI.o
 have e0:=hI.n
 have hl:=hI.gl.cO
 simp(disch:=first|omega|exact ti rfl|(simp only[np,nq];first|done|omega)) only[go_sem,reduceLeDiff,e0,hl]
 have fp:Fm No H (aR H (aD 0 [iN (l.length)])):=by exact jW
 obtain⟨H2,e2,g2,q2,f2,n2⟩:=(hx.no fp).append (k:=1) (w:=8) (x:=[iN (l.length)]) (by omega) rfl (by omega) (by omega)
 simp only[np]at n2
 refine Ok.veE e2 ?_
 have fA:Fm (In x) H H2:=(fp.mono (T:=In x) (fun _ _ h=>absurd h id)).then f2 fun _ _ h=>h
 have kp:∀ c,c<H.nx->¬ In x c->H2.get c=H.get c:=fun c h1 h2=>fA.get c h1 h2
 have nix:∀ c,c<=vb->¬ In x c:=fun c hc h=>by have:=(hxd c h).1;omega
 have I2:wF H2 nb db fb vb l nv d:=⟨(kp _ (by omega) (nix _ (by omega))).trans hI.n,(kp _ (by omega) (nix _ (by omega))).trans hI.d,(kp _ (by omega) (nix _ (by omega))).trans hI.f,(kp _ (by omega) (nix _ (by omega))).trans hI.v,⟨o1,o2,o3,by omega⟩,
  hI.gl.keep fA.nx (fun c hc hl=>kp c hl fun h=>(hxd c h).2 hc),hI.nin⟩
 have v2:=I2.v
 have hb2:=kp b (by omega) (nix _ (by omega))
 have r0:bT (H2.get b) o= .val (.int .u8 (.ofNat kd)):=by rw[hb2];exact h4.at' 0 (by simp)
 have r3:bT (H2.get b) (o+3)= .val (.sl bl 0 2 2 true):=by rw[hb2];exact h4.at' 3 (by simp)
 have kb2:=(kp bl (by omega) (nix _ (by omega))).trans kb
 have a4:vO H2 bl (t*4) cc:=⟨by omega,fun i hi=>by
  rw[kb2,qb3]
  have:(ca++cb)[t*4+i]? =some cc[i]:=by
   by_cases h0:t=0
   ·subst h0
    subst hcc
    rw[Nat.zero_mul,Nat.zero_add,List.getElem?_append_left (by omega),List.getElem?_eq_getElem hi]
   ·have h1:t=1:=by omega
    subst h1
    subst hcc
    rw[List.getElem?_append_right (by omega),show 1*4+i-ca.length=i by omega,List.getElem?_eq_getElem hi]
  rw[this]⟩
 have aWC:jK (· < nb) H2 r cc:=hrc.iD fA fun c hc=>nix c (by omega)
 have call:∀ n:Bool,Ok (C j (.f 100) [.ptr bl (t*4),iN ((lv+1)),.bool n,.ptr nb 0,.ptr db 0,.ptr fb 0,.ptr vb 0] H2) _:=fun n=>hR bl (t*4) (lv+1) n H2 nb db fb vb l nv d cc I2 a4 aWC hbl (by omega) hll hd
 have fin:∀(n:Bool),n=(neg||(decide (kd=6)&&decide (t=1)))->∀(H3:Hp) (l':List (Nd×AV)) (uQ:AV) (d':Nat),wF H3 nb db fb vb l' uQ d'->l'.map Prod.fst=l.map Prod.fst++r.nodes n->d'<=8->Fm (WkS nb db fb nv) H2 H3->(∀c,In uQ c->In nv c\/H2.nx<=c) ->
   Ok (g (.sl (aR H (aD 0 [iN (l.length)])).nx 0 (t+1) (t+1) false) (iN ((t+1))) H3) Q:=by
  rintro _ rfl H3 l' uQ d' vM hl3 hd3 f3 xI
  have hnew:¬ WkS nb db fb nv (H.nx+1):=fun h=>by
   rcases h with h|h|h|h
   ·omega
   ·omega
   ·omega
   ·have:=hI.gl.lt h;omega
  refine hg _ H3 l' uQ d' _ vM hl3 hd3 ((fA.mono fun _ _ h=> .inr h).then f3 fun _ _ h=> .inl h) (fun c hc=> ?_) (g2.keep f3.nx fun c hc hlt=>f3.get c hlt fun h=> ?_) fun c hc=> ?_
  ·rcases xI c hc with h|h
   ·exact .inl h
   ·omega
  ·obtain⟨_,_,_,_,hc⟩:=hc
   injection hc with hc
   rw[np]at hc
   simp_all
  ·obtain⟨_,_,_,_,hc⟩:=hc
   injection hc with hc
   rw[np]at hc
   refine⟨by omega,fun h=> ?_,by omega⟩
   rcases xI c h with h|h
   ·have:=hI.gl.lt h;omega
   ·omega
 cases neg
 ·by_cases h6:kd=6
  ·have h6t:=eq_true h6
   simp(disch:=omega) only[go_sem,v2,r0,r3,h6t]
   refine Ok.lX (call (decide (t=1))) ?_
   rintro _ H3 ⟨rfl,l',uQ,d',vM,hl3,hd3,f3,xI⟩
   simp only[go_sem]
   unfold qp5
   simp(disch:=omega) only[go_sem]
   exact fin (decide (t=1)) (by simp[h6]) H3 l' uQ d' vM hl3 hd3 f3 xI
  ·simp(disch:=omega) only[go_sem,v2,r0,r3,h6]
   refine Ok.lX (call false) ?_
   rintro _ H3 ⟨rfl,l',uQ,d',vM,hl3,hd3,f3,xI⟩
   unfold qp5
   simp(disch:=omega) only[go_sem]
   exact fin false (by simp[h6]) H3 l' uQ d' vM hl3 hd3 f3 xI
 ·simp(disch:=omega) only[go_sem,v2,r3]
  refine Ok.lX (call true) ?_
  rintro _ H3 ⟨rfl,l',uQ,d',vM,hl3,hd3,f3,xI⟩
  unfold qp5
  simp(disch:=omega) only[go_sem]
  exact fin true (by simp) H3 l' uQ d' vM hl3 hd3 f3 xI
theorem w37(call:Ev.Call)(qr:AV->Hp->R1)(q:AV->Hp->R1)(a b c d e f:AV)(n:Nat):qp4 call qr q a b c d e f (n+1)=qh6 call qr q a b c d e f (qp4 call qr q a b c d e f n):=rfl
theorem zjz(hC:bC C)(hN:l9 C):∀(r:Ru) (k:Nat),r.Fit->r.depth+2<=k->zgn C r k:=by
 intro r
 induction r with
 |leaf kd rl to =>
  intro k hf hk b o lv neg H nb db fb vb l nv d cs hI h4 hr hb hlv hll hd
  unfold Ru.depth at hk hlv
  unfold Ru.size at hll
  obtain⟨j,rfl⟩:∃ j,k=j+1:=⟨k-1,by omega⟩
  rw[(hC j).zCo]
  have hcs:cs=lfC kd rl to:=hr
  subst hcs
  refine qld hC hN (r:= .leaf kd rl to) (by omega) hI h4 hr hf hb (by omega) (by omega) hd fun H' w d' hI' hd' f' hw=> ?_
  unfold qp6
  obtain⟨m,hm⟩:∃ m,cK=m+1:=⟨999999,by rw[dK]⟩
  rw[dI,hm]
  simp only[go_sem]
  rw[w37]
  unfold qh6
  refine(qud hC (j:=j) (by omega) hI' (i:=l.length) (by simp) (Gl.nil 1 H')).mono ?_
  rintro r H2 ⟨rfl,l',hI2,hl2,f2⟩
  refine⟨rfl,l',w,d',hI2,by rw[hl2];simp[Ru.nodes],hd',f'.then f2 fun c hc h=> ?_,fun c hc=> .inr (hw c hc)⟩
  have:=hw c h;omega
 |node kd x y ihx ihy =>
  intro k hf hk b o lv neg H nb db fb vb l nv d cs hI h4 hr hb hlv hll hd
  unfold Ru.depth at hk hlv
  unfold Ru.size at hll
  obtain⟨j,rfl⟩:∃ j,k=j+1:=⟨k-1,by omega⟩
  rw[(hC j).zCo]
  have hr':=hr
  obtain⟨bl,ca,cb,rfl,hbl,hPb,kb,hca,hcb⟩:=hr
  have la:ca.length=4:=by obtain⟨_,_,_,_,h⟩:=hca.four;rw[h];rfl
  have lb:cb.length=4:=by obtain⟨_,_,_,_,h⟩:=hcb.four;rw[h];rfl
  refine qld hC hN (r:= .node kd x y) (rl:=sE) (to:=sE) (by omega) hI h4 hr' hf hb (by omega) (by omega) hd fun H1 w d1 hI1 hd1 f1 hw=> ?_
  obtain⟨o1,o2,o3,o4⟩:=hI.o
  have nS:∀ c,c<nb->¬ WkS nb db fb nv c:=fun c hc h=>by
   rcases h with h|h|h|h
   ·omega
   ·omega
   ·omega
   ·have:=hI.nin c h;omega
  unfold qp6
  obtain⟨m,hm⟩:∃ m,cK=m+3:=⟨999997,by rw[dK]⟩
  rw[dI,hm]
  simp only[go_sem]
  rw[w37]
  unfold qh6
  simp only[go_sem]
  have nn:∀ c,¬In AV.aA c:=fun c h=>by obtain⟨_,_,_,_,h⟩:=h;cases h
  have l1:(l++[((⟨kd,sE,sE,neg⟩:Nd),AV.aA)]).length=l.length+1:=by simp
  refine qon hC (r:=x) (t:=0) (ca:=ca) (cb:=cb) (cc:=ca) (ihx j hf.2.1 (by omega)) hI1 (Gl.nil 1 H1) (by omega) (fun c h=>absurd h (nn c)) (h4.keep f1.nx (f1.get _ (by omega) (nS _ hb))) hb hPb ((f1.get _ hbl (nS _ hPb)).trans kb) la lb rfl (hca.iD f1 fun c hc=>nS c hc) (by omega) (by rw[l1];omega) hd1 ?_
  intro x2 H2 l2 nv2 d2 xs2 hI2 hl2 hd2 f2 hn2 gx2 hx2
  have l2n:l2.length=l.length+1+x.size:=by
   have:=congrArg List.length hl2
   simp only[List.length_map,List.length_append,List.length_cons,List.length_nil,qbw]at this
   omega
  have n1:=f1.nx
  have n2:=f2.nx
  have nS2:∀ c,c<nb->¬(WkS nb db fb w c\/In AV.aA c):=fun c hc h=>by
   rcases h with(h|h|h|h)|h
   ·omega
   ·omega
   ·omega
   ·have:=hI1.nin c h;omega
   ·exact nn c h
  rw[w37]
  unfold qh6
  simp only[go_sem]
  refine qon hC (r:=y) (t:=1) (ca:=ca) (cb:=cb) (cc:=cb) (ihy j hf.2.2 (by omega)) hI2 gx2 (by omega) (fun c h=>⟨(hx2 c h).1,(hx2 c h).2.1⟩) ((h4.keep f1.nx (f1.get _ (by omega) (nS _ hb))).keep n2 (f2.get _ (by omega) (nS2 _ hb))) hb hPb ((f2.get _ (by omega) (nS2 _ hPb)).trans ((f1.get _ hbl (nS _ hPb)).trans kb)) la lb rfl ((hcb.iD f1 fun c hc=>nS c hc).iD f2 fun c hc=>nS2 c hc) (by omega) (by omega) hd2 ?_
  intro x3 H3 l3 nv3 d3 xs3 vM hl3 hd3 f3 xI gx3 hx3
  rw[w37]
  unfold qh6
  have l3n:l3.length=l2.length+y.size:=by
   have:=congrArg List.length hl3
   simp only[List.length_map,List.length_append,qbw]at this
   omega
  have aDh:∀ c,In nv3 c->H.nx<=c:=fun c hc=>by
   rcases xI c hc with h|h
   ·rcases hn2 c h with h|h
    ·exact hw c h
    ·omega
   ·omega
  refine(qud hC (j:=j) (by omega) vM (i:=l.length) (by omega) gx3).mono ?_
  rintro r H4 ⟨rfl,l',hI4,hl4,f4⟩
  refine⟨rfl,l',nv3,d3,hI4,?_,hd3,((f1.then f2 fun c hc h=> ?_).then f3 fun c hc h=> ?_).then f4 fun c hc h=> ?_,fun c hc=> .inr (aDh c hc)⟩
  ·rw[hl4,hl3,hl2]
   simp[Ru.nodes]
  ·rcases h with(h|h|h|h)|h
   ·exact .inl h
   ·exact .inr (.inl h)
   ·exact .inr (.inr (.inl h))
   ·have:=hw c h;omega
   ·simp_all
  ·rcases h with(h|h|h|h)|h
   ·exact .inl h
   ·exact .inr (.inl h)
   ·exact .inr (.inr (.inl h))
   ·rcases hn2 c h with h|h
    ·have:=hw c h;omega
    ·omega
   ·have:=(hx2 c h).2.2;omega
  ·have:=aDh c h;omega
theorem zm4(hC:bC C){k:Nat}(hk:1<=k){n:Nat}{H:Hp}{v:AV}{l:List AV}(h:Gl 5 H v n l) :
  ∃w,C k (.f 102) [v] H= .ok w H/\Gl 5 H w n l/\iI w= .val (iN n)/\(∀b,In w b->In v b):=by
 obtain⟨j,rfl⟩:=aW hk
 obtain⟨w,e,h1,h2,h3⟩:=h.clip
 refine⟨w,?_,h1,h2,h3⟩
 rw[(hC j).zCp]
 unfold zCp zqo
 simp only[go_sem,h.cO,e]
structure Ru.Rt(r:Ru):Prop where
 fit:r.Fit
 dp:r.depth<=8
 sz:r.size<=32
theorem zcm(hC:bC C)(hN:l9 C){k:Nat}(hk:12<=k){H:Hp}{b:Nat}{r:Ru}{cs:List AV}{P:Nat->Prop}(h4:vO H b 0 cs)(hr:jK P H r cs)(hf:r.Rt) :
  Ok (C k (.f 64) [.ptr b 0] H) fun v H'=>∃ nv l d,v= .aZ [nv,iN d,iN 0]/\Ac 5 jZ H H' nv l/\l.map Prod.fst=r.nodes false:=by
 obtain⟨j,rfl⟩:=aW hk
 rw[(hC j).zBw]
 unfold zBw zq3
 simp(disch:=first|omega|exact ti rfl) only[go_sem,seval]
 generalize hH1:(aR ((aR (aR (aR H (aD 0 [.aA])) (aD 0 [iN 0])) (aD 0 [iN 0])).put (H.nx+1+1) (aD 0 [iN 0])) (aD 0 [.iT])).put (H.nx+1+1+1) (aD 0 [.fn 100 [] [.ptr H.nx 0,.ptr (H.nx+1) 0,.ptr (H.nx+1+1) 0,.ptr (H.nx+1+1+1) 0]])=H1
 have f1:Fm No H H1:=by rw[<-hH1];repeat first|exact Fm.refl _ _|assumption|refine Fm.push ?_ _|refine Fm.aM ?_ _ _ (by omega)
 have n1:H1.nx=H.nx+4:=by rw[<-hH1];rfl
 have k0:H1.get H.nx=aD 0 [.aA]:=by rw[<-hH1];simp(disch:=first|omega|exact ti rfl|(simp only[np,nq];first|done|omega)) only[go_sem]
 have k1:H1.get (H.nx+1)=aD 0 [iN 0]:=by rw[<-hH1];simp(disch:=first|omega|exact ti rfl|(simp only[np,nq];first|done|omega)) only[go_sem]
 have k2:H1.get (H.nx+1+1)=aD 0 [iN 0]:=by rw[<-hH1];simp(disch:=first|omega|exact ti rfl|(simp only[np,nq];first|done|omega)) only[go_sem]
 have k3:H1.get (H.nx+1+1+1)=aD 0 [.fn 100 [] [.ptr H.nx 0,.ptr (H.nx+1) 0,.ptr (H.nx+1+1) 0,.ptr (H.nx+1+1+1) 0]]:=by rw[<-hH1];exact eP _ _ _
 have hI:wF H1 H.nx (H.nx+1) (H.nx+1+1) (H.nx+1+1+1) [] .aA 0:=⟨k0,k1,k2,k3,⟨by omega,by omega,by omega,by omega⟩,Gl.nil 5 _,fun c h=>by obtain⟨_,_,_,_,h⟩:=h;cases h⟩
 have hlt:=h4.lt
 have hr2:jK (· < H.nx) H1 r cs:=(hr.mono (Q:=fun c=>c<H.nx) fun c h _=>h).fm f1
 refine Ok.ve (zjz hC hN r j hf.fit (by have:=hf.dp;omega) b 0 1 false H1 _ _ _ _ [] .aA 0 cs hI (h4.fm f1) (hr2) hlt (by have:=hf.dp;omega) (by have:=hf.sz;simpa using this) (by omega)) ?_
 rintro _ H2 ⟨rfl,l,nv,d,hI2,hl2,hd2,f2,hn2⟩
 have e0:=hI2.n
 have ed:=hI2.d
 have ef:=hI2.f
 unfold q8k
 simp only[go_sem,ef]
 unfold q8l
 obtain⟨w,e,hw,_,hwi⟩:=zm4 hC (k:=j) (by omega) hI2.gl
 have hfl:=qb7 (Gl.flat hI2.gl) 63
 simp only[go_sem,e0,ed]
 refine Ok.y7 e ?_
 have fA:Fm No H H2:=f1.then f2 fun c hc h=>by
  rcases h with h|h|h|⟨_,_,_,_,h⟩
  ·omega
  ·omega
  ·omega
  ·cases h
 have inw:∀ c,In w c->H.nx+4<=c:=fun c hc=>by
  rcases hn2 c (hwi c hc)with⟨_,_,_,_,h⟩|h
  ·cases h
  ·omega
 have gk:∀(x y:bP),Gl 5 ((H2.put H.nx x).put (H.nx+1) y) w l.length (l.flatMap jZ):=fun x y=>hw.keep (Nat.le_refl _) fun c hc _=>by
  have:=inw c hc
  rw[dZ _ _ _ _ (by omega),dZ _ _ _ _ (by omega)]
 have fk:∀(x y:bP),Fm No H ((H2.put H.nx x).put (H.nx+1) y):=fun x y=>(fA.aM _ _ (by omega)).aM _ _ (by omega)
 rcases hw.is with⟨h,_⟩|⟨_,_,_,_,_,h,_⟩
 ·subst h
  simp(disch:=omega) only[go_sem,seval,e0,ed]
  exact Ok.ret ⟨_,l,d,rfl,⟨gk _ _,fk _ _,fun c hc=>by have:=inw c hc;omega⟩,by simpa using hl2⟩
 ·subst h
  simp(disch:=omega) only[go_sem,seval,e0,ed]
  exact Ok.ret ⟨_,l,d,rfl,⟨gk _ _,fk _ _,fun c hc=>by have:=inw c hc;omega⟩,by simpa using hl2⟩
theorem vO.push{H:Hp}{cs:List AV}:vO (aR H (aD 0 cs)) H.nx 0 cs:=⟨by rw[np];omega,fun j h=>by rw[kL,qb3,Nat.zero_add,List.getElem?_eq_getElem h]⟩
theorem qm7(hC:bC C)(hN:l9 C){k:Nat}(hk:13<=k){H:Hp}{r:Ru}{cs:List AV}{P:Nat->Prop}(hr:jK P H r cs)(hf:r.Rt) :
  Ok (C k (.f 41) [.agg cs] H) fun v H'=>∃ nv l,v= .aZ [nv,iN 0]/\Ac 5 jZ H H' nv l/\l.map Prod.fst=r.nodes false:=by
 obtain⟨j,rfl⟩:=aW hk
 rw[(hC j).zBk]
 unfold zBk zrd
 obtain⟨c0,c1,c2,c3,hcs⟩:=hr.four
 subst hcs
 have f:Fm No H (aR H (aD 0 [c0,c1,c2,c3])):=by exact jW
 refine Ok.ve (zcm hC hN (k:=j) (by omega) vO.push (hr.fm f) hf) ?_
 rintro _ H1 ⟨nv,l,d,rfl,ha,hl⟩
 exact Ok.ret ⟨nv,l,rfl,ha.trans f,hl⟩
theorem q6k(hC:bC C)(hN:l9 C){k:Nat}(hk:13<=k){H:Hp}{r:Ru}{cs:List AV}{P:Nat->Prop}(hr:jK P H r cs)(hf:r.Rt) :
  Ok (C k (.f 123) [.agg cs] H) fun v H'=>v=iN 0/\Fm No H H':=by
 obtain⟨j,rfl⟩:=aW hk
 rw[(hC j).zCx]
 unfold zCx zqi
 obtain⟨c0,c1,c2,c3,hcs⟩:=hr.four
 subst hcs
 have f:Fm No H (aR H (aD 0 [c0,c1,c2,c3])):=by exact jW
 refine Ok.ve (zcm hC hN (k:=j) (by omega) vO.push (hr.fm f) hf) ?_
 rintro _ H1 ⟨nv,l,d,rfl,ha,hl⟩
 exact Ok.ret ⟨rfl,f.trans ha.fm⟩
structure xR(X:List aS):Prop where
 n:X.length<=16
 r:∀ g∈X,g.gs.length<=16/\Nm g.name
 x:∀ g∈X,∀x∈g.gs,x.r.types.length<=8/\Nm x.r.name/\x.r.rule.Rt/\∀ t∈x.r.types,Nm t.sp/\(t.rl=sE\/Nm t.rl)
theorem xR.sml{X:List aS}(h:xR X):rM X:=⟨by have:=h.n;omega,fun g hg=>by have:=(h.r g hg).1;omega,fun g hg x hx=>by have:=(h.x g hg x hx).1;omega⟩
theorem qlx(hN:l9 C){j:Nat}(hj:1<=j){ts:List kF}{tv:AV}{Hb:Hp}(ht:Rs 2 tC Hb tv ts)(htl:ts.length<=8)(hnm:∀ t∈ts,Nm t.sp/\(t.rl=sE\/Nm t.rl)){Q:AV->Hp->Prop}{q:Hp->R1}{qr:AV->Hp->R1}(hq:∀ H,Fm No Hb H->Ok (q H) Q) :
  ∀(k i:Nat) (H:Hp),i<=ts.length->ts.length-i<k->Fm No Hb H->Ok (q0q (C j) qr q tv (iN (ts.length)) k (iN i) H) Q
 |0,i,_,_,h,_=>by omega
 |k+1,i,H,hi,hk,hf=>by
  show Ok (q7w (C j) _ _ _ _ (q0q (C j) _ _ _ _ k) _ H) Q
  unfold q7w
  obtain⟨m,rfl⟩:∃ m,j=m+1:=⟨j-1,by omega⟩
  by_cases hlt:i<ts.length
  ·simp only[go_sem,hlt]
   unfold q7v
   have h1:=ht.fm hf
   obtain⟨b1,o1,e1,e2,_,e3,e4⟩:=h1.at' i hlt
   have hn:=hnm ts[i] (List.getElem_mem hlt)
   have m1:=(hN m).p _ hn.1
   unfold tC SS.v at e3
   unfold SS.v at m1
   by_cases hz:ts[i].rl.n=0/\ts[i].rl.a=0
   ·have hzt:=eq_true hz
    simp(disch:=first|omega|exact ti rfl) only[go_sem,seval,e1,e3,m1,hzt]
    unfold qw7
    simp(disch:=omega) only[go_sem]
    exact qlx hN hj ht htl hnm hq k (i+1) _ (by omega) (by omega) (hf.trans (by exact kI))
   ·have m2:=(hN m).p ts[i].rl (by
     rcases hn.2 with h|h
     ·exact absurd ((nI _ _).1 h) hz
     ·exact h)
    unfold SS.v at m2
    simp(disch:=first|omega|exact ti rfl) only[go_sem,seval,e1,e3,m1,hz,m2]
    unfold qw7
    simp(disch:=omega) only[go_sem]
    exact qlx hN hj ht htl hnm hq k (i+1) _ (by omega) (by omega) (hf.trans (by exact kI))
  ·simp only[go_sem,hlt]
   exact hq H hf
theorem zu0(hC:bC C)(hN:l9 C){k:Nat}(hk:14<=k){H:Hp}{g:aY}(hg:oQ H g)(hp:g.r.types.length<=8/\Nm g.r.name/\g.r.rule.Rt/\∀ t∈g.r.types,Nm t.sp/\(t.rl=sE\/Nm t.rl)) :
  Ok (C k (.f 91) [.agg (gQ g)] H) fun v H'=>v=iN 0/\Fm No H H':=by
 obtain⟨j,rfl⟩:∃ j,k=j+1+1:=⟨k-2,by omega⟩
 rw[(hC (j+1)).zCi]
 unfold zCi zqu
 obtain⟨c0,c1,c2,c3,hcs⟩:=hg.ru.four
 have hrc:gQ g=[.str g.r.name.n g.r.name.a,g.tv,c0,c1,c2,c3]:=by unfold gQ;rw[hcs];rfl
 rw[hrc]
 have m1:=(hN j).p _ hp.2.1
 unfold SS.v at m1
 have h8:¬ 8<g.r.types.length:=by omega
 have f:Fm No H (aR H (aD 0 [.str g.r.name.n g.r.name.a,g.tv,c0,c1,c2,c3])):=by exact jW
 have ht:=hg.ty.fm f
 have hl:=ht.len
 simp(disch:=omega) only[go_sem,m1,hl,h8]
 unfold q7u
 simp(disch:=omega) only[go_sem,hl]
 unfold zn1
 rw[dI]
 refine qlx hN (by omega) ht hp.1 hp.2.2.2 (fun H2 f2=> ?_) cK 0 _ (Nat.zero_le _) (by rw[dK];omega) (Fm.refl _ _)
 unfold q7t
 have k2:H2.get H.nx=aD 0 [.str g.r.name.n g.r.name.a,g.tv,c0,c1,c2,c3]:=(f2.keep (by simp only[np];omega)).trans (kL _ _)
 simp only[go_sem,k2]
 have lI:=hg.ru.fm (f.trans f2)
 rw[hcs]at lI
 refine Ok.ve (q6k hC hN (k:=j+1) (by omega) lI hp.2.2.1) ?_
 rintro _ H3 ⟨rfl,f3⟩
 exact Ok.ret ⟨rfl,(f.trans f2).trans f3⟩
theorem ql0(hC:bC C)(hN:l9 C){j:Nat}(hj:14<=j){g:aS}{Hb:Hp}(hg:SpR Hb g)(hgl:g.gs.length<=16)(hp:∀ x∈g.gs,x.r.types.length<=8/\Nm x.r.name/\x.r.rule.Rt/\∀ t∈x.r.types,Nm t.sp/\(t.rl=sE\/Nm t.rl)){Q:AV->Hp->Prop}{q:Hp->R1}{qr:AV->Hp->R1}(hq:∀ H,Fm No Hb H->Ok (q H) Q) :
  ∀(k i:Nat) (H:Hp),i<=g.gs.length->g.gs.length-i<k->Fm No Hb H->Ok (qqc (C j) qr q g.rv (iN (g.gs.length)) k (iN i) H) Q
 |0,i,_,_,h,_=>by omega
 |k+1,i,H,hi,hk,hf=>by
  show Ok (qxe (C j) _ _ _ _ (qqc (C j) _ _ _ _ k) _ H) Q
  unfold qxe
  by_cases hlt:i<g.gs.length
  ·simp only[go_sem,hlt]
   unfold q8q
   have h1:=hg.fm hf
   obtain⟨b1,o1,e1,e2,_,_,_,e6⟩:=h1.at' i hlt
   have hm:=List.getElem_mem hlt
   have hr:=h1.rel _ hm
   obtain⟨c0,c1,c2,c3,hcs⟩:=hr.ru.four
   have hrc:gQ g.gs[i]=[.str g.gs[i].r.name.n g.gs[i].r.name.a,g.gs[i].tv,c0,c1,c2,c3]:=by unfold gQ;rw[hcs];rfl
   have f2:Fm No H ((aR H (aD 0 [.str 0 0,.aA,.int .u8 (.ofNat 0),.str 0 0,.str 0 0,.aA])).put H.nx (aD 0 (gQ g.gs[i]))):=by exact kI
   have call:=zu0 hC hN (k:=j) hj (hr.fm f2) (hp _ hm)
   rw[hrc]at e6 f2 call
   simp(disch:=omega) only[go_sem,seval,e1,e6]
   refine Ok.ve call ?_
   rintro _ H3 ⟨rfl,f3⟩
   unfold q8s
   simp(disch:=omega) only[go_sem]
   exact ql0 hC hN hj hg hgl hp hq k (i+1) _ (by omega) (by omega) ((hf.trans f2).trans f3)
  ·simp only[go_sem,hlt]
   exact hq H hf
theorem qoz(hC:bC C)(hN:l9 C){j:Nat}(hj:14<=j){sv:AV}{X:List aS}{Hb:Hp}(hX:dF Hb sv X)(hP:xR X){Q:AV->Hp->Prop}{q:Hp->R1}{qr:AV->Hp->R1}(hq:∀ H,Fm No Hb H->Ok (q H) Q) :
  ∀(k i:Nat) (H:Hp),i<=X.length->X.length-i<k->Fm No Hb H->Ok (qtv (C j) qr q sv (iN (X.length)) k (iN i) H) Q
 |0,i,_,_,h,_=>by omega
 |k+1,i,H,hi,hk,hf=>by
  show Ok (q8u (C j) _ _ _ _ (qtv (C j) _ _ _ _ k) _ H) Q
  unfold q8u
  obtain⟨m,rfl⟩:∃ m,j=m+1:=⟨j-1,by omega⟩
  have hn:=hP.n
  by_cases hlt:i<X.length
  ·simp only[go_sem,hlt]
   unfold q8o
   have h1:=hX.fm hf
   obtain⟨b1,o1,e1,e2,_,e3,_⟩:=h1.rs.at' i hlt
   have hm:=List.getElem_mem hlt
   unfold u6 SS.v at e3
   have hr:=hP.r _ hm
   have m1:=(hN m).p _ hr.2
   unfold SS.v at m1
   have hsp:=h1.sp _ hm
   have hl:=hsp.len
   have h16:¬ 16<X[i].gs.length:=by omega
   simp(disch:=first|omega|exact ti rfl|(simp only[np,nq];first|done|omega)) only[go_sem,reduceAdd,reduceLeDiff,e1,e3,m1,hl,h16]
   unfold q8p
   simp only[go_sem,hl]
   unfold q8v
   rw[dI]
   have f2:Fm No H ((aR H (aD 0 [.str 0 0,.aA])).put H.nx (aD 0 [.str X[i].name.n X[i].name.a,X[i].rv])):=by exact kI
   refine ql0 hC hN hj (hsp.fm f2) hr.1 (hP.x _ hm) (fun H3 f3=> ?_) cK 0 _ (Nat.zero_le _) (by rw[dK];omega) (Fm.refl _ _)
   unfold q8m
   simp(disch:=omega) only[go_sem]
   exact qoz hC hN hj hX hP hq k (i+1) _ (by omega) (by omega) ((hf.trans f2).trans f3)
  ·simp only[go_sem,hlt]
   exact hq H hf
theorem zgu(hC:bC C)(hN:l9 C){k:Nat}(hk:15<=k){H:Hp}{sv:AV}{X:List aS}(hX:dF H sv X)(hP:xR X) :
  Ok (C k (.f 62) [.agg [sv]] H) fun v H'=>v=iN 0/\Fm No H H':=by
 obtain⟨j,rfl⟩:=aW hk
 rw[(hC j).zBu]
 unfold zBu zq5
 have f:Fm No H (aR H (aD 0 [sv])):=by exact jW
 have hl:=hX.rs.len
 have hn:=hP.n
 have h16:¬ 16<X.length:=by omega
 simp(disch:=omega) only[go_sem,hl,h16]
 unfold q8n
 simp(disch:=omega) only[go_sem,hl]
 unfold zn9
 rw[dI]
 refine qoz hC hN (by omega) (hX.fm f) hP (fun H3 f3=> ?_) cK 0 _ (Nat.zero_le _) (by rw[dK];omega) (Fm.refl _ _)
 exact Ok.ret ⟨rfl,f.trans f3⟩
theorem zfe(e:AV->AV->Option Bool)(k:AV)(i:Nat):yK e k [] i=some none:=rfl
theorem q5p(e:AV->AV->Option Bool)(k:AV)(x:lQ)(es:List lQ)(i:Nat):yK e k (x::es) i=match e k x.key with|some true=>some (some ⟨i,x⟩)|some false=>yK e k es (i+1)|none=>none:=rfl
def eqPr:AV->AV->Option Bool:=lT (eqFields [(p1,⟨iB⟩,0),(p1,⟨iB⟩,1)])
theorem qtd(s t:SS):iB s.v t.v=some (decide (s=t)):=by
 show some (Nat.beq s.n t.n&&Nat.beq s.a t.a)=_
 rw[beq_eq,beq_eq,<-Bool.decide_and]
 congr 1
 exact decide_eq_decide.2 (nI s t).symm
theorem zfk(p q:SS×SS):eqPr (.agg (pC p)) (.agg (pC q))=some (decide (p=q)):=by
 show andThen (iB p.1.v q.1.v) (andThen (iB p.2.v q.2.v) (some true))=_
 rw[qtd,qtd]
 obtain⟨a,b⟩:=p
 obtain⟨c,d⟩:=q
 by_cases h1:a=c
 ·by_cases h2:b=d
  ·simp[h1,h2,andThen]
  ·simp[h1,h2,andThen]
 ·simp[h1,andThen]
theorem qtb{α:Type}[DecidableEq α]{e:AV->AV->Option Bool}{ky:α->AV}(he:∀ p q,e (ky p) (ky q)=some (decide (p=q)))(p:α):∀(es:List lQ) (ps:List α) (i:Nat),es.map lQ.key=ps.map ky ->
  (p∉ps->yK e (ky p) es i=some none)/\(p∈ps->∃ x,es[ps.findIdx fun q=>decide (q=p)]? =some x/\yK e (ky p) es i=some (some ⟨i+ps.findIdx (fun q=>decide (q=p)),x⟩))
 | [],[],i,_=>⟨fun _=>zfe _ _ _,fun h=>by cases h⟩
 | [],_::_,_,h=>by cases h
 |_::_,[],_,h=>by cases h
 |x::es,q::ps,i,h=>by
  injection h with h1 h2
  obtain⟨i1,i2⟩:=qtb he p es ps (i+1) h2
  rw[q5p,h1,he]
  by_cases hpq:p=q
  ·subst hpq
   refine⟨fun h=>absurd List.mem_cons_self h,fun _=>⟨x,?_,?_⟩⟩
   ·simp[List.findIdx_cons]
   ·simp[List.findIdx_cons]
  ·have hqp:¬ q=p:=fun h=>hpq h.symm
   refine⟨fun h=> ?_,fun h=> ?_⟩
   ·simp_all
   ·have h':p∈ps:=by
     simp_all
    obtain⟨y,y1,y2⟩:=i2 h'
    refine⟨y,?_,?_⟩
    ·simp[List.findIdx_cons,hqp];exact y1
    ·simp only[hpq,decide_false]
     rw[y2]
     simp only[List.findIdx_cons,hqp,decide_false,cond_false]
     congr 3;omega
structure kZ{α:Type}(ky:α->AV)(vl:Nat->Nat)(H:Hp)(b:Nat)(ps:List α):Prop where
 ex:∃ es c,H.get b= .map es c/\es.map lQ.key=ps.map ky/\es.map lQ.val=(List.range ps.length).map fun i=>iN ((vl i))
theorem kZ.eq{α:Type}{ky:α->AV}{vl:Nat->Nat}{H H':Hp}{b:Nat}{ps:List α}(h:kZ ky vl H b ps)(e:H'.get b=H.get b):kZ ky vl H' b ps:=by
 obtain⟨es,c,h1,h2,h3⟩:=h.ex
 exact⟨es,c,e.trans h1,h2,h3⟩
theorem kZ.len{α:Type}{ky:α->AV}{vl:Nat->Nat}{H:Hp}{b:Nat}{ps:List α}(h:kZ ky vl H b ps):yG H (.map b)= .val (iN (ps.length)):=by
 obtain⟨es,c,h1,h2,h3⟩:=h.ex
 have hl:es.length=ps.length:=by have:=congrArg List.length h2;simpa using this
 show(match H.get b with| .map es _=>R0.val (i64 es.length)|_=> .bad)=_
 rw[h1,<-hl];rfl
theorem kZ.look{α:Type}[DecidableEq α]{ky:α->AV}{vl:Nat->Nat}{H:Hp}{b:Nat}{ps:List α}(h:kZ ky vl H b ps){e:AV->AV->Option Bool}{s:Option Nat}(he:∀ p q,e (ky p) (ky q)=some (decide (p=q)))(hs:∀ p,qg2 s (ky p)=true)(z:AV)(ok:Bool)(p:α) :
  qP ⟨e,s⟩ z ok H (.map b) (ky p)=if p∈ps then .val (bif ok then .aZ [iN ((vl (ps.findIdx fun q=>decide (q=p)))),.bool true]else iN ((vl (ps.findIdx fun q=>decide (q=p)))))else .val (bif ok then .aZ [z,.bool false]else z):=by
 obtain⟨es,c,h1,h2,h3⟩:=h.ex
 obtain⟨g1,g2⟩:=qtb he p es ps 0 h2
 show(match(match H.get b with| .map es _=>some es|_=>none)with|some es=>zto ok z (bif qg2 s (ky p)then yK e (ky p) es 0 else none)|none=> .bad)=_
 rw[h1,hs]
 simp only[cond_true]
 by_cases hp:p∈ps
 ·rw[if_pos hp]
  obtain⟨x,x1,x2⟩:=g2 hp
  rw[x2]
  have hv:x.val=iN ((vl (ps.findIdx fun q=>decide (q=p)))):=by
   have hlt:(ps.findIdx fun q=>decide (q=p))<ps.length:=by rw[List.findIdx_lt_length];exact⟨p,hp,by simp⟩
   have h4:(es.map lQ.val)[ps.findIdx fun q=>decide (q=p)]? =some x.val:=by rw[List.getElem?_map,x1];rfl
   simp_all
  show R0.val (bif ok then .aZ [x.val,.bool true]else x.val)=_
  rw[hv]
 ·rw[if_neg hp,g1 hp];rfl
theorem kZ.upd{α:Type}[DecidableEq α]{ky:α->AV}{vl:Nat->Nat}{H:Hp}{b:Nat}{ps:List α}(h:kZ ky vl H b ps){e:AV->AV->Option Bool}{s:Option Nat}(he:∀ p q,e (ky p) (ky q)=some (decide (p=q)))(hs:∀ p,qg2 s (ky p)=true){p:α}(hp:p∉ps) :
  ∃k,pE ⟨e,s⟩ H (.map b) (ky p) (iN ((vl ps.length)))= .ok .undef (H.put b k)/\kZ ky vl (H.put b k) b (ps++[p]):=by
 obtain⟨es,c,h1,h2,h3⟩:=h.ex
 obtain⟨g1,_⟩:=qtb he p es ps 0 h2
 refine⟨.map (es++[⟨ky p,iN ((vl ps.length)),c⟩]) (c+1),?_,⟨_,_,eP _ _ _,?_,?_⟩⟩
 ·have hf:qtc ⟨e,s⟩ (ky p) es=some none:=by
   show(bif qg2 s (ky p)then yK e (ky p) es 0 else none)=_
   simp_all
  unfold pE
  simp_all
 ·simp_all
 ·rw[List.map_append,h3,List.length_append,List.length_singleton,List.range_succ,List.map_append];rfl
theorem kZ.nil{α:Type}(ky:α->AV)(vl:Nat->Nat){H:Hp}{b c:Nat}(h:H.get b= .map [] c):kZ ky vl H b ([]:List α):=⟨[],c,h,rfl,rfl⟩
def kyP(p:SS×SS):AV:= .agg [.str p.1.n p.1.a,.str p.2.n p.2.a]
def kyS(s:SS):AV:= .str s.n s.a
theorem qvu(p q:SS×SS):lT (eqFields [(p1,⟨iB⟩,0),(p1,⟨iB⟩,1)]) (kyP p) (kyP q)=some (decide (p=q)):=zfk p q
theorem zew(p q:SS):iB (kyS p) (kyS q)=some (decide (p=q)):=qtd p q
abbrev iR(H:Hp)(b:Nat)(ps:List (SS×SS)):Prop:=kZ kyP id H b ps
abbrev qB(H:Hp)(b:Nat)(ss:List SS):Prop:=kZ kyS (fun _=>1) H b ss
theorem iR.find{H:Hp}{b:Nat}{ps:List (SS×SS)}(h:iR H b ps)(z:AV)(x y:SS)(hp:(x,y)∈ps) :
  qP ⟨lT (eqFields [(p1,⟨iB⟩,0),(p1,⟨iB⟩,1)]),some 2⟩ z true H (.map b) (.agg [.str x.n x.a,.str y.n y.a])= .val (.aZ [iN ((ps.findIdx fun q=>decide (q=(x,y)))),.bool true]):=by
 have:=h.look (s:=some 2) qvu (fun _=>rfl) z true (x,y)
 rw[if_pos hp]at this
 exact this
theorem iR.aKZ{H:Hp}{b:Nat}{ps:List (SS×SS)}(h:iR H b ps)(z:AV)(x y:SS)(hp:(x,y)∈ps) :
  qP ⟨lT (eqFields [(p1,⟨iB⟩,0),(p1,⟨iB⟩,1)]),some 2⟩ z false H (.map b) (.agg [.str x.n x.a,.str y.n y.a])= .val (iN ((ps.findIdx fun q=>decide (q=(x,y))))):=by
 have:=h.look (s:=some 2) qvu (fun _=>rfl) z false (x,y)
 rw[if_pos hp]at this
 exact this
theorem iR.miss{H:Hp}{b:Nat}{ps:List (SS×SS)}(h:iR H b ps)(z:AV)(x y:SS)(hp:(x,y)∉ps) :
  qP ⟨lT (eqFields [(p1,⟨iB⟩,0),(p1,⟨iB⟩,1)]),some 2⟩ z true H (.map b) (.agg [.str x.n x.a,.str y.n y.a])= .val (.aZ [z,.bool false]):=by
 have:=h.look (s:=some 2) qvu (fun _=>rfl) z true (x,y)
 rw[if_neg hp]at this
 exact this
theorem iR.put{H:Hp}{b:Nat}{ps:List (SS×SS)}(h:iR H b ps)(x y:SS)(hp:(x,y)∉ps) :
  ∃k,pE ⟨lT (eqFields [(p1,⟨iB⟩,0),(p1,⟨iB⟩,1)]),some 2⟩ H (.map b) (.agg [.str x.n x.a,.str y.n y.a]) (iN (ps.length))= .ok .undef (H.put b k)/\iR (H.put b k) b (ps++[(x,y)]) :=
 h.upd (s:=some 2) qvu (fun _=>rfl) hp
theorem qB.find{H:Hp}{b:Nat}{ss:List SS}(h:qB H b ss)(z:AV)(x:SS)(hp:x∈ss):qP ⟨iB,none⟩ z false H (.map b) (.str x.n x.a)= .val (iN 1):=by
 have:=h.look (s:=none) zew (fun _=>rfl) z false x
 rw[if_pos hp]at this
 exact this
theorem qB.miss{H:Hp}{b:Nat}{ss:List SS}(h:qB H b ss)(z:AV)(x:SS)(hp:x∉ss):qP ⟨iB,none⟩ z false H (.map b) (.str x.n x.a)= .val z:=by
 have:=h.look (s:=none) zew (fun _=>rfl) z false x
 rw[if_neg hp]at this
 exact this
theorem qB.put{H:Hp}{b:Nat}{ss:List SS}(h:qB H b ss)(x:SS)(hp:x∉ss) :
  ∃k,pE ⟨iB,none⟩ H (.map b) (.str x.n x.a) (iN 1)= .ok .undef (H.put b k)/\qB (H.put b k) b (ss++[x]) :=
 h.upd (s:=none) zew (fun _=>rfl) hp
end Go.Di
end
