/-
 For FitsObjects: functions in direct style, their contracts, and the plain mathematics, part 4 of 9. No conditions beyond those that each theorem states.
-/
import Derived.Test.YtbfjjkjiokfdgaaGreatConC
set_option linter.unusedSimpArgs false
set_option linter.unusedVariables false
open Nat renaming reduceAdd->rB,reduceMul->rI,reduceSub->rK,reduceLeDiff->rL,reduceEqDiff->rN,reduceShiftRight->rS,reduceAnd->r6
section
namespace Go.Di
open Go.Ev
variable {C:Nat->Ev.Call}
variable {H H' H0:Hp} {X:List aR} {b i ib j k m n z:Nat} {call:Ev.Call} {cs l:List AV} {g:aR} {ms:List Nat} {neg:Bool} {qr:pD} {sv:AV}
def spN(L:List (List Nat))(i n:Nat):uE:=⟨bV i,(rg (4*i) n).map (kQ L)⟩
def spF(L:List (List Nat))(i:Nat):uE:=spN L i (4*i+4)
def pre(L:List (List Nat))(q:Nat):List uE:=⟨sU,[]⟩::(List.range q).map (spF L)
theorem znp(L:List (List Nat))(q:Nat):pre L (q+1)=pre L q++[spF L q]:=by unfold pre;rw[List.range_succ,List.map_append];rfl
def Mid(L:List (List Nat))(n:Nat)(l:List aR)(g:aR):Prop:=∃ q,l.map aR.sp=pre L q/\g.sp=spN L q n/\4*q<=n/\n<4*q+4
def St(L:List (List Nat))(n:Nat)(l:List aR)(g:aR):Prop:=(n=0/\l=[]/\g.sp=⟨sU,[]⟩)\/∃ q,l.map aR.sp=pre L q/\g.sp=spN L q n/\4*q<n/\n<=4*q+4
theorem Mid.len{L:List (List Nat)}{l:List aR}(h:Mid L n l g):l.length=1+n / 4/\g.gs.length<=4:=by obtain⟨q,h1,h2,h3,h4⟩:=h;have e1:=congrArg List.length h1;have e2:=congrArg (fun s=>s.bI.length) h2;simp only[List.length_map,pre,List.length_cons,List.length_range,aR.sp,spN,qj5]at e1 e2;omega
theorem Mid.rel{L:List (List Nat)}{l:List aR}(h:Mid L n l g){rv:AV}{A B:Nat}{r:bB}(hr:r.r=kQ L n):St L (n+1) l ⟨g.name,g.gs++[r],rv,A,B⟩:=by obtain⟨q,h1,h2,h3,h4⟩:=h;refine .inr ⟨q,h1,?_,by omega,by omega⟩;unfold aR.sp spN at *;injection h2 with e1 e2;rw[qja h3,List.map_append,List.map_append,e1,e2];simp[hr]
theorem St.push{L:List (List Nat)}{l:List aR}(h:St L n l g)(h4:n%4=0)(A:Nat):Mid L n (l++[g]) ⟨bV (n / 4),[],.aA,A,A⟩:=by
 rcases h with⟨rfl,rfl,h⟩|⟨q,h1,h2,h3,h5⟩
 ·exact⟨0,by simp[pre,h],rfl,by omega,by omega⟩
 ·have hn:n=4*q+4:=by omega
  subst hn;refine⟨q+1,by rw[List.map_append,h1,znp,List.map_singleton,h2];rfl,?_,by omega,by omega⟩;unfold aR.sp spN;rw[show(4*q+4) / 4=q+1 by omega,show 4*q+4=4*(q+1)by omega,qs1];rfl
theorem St.mid{L:List (List Nat)}{l:List aR}(h:St L n l g)(h4:¬ n%4=0):Mid L n l g:=by
 rcases h with⟨rfl,_,_⟩|⟨q,h1,h2,h3,h5⟩
 ·omega
 ·exact⟨q,h1,h2,by omega,by omega⟩
theorem St.len{L:List (List Nat)}{l:List aR}(h:St L n l g)(hn:n<=12):l.length<=4:=by
 rcases h with⟨rfl,rfl,_⟩|⟨q,h1,h2,h3,h5⟩
 ·simp
 ·have e1:=congrArg List.length h1;simp only[List.length_map,pre,List.length_cons,List.length_range]at e1;omega
theorem zf1(hC:bA C){j:Nat}(hj:20<=j){L:List (List Nat)}{v:AV}{H0:Hp}{cb sb:Nat}(hv:gN H0 v L){Q:pL}{q:pH}(hq:∀(H:Hp) (sv:AV) (l:List aR) (g:aR),OfI L v H0 H cb sb sv l g->St L (bG L) l g->Ok (q H) Q):∀(k n:Nat) (l:List aR) (g:aR) (sv:AV) (H:Hp),n<=bG L->bG L-n<k->OfI L v H0 H cb sb sv l g->St L n l g -> Ok (qi1 (C j) q (.ptr cb 0) (.ptr sb 0) k (iN n) H) Q
 |0,n,_,_,_,_,_,h,_,_=>by omega
 |k+1,n,l,g,sv,H,hi,hk,hI,hS=>by
  show Ok (qz3 (C j) _ _ _ (qi1 (C j) _ _ _ k) _ H) Q;unfold qz3;have hm:bG L<=12:=Nat.min_le_right _ _;have e0:=hI.cbk.is;simp only[go_sem,e0];refine Ok.ve (qjj hC (k:=j) (by omega) (hv.fm hI.fm)) ?_;rintro _ H2 ⟨rfl,f2⟩;have hI2:OfI L v H0 H2 cb sb sv l g:=⟨hI.cbk.fm f2,(f2.keep hI.sbl.2.2).trans hI.sbk,⟨hI.sbl.1,hI.sbl.2.1,Nat.lt_of_lt_of_le hI.sbl.2.2 f2.nx⟩,hI.cbl,hI.ne,hI.ns,hI.rU,hI.sbd,hI.m.no f2,hI.an,Nat.le_trans hI.ax f2.nx,hI.fm.trans f2⟩;by_cases hlt:n<bG L
  ·simp only[go_sem,hlt];have next:∀(l:List aR) (g:aR) (sv:AV) (H:Hp),OfI L v H0 H cb sb sv l g->Mid L n l g->Ok (qi3 (C j) (qi1 (C j) q (.ptr cb 0) (.ptr sb 0) k) (.ptr cb 0) (.ptr sb 0) (iN n) H) Q:=by
    intro l g sv H hI hM;refine znc hC hj hlt hv hI hM.len.1 (by have:=hM.len.2;omega) fun H' rv' rg hr hI'=>?_;exact zf1 hC hj hv hq k (n+1) l _ sv H' (by omega) (by omega) hI' (hM.rel hr)
   by_cases h4:n%4=0
   ·refine zfp hC hj hlt h4 hI2 (by have:=hS.len (by omega);omega) fun H' pU A hI'=>?_;exact next _ _ _ _ hI' (hS.push h4 A)
   ·rw[qg7];unfold qhs;simp(disch:=first|omega|exact ti rfl|simp only[np,nq];first|done|omega)only[go_sem,rB,rI,rK,rL,rN,rS,r6,h4];exact next _ _ _ _ hI2 (hS.mid h4)
  ·have he:n=bG L:=by omega
   subst he;simp only[go_sem,hlt];exact hq H2 sv l g hI2 hS
theorem Gl.sub{v:AV}(h:Gl z H v n l)(hi:i<n):∃ b o,aJ z v (iN i)=.val (.ptr b o)/\b<H.nx/\In v b/\∀ s k,s+k<=z->fU (H.get b) (o+s) k=some ((((l.drop (i*z)).take z).drop s).take k):=by
 have hl:=h.len;rcases h.is with⟨rfl,rfl⟩|⟨b,o,e,q,L,rfl,h1,h2,h3,h4,h5⟩
 ·omega
 ·have hm:i*z+z<=n*z:=by
   have:(i+1)*z<=n*z:=Nat.mul_le_mul_right z hi;rw[Nat.add_mul,Nat.one_mul]at this;exact this
  have hL:o+n*z=L.length:=by rw[<-h3,List.length_drop]at hl;omega
  refine⟨b,o+i*z,sP _ _ _ _ _ _ _ _ hi,h5,⟨_,_,_,_,rfl⟩,fun s k hs=>?_⟩;have e2:((l.drop (i*z)).take z).drop s=(L.drop (o+i*z+s)).take (z-s):=by rw[List.drop_take,<-h3,List.drop_drop,List.drop_drop,Nat.add_assoc]
  rw[e2,List.take_take,Nat.min_eq_left (by omega),h1,qb2,if_pos (by omega)]
theorem qP.at{A B:Nat}{rv:AV}{gs:List bB}(h:qP A B H rv gs)(hi:i<gs.length):∃b o,aJ 6 rv (iN i)=.val (.ptr b o)/\b<H.nx/\In rv b/\dI (H.get b) o=.val (.str gs[i].r.name.n gs[i].r.name.a)/\dI (H.get b) (o+1)=.val gs[i].tv/\fU (H.get b) (o+2) 4=some gs[i].cs/\fU (H.get b) o 6=some (iI gs[i]):=by obtain⟨b,o,h1,h2,h3,h4⟩:=h.gl.sub hi;obtain⟨b',o',g1,_,_,g4,g5⟩:=(h.gl.rs qh5).at' i hi;rw[h1]at g1;injection g1 with g1;injection g1 with g1 g2;subst g1 g2;refine⟨b,o,h1,h2,h3,g5 0 (by rw[qh5];omega),g5 1 (by rw[qh5];omega),?_,g4⟩;rw[h4 2 4 (by omega),qhj qh5 gs i hi];obtain⟨c0,c1,c2,c3,hc⟩:=(h.ru gs[i] (List.getElem_mem hi)).four;unfold iI;rw[hc];rfl
def qsq(bI:List jA)(r:jA):Bool:=eP r.rule 1 sE||bI.any fun x=>eP x.rule 3 r.name
theorem ql4(hC:bA C){j:Nat}(hj:20<=j){A B:Nat}{rv:AV}{gs:List bB}{H0:Hp}(hI:qP A B H0 rv gs)(hlen:gs.length<=1000)(hd:∀ g∈gs,g.r.rule.depth<=12/\g.r.rule.size<=10000){kk:Nat}(hkk:kk<gs.length){u0:Bool}{Q:pL}{q:pD}(hq:∀ H,Fm No H0 H->Ok (q (.bool (u0||gs.any fun x=>eP x.r.rule 3 gs[kk].r.name)) H) Q):∀(k i:Nat) (u:Bool) (H:Hp),i<=gs.length->gs.length-i<k->Fm No H0 H->u=(u0||(gs.take i).any fun x=>eP x.r.rule 3 gs[kk].r.name) -> Ok (qlx (C j) q rv (iN kk) k (.bool u) (iN i) H) Q
 |0,i,_,_,_,h,_,_=>by omega
 |k+1,i,u,H,hi,hk,hf,hu=>by
  show Ok (qz4 (C j) _ _ _ (qlx (C j) _ _ _ k) _ _ H) Q;unfold qz4;have hIH:=hI.iQ hf fun _ _ _ h=>h;have hl:=hIH.gl.dA;by_cases hlt:i<gs.length
  ·simp only[go_sem,hl,hlt];rw[qpi];unfold qsh;have hs:((gs.take (i+1)).any fun x=>eP x.r.rule 3 gs[kk].r.name)=(((gs.take i).any fun x=>eP x.r.rule 3 gs[kk].r.name)||eP gs[i].r.rule 3 gs[kk].r.name):=by
    rw[List.take_succ_eq_append_getElem hlt,List.any_append];simp
   cases u with
   |true=>rw[qi4];unfold qkn;simp(disch:=first|omega|exact ti rfl|simp only[np,nq];first|done|omega)only[go_sem,rB,rI,rK,rL,rN,rS,r6];refine ql4 hC hj hI hlen hd hkk hq k (i+1) true H (by omega) (by omega) hf ?_;rw[hs,<-Bool.or_assoc,<-hu];rfl
   |false=>obtain⟨b,o,e1,e2,_,_,_,e6,_⟩:=hIH.at hlt;obtain⟨b',o',g1,g2,_,g4,_,_,_⟩:=hIH.at hkk;simp only[go_sem,e1,e6,g1,g4];refine Ok.mY (zr4 hC (k:=j) (r:=gs[i].r.rule) (by have:=(hd _ (List.getElem_mem hlt)).1;omega) (by have:=(hd _ (List.getElem_mem hlt)).2;omega) (hIH.ru _ (List.getElem_mem hlt)) 3 gs[kk].r.name) ?_;rintro _ H2 ⟨rfl,f2⟩;rw[qi4];unfold qkn;simp(disch:=first|omega|exact ti rfl|simp only[np,nq];first|done|omega)only[go_sem,rB,rI,rK,rL,rN,rS,r6];refine ql4 hC hj hI hlen hd hkk hq k (i+1) _ H2 (by omega) (by omega) (hf.trans f2) ?_;simp_all
  ·have he:i=gs.length:=by omega
   simp only[go_sem,hl,hlt];simp_all
def qQ(bI:List jA)(r:jA):jA:=if qsq bI r then r else⟨r.name,[],r.rule⟩
theorem qb1(bI:List jA)(r:jA):(qQ bI r).rule=r.rule:=by unfold qQ;split<;>rfl
theorem Rs.nil{α:Type}(z:Nat)(f:α->List AV)(H:Hp):Rs z f H .aA ([]:List α):=⟨rfl,fun i h=>by simp at h⟩
def aDe(g:bB):bB:=⟨⟨g.r.name,[],g.r.rule⟩,.aA,g.cs⟩
theorem zfb:∀(l:List bB) (i:Nat) (h:i<l.length),bH (l.flatMap iI) (i*6+1) [.aA]=(l.set i (aDe l[i])).flatMap iI
 | [],_,h=>by simp at h
 |x::l,0,_=>by simp[bH,iI,aDe]
 |x::l,i+1,h=>by
  have:=zfb l i (by simpa using h);rw[List.set_cons_succ,List.flatMap_cons,List.flatMap_cons,List.getElem_cons_succ,<-this];unfold bH;have e:(i+1)*6+1=(iI x).length+(i*6+1):=by rw[qh5];omega
  rw[e,List.take_length_add_append,List.append_assoc,List.append_assoc];congr 1;rw[List.append_assoc];congr 2;rw[Nat.add_assoc,List.drop_length_add_append]
def kV(bI:List jA)(k:Nat):List jA:=(bI.take k).map (qQ bI)++bI.drop k
theorem zgd{bI:List jA}(h:k<bI.length)(h':k<(kV bI k).length):(kV bI k)[k]=bI[k]:=by
 have e:(kV bI k)[k]? =some bI[k]:=by unfold kV;rw[List.getElem?_append_right (by simp;omega)];simp[Nat.min_eq_left (Nat.le_of_lt h),h]
 simp_all
theorem zn5(bI:List jA)(k:Nat)(s:SS):(kV bI k).any (fun x=>eP x.rule 3 s)=bI.any (fun x=>eP x.rule 3 s):=by
 unfold kV;rw[List.any_append,List.any_map]
 conv=>rhs;rw[<-List.take_append_drop k bI,List.any_append]
 congr 2;funext x;simp only[Function.comp,qb1]
theorem qti(bI:List jA)(k:Nat):(kV bI k).length=bI.length:=by unfold kV;simp;omega
theorem qwc{bI:List jA}(h:k<bI.length):kV bI (k+1)=(kV bI k).set k (qQ bI bI[k]):=by
 unfold kV;rw[List.take_succ_eq_append_getElem h,List.map_append,List.map_singleton,List.append_assoc,List.set_append_right _ _ (by simp;omega)];simp only[List.length_map,List.length_take,Nat.min_eq_left (Nat.le_of_lt h),Nat.sub_self]
 conv=>rhs;rw[List.drop_eq_getElem_cons h]
 rfl
theorem qP.set{A B:Nat}{rv:AV}{gs:List bB}(h:qP A B H rv gs)(hi:i<gs.length):∃b o H',aJ 6 rv (iN i)=.val (.ptr b o)/\storeAt H b (o+1) [.aA] .undef=.ok .undef H'/\qP A B H' rv (gs.set i (aDe gs[i]))/\Fm (In rv) H H':=by
 obtain⟨b,o,H',e1,e2,g,f,_⟩:=h.gl.set1 hi (j:=1) (by omega) .aA;rw[zfb gs i hi]at g;refine⟨b,o,H',e1,e2,⟨by rw[List.length_set];exact g,h.vN,fun y hy=>?_,fun y hy=>?_⟩,f⟩
 ·rcases List.mem_or_eq_of_mem_set hy with hy|rfl
  ·exact⟨(h.ty y hy).1.iQ f fun c hc=>((h.ty y hy).2.2 c hc).2.2,(h.ty y hy).2⟩
  ·exact⟨Rs.nil _ _ _,.inl rfl,fun c hc=>by obtain⟨_,_,_,_,hc⟩:=hc;cases hc⟩
 ·rcases List.mem_or_eq_of_mem_set hy with hy|rfl
  ·exact(h.ru y hy).iQ f fun c hc=>hc.2.2
  ·exact(h.ru gs[i] (List.getElem_mem hi)).iQ f fun c hc=>hc.2.2
theorem qjo(hC:bA C){j:Nat}(hj:20<=j){A B:Nat}{rv:AV}{bI:List jA}{H1:Hp}(hlen:bI.length<=1000)(hd:∀ r∈bI,r.rule.depth<=12/\r.rule.size<=10000){Q:pL}{q:pH}(hq:∀ gs H,gs.map bB.r=bI.map (qQ bI)->qP A B H rv gs->Fm (In rv) H1 H->Ok (q H) Q):∀(k i:Nat) (gs:List bB) (H:Hp),i<=bI.length->bI.length-i<k->gs.map bB.r=kV bI i->qP A B H rv gs->Fm (In rv) H1 H -> Ok (qly (C j) q rv k (iN i) H) Q
 |0,i,_,_,_,h,_,_,_=>by omega
 |k+1,i,gs,H,hi,hk,hg,hI,hf=>by
  show Ok (qz5 (C j) _ _ (qly (C j) _ _ k) _ H) Q;unfold qz5;have hl:=hI.gl.dA;have hgl:gs.length=bI.length:=by have:=congrArg List.length hg;rwa [List.length_map,qti]at this
  have hdg:∀ g∈gs,g.r.rule.depth<=12/\g.r.rule.size<=10000:=fun g hgm=>by
   have:g.r∈kV bI i:=by rw[<-hg];exact List.mem_map_of_mem hgm
   unfold kV at this;rw[List.mem_append,List.mem_map]at this;rcases this with⟨r,hr,he⟩|h
   ·rw[<-he,qb1];exact hd r (List.mem_of_mem_take hr)
   ·exact hd _ (List.mem_of_mem_drop h)
  by_cases hlt:i<bI.length
  ·have hlt':i<gs.length:=by omega
   simp only[go_sem,hl,hlt'];rw[qph];unfold qsg;obtain⟨b,o,e1,e2,_,_,_,e6,_⟩:=hI.at hlt';simp only[go_sem,e1,e6];refine Ok.ve (zr4 hC (k:=j) (r:=gs[i].r.rule) (by have:=(hdg _ (List.getElem_mem hlt')).1;omega) (by have:=(hdg _ (List.getElem_mem hlt')).2;omega) (hI.ru _ (List.getElem_mem hlt')) 1 sE) ?_;rintro _ H2 ⟨rfl,f2⟩;have hI2:=hI.iQ f2 fun _ _ _ h=>h;have hir:gs[i].r=bI[i]:=by have h1:(gs.map bB.r)[i]'(by simpa using hlt')=gs[i].r:=List.getElem_map ..;rw[<-h1,<-zgd hlt (by rw[qti];exact hlt)];congr 1
   have wH:(eP gs[i].r.rule 1 sE||gs.any fun x=>eP x.r.rule 3 gs[i].r.name)=qsq bI bI[i]:=by unfold qsq;rw[hir,<-zn5 bI i,<-hg,List.any_map];rfl
   unfold zd1;rw[dH];refine ql4 hC hj hI2 (by omega) hdg hlt' (u0:=eP gs[i].r.rule 1 sE) (fun H3 f3=>?_) cK 0 _ H2 (Nat.zero_le _) (by rw[dM];omega) (Fm.refl _ _) (by simp);rw[wH];rw[qpj];unfold qsi;have tQ:=hI2.iQ f3 fun _ _ _ h=>h;have hf3:Fm (In rv) H1 H3:=(hf.then f2 fun _ _ h=>absurd h id).then f3 fun _ _ h=>absurd h id;cases hu:qsq bI bI[i]with
   |true=>
    rw[qi5];unfold qko;simp(disch:=first|omega|exact ti rfl|simp only[np,nq];first|done|omega)only[go_sem,rB,rI,rK,rL,rN,rS,r6];refine qjo hC hj hlen hd hq k (i+1) gs H3 (by omega) (by omega) ?_ tQ hf3;rw[qwc hlt,hg];have:qQ bI bI[i]=(kV bI i)[i]'(by rw[qti];exact hlt):=by rw[zgd hlt];unfold qQ;rw[hu];rfl
    simp_all
   |false=>obtain⟨b',o',H4,g1,g2,g3,g4⟩:=tQ.set hlt';simp only[go_sem,g1,g2];rw[qi5];unfold qko;simp(disch:=first|omega|exact ti rfl|simp only[np,nq];first|done|omega)only[go_sem,rB,rI,rK,rL,rN,rS,r6];refine qjo hC hj hlen hd hq k (i+1) _ H4 (by omega) (by omega) ?_ g3 (hf3.then g4 fun _ _ h=>h);rw[qwc hlt,List.map_set,hg];congr 1;unfold qQ aDe;simp_all
  ·have he:i=bI.length:=by omega
   have hlt':¬ i<gs.length:=by omega
   simp only[go_sem,hl,hlt'];refine hq gs H ?_ hI hf;rw[hg,he];unfold kV;simp
theorem q6r(L:List (List Nat))(n:Nat):∀(d i:Nat) (neg:Bool),i<=(eF L n d i neg).2/\(eF L n d i neg).1.size<=2*((eF L n d i neg).2-i)+1/\(eF L n d i neg).1.depth<=d+1:=by
 have hl:∀ neg,(zI neg).size=1/\(zI neg).depth=1:=fun neg=>by cases neg<;>exact⟨rfl,rfl⟩
 have ha:∀ c neg,(sQ L n c neg).size=1/\(sQ L n c neg).depth=1:=fun c neg=>by
  unfold sQ;split
  ·exact hl neg
  ·trivial
 intro d
 induction d with
 |zero=>intro i neg;unfold eF;have:=hl neg;simp only;omega
 |succ d ih=>
  intro i neg;unfold eF;have h1:=hl neg;split
  ·simp_all
  split
  ·simp_all
  split
  ·simp only[wR,Ru.size,Ru.depth];omega
  split
  ·have:=ha (dZ L n i / 8) neg;simp only;omega
  have h1:=ih (i+1) neg;have h2:=ih (eF L n d (i+1) neg).2 (neg||decide (sG n (dZ L n i)=6));simp only[Ru.size,Ru.depth];omega
theorem qmf(L:List (List Nat))(n:Nat):(kQ L n).rule.size<=21/\(kQ L n).rule.depth<=7:=by have h1:=q6r L n 6 2 false;have h2:=(qku L n 6 2 false).2;unfold kQ;simp only;omega
def q5y(p:uE):uE:=⟨p.name,p.bI.map (qQ p.bI)⟩
def rA(L:List (List Nat)):List uE:=⟨sU,[]⟩::(List.range ((bG L+3) / 4)).map fun i=>spN L i (min (bG L) (4*i+4))
def uP(L:List (List Nat)):List uE:=(rA L).map q5y
theorem St.raw{L:List (List Nat)}{l:List aR}(h:St L (bG L) l g):(l++[g]).map aR.sp=rA L:=by
 unfold rA;rw[List.map_append,List.map_singleton];rcases h with⟨h0,rfl,h⟩|⟨q,h1,h2,h3,h5⟩
 ·rw[h0,h];rfl
 ·have hq:(bG L+3) / 4=q+1:=by omega
  rw[hq,List.range_succ,List.map_append,List.map_singleton,h1,h2];unfold pre;rw[List.cons_append];congr 2
  ·refine List.map_congr_left fun i hi=>?_;rw[List.mem_range]at hi;unfold spF;rw[Nat.min_eq_right (by omega)]
  ·simp_all
theorem zff{L:List (List Nat)}{p:uE}(hp:p∈rA L):p.bI.length<=4/\∀ r∈p.bI,∃n,n<bG L/\r=kQ L n:=by
 unfold rA at hp;rw[List.mem_cons,List.mem_map]at hp;rcases hp with rfl|⟨i,hi,rfl⟩
 ·simp
 ·refine⟨by simp only[spN,List.length_map,qj5];omega,fun r hr=>?_⟩;simp only[spN,List.mem_map,qfu]at hr;obtain⟨n,hn,rfl⟩:=hr;exact⟨n,by omega,rfl⟩
theorem qP.flat{A B:Nat}{rv:AV}{gs:List bB}(h:qP A B H rv gs):yG rv=true:=by rcases h.gl.is with⟨h,_⟩|⟨_,_,_,_,_,h,_⟩<;>(rw[h];rfl)
theorem kP.aTp(m:kP H sv X)(hi:i<X.length){gs:List bB}(hr:qP X[i].A X[i].B H' X[i].rv gs)(f:Fm (In X[i].rv) H H'):kP H' sv (X.set i ⟨X[i].name,gs,X[i].rv,X[i].A,X[i].B⟩):=by
 have hm:=List.getElem_mem hi;have rin:=(m.rel _ hm).1.vN;refine⟨?_,?_,?_,?_⟩
 ·have e:(X.set i ⟨X[i].name,gs,X[i].rv,X[i].A,X[i].B⟩).flatMap vP=X.flatMap vP:=by
   rw[List.flatMap_def,List.flatMap_def,List.map_set];congr 1;have:(X.map vP)[i]'(by simpa using hi)=vP ⟨X[i].name,gs,X[i].rv,X[i].A,X[i].B⟩:=by rw[List.getElem_map];rfl
   rw[<-this,List.set_getElem_self]
  rw[List.length_set,e];exact m.gl.fm f fun b h1 h2=>m.dj _ hm b h1 (rin b h2)
 ·have ho:=m.ord;rw[List.pairwise_iff_getElem]at ho ⊢;intro a b ha hb hab;rw[List.length_set]at ha hb;have:=ho a b ha hb hab;rw[List.getElem_set,List.getElem_set];split<;>split<;>(subst_vars;first|exact this|omega)
 ·intro g hg;rw[List.mem_iff_getElem]at hg;obtain⟨j,hj,rfl⟩:=hg;rw[List.length_set]at hj;rw[List.getElem_set];split
  ·exact⟨hr,Nat.le_trans (m.rel _ hm).2 f.nx⟩
  ·rename_i hne;have hjm:=List.getElem_mem hj;refine⟨(m.rel _ hjm).1.iQ f fun b h1 h2 h3=>?_,Nat.le_trans (m.rel _ hjm).2 f.nx⟩;have h4:=rin b h3;have ho:=m.ord;rw[List.pairwise_iff_getElem]at ho;rcases Nat.lt_or_gt_of_ne hne with h|h
   ·have:=ho i j hi hj h;omega
   ·have:=ho j i hj hi h;omega
 ·intro g hg b hb;rcases List.mem_or_eq_of_mem_set hg with hg|rfl
  ·exact m.dj g hg b hb
  ·exact m.dj _ hm b hb
structure ClI(H0 H:Hp)(sb:Nat)(sv:AV)(X:List aR):Prop where
 m:kP H sv X
 an:∀ x∈X,H0.nx<=x.A/\¬(x.A<=sb/\sb<x.B)
 sbk:H.get sb=aB 0 [sv]
 sbl:H0.nx<=sb/\sb<H.nx
 rU:∀ b,In sv b->H0.nx<=b
 fm:Fm No H0 H
theorem ql6(hC:bA C){j:Nat}(hj:20<=j){H0:Hp}{sb:Nat}{sv:AV}{S:List uE}(hS:S.length<=1000)(hr:∀ p∈S,p.bI.length<=1000/\∀ r∈p.bI,r.rule.depth<=12/\r.rule.size<=10000){Q:pL}{q:pH}(hq:∀ X H,X.map aR.sp=S.map q5y->ClI H0 H sb sv X->Ok (q H) Q):∀(k i:Nat) (X:List aR) (H:Hp),i<=S.length->S.length-i<k->X.map aR.sp=(S.take i).map q5y++S.drop i->ClI H0 H sb sv X -> Ok (qi2 (C j) q (.ptr sb 0) k (iN i) H) Q
 |0,i,_,_,_,h,_,_=>by omega
 |k+1,i,X,H,hi,hk,hX,hI=>by
  show Ok (qz6 (C j) _ _ (qi2 (C j) _ _ k) _ H) Q;unfold qz6;have hl:=hI.m.gl.dA;have e0:=hI.sbk;have hXl:X.length=S.length:=by have:=congrArg List.length hX;simp only[List.length_map,List.length_append,List.length_take,List.length_drop]at this;omega
  by_cases hlt:i<S.length
  ·have hlt':i<X.length:=by omega
   simp only[go_sem,e0,hl,hlt'];rw[qpg];unfold qsf;obtain⟨b,o,e1,e2,_,_,e4⟩:=(hI.m.gl.rs qea).at' i hlt';have r1:dI (H.get b) (o+1)=.val X[i].rv:=e4 1 (by rw[qea];omega);simp only[go_sem,e0,e1,r1];unfold zd2;rw[dH];have hsp:X[i].sp=S[i]:=by have h1:(X.map aR.sp)[i]'(by simpa using hlt')=X[i].sp:=List.getElem_map ..;simp_all
   have hrl:X[i].gs.map bB.r=S[i].bI:=congrArg uE.bI hsp;have hSm:=hr S[i] (List.getElem_mem hlt);have hm:=List.getElem_mem hlt';refine qjo hC hj (bI:=S[i].bI) (A:=X[i].A) (B:=X[i].B) (rv:=X[i].rv) (H1:=H) hSm.1 hSm.2 (fun gs H' hg hR f=>?_) cK 0 X[i].gs H (Nat.zero_le _) (by rw[dM];omega) (by rw[hrl];simp[kV]) (hI.m.rel _ hm).1 (Fm.refl _ _);rw[qpk];unfold qsj;simp(disch:=first|omega|exact ti rfl|simp only[np,nq];first|done|omega)only[go_sem,rB,rI,rK,rL,rN,rS,r6];have rin:=(hI.m.rel _ hm).1.vN;have han:=hI.an _ hm;have aE2:=hI.sbl;refine ql6 hC hj hS hr hq k (i+1) _ H' (by omega) (by omega) ?_ ⟨hI.m.aTp hlt' hR f,?_,?_,?_,hI.rU,?_⟩
   ·rw[List.map_set,hX,List.take_succ_eq_append_getElem hlt,List.map_append,List.map_singleton,List.append_assoc,List.set_append_right _ _ (by simp;omega)];simp only[List.length_map,List.length_take,Nat.min_eq_left hi,Nat.sub_self];rw[List.drop_eq_getElem_cons hlt,List.set_cons_zero,List.singleton_append];congr 2;unfold aR.sp q5y;congr 1;exact congrArg uE.name hsp
   ·intro x hx;rcases List.mem_or_eq_of_mem_set hx with hx|rfl
    ·exact hI.an x hx
    ·exact han
   ·exact(f.get _ aE2.2 fun h=>han.2 (rin _ h)).trans hI.sbk
   ·exact⟨aE2.1,Nat.lt_of_lt_of_le aE2.2 f.nx⟩
   ·exact hI.fm.then f fun c hc h=>by have:=(rin c h).1;omega
  ·have he:i=S.length:=by omega
   have hlt':¬ i<X.length:=by omega
   simp only[go_sem,e0,hl,hlt'];refine hq X H ?_ hI;simp_all
structure oW(H:Hp)(g:bB):Prop where
 ty:Rs 2 tC H g.tv g.r.types
 tc:g.tv=.aA\/∃ b o n m e,g.tv=.sl b o n m e/\n<=m/\0<n
 ru:jR (fun _=>True) H g.r.rule g.cs
structure SpR(H:Hp)(g:aR):Prop where
 len:aF g.rv=.val (iN (g.gs.length))
 fl:yG g.rv=true
 at':∀ i (h:i<g.gs.length),∃b o,aJ 6 g.rv (iN i)=.val (.ptr b o)/\b<H.nx/\dI (H.get b) o=.val (.str g.gs[i].r.name.n g.gs[i].r.name.a)/\dI (H.get b) (o+1)=.val g.gs[i].tv/\fU (H.get b) (o+2) 4=some g.gs[i].cs/\fU (H.get b) o 6=some (iI g.gs[i])
 rel:∀ x∈g.gs,oW H x
structure dK(H:Hp)(sv:AV)(X:List aR):Prop where
 rs:Rs 2 vP H sv X
 fl:yG sv=true
 sp:∀ g∈X,SpR H g
theorem oW.tf{g:bB}(h:oW H g):yG g.tv=true:=by rcases h.tc with h|⟨_,_,_,_,_,h,_⟩<;>(rw[h];rfl)
theorem oW.fm{g:bB}(h:oW H g)(f:Fm No H H'):oW H' g:=⟨h.ty.fm f,h.tc,h.ru.fm f⟩
theorem SpR.fm(h:SpR H g)(f:Fm No H H'):SpR H' g:=⟨h.len,h.fl,fun i hi=>by obtain⟨b,o,e1,e2,e3,e4,e5,e6⟩:=h.at' i hi;have e:=f.keep e2;exact⟨b,o,e1,Nat.lt_of_lt_of_le e2 f.nx,by rw[e];exact e3,by rw[e];exact e4,by rw[e];exact e5,by rw[e];exact e6⟩,fun x hx=>(h.rel x hx).fm f⟩
theorem dK.fm(h:dK H sv X)(f:Fm No H H'):dK H' sv X:=⟨h.rs.fm f,h.fl,fun g hg=>(h.sp g hg).fm f⟩
theorem kP.sr(m:kP H sv X):dK H sv X:=by
 refine⟨m.gl.rs qea,?_,fun g hg=>?_⟩
 ·rcases m.gl.is with⟨h,_⟩|⟨_,_,_,_,_,h,_⟩<;>(rw[h];rfl)
 ·have r:=(m.rel g hg).1;refine⟨r.gl.dA,r.flat,fun i hi=>?_,fun x hx=>⟨(r.ty x hx).1,(r.ty x hx).2.1,(r.ru x hx).mono fun _ _ _=>trivial⟩⟩
  ·obtain⟨b,o,e1,e2,_,e4,e5,e6,e7⟩:=r.at hi;exact⟨b,o,e1,e2,e4,e5,e6,e7⟩
def oJ(X:List aR)(a b:SS):Option bB:=match X.find? fun g=>decide (g.name=a)with
 |none=>none
 |some g=>g.gs.find? fun x=>decide (x.r.name=b)
theorem zg9{α:Type}{p:α->Bool}{l:List α}(hi:i<l.length)(h:p l[i]=true)(hb:∀ k (hk:k<i),p (l[k]'(by omega))=false):l.find? p=some l[i]:=by rw[List.find?_eq_some_iff_getElem];exact⟨h,i,hi,rfl,fun j hj=>by rw[hb j hj];rfl⟩
theorem zg8{α:Type}{p:α->Bool}{l:List α}(hb:∀ k (hk:k<l.length),p (l[k])=false):l.find? p=none:=by rw[List.find?_eq_none];intro x hx;obtain⟨i,hi,rfl⟩:=List.getElem_of_mem hx;simp_all
theorem qpu{call:Ev.Call}{H:Hp}{sb:Nat}{sv:AV}{X:List aR}(hX:dK H sv X)(hs:X.length<1000000)(hb:H.get sb=aB 0 [sv])(a:SS){Q:pL}{q:pH}{qr:pD}(hr:∀ i (hi:i<X.length),X[i].name=a->(∀k (hk:k<i),X[k].name≠a)->Ok (qr (iN i) H) Q)(hq:(∀k (hk:k<X.length),X[k].name≠a)->Ok (q H) Q):∀(k i:Nat),i<=X.length->X.length-i<k->(∀k (hk:k<i) (hl:k<X.length),X[k].name≠a)->Ok (q2v call qr q a.v (.ptr sb 0) k (iN i) H) Q
 |0,i,_,h,_=>by omega
 |k+1,i,hi,hk,hn=>by
  show Ok (zby call _ _ _ _ (q2v call _ _ _ _ k) _ H) Q;unfold zby
  have hl:=hX.rs.len;by_cases hlt:i<X.length
  ·simp only[go_sem,hb,hl,hlt];unfold zbw;obtain⟨b,o,e1,e2,_,_,e4⟩:=hX.rs.at' i hlt;have r0:dI (H.get b) o=.val (.str X[i].name.n X[i].name.a):=e4 0 (by rw[qea];omega);unfold SS.v;by_cases h:X[i].name.n=a.n/\X[i].name.a=a.a
   ·have ht:=eq_true h;simp only[go_sem,hb,e1,r0,ht];exact hr i hlt ((tO _ _).2 h) fun k hk=>hn k hk (by omega)
   ·simp only[go_sem,hb,e1,r0,h];unfold zq0;simp(disch:=first|omega|exact ti rfl|simp only[np,nq];first|done|omega)only[go_sem,rB,rI,rK,rL,rN,rS,r6];refine qpu hX hs hb a hr hq k (i+1) (by omega) (by omega) fun m hm hl=>?_;by_cases he:m=i
    ·subst he;exact fun h'=>h ((tO _ _).1 h')
    ·exact hn m (by omega) hl
  ·simp only[go_sem,hb,hl,hlt];exact hq fun m hm=>hn m (by omega) hm
theorem zpo(hC:bA C)(hk:1<=k)(hX:dK H sv X)(hs:X.length<1000000)(a:SS):Ok (C k (.f 66) [.agg [sv],a.v] H) fun r H'=>Fm No H H'/\((∃i,∃hi:i<X.length,r=iN i/\X.find? (fun g=>decide (g.name=a))=some X[i])\/(r=.int .i64 (.negSucc 0)/\X.find? (fun g=>decide (g.name=a))=none)):=by
 obtain⟨j,rfl⟩:=aX hk;rw[(hC j).zBs];unfold zBs zum;simp only[go_sem];have f:Fm No H (aS H (aB 0 [sv])):=by exact lT
 unfold zq1;rw[dH];refine qpu (hX.fm f) hs (lI _ _) a (fun i hi h1 h2=>?_) (fun h=>?_) cK 0 (Nat.zero_le _) (by rw[dM];omega) (fun k hk=>by omega)
 ·refine Ok.ret ⟨f,.inl ⟨i,hi,rfl,zg9 hi (by simpa using h1) fun k hk=>by simpa using h2 k hk⟩⟩
 ·unfold zbx;refine Ok.ret ⟨f,.inr ⟨rfl,zg8 fun k hk=>by simpa using h k hk⟩⟩
def q06:List AV:=[.str 0 0,.aA,.int .u8 (.ofNat 0),.str 0 0,.str 0 0,.aA]
def zyl(X:List aR)(a b:SS)(r:AV):Prop:=match oJ X a b with
 |some g=>r=.aY [.agg (iI g),.bool true]
 |none=>r=.aY [.agg q06,.bool false]
theorem qws{call:Ev.Call}{H:Hp}{sb rb:Nat}{sv:AV}{X:List aR}(hX:dK H sv X){s:Nat}(hs:s<X.length)(hb:H.get sb=aB 0 [sv])(hg:X[s].gs.length<1000000)(he:H.get rb=aB 0 q06)(b:SS){Q:pL}{q:pH}{qr:pD}(hr:∀ g,X[s].gs.find? (fun x=>decide (x.r.name=b))=some g->Ok (qr (.bool true) (H.put rb (aB 0 (iI g)))) Q)(hq:X[s].gs.find? (fun x=>decide (x.r.name=b))=none->Ok (q H) Q):∀(k i:Nat),i<=X[s].gs.length->X[s].gs.length-i<k->(∀k (hk:k<i) (hl:k<X[s].gs.length),X[s].gs[k].r.name≠b)->Ok (qur call qr q b.v (.ptr sb 0) (.ptr rb 0) (iN s) k (iN i) H) Q
 |0,i,_,h,_=>by omega
 |k+1,i,hi,hk,hn=>by
  show Ok (qus call _ _ _ _ _ _ (qur call _ _ _ _ _ _ k) _ H) Q;unfold qus;obtain⟨b1,o1,e1,e2,_,_,e4⟩:=hX.rs.at' s hs;have r1:dI (H.get b1) (o1+1)=.val X[s].rv:=e4 1 (by rw[qea];omega);have hp:=hX.sp _ (List.getElem_mem hs);have hl:=hp.len;by_cases hlt:i<X[s].gs.length
  ·simp only[go_sem,hb,e1,r1,hl,hlt,Nat.zero_le];unfold zcr;obtain⟨b2,o2,g1,g2,g3,g4,g5,g6⟩:=hp.at' i hlt;unfold SS.v;by_cases h:X[s].gs[i].r.name.n=b.n/\X[s].gs[i].r.name.a=b.a
   ·have ht:=eq_true h;simp only[go_sem,hb,e1,r1,g1,g3,ht,g6];simp only[go_sem,he];refine hr X[s].gs[i] (zg9 hlt (by simpa using (tO _ _).2 h) fun k hk=>by simpa using hn k hk (by omega))
   ·simp only[go_sem,hb,e1,r1,g1,g3,h];unfold zra;simp(disch:=first|omega|exact ti rfl|simp only[np,nq];first|done|omega)only[go_sem,rB,rI,rK,rL,rN,rS,r6];refine qws hX hs hb hg he b hr hq k (i+1) (by omega) (by omega) fun m hm hl=>?_;by_cases he:m=i
    ·subst he;exact fun h'=>h ((tO _ _).1 h')
    ·exact hn m (by omega) hl
  ·simp only[go_sem,hb,e1,r1,hl,hlt,Nat.zero_le];exact hq (zg8 fun m hm=>by simpa using hn m (by omega) hm)
theorem zyk(hC:bA C)(hk:2<=k)(hX:dK H sv X)(hs:X.length<1000000)(hg:∀ g∈X,g.gs.length<900000)(a b:SS):Ok (C k (.f 39) [.agg [sv],a.v,b.v] H) fun r H'=>Fm No H H'/\zyl X a b r:=by
 obtain⟨j,rfl⟩:=aX hk;rw[(hC j).zAy];unfold zAy zu4;simp(disch:=first|omega|exact ti rfl|simp only[np,nq];first|done|omega)only[go_sem,seval];have f:Fm No H (aS (aS H (aB 0 [sv])) (aB 0 q06)):=by exact qD
 refine Ok.ve (zpo hC (k:=j) (by omega) (hX.fm f) hs a) ?_;rintro r H1 ⟨f1,h⟩;have n1:=f1.nx;have hb:H1.get H.nx=aB 0 [sv]:=(f1.keep (by first|omega|simp only[np,nq];omega)).trans (by simp(disch:=first|omega|exact ti rfl|simp only[np,nq];first|done|omega)only[go_sem,seval]);have hr:H1.get (H.nx+1)=aB 0 q06:=(f1.keep (by first|omega|simp only[np,nq];omega)).trans (by simp(disch:=first|omega|exact ti rfl|simp only[np,nq];first|done|omega)only[go_sem,seval]);unfold zrb;obtain⟨m,hm⟩:∃ m,cK=m+1:=⟨999999,by rw[dM]⟩;unfold zyl oJ;have fin:Ok (q2y (C j) (.ptr (H.nx+1) 0) H1) fun r H'=>Fm No H H'/\r=.aY [.agg q06,.bool false]:=by unfold q2y;unfold q06 at hr ⊢;simp only[go_sem,seval,hr];exact Ok.ret ⟨(f.trans f1).aG _ _ (by omega),rfl⟩
 rcases h with⟨i,hi,rfl,h⟩|⟨rfl,h⟩
 ·rw[dH,h];refine qws ((hX.fm f).fm f1) hi hb (by have:=hg _ (List.getElem_mem hi);omega) hr b (fun g h2=>?_) (fun h2=>?_) cK 0 (Nat.zero_le _) (by have:=hg _ (List.getElem_mem hi);rw[dM];omega) (fun k hk=>by omega)
  ·simp only;rw[h2];simp only[go_sem];exact Ok.ret ⟨(f.trans f1).aG _ _ (by omega),rfl⟩
  ·simp only;rw[h2];exact fin
 ·rw[dH,hm,h];show Ok (qus (C j) _ _ _ _ _ _ (qur (C j) _ _ _ _ _ _ m) _ H1) _;unfold qus;simp only[go_sem];exact fin
def pC(p:SS×SS):List AV:=[p.1.v,p.2.v]
def aN(X:List aR):List (SS×SS):=X.flatMap fun g=>g.gs.map fun x=>(g.name,x.r.name)
structure wI(X:List aR):Prop where
 n:X.length<=100
 r:∀ g∈X,g.gs.length<=100
 t:∀ g∈X,∀x∈g.gs,x.r.types.length<=100
theorem wI.all(h:wI X):∀ i,((X.take i).flatMap fun g=>g.gs.map fun x=>(g.name,x.r.name)).length<=10000:=fun i=>by
 have h1:∀ l:List aR,(∀g∈l,g.gs.length<=100)->(l.flatMap fun g=>g.gs.map fun x=>(g.name,x.r.name)).length<=100*l.length:=by
  intro l
  induction l with
  |nil=>intro _;simp
  |cons a l ih=>intro h;rw[List.flatMap_cons,List.length_append,List.length_map,List.length_cons];have:=ih fun g hg=>h g (List.mem_cons_of_mem _ hg);have:=h a List.mem_cons_self;omega
 have h2:=h1 (X.take i) fun g hg=>h.r g (List.mem_of_mem_take hg);have h3:(X.take i).length<=X.length:=by rw[List.length_take];omega
 have:=h.n;omega
theorem qxb{call:Ev.Call}{H0:Hp}{sb:Nat}{sv:AV}{X:List aR}(hX:dK H0 sv X)(hS:wI X)(hb:H0.get sb=aB 0 [sv])(hbl:sb<H0.nx){s:Nat}(hs:s<X.length){A:List (SS×SS)}(hA:A.length<=1000000){Q:pL}{q:pD}(hq:∀ w H,Ac 2 pC H0 H w (A++X[s].gs.map fun x=>(X[s].name,x.r.name))->Ok (q w H) Q):∀(k i:Nat) (w:AV) (H:Hp),i<=X[s].gs.length->X[s].gs.length-i<k->Ac 2 pC H0 H w (A++(X[s].gs.take i).map fun x=>(X[s].name,x.r.name)) -> Ok (q3e call q (.ptr sb 0) (iN s) k w (iN i) H) Q
 |0,i,_,_,_,h,_=>by omega
 |k+1,i,w,H,hi,hk,hw=>by
  show Ok (zdk call _ _ _ (q3e call _ _ _ k) _ _ H) Q;unfold zdk;have hX1:=hX.fm hw.fm;have hb1:=(hw.fm.keep hbl).trans hb;obtain⟨b1,o1,e1,e2,_,_,e4⟩:=hX1.rs.at' s hs;have r0:dI (H.get b1) o1=.val (.str X[s].name.n X[s].name.a):=e4 0 (by rw[qea];omega);have r1:dI (H.get b1) (o1+1)=.val X[s].rv:=e4 1 (by rw[qea];omega);have hp:=hX1.sp _ (List.getElem_mem hs);have hl:=hp.len;have hr:=hS.r _ (List.getElem_mem hs);by_cases hlt:i<X[s].gs.length
  ·simp only[go_sem,hb1,e1,r1,hl,hlt];unfold zdi;obtain⟨b2,o2,g1,g2,g3,_,_,_⟩:=hp.at' i hlt;have hll:(A++(X[s].gs.take i).map fun x=>(X[s].name,x.r.name)).length<=1001000:=by
    rw[List.length_append,List.length_map,List.length_take];omega
   simp only[go_sem,seval,hb1,e1,r0,r1,g1,g3];refine Ok.mY ((hw.no (by(repeat(first|exact Fm.refl _ _|assumption|refine Fm.push ?_ _|refine Fm.oV ?_ (by first|omega|simp only[np,nq];omega)|refine Fm.aG ?_ _ _ (by first|omega|simp only[np,nq];omega))))).add (X[s].name,X[s].gs[i].r.name) 32 rfl (by omega) (by omega)) ?_;intro w2 H2 hw2;unfold zrg;simp(disch:=first|omega|exact ti rfl|simp only[np,nq];first|done|omega)only[go_sem,rB,rI,rK,rL,rN,rS,r6];refine qxb hX hS hb hbl hs hA hq k (i+1) w2 H2 (by omega) (by omega) ?_;rw[List.take_succ_eq_append_getElem hlt,List.map_append,List.map_singleton,<-List.append_assoc];exact hw2
  ·simp only[go_sem,hb1,e1,r1,hl,hlt];have he:i=X[s].gs.length:=by omega
   simp_all
theorem q53{call:Ev.Call}{H0:Hp}{sb:Nat}{sv:AV}{X:List aR}(hX:dK H0 sv X)(hS:wI X)(hb:H0.get sb=aB 0 [sv])(hbl:sb<H0.nx){Q:pL}{q:pD}(hq:∀ w H,Ac 2 pC H0 H w (aN X)->Ok (q w H) Q):∀(k i:Nat) (w:AV) (H:Hp),i<=X.length->X.length-i<k->Ac 2 pC H0 H w ((X.take i).flatMap fun g=>g.gs.map fun x=>(g.name,x.r.name)) -> Ok (qut call q (.ptr sb 0) k w (iN i) H) Q
 |0,i,_,_,_,h,_=>by omega
 |k+1,i,w,H,hi,hk,hw=>by
  show Ok (zdl call _ _ (qut call _ _ k) _ _ H) Q;unfold zdl;have hn:=hS.n;have hX1:=hX.fm hw.fm;have hb1:=(hw.fm.keep hbl).trans hb;have hl:=hX1.rs.len;by_cases hlt:i<X.length
  ·simp only[go_sem,hb1,hl,hlt];unfold zdh zrh;rw[dH];have hr:=hS.r _ (List.getElem_mem hlt);refine qxb hX hS hb hbl hlt (Nat.le_trans (hS.all i) (by omega)) (fun w2 H2 hw2=>?_) cK 0 w H (Nat.zero_le _) (by rw[dM];omega) (by simpa using hw);unfold zdg;simp(disch:=first|omega|exact ti rfl|simp only[np,nq];first|done|omega)only[go_sem,rB,rI,rK,rL,rN,rS,r6];refine q53 hX hS hb hbl hq k (i+1) w2 H2 (by omega) (by omega) ?_;rw[List.take_succ_eq_append_getElem hlt,List.flatMap_append,List.flatMap_singleton];exact hw2
  ·simp only[go_sem,hb1,hl,hlt];have he:i=X.length:=by omega
   rw[he,List.take_length]at hw;exact hq w H hw
theorem zsj(hC:bA C)(hk:1<=k)(hX:dK H sv X)(hS:wI X):Ok (C k (.f 35) [.agg [sv]] H) fun r H'=>Ac 2 pC H H' r (aN X):=by
 obtain⟨j,rfl⟩:=aX hk;rw[(hC j).zAh];unfold zAh zvd;simp only[go_sem];have f:Fm No H (aS H (aB 0 [sv])):=by exact lT
 have hn:=hS.n;unfold zri;rw[dH];refine q53 (hX.fm f) hS (lI _ _) (by simp only[np,nq];omega) (fun w H2 hw=>?_) cK 0 .aA _ (Nat.zero_le _) (by rw[dM];omega) (Ac.nil _ _ (Fm.refl _ _));exact Ok.ret (hw.trans f)
def cB(X:List aR)(a b:SS):Nat:=(aN X).findIdx fun p=>decide (p=(a,b))
def tgP(X:List aR)(to:SS)(t:jS):Bool:=decide (t.rl=sE)&&(oJ X t.sp to).isSome
def tgL(X:List aR)(to:SS)(l:List jS):List SS:=(l.filter (tgP X to)).map jS.sp
def tX(X:List aR)(a rel to:SS):List SS:=match oJ X a rel with
 |none=>[]
 |some g=>tgL X to g.r.types
theorem q0d(X:List aR)(to:SS)(l:List jS):(tgL X to l).length<=l.length:=by unfold tgL;rw[List.length_map];exact List.length_filter_le _ _
theorem zmu(X:List aR)(to:SS){l:List jS}(h:i<l.length):tgL X to (l.take (i+1))=tgL X to (l.take i)++if tgP X to l[i]then[l[i].sp]else[]:=by unfold tgL;rw[List.take_succ_eq_append_getElem h,List.filter_append,List.map_append,List.filter_cons];split<;>simp
theorem zof(hC:bA C)(hk:1<=k)(n:Int)(H:Hp):C k (.f 171) [.int .i64 n] H=.ok (.bool false) H:=by obtain⟨j,rfl⟩:=aX hk;rw[(hC j).zDc];unfold zDc ztr;simp only[go_sem]
def iO(a b:Int):Int:=if a<b then -1 else if b<a then 1 else 0
theorem qt7(hC:bA C)(hk:2<=k)(a b:Int)(H:Hp):C k (.f 144) [.int .i64 a,.int .i64 b] H=.ok (.int .i64 (iO a b)) H:=by
 obtain⟨j,rfl⟩:=aX hk;rw[(hC j).zCr];unfold zCr zt0;simp only[zof hC (show 1<=j by omega),go_sem];unfold zqo zqp zqq zqr iO;by_cases h:a<b
 ·simp only[h,go_sem];rfl
 ·by_cases h2:b<a
  ·simp only[h,h2,go_sem];rfl
  ·simp only[h,h2,go_sem];rfl
def sgn(s:Bool):Int:=if s then 1 else 0
theorem zvw(hC:bA C)(hk:1<=k)(a b:AV)(s:Bool)(H:Hp):C k (.f 145) [.agg [a,b,.bool s]] H=.ok (.int .i64 (sgn s)) (aS H (aB 0 [a,b,.bool s])):=by obtain⟨j,rfl⟩:=aX hk;rw[(hC j).zCs];unfold zCs ztz zqn;cases s<;>simp(disch:=omega)only[go_sem,seval,Nat.beq]<;>rfl
def ints(l:List Int):List AV:=l.map (fun n=>.int .i64 n)
theorem zoh(l:List Int)(i:Nat)(h:i<l.length):(ints l)[i]? =some (.int .i64 l[i]):=by simp[ints,h]
def orI:List Int->Int
 | []=>0
 |x::l=>if x=0 then orI l else x
theorem zi2{call:Ev.Call}{H:Hp}{b m:Nat}{e:Bool}{q:Nat}{l:List Int}(h0:H.get b=aB q (ints l))(hl:l.length<1000000):∀(k i:Nat),i<=l.length->l.length-i<k->q2m call (fun x2 H=>.ok x2 H) (fun H=>zaw call (.int .i64 (.ofNat 0)) H) (.int .i64 (.ofNat 0)) (.sl b 0 l.length m e) (.int .i64 (.ofNat l.length)) k (.int .i64 (.ofNat i)) H=.ok (.int .i64 (orI (l.drop i))) H
 |0,i,_,h=>by omega
 |k+1,i,hi,hk=>by
  show zax call _ _ _ _ _ (q2m call _ _ _ _ _ k) _ H=_;unfold zax;by_cases hlt:i<l.length
  ·simp(disch:=omega)only[go_sem,hlt];unfold zqk;have hd:l.drop i=l[i]::l.drop (i+1):=List.drop_eq_getElem_cons hlt;simp(disch:=omega)only[go_sem,h0,zoh _ _ hlt];rw[hd];show _=R1.ok (.int .i64 (if l[i]=0 then orI (l.drop (i+1))else l[i])) H;by_cases hz:l[i]=Int.ofNat 0
   ·have hz':l[i]=0:=hz;simp only[hz',go_sem];unfold zql;simp(disch:=omega)only[go_sem];exact zi2 h0 hl k (i+1) (by omega) (by omega)
   ·have hz':¬ l[i]=0:=hz;simp only[hz,hz',go_sem]
  ·have hd:l.drop i=[]:=List.drop_eq_nil_of_le (by omega);simp(disch:=omega)only[go_sem,hlt];rw[hd];rfl
theorem aK0(hC:bA C)(hk:1<=k){e:Bool}{q n:Nat}{l:List Int}(hn:l.length=n)(h0:H.get b=aB q (ints l))(hl:l.length<1000000):C k (.f 93) [.sl b 0 n m e] H=.ok (.int .i64 (orI l)) H:=by obtain⟨j,rfl⟩:=aX hk;subst hn;rw[(hC j).zCt];unfold zCt zty zqm;simp only[go_sem];rw[dH];exact zi2 h0 hl _ 0 (Nat.zero_le _) (by rw[dM];omega)
structure Edge where
 (f t:Nat)
 s:Bool
deriving DecidableEq
def Edge.cells(e:Edge):List AV:=[.int .i64 (.ofNat e.f),.int .i64 (.ofNat e.t),.bool e.s]
def qY(x y:Edge):Int:=orI [iO (.ofNat x.f) (.ofNat y.f),iO (.ofNat x.t) (.ofNat y.t),iO (sgn x.s) (sgn y.s)]
theorem q7s(hC:bA C)(hk:3<=k)(x y:Edge)(H:Hp):Ok (C k (.f 113) [.agg x.cells,.agg y.cells] H) fun v H'=>v=.int .i64 (qY x y)/\Fm No H H':=by obtain⟨j,rfl⟩:=aX hk;rw[(hC j).zBz];unfold zBz zuh Edge.cells;simp(disch:=first|omega|exact ti rfl|simp only[np,nq];first|done|omega)only[go_sem,seval,Nat.beq,qt7 hC (show 2<=j by omega),zvw hC (show 1<=j by omega)];refine Ok.y7 (aK0 hC (show 1<=j by omega) (l:=[iO (.ofNat x.f) (.ofNat y.f),iO (.ofNat x.t) (.ofNat y.t),iO (sgn x.s) (sgn y.s)]) rfl (eD _ _ _) (by simp)) ?_;simp only[go_sem];exact Ok.ret ⟨rfl,by(repeat(first|exact Fm.refl _ _|assumption|refine Fm.push ?_ _|refine Fm.oV ?_ (by first|omega|simp only[np,nq];omega)|refine Fm.aG ?_ _ _ (by first|omega|simp only[np,nq];omega)))⟩
def z1l(es:List Edge):List AV:=(es.map Edge.cells).flatten
structure qdw(n:Nat)(es:List Edge):Prop where
 rng:∀ e∈es,e.f<n/\e.t<n
 ord:∀ i,(h:i+1<es.length)->qY es[i] es[i+1]<0
theorem q1e(a b:Int)(k:IntKind):o8 nJ (.int k a) [.int k b]=.val (.int k (min a b)):=by
 show R0.val (.int k (bif oL b a then b else a))=_;rw[yT];by_cases h:b<a
 ·rw[decide_eq_true h,Int.min_eq_right (by omega)];rfl
 ·rw[decide_eq_false h,Int.min_eq_left (by omega)];rfl
theorem q1f(a b:Int)(k:IntKind):o8 oO (.int k a) [.int k b]=.val (.int k (max a b)):=by
 show R0.val (.int k (bif oL a b then b else a))=_;rw[yT];by_cases h:a<b
 ·rw[decide_eq_true h,Int.max_eq_right (by omega)];rfl
 ·rw[decide_eq_false h,Int.max_eq_left (by omega)];rfl
structure jZ(H:Hp)(v:AV)(es:List Edge):Prop where
 flat:yG v=true
 len:aF v=.val (.int .i64 (.ofNat es.length))
 lt':∀ b,In v b->b<H.nx
 at':∀(i:Nat) (hi:i<es.length),∃b o,aJ 3 v (.int .i64 (.ofNat i))=.val (.ptr b o)/\b<H.nx/\fU (H.get b) o 3=some es[i].cells
theorem jZ.at{v:AV}{es:List Edge}(h:jZ H v es)(hi:i<es.length):∃ b o,aJ 3 v (.int .i64 (.ofNat i))=.val (.ptr b o)/\b<H.nx/\fU (H.get b) o 3=some es[i].cells:=h.at' i hi
theorem jZ.fm{v:AV}{es:List Edge}(h:jZ H v es)(a:Fm No H H'):jZ H' v es:=⟨h.flat,h.len,fun b hb=>Nat.lt_of_lt_of_le (h.lt' b hb) a.nx,fun i hi=>by obtain⟨b,o,e1,e2,e3⟩:=h.at' i hi;exact⟨b,o,e1,Nat.lt_of_lt_of_le e2 a.nx,by rw[a.keep e2];exact e3⟩⟩
theorem z01{z i b o:Nat}{v:AV}(h:aJ z v (.int .i64 (.ofNat i))=.val (.ptr b o)):In v b:=by
 cases v with
 |sl b' o' n m e=>
  have h:(bif Nat.blt i n then R0.val (.ptr b' (o'+i*z))else .bad)=.val (.ptr b o):=h;cases hb:Nat.blt i n with
  |true=>rw[hb]at h;cases h;exact⟨_,_,_,_,rfl⟩
  |false=>rw[hb]at h;cases h
 |_=>cases h
theorem jZ.keep{v:AV}{es:List Edge}(h:jZ H v es)(hn:H.nx<=H'.nx)(hk:∀ b,In v b->b<H.nx->H'.get b=H.get b):jZ H' v es:=⟨h.flat,h.len,fun b hb=>Nat.lt_of_lt_of_le (h.lt' b hb) hn,fun i hi=>by obtain⟨b,o,e1,e2,e3⟩:=h.at' i hi;exact⟨b,o,e1,Nat.lt_of_lt_of_le e2 hn,by rw[hk b (z01 e1) e2];exact e3⟩⟩
theorem jZ.lt{v:AV}{es:List Edge}(h:jZ H v es)(hb:In v b):b<H.nx:=h.lt' b hb
theorem Gl.flat{v:AV}(h:Gl z H v n l):yG v=true:=by rcases h.is with⟨rfl,rfl⟩|⟨b,o,e,q,L,rfl,_⟩<;>rfl
theorem jZ.nV{v:AV}{es:List Edge}(h:jZ H v es):nV 64 v v=true:=zT h.flat 63
theorem qjy(hC:bA C){j:Nat}(hj:3<=j){n:Nat}{es:List Edge}(hE:qdw n es){v:AV}{g:Nat}{H0:Hp}(hlen:es.length<1000000){Q:pL}{eT:pH}(hq:∀ H,Fm No H0 H->Ok (eT H) Q):∀(k i:Nat) (H:Hp),i<=es.length->es.length-i<k->jZ H v es->g<H.nx->H.get g=aB 0 [.int .i64 (.ofNat n),v]->Fm No H0 H -> Ok (q2s (C j) (fun x2 H=>.ok x2 H) eT (.ptr g 0) v (.int .i64 (.ofNat es.length)) k (.int .i64 (.ofNat i)) H) Q
 |0,i,_,_,h,_,_,_,_=>by omega
 |k+1,i,H,hi,hk,hv,hg1,hg2,hf=>by
  show Ok (zbh (C j) _ _ _ _ _ (q2s (C j) _ _ _ _ _ k) _ H) Q;unfold zbh;by_cases hlt:i<es.length
  ·obtain⟨b,o1,e1,e2,e3⟩:=hv.at hlt;have hr:=hE.rng es[i] (List.getElem_mem hlt);simp only[go_sem,hlt];unfold zbg zyv;have hmin:(min (Int.ofNat es[i].f) (Int.ofNat es[i].t)<Int.ofNat 0)=False:=by simp only[Int.ofNat_eq_natCast,eq_iff_iff,iff_false];omega
   have hmax:(Int.ofNat n<=max (Int.ofNat es[i].f) (Int.ofNat es[i].t))=False:=by simp only[Int.ofNat_eq_natCast,eq_iff_iff,iff_false];omega
   by_cases h0:0<i
   ·obtain⟨p,rfl⟩:∃ p,i=p+1:=⟨i-1,by omega⟩;obtain⟨b',o2,e1',e2',e3'⟩:=hv.at (show p<es.length by omega);have hv64:=hv.nV;simp(disch:=first|omega|exact ti rfl|simp only[np,nq];first|done|omega)only[go_sem,rB,rI,rK,rL,rN,rS,r6,e1,e3,Edge.cells,q1e,q1f,hmin,hmax,hg2,h0,e1',e3',Nat.add_sub_cancel];refine Ok.mY (q7s hC hj es[p] es[p+1] _) ?_;rintro v' H' ⟨rfl,f'⟩;have k1:H'.get g=aB 0 [.int .i64 (.ofNat n),v]:=(f'.keep (by first|omega|simp only[np,nq];omega)).trans (by simp(disch:=omega)only[go_sem,seval,hg2]);have k2:fU (H'.get b') o2 3=some es[p].cells:=by rw[f'.keep (by first|omega|simp only[np,nq];omega)];simp(disch:=omega)only[go_sem,seval,e3']
    have k3:H'.get H.nx=aB 0 es[p+1].cells:=(f'.keep (by simp only[np,nq];omega)).trans (by simp only[go_sem,seval,Edge.cells]);have ho:(Int.ofNat 0<=qY es[p] es[p+1])=False:=by have:=hE.ord p hlt;simp_all
    simp only[go_sem,k1,k2,k3,hv64,Edge.cells,ho];unfold zbe;simp(disch:=first|omega|exact ti rfl|simp only[np,nq];first|done|omega)only[go_sem,rB,rI,rK,rL,rN,rS,r6];have fH:Fm No H H':=by refine Fm.trans ?_ f';exact mO
    exact qjy hC hj hE hlen hq k (p+1+1) H' (by omega) (by omega) (hv.fm fH) (Nat.lt_of_lt_of_le hg1 fH.nx) k1 (hf.trans fH)
   ·simp(disch:=first|omega|exact ti rfl|simp only[np,nq];first|done|omega)only[go_sem,rB,rI,rK,rL,rN,rS,r6,e1,e3,Edge.cells,q1e,q1f,hmin,hmax,hg2,h0];unfold zbe;simp(disch:=first|omega|exact ti rfl|simp only[np,nq];first|done|omega)only[go_sem,rB,rI,rK,rL,rN,rS,r6];have fH:Fm No H ((aS H (aB 0 [.int .i64 (.ofNat 0),.int .i64 (.ofNat 0),.bool false])).put H.nx (aB 0 [.int .i64 (.ofNat es[i].f),.int .i64 (.ofNat es[i].t),.bool es[i].s])):=by exact mO
    exact qjy hC hj hE hlen hq k (i+1) _ (by omega) (by omega) (hv.fm fH) (Nat.lt_of_lt_of_le hg1 fH.nx) ((fH.keep hg1).trans hg2) (hf.trans fH)
  ·simp only[go_sem,hlt];exact hq H hf
theorem zpz(hC:bA C)(hk:4<=k){es:List Edge}(hE:qdw n es)(hn:n<=256)(hlen:es.length<1000000){v:AV}(hv:jZ H v es):Ok (C k (.f 117) [.agg [.int .i64 (.ofNat n),v]] H) fun r H'=>r=.int .i64 (.ofNat 0)/\Fm No H H':=by
 obtain⟨j,rfl⟩:=aX hk;rw[(hC j).zCd];unfold zCd zuf;have jO:(256<n)=False:=by simp only[eq_iff_iff,iff_false];omega
 simp(disch:=first|omega|exact ti rfl|simp only[np,nq];first|done|omega)only[go_sem,rB,rI,rK,rL,rN,rS,r6,jO,Nat.not_lt_zero];unfold zbf zqx;have fH:Fm No H (aS H (aB 0 [.int .i64 (.ofNat n),v])):=by exact lT
 simp(disch:=first|omega|exact ti rfl|simp only[np,nq];first|done|omega)only[go_sem,rB,rI,rK,rL,rN,rS,r6,hv.len];rw[dH];refine qjy hC (by omega) hE hlen (fun H hf=>?_) _ 0 _ (Nat.zero_le _) (by rw[dM];omega) (hv.fm fH) (by first|omega|simp only[np,nq];omega) (lI _ _) fH;exact Ok.ret ⟨rfl,hf⟩
def aK(l:List Nat):List AV:=l.map (fun n=>.int .i64 (.ofNat n))
theorem ints_set(l:List Int)(i:Nat)(n:Int)(h:i<l.length):bH (ints l) i [.int .i64 n]=ints (l.set i n):=by
 unfold bH ints;apply List.ext_getElem
 ·simp;omega
 ·intro j h1 h2;simp only[List.getElem_map,List.getElem_set];by_cases hj:j<i
  ·rw[List.getElem_append_left (by simp;omega),List.getElem_append_left (by simp;omega)];simp[show ¬i=j by omega]
  ·by_cases he:i=j
   ·subst he;simp[Nat.min_eq_left (Nat.le_of_lt h)]
   ·rw[List.getElem_append_right (by simp;omega)];simp[he,Nat.min_eq_left (Nat.le_of_lt h)];congr 2;omega
theorem qwj(l:List Nat):ints (l.map Int.ofNat)=aK l:=by unfold ints aK;rw[List.map_map];rfl
theorem Gl.at{v:AV}(h:Gl 1 H v n l){x:AV}(hx:l[i]? =some x):∃ b o,aJ 1 v (.int .i64 (.ofNat i))=.val (.ptr b o)/\b<H.nx/\In v b/\dI (H.get b) o=.val x:=by
 have hl:=h.len;have hi:i<l.length:=by
  rcases Nat.lt_or_ge i l.length with h|h
  ·exact h
  ·simp_all
 rcases h.is with⟨rfl,rfl⟩|⟨b,o,e,q,L,rfl,h1,h2,h3,h4,h5⟩
 ·omega
 ·refine⟨b,o+i,?_,h5,⟨_,_,_,_,rfl⟩,?_⟩
  ·rw[sP _ _ _ _ _ _ _ _ (by omega),Nat.mul_one]
  ·have:L[o+i]? =some x:=by rw[<-List.getElem?_drop,h3];exact hx
   rw[h1,qb6,this]
theorem Gl.clip{v:AV}(h:Gl z H v n l):∃ w,jX z v none (some (.int .i64 (.ofNat n))) (some (.int .i64 (.ofNat n)))=.val w/\Gl z H w n l/\iC w=.val (.int .i64 (.ofNat n))/\(∀b,In w b->In v b):=by
 rcases h.is with⟨rfl,rfl⟩|⟨b,o,e,q,L,rfl,h1,h2,h3,h4,h5⟩
 ·exact⟨.aA,rfl,h,rfl,fun b h=>h⟩
 ·have e1:jX z (.sl b o n n e) none (some (.int .i64 (.ofNat n))) (some (.int .i64 (.ofNat n)))=gZ b o z ⟨0,n,n⟩ true:=by
   show(match bounds n n none (some (.int .i64 (.ofNat n))) (some (.int .i64 (.ofNat n)))with|some bd=>gZ b o z bd true|none=>R0.bad)=_;have:bounds n n none (some (.int .i64 (.ofNat n))) (some (.int .i64 (.ofNat n)))=some ⟨0,n,n⟩:=by show(match(bif Nat.ble n n then some n else none)with|none=>none|some m=>match(bif Nat.ble n m then some n else none)with|none=>none|some h=>match(some 0:Option Nat)with|none=>none|some l=>some (Bd.mk l h m))=_;rw[ble_eq,decide_eq_true (Nat.le_refl n)];simp only[cond_true,ble_eq,decide_eq_true (Nat.le_refl n)]
   rw[this]
  rw[e1];unfold gZ;simp only[beq_eq];by_cases hn:n=0
  ·subst hn;exact⟨.sl b o 0 0 true,rfl,⟨h.len,.inr ⟨b,o,true,q,L,rfl,h1,h2,h3,.inl rfl,h5⟩⟩,rfl,fun c hc=>by obtain⟨_,_,_,_,h'⟩:=hc;cases h';exact⟨_,_,_,_,rfl⟩⟩
  ·rw[decide_eq_false hn];refine⟨.sl b o n n true,?_,⟨h.len,.inr ⟨b,o,true,q,L,rfl,h1,h2,h3,.inl rfl,h5⟩⟩,rfl,fun c hc=>by obtain⟨_,_,_,_,h'⟩:=hc;cases h';exact⟨_,_,_,_,rfl⟩⟩;simp
theorem zi4(hC:bA C)(hk:1<=k){v:AV}(h:Gl 1 H v n l):∃w,C k (.f 120) [v] H=.ok w H/\Gl 1 H w n l/\iC w=.val (.int .i64 (.ofNat n))/\(∀b,In w b->In v b):=by obtain⟨j,rfl⟩:=aX hk;obtain⟨w,e,h1,h2,h3⟩:=h.clip;refine⟨w,?_,h1,h2,h3⟩;rw[(hC j).zBd];unfold zBd zl5;simp only[go_sem,h.dA,e]
theorem qth(l:List Nat)(i:Nat)(h:i<l.length):(aK l)[i]? =some (.int .i64 (.ofNat l[i])):=by simp[aK,h]
theorem qtf(l:List Nat)(i n:Nat)(h:i<l.length):bH (aK l) i [.int .i64 (.ofNat n)]=aK (l.set i n):=by rw[<-qwj,ints_set _ _ _ (by simpa using h),<-qwj,List.map_set]
structure MOk(n:Nat)(ms:List Nat):Prop where
 hn:n<=256
 len:ms.length=n*n
 le:∀ x∈ms,x<=3
structure IsM(H:Hp)(v:AV)(b n:Nat)(ms:List Nat):Prop where
 hv:v=.agg [.int .i64 (.ofNat n),.sl b 0 (n*n) (n*n) true]
 lt:b<H.nx
 get:H.get b=aB 0 (aK ms)
 ok:MOk n ms
theorem IsM.fm{v:AV}(h:IsM H v b n ms)(a:Fm No H H'):IsM H' v b n ms:=⟨h.hv,Nat.lt_of_lt_of_le h.lt a.nx,(a.keep h.lt).trans h.get,h.ok⟩
theorem z00(hi:i<n)(hk:k<n):i*n+k<n*n:=by have:(i+1)*n<=n*n:=Nat.mul_le_mul_right n hi;rw[Nat.add_mul,Nat.one_mul]at this;omega
def oP(n:Nat)(ms:List Nat)(f t:Nat)(s:Bool):List Nat:=
 if ms.getD (f*n+t) 0 / (if s then 2 else 1)%2=0 then ms.set (f*n+t) (ms.getD (f*n+t) 0+(if s then 2 else 1))else ms
structure T3 where
 (f t s:Nat)
def T3.cells(e:T3):List AV:=[.int .i64 (.ofNat e.f),.int .i64 (.ofNat e.t),.int .i64 (.ofNat e.s)]
def qs7(n:Nat):List Nat->List T3->List Nat
 |ms,[]=>ms
 |ms,e::l=>qs7 n (oP n ms e.f e.t (decide (e.s=1))) l
def ent(n:Nat)(ms:List Nat)(i k:Nat):List T3:=(if ms.getD (i*n+k) 0%2=1 then[⟨i,k,0⟩]else[])++(if 1<ms.getD (i*n+k) 0 then[⟨i,k,1⟩]else[])
def eR(n:Nat)(ms:List Nat)(i:Nat):Nat->List T3
 |0=>[]
 |k+1=>eR n ms i k++ent n ms i k
def eM(n:Nat)(ms:List Nat):Nat->List T3
 |0=>[]
 |i+1=>eM n ms i++eR n ms i n
theorem zxm(n:Nat)(ms:List Nat)(i k:Nat):(ent n ms i k).length<=2:=by unfold ent;split<;>split<;>simp
theorem zr8(n:Nat)(ms:List Nat)(i:Nat):∀ k,(eR n ms i k).length<=2*k
 |0=>Nat.le_refl _
 |k+1=>by have h1:=zr8 n ms i k;have h2:=zxm n ms i k;simp only[eR,List.length_append];omega
theorem zsa(n:Nat)(ms:List Nat):∀ i,(eM n ms i).length<=2*(i*n)
 |0=>by simp[eM]
 |i+1=>by have h1:=zsa n ms i;have h2:=zr8 n ms i n;simp only[eM,List.length_append,Nat.add_mul,Nat.one_mul];omega
def toE(e:T3):Edge:=⟨e.f,e.t,decide (e.s=1)⟩
def qeg(n:Nat)(ms:List Nat):List Edge:=(eM n ms n).map toE
def tE(X:List aR)(n:Nat)(neg:Bool)(p:SS×SS):T3:=⟨n,cB X p.1 p.2,if neg then 1 else 0⟩
structure OfR(X:List aR)(sv:AV)(cb gb b rb:Nat)(av nv:AV)(N:Nat)(g:bB)(l:List (Nd×AV))(H:Hp):Prop where
 zA:dK H sv X
 x1:H.get cb=aB 0 [sv]
 x3:Rs 2 pC H av (aN X)
 x4:H.get gb=aB 0 [iN N,.sl b 0 (N*N) (N*N) true]
 x6:H.get rb=aB 0 (iI g)
 ty:Rs 2 tC H g.tv g.r.types
 tf:yG g.tv=true
 x8:Rs 5 kE H nv l
theorem zr1{a b:SS}(h:(a,b)∈aN X):cB X a b<(aN X).length:=by unfold cB;simp_all
def tyT(l:List jS):List (SS×SS):=(l.filter fun t=> !decide (t.rl=sE)).map fun t=>(t.sp,t.rl)
theorem zmr{l:List jS}(h:i<l.length):tyT (l.take (i+1))=tyT (l.take i)++if l[i].rl=sE then[]else[(l[i].sp,l[i].rl)]:=by
 unfold tyT;rw[List.take_succ_eq_append_getElem h,List.filter_append,List.map_append,List.filter_cons];by_cases h:l[i].rl=sE
 ·simp[h]
 ·simp[h]
def ndT(X:List aR)(a:SS)(g:bB)(x:Nd):List (SS×SS):=
 if x.k=1 then tyT g.r.types else if x.k=2 then[(a,x.rl)]else if x.k=3 then(tX X a x.rl x.to).map fun s=>(s,x.to)else[]
def ndE(X:List aR)(n:Nat)(a:SS)(g:bB)(x:Nd):List T3:=(ndT X a g x).map (tE X n x.neg)
theorem qu6(hS:wI X)(a b to:SS):(tX X a b to).length<=100:=by
 unfold tX;cases h:oJ X a b with
 |none=>simp
 |some g=>
  refine Nat.le_trans (q0d X to _) ?_;unfold oJ at h;cases h2:X.find? fun g=>decide (g.name=a)with
  |none=>rw[h2]at h;cases h
  |some p=>rw[h2]at h;exact hS.t p (List.mem_of_find?_eq_some h2) g (List.mem_of_find?_eq_some h)
theorem qk1{a b:SS}{g:bB}(h:oJ X a b=some g):∃ p∈X,g∈p.gs/\p.name=a/\g.r.name=b:=by
 unfold oJ at h;cases h2:X.find? fun g=>decide (g.name=a)with
 |none=>rw[h2]at h;cases h
 |some p=>rw[h2]at h;exact⟨p,List.mem_of_find?_eq_some h2,List.mem_of_find?_eq_some h,by simpa using List.find?_some h2,by simpa using List.find?_some h⟩
structure OfW(X:List aR):Prop where
 sm:wI X
 n:(aN X).length<=256
 at':∀ i (h:i<(aN X).length),∃g,oJ X (aN X)[i].1 (aN X)[i].2=some g/\g.r.rule.depth<=12/\g.r.rule.size<=10000/\∀ x∈g.r.rule.nodes false,∀p∈ndT X (aN X)[i].1 g x,p∈aN X
def tsN(X:List aR)(n:Nat):List T3:=match(aN X)[n]? with
 |none=>[]
 |some p=>match oJ X p.1 p.2 with
  |none=>[]
  |some g=>(g.r.rule.nodes false).flatMap (ndE X n p.1 g)
def tsG(X:List aR)(m:Nat):List T3:=(List.range m).flatMap (tsN X)
def nmL:List SS:=[sU,bV 0,bV 1,bV 2,eU 0,eU 1,eU 2,eU 3]
def Nm(s:SS):Prop:=s∈nmL
theorem Nm.ne{s:SS}(h:Nm s):¬(s.n=0/\s.a=0):=by
 have:∀ s∈nmL,¬(s.n=0/\s.a=0):=by decide
 exact this s h
structure aY7(c:Ev.Call):Prop where
 r:∀ s,Nm s->∀ H,c (.f 170) [s.v] H=.ok (.bool true) H
 p:∀ s,Nm s->∀ H,c (.f 130) [s.v] H=.ok (.bool true) H
abbrev qbv(C:Nat->Ev.Call):Prop:=∀ k,aY7 (C (k+1))
def Ru.Fit:Ru->Prop
 | .leaf k rl to=>(k=1/\rl=sE/\to=sE)\/(k=2/\Nm rl/\to=sE)\/(k=3/\Nm rl/\Nm to)
 | .node k a b=>(k=4\/k=5\/k=6)/\a.Fit/\b.Fit
theorem qk3(a b c d:Bool):mQ true (gW (fun xs ys=>yF p1 ⟨qg0⟩ 1 xs ys 2 0) (.agg [.bool a,.bool b]) (.agg [.bool c,.bool d]))=.val (.bool (!(a==c&&b==d))):=by cases a<;>cases b<;>cases c<;>cases d<;>rfl
structure vT(H:Hp)(b o:Nat)(cs:List AV):Prop where
 lt:b<H.nx
 at':∀ j (h:j<cs.length),dI (H.get b) (o+j)=.val cs[j]
theorem vT.keep{b o:Nat}(h:vT H b o cs)(hn:H.nx<=H'.nx)(e:H'.get b=H.get b):vT H' b o cs:=⟨Nat.lt_of_lt_of_le h.lt hn,fun j hj=>by rw[e];exact h.at' j hj⟩
theorem vT.fm{b o:Nat}(h:vT H b o cs)(f:Fm No H H'):vT H' b o cs:=h.keep f.nx (f.keep h.lt)
theorem zpm(hC:bA C)(hN:qbv C)(hk:2<=k){b o:Nat}{r:Ru}{P:Nat->Prop}(h4:vT H b o cs)(hr:jR P H r cs)(hf:r.Fit):Ok (C k (.f 141) [.ptr b o] H) fun v H'=>v=iN 0/\Fm No H H':=by
 obtain⟨j,rfl⟩:∃ j,k=j+1+1:=⟨k-2,by omega⟩;rw[(hC (j+1)).zDb];unfold zDb zts;have hlt:=h4.lt;cases r with
 |leaf kd rl to=>
  obtain rfl:cs=lfC kd rl to:=hr;have r0:dI (H.get b) o=.val (.int .u8 (.ofNat kd)):=h4.at' 0 (by simp[lfC]);have r1:dI (H.get b) (o+1)=.val (.str rl.n rl.a):=h4.at' 1 (by simp[lfC]);have r2:dI (H.get b) (o+2)=.val (.str to.n to.a):=h4.at' 2 (by simp[lfC]);have r3:dI (H.get b) (o+3)=.val .aA:=h4.at' 3 (by simp[lfC]);rcases hf with⟨rfl,rfl,rfl⟩|⟨rfl,h1,rfl⟩|⟨rfl,h1,h2⟩
  ·unfold sE at r1 r2;simp(disch:=first|omega|exact ti rfl|simp only[np,nq];first|done|omega)only[go_sem,seval,r0,r1,r2,r3,and_self];unfold qet;simp(disch:=first|omega|exact ti rfl|simp only[np,nq];first|done|omega)only[go_sem,rB,rI,rK,rL,rN,rS,r6,r0,qk3,and_self];unfold qir qlc;exact Ok.ret ⟨rfl,by(repeat(first|exact Fm.refl _ _|assumption|refine Fm.push ?_ _|refine Fm.oV ?_ (by first|omega|simp only[np,nq];omega)|refine Fm.aG ?_ _ _ (by first|omega|simp only[np,nq];omega)))⟩
  ·have n1:=h1.ne;have e1:=(hN j).r rl h1;unfold SS.v at e1;simp(disch:=first|omega|exact ti rfl|simp only[np,nq];first|done|omega)only[go_sem,rB,rI,rK,rL,rN,rS,r6,r0,r1,r2,r3,n1,and_self];unfold qet;simp(disch:=first|omega|exact ti rfl|simp only[np,nq];first|done|omega)only[go_sem,rB,rI,rK,rL,rN,rS,r6,r0,r1,qk3,e1];unfold qir qlc;exact Ok.ret ⟨rfl,by(repeat(first|exact Fm.refl _ _|assumption|refine Fm.push ?_ _|refine Fm.oV ?_ (by first|omega|simp only[np,nq];omega)|refine Fm.aG ?_ _ _ (by first|omega|simp only[np,nq];omega)))⟩
  ·have n1:=h1.ne;have n2:=h2.ne;have e1:=(hN j).r rl h1;have e2:=(hN j).r to h2;unfold SS.v at e1 e2;simp(disch:=first|omega|exact ti rfl|simp only[np,nq];first|done|omega)only[go_sem,seval,r0,r1,r2,r3,n1,n2];unfold qet;simp(disch:=first|omega|exact ti rfl|simp only[np,nq];first|done|omega)only[go_sem,rB,rI,rK,rL,rN,rS,r6,r0,r1,r2,qk3,e1,e2];unfold qir qlc;exact Ok.ret ⟨rfl,by(repeat(first|exact Fm.refl _ _|assumption|refine Fm.push ?_ _|refine Fm.oV ?_ (by first|omega|simp only[np,nq];omega)|refine Fm.aG ?_ _ _ (by first|omega|simp only[np,nq];omega)))⟩
 |node kd x y=>
  obtain⟨bl,ca,cb,rfl,hbl,hPb,kb,hca,hcb⟩:=hr;have r0:dI (H.get b) o=.val (.int .u8 (.ofNat kd)):=h4.at' 0 (by simp);have r1:dI (H.get b) (o+1)=.val (.str 0 0):=h4.at' 1 (by simp);have r2:dI (H.get b) (o+2)=.val (.str 0 0):=h4.at' 2 (by simp);have r3:dI (H.get b) (o+3)=.val (.sl bl 0 2 2 true):=h4.at' 3 (by simp);rcases hf.1 with rfl|rfl|rfl<;>(
   simp(disch:=first|omega|exact ti rfl|simp only[np,nq];first|done|omega)only[go_sem,rB,rI,rK,rL,rN,rS,r6,r0,r1,r2,r3,and_self];unfold qyi;unfold qet;simp(disch:=first|omega|exact ti rfl|simp only[np,nq];first|done|omega)only[go_sem,rB,rI,rK,rL,rN,rS,r6,r0,qk3,and_self];unfold qir qlc;exact Ok.ret ⟨rfl,by(repeat(first|exact Fm.refl _ _|assumption|refine Fm.push ?_ _|refine Fm.oV ?_ (by first|omega|simp only[np,nq];omega)|refine Fm.aG ?_ _ _ (by first|omega|simp only[np,nq];omega)))⟩)
theorem zel(H:Hp)(b o:Nat)(f:FuncId)(x y:List AV):fQ H (.ptr b o) (.fn f x y)=storeAt H b o [.fn f x y] .undef:=id rfl
theorem qw1(call:Ev.Call)(f:FuncId)(c args:List AV)(H:Hp):sD call (.fn f [] c) args H=call (.f f) (args++c) H:=id rfl
theorem aWq(a b:Nat):o8 oO (iN a) [iN b]=.val (iN ((max a b))):=by
 show R0.val (.int .i64 (bif oL (.ofNat a) (.ofNat b)then .ofNat b else .ofNat a))=_;rw[yT];by_cases h:a<b
 ·rw[decide_eq_true (by simp only[Int.ofNat_eq_natCast];omega),Nat.max_eq_right (by omega)];rfl
 ·rw[decide_eq_false (by simp only[Int.ofNat_eq_natCast];omega),Nat.max_eq_left (by omega)];rfl
attribute [go_sem] zel qw1 aWq
structure wS(H:Hp)(nb db fb vb:Nat)(l:List (Nd×AV))(nv:AV)(d:Nat):Prop where
 n:H.get nb=aB 0 [nv]
 d:H.get db=aB 0 [iN d]
 f:H.get fb=aB 0 [iN 0]
 v:H.get vb=aB 0 [.fn 140 [] [.ptr nb 0,.ptr db 0,.ptr fb 0,.ptr vb 0]]
 o:nb<db/\db<fb/\fb<vb/\vb<H.nx
 gl:Gl 5 H nv l.length (l.flatMap kE)
 nin:∀ c,In nv c->vb<c
def WkS(nb db fb:Nat)(nv:AV)(c:Nat):Prop:=c=nb\/c=db\/c=fb\/In nv c
theorem wS.no{nb db fb vb:Nat}{l:List (Nd×AV)}{nv:AV}{d:Nat}(h:wS H nb db fb vb l nv d)(f:Fm No H H'):wS H' nb db fb vb l nv d:=by obtain⟨o1,o2,o3,o4⟩:=h.o;exact⟨(f.keep (by omega)).trans h.n,(f.keep (by omega)).trans h.d,(f.keep (by omega)).trans h.f,(f.keep (by omega)).trans h.v,⟨o1,o2,o3,Nat.lt_of_lt_of_le o4 f.nx⟩,h.gl.no f,h.nin⟩
theorem qu3(hC:bA C)(hj:1<=j){nb db fb vb:Nat}{l:List (Nd×AV)}{nv:AV}{d:Nat}(hI:wS H nb db fb vb l nv d)(hi:i<l.length){x:AV}{xs:List AV}(hx:Gl 1 H x m xs):Ok (qlf (C j) (.ptr nb 0) (iN i) x H) fun r H'=>r=.bool true/\∃ l',wS H' nb db fb vb l' nv d/\l'.map Prod.fst=l.map Prod.fst/\Fm (In nv) H H':=by
 unfold qlf;obtain⟨w,e,hw,_,_⟩:=zi4 hC (k:=j) hj hx;have e0:=hI.n;have ef:=zT (Gl.flat hI.gl) 63;obtain⟨b,o,H',i1,i2,g,f,nx⟩:=hI.gl.set1 hi (j:=3) (by omega) w;rw[zf9 w l i hi]at g;obtain⟨o1,o2,o3,o4⟩:=hI.o;have nn:∀ c,c<=vb->¬ In nv c:=fun c hc h=>by have:=hI.nin c h;omega
 have fin:wS H' nb db fb vb (l.set i (l[i].1,w)) nv d:=⟨(f.get _ (by omega) (nn _ (by omega))).trans hI.n,(f.get _ (by omega) (nn _ (by omega))).trans hI.d,(f.get _ (by omega) (nn _ (by omega))).trans hI.f,(f.get _ (by omega) (nn _ (by omega))).trans hI.v,
  ⟨o1,o2,o3,by omega⟩,by rw[List.length_set];exact g,hI.nin⟩
 simp only[go_sem,e0];refine Ok.y7 e ?_;rcases hw.is with⟨h,_⟩|⟨_,_,_,_,_,h,_⟩
 ·subst h;simp only[go_sem,e0,ef,i1,i2];exact Ok.ret ⟨rfl,_,fin,q0n hi _,f⟩
 ·subst h;simp only[go_sem,e0,ef,i1,i2];exact Ok.ret ⟨rfl,_,fin,q0n hi _,f⟩
def ziv(C:Nat->Ev.Call)(r:Ru)(k:Nat):Prop:=
 ∀(b o lv:Nat) (neg:Bool) (H:Hp) (nb db fb vb:Nat) (l:List (Nd×AV)) (nv:AV) (d:Nat) (cs:List AV),wS H nb db fb vb l nv d->vT H b o cs->jR (· < nb) H r cs->b<nb->lv+r.depth<=9->l.length+r.size<=32->d<=8 ->
  Ok (C k (.f 140) [.ptr b o,iN lv,.bool neg,.ptr nb 0,.ptr db 0,.ptr fb 0,.ptr vb 0] H) fun v H'=>v=.bool true/\∃ l' uG d',wS H' nb db fb vb l' uG d' /\
   l'.map Prod.fst=l.map Prod.fst++r.nodes neg/\d'<=8/\Fm (WkS nb db fb nv) H H'/\∀ c,In uG c->In nv c\/H.nx<=c
theorem ql2(hC:bA C)(hN:qbv C)(hj:2<=j){b o lv:Nat}{nb db fb vb:Nat}{l:List (Nd×AV)}{nv:AV}{d:Nat}{r:Ru}{kd:Nat}{rl to:SS}{av:AV}(hI:wS H nb db fb vb l nv d)(h4:vT H b o [.int .u8 (.ofNat kd),.str rl.n rl.a,.str to.n to.a,av])(hr:jR (· < nb) H r [.int .u8 (.ofNat kd),.str rl.n rl.a,.str to.n to.a,av])(hf:r.Fit)(hb:b<nb)(hlv:lv<=8)(hll:l.length<32)(hd:d<=8){Q:pL}(hg:∀ H' w d',wS H' nb db fb vb (l++[(⟨kd,rl,to,neg⟩,.aA)]) w d'->d'<=8->Fm (WkS nb db fb nv) H H'->(∀c,In w c->H.nx<=c) -> Ok (vq (aF av) H' fun a36 H=>qq8 (C j) (fun x10 H=>.ok x10 H) (fun bY H=>qlf (C j) (.ptr nb 0) (iN (l.length)) bY H) (.ptr b o) (iN lv) (.bool neg) (.ptr nb 0) (.ptr vb 0) a36 .aA (iN 0) H) Q):Ok (zk3 (C j) (.ptr b o) (iN lv) (.bool neg) (.ptr nb 0) (.ptr db 0) (.ptr fb 0) (.ptr vb 0) H) Q:=by
 unfold zk3;obtain⟨o1,o2,o3,o4⟩:=hI.o;have e0:=hI.n;have ed:=hI.d;have ef:=hI.f;have hl:=hI.gl.dA;have h32:¬ l.length=32:=by omega
 have h8:¬ 8<lv:=by omega
 have nn:∀ c,c<=vb->¬ In nv c:=fun c hc h=>by have:=hI.nin c h;omega
 simp(disch:=first|omega|exact ti rfl|simp only[np,nq];first|done|omega)only[go_sem,rB,rI,rK,rL,rN,rS,r6,e0,hl,h32,h8];unfold zay;simp(disch:=first|omega|exact ti rfl|simp only[np,nq];first|done|omega)only[go_sem,rB,rI,rK,rL,rN,rS,r6,ed,ef];have f1:Fm (fun c=>c=db) H (H.put db (aB 0 [iN ((max d lv))])):=(Fm.refl _ _).put _ _ fun _=>rfl;refine Ok.ve (zpm hC hN (k:=j) hj (h4.keep f1.nx (f1.get _ (by omega) (by omega))) (hr.iQ f1 fun c hc h=>by omega) hf) ?_;rintro _ H2 ⟨rfl,f2⟩;have n2:H.nx<=H2.nx:=f2.nx;have d2:H2.get db=aB 0 [iN ((max d lv))]:=(f2.keep (show db<H.nx by omega)).trans (eD _ _ _);have kp2:∀ c,c<H.nx->c≠db->H2.get c=H.get c:=fun c h1 h2=>(f2.keep (show c<H.nx by omega)).trans (dJ _ _ _ _ h2);have f22:=(kp2 fb (by omega) (by omega)).trans ef;simp only[go_sem,f22];unfold qyr;have n22:=(kp2 nb (by omega) (by omega)).trans e0;have v22:=(kp2 vb (by omega) (by omega)).trans hI.v;have hb2:=kp2 b (by omega) (by omega);have r0:dI (H2.get b) o=.val (.int .u8 (.ofNat kd)):=by rw[hb2];exact h4.at' 0 (by simp)
 have r1:dI (H2.get b) (o+1)=.val (.str rl.n rl.a):=by rw[hb2];exact h4.at' 1 (by simp)
 have r2:dI (H2.get b) (o+2)=.val (.str to.n to.a):=by rw[hb2];exact h4.at' 2 (by simp)
 have r3:dI (H2.get b) (o+3)=.val av:=by rw[hb2];exact h4.at' 3 (by simp)
 simp(disch:=omega)only[go_sem,seval,n22,hl,r0,r1,r2];have g2:Gl 5 ((Hp.mk (H2.put fb (aB 0 [iN 0])).t (H2.nx+18)).put (H2.nx+15) (aB 0 [.int .u8 (.ofNat kd),.str rl.n rl.a,.str to.n to.a,.aA,.bool neg])) nv l.length (l.flatMap kE):=by refine hI.gl.keep (show H.nx<=H2.nx+18 by omega) fun c hc hl=>?_;have:=hI.nin c hc;rw[dJ _ _ _ _ (by omega)];show(H2.put fb _).get c=_;rw[dJ _ _ _ _ (by omega)];exact kp2 c hl (by omega)
 obtain⟨H3,e3,g3,q3,f3,n3⟩:=g2.append (k:=1) (w:=72) (x:=[.int .u8 (.ofNat kd),.str rl.n rl.a,.str to.n to.a,.aA,.bool neg]) (by omega) rfl (by omega) (by omega);simp only[nq]at e3 g3 q3 n3 f3;refine Ok.y7 e3 ?_;have kp3:∀ c,c<H2.nx->c≠fb->¬ In nv c->H3.get c=H2.get c:=fun c h1 h2 h3=>by refine(f3.get c (show c<H2.nx+18 by omega) h3).trans ?_;rw[dJ _ _ _ _ (by omega)];show(H2.put fb _).get c=_;rw[dJ _ _ _ _ h2]
 have f33:H3.get fb=aB 0 [iN 0]:=by refine(f3.get fb (show fb<H2.nx+18 by omega) (nn _ (by omega))).trans ?_;rw[dJ _ _ _ _ (by omega)];exact eD _ _ _
 have n33:=(kp3 nb (by omega) (by omega) (nn _ (by omega))).trans n22;have d33:=(kp3 db (by omega) (by omega) (nn _ (by omega))).trans d2;have v33:=(kp3 vb (by omega) (by omega) (nn _ (by omega))).trans v22;have hb3:=kp3 b (by omega) (by omega) (nn _ (by omega));have r33:dI (H3.get b) (o+3)=.val av:=by rw[hb3];exact r3
 simp(disch:=omega)only[go_sem,seval,n33,r33];refine hg _ _ (max d lv) ⟨eD _ _ _,?_,?_,?_,⟨o1,o2,o3,show vb<H3.nx by omega⟩,?_,?_⟩ (by omega) ⟨show H.nx<=H3.nx by omega,fun c hc hs=>?_⟩ ?_
 ·rw[dJ _ _ _ _ (by omega)];exact d33
 ·rw[dJ _ _ _ _ (by omega)];exact f33
 ·rw[dJ _ _ _ _ (by omega)];exact v33
 ·rw[List.length_append,List.flatMap_append,List.flatMap_singleton];exact g3.keep (Nat.le_refl _) fun c hc _=>by obtain⟨_,_,_,_,hc⟩:=hc;injection hc with hc;rw[dJ _ _ _ _ (by omega)]
 ·rintro c ⟨_,_,_,_,hc⟩;injection hc with hc;omega
 ·unfold WkS at hs;rw[dJ _ _ _ _ (fun h=>hs (.inl h))];exact(kp3 c (by omega) (fun h=>hs (.inr (.inr (.inl h)))) fun h=>hs (.inr (.inr (.inr h)))).trans (kp2 c hc fun h=>hs (.inr (.inl h)))
 ·rintro c ⟨_,_,_,_,hc⟩;injection hc with hc;omega
theorem qpo(hC:bA C){r:Ru}(hR:ziv C r j){g:AV->pD}{Q:pL}{b o lv bl kd t d nb db fb vb:Nat}{l:List (Nd×AV)}{nv x:AV}{xs ca cb cc:List AV}(hI:wS H nb db fb vb l nv d)(hx:Gl 1 H x t xs)(ht:t<2)(hxd:∀ c,In x c->vb<c/\¬ In nv c)(h4:vT H b o [.int .u8 (.ofNat kd),.str 0 0,.str 0 0,.sl bl 0 2 2 true])(hb:b<nb)(hbl:bl<nb)(kb:H.get bl=aB 0 (ca++cb))(la:ca.length=4)(lb:cb.length=4)(hcc:cc=if t=0 then ca else cb)(hrc:jR (· < nb) H r cc)(hlv:lv+1+r.depth<=9)(hll:l.length+r.size<=32)(hd:d<=8)(hg:∀(x':AV) (H':Hp) (l':List (Nd×AV)) (uG:AV) (d':Nat) (xs':List AV),wS H' nb db fb vb l' uG d'->l'.map Prod.fst=l.map Prod.fst++r.nodes (neg||(decide (kd=6)&&decide (t=1)))->d'<=8 -> Fm (fun c=>WkS nb db fb nv c\/In x c) H H'->(∀c,In uG c->In nv c\/H.nx<=c)->Gl 1 H' x' (t+1) xs'->(∀c,In x' c->vb<c/\¬ In uG c/\H.nx<=c)->Ok (g x' (iN ((t+1))) H') Q):Ok (qys (C j) qr g (.ptr b o) (iN lv) (.bool neg) (.ptr nb 0) (.ptr vb 0) x (iN t) H) Q:=by
 unfold qys;obtain⟨o1,o2,o3,o4⟩:=hI.o;have e0:=hI.n;have hl:=hI.gl.dA;simp(disch:=first|omega|exact ti rfl|simp only[np,nq];first|done|omega)only[go_sem,rB,rI,rK,rL,rN,rS,r6,e0,hl];have fp:Fm No H (aS H (aB 0 [iN (l.length)])):=by exact lT
 obtain⟨H2,e2,g2,q2,f2,n2⟩:=(hx.no fp).append (k:=1) (w:=8) (x:=[iN (l.length)]) (by omega) rfl (by omega) (by omega);simp only[np]at n2;refine Ok.veE e2 ?_;have fA:Fm (In x) H H2:=(fp.mono (T:=In x) (fun _ _ h=>absurd h id)).then f2 fun _ _ h=>h;have kp:∀ c,c<H.nx->¬ In x c->H2.get c=H.get c:=fun c h1 h2=>fA.get c h1 h2;have nix:∀ c,c<=vb->¬ In x c:=fun c hc h=>by have:=(hxd c h).1;omega
 have I2:wS H2 nb db fb vb l nv d:=⟨(kp _ (by omega) (nix _ (by omega))).trans hI.n,(kp _ (by omega) (nix _ (by omega))).trans hI.d,(kp _ (by omega) (nix _ (by omega))).trans hI.f,(kp _ (by omega) (nix _ (by omega))).trans hI.v,⟨o1,o2,o3,by omega⟩,
  hI.gl.keep fA.nx (fun c hc hl=>kp c hl fun h=>(hxd c h).2 hc),hI.nin⟩
 have v2:=I2.v;have hb2:=kp b (by omega) (nix _ (by omega));have r0:dI (H2.get b) o=.val (.int .u8 (.ofNat kd)):=by rw[hb2];exact h4.at' 0 (by simp)
 have r3:dI (H2.get b) (o+3)=.val (.sl bl 0 2 2 true):=by rw[hb2];exact h4.at' 3 (by simp)
 have kb2:=(kp bl (by omega) (nix _ (by omega))).trans kb;have a4:vT H2 bl (t*4) cc:=⟨by omega,fun i hi=>by
  rw[kb2,qb6];have:(ca++cb)[t*4+i]? =some cc[i]:=by
   by_cases h0:t=0
   ·subst h0;subst hcc;rw[Nat.zero_mul,Nat.zero_add,List.getElem?_append_left (by omega),List.getElem?_eq_getElem hi]
   ·have h1:t=1:=by omega
    subst h1;subst hcc;rw[List.getElem?_append_right (by omega),show 1*4+i-ca.length=i by omega,List.getElem?_eq_getElem hi]
  rw[this]⟩
 have aWy:jR (· < nb) H2 r cc:=hrc.iQ fA fun c hc=>nix c (by omega);have call:∀ n:Bool,Ok (C j (.f 140) [.ptr bl (t*4),iN ((lv+1)),.bool n,.ptr nb 0,.ptr db 0,.ptr fb 0,.ptr vb 0] H2) _:=fun n=>hR bl (t*4) (lv+1) n H2 nb db fb vb l nv d cc I2 a4 aWy hbl (by omega) hll hd;have fin:∀(n:Bool),n=(neg||(decide (kd=6)&&decide (t=1)))->∀(H3:Hp) (l':List (Nd×AV)) (uG:AV) (d':Nat),wS H3 nb db fb vb l' uG d'->l'.map Prod.fst=l.map Prod.fst++r.nodes n->d'<=8->Fm (WkS nb db fb nv) H2 H3->(∀c,In uG c->In nv c\/H2.nx<=c) ->
   Ok (g (.sl (aS H (aB 0 [iN (l.length)])).nx 0 (t+1) (t+1) false) (iN ((t+1))) H3) Q:=by
  rintro _ rfl H3 l' uG d' tQ hl3 hd3 f3 w9;have hnew:¬ WkS nb db fb nv (H.nx+1):=fun h=>by
   rcases h with h|h|h|h
   ·omega
   ·omega
   ·omega
   ·have:=hI.gl.lt h;omega
  refine hg _ H3 l' uG d' _ tQ hl3 hd3 ((fA.mono fun _ _ h=>.inr h).then f3 fun _ _ h=>.inl h) (fun c hc=>?_) (g2.keep f3.nx fun c hc hlt=>f3.get c hlt fun h=>?_) fun c hc=>?_
  ·rcases w9 c hc with h|h
   ·exact .inl h
   ·omega
  ·obtain⟨_,_,_,_,hc⟩:=hc;injection hc with hc;rw[np]at hc;simp_all
  ·obtain⟨_,_,_,_,hc⟩:=hc;injection hc with hc;rw[np]at hc;refine⟨by omega,fun h=>?_,by omega⟩;rcases w9 c h with h|h
   ·have:=hI.gl.lt h;omega
   ·omega
 cases neg
 ·by_cases h6:kd=6
  ·have h6t:=eq_true h6;simp(disch:=omega)only[go_sem,v2,r0,r3,h6t];refine Ok.mY (call (decide (t=1))) ?_;rintro _ H3 ⟨rfl,l',uG,d',tQ,hl3,hd3,f3,w9⟩;simp only[go_sem];unfold qq7;simp(disch:=omega)only[go_sem];exact fin (decide (t=1)) (by simp[h6]) H3 l' uG d' tQ hl3 hd3 f3 w9
  ·simp(disch:=omega)only[go_sem,v2,r0,r3,h6];refine Ok.mY (call false) ?_;rintro _ H3 ⟨rfl,l',uG,d',tQ,hl3,hd3,f3,w9⟩;unfold qq7;simp(disch:=omega)only[go_sem];exact fin false (by simp[h6]) H3 l' uG d' tQ hl3 hd3 f3 w9
 ·simp(disch:=omega)only[go_sem,v2,r0,r3];refine Ok.mY (call true) ?_;rintro _ H3 ⟨rfl,l',uG,d',tQ,hl3,hd3,f3,w9⟩;unfold qq7;simp(disch:=omega)only[go_sem];exact fin true (by simp) H3 l' uG d' tQ hl3 hd3 f3 w9
theorem w37(call:Ev.Call)(qr:pD)(q:pD)(a b c d e f:AV)(n:Nat):qq6 call qr q a b c d e f (n+1)=qis call qr q a b c d e f (qq6 call qr q a b c d e f n):=rfl
theorem zmo(hC:bA C)(hN:qbv C):∀(r:Ru) (k:Nat),r.Fit->r.depth+2<=k->ziv C r k:=by
 intro r
 induction r with
 |leaf kd rl to=>intro k hf hk b o lv neg H nb db fb vb l nv d cs hI h4 hr hb hlv hll hd;unfold Ru.depth at hk hlv;unfold Ru.size at hll;obtain⟨j,rfl⟩:∃ j,k=j+1:=⟨k-1,by omega⟩;rw[(hC j).zCo];have hcs:cs=lfC kd rl to:=hr;subst hcs;refine ql2 hC hN (r:=.leaf kd rl to) (by omega) hI h4 hr hf hb (by omega) (by omega) hd fun H' w d' hI' hd' f' hw=>?_;unfold qq8;obtain⟨m,hm⟩:∃ m,cK=m+1:=⟨999999,by rw[dM]⟩;rw[dH,hm];simp only[go_sem];rw[w37];unfold qis;refine(qu3 hC (j:=j) (by omega) hI' (i:=l.length) (by simp) (Gl.nil 1 H')).mono ?_;rintro r H2 ⟨rfl,l',hI2,hl2,f2⟩;refine⟨rfl,l',w,d',hI2,by rw[hl2];simp[Ru.nodes],hd',f'.then f2 fun c hc h=>?_,fun c hc=>.inr (hw c hc)⟩;have:=hw c h;omega
 |node kd x y ihx ihy=>
  intro k hf hk b o lv neg H nb db fb vb l nv d cs hI h4 hr hb hlv hll hd;unfold Ru.depth at hk hlv;unfold Ru.size at hll;obtain⟨j,rfl⟩:∃ j,k=j+1:=⟨k-1,by omega⟩;rw[(hC j).zCo];have hr':=hr;obtain⟨bl,ca,cb,rfl,hbl,hPb,kb,hca,hcb⟩:=hr;have la:ca.length=4:=by obtain⟨_,_,_,_,h⟩:=hca.four;rw[h];rfl
  have lb:cb.length=4:=by obtain⟨_,_,_,_,h⟩:=hcb.four;rw[h];rfl
  refine ql2 hC hN (r:=.node kd x y) (rl:=sE) (to:=sE) (by omega) hI h4 hr' hf hb (by omega) (by omega) hd fun H1 w d1 hI1 hd1 f1 hw=>?_;obtain⟨o1,o2,o3,o4⟩:=hI.o;have nS:∀ c,c<nb->¬ WkS nb db fb nv c:=fun c hc h=>by
   rcases h with h|h|h|h
   ·omega
   ·omega
   ·omega
   ·have:=hI.nin c h;omega
  unfold qq8;obtain⟨m,hm⟩:∃ m,cK=m+3:=⟨999997,by rw[dM]⟩;rw[dH,hm];simp only[go_sem];rw[w37];unfold qis;simp only[go_sem];have nn:∀ c,¬In AV.aA c:=fun c h=>by obtain⟨_,_,_,_,h⟩:=h;cases h
  have l1:(l++[((⟨kd,sE,sE,neg⟩:Nd),AV.aA)]).length=l.length+1:=by simp
  refine qpo hC (r:=x) (t:=0) (ca:=ca) (cb:=cb) (cc:=ca) (ihx j hf.2.1 (by omega)) hI1 (Gl.nil 1 H1) (by omega) (fun c h=>absurd h (nn c)) (h4.keep f1.nx (f1.get _ (by omega) (nS _ hb))) hb hPb ((f1.get _ hbl (nS _ hPb)).trans kb) la lb rfl (hca.iQ f1 fun c hc=>nS c hc) (by omega) (by rw[l1];omega) hd1 ?_;intro x2 H2 l2 nv2 d2 xs2 hI2 hl2 hd2 f2 hn2 gx2 hx2;have l2n:l2.length=l.length+1+x.size:=by have:=congrArg List.length hl2;simp only[List.length_map,List.length_append,List.length_cons,List.length_nil,qb7]at this;omega
  have n1:=f1.nx;have n2:=f2.nx;have nS2:∀ c,c<nb->¬(WkS nb db fb w c\/In AV.aA c):=fun c hc h=>by
   rcases h with(h|h|h|h)|h
   ·omega
   ·omega
   ·omega
   ·have:=hI1.nin c h;omega
   ·exact nn c h
  rw[w37];unfold qis;simp only[go_sem];refine qpo hC (r:=y) (t:=1) (ca:=ca) (cb:=cb) (cc:=cb) (ihy j hf.2.2 (by omega)) hI2 gx2 (by omega) (fun c h=>⟨(hx2 c h).1,(hx2 c h).2.1⟩) ((h4.keep f1.nx (f1.get _ (by omega) (nS _ hb))).keep n2 (f2.get _ (by omega) (nS2 _ hb))) hb hPb ((f2.get _ (by omega) (nS2 _ hPb)).trans ((f1.get _ hbl (nS _ hPb)).trans kb)) la lb rfl ((hcb.iQ f1 fun c hc=>nS c hc).iQ f2 fun c hc=>nS2 c hc) (by omega) (by omega) hd2 ?_;intro x3 H3 l3 nv3 d3 xs3 tQ hl3 hd3 f3 w9 gx3 hx3;rw[w37];unfold qis;have l3n:l3.length=l2.length+y.size:=by have:=congrArg List.length hl3;simp only[List.length_map,List.length_append,qb7]at this;omega
  have aCZ:∀ c,In nv3 c->H.nx<=c:=fun c hc=>by
   rcases w9 c hc with h|h
   ·rcases hn2 c h with h|h
    ·exact hw c h
    ·omega
   ·omega
  refine(qu3 hC (j:=j) (by omega) tQ (i:=l.length) (by omega) gx3).mono ?_;rintro r H4 ⟨rfl,l',hI4,hl4,f4⟩;refine⟨rfl,l',nv3,d3,hI4,?_,hd3,((f1.then f2 fun c hc h=>?_).then f3 fun c hc h=>?_).then f4 fun c hc h=>?_,fun c hc=>.inr (aCZ c hc)⟩
  ·rw[hl4,hl3,hl2];simp[Ru.nodes]
  ·rcases h with(h|h|h|h)|h
   ·exact .inl h
   ·exact .inr (.inl h)
   ·exact .inr (.inr (.inl h))
   ·have:=hw c h;omega
   ·simp_all
  ·rcases h with(h|h|h|h)|h
   ·exact .inl h
   ·exact .inr (.inl h)
   ·exact .inr (.inr (.inl h))
   ·rcases hn2 c h with h|h
    ·have:=hw c h;omega
    ·omega
   ·have:=(hx2 c h).2.2;omega
  ·have:=aCZ c h;omega
theorem zpx(hC:bA C)(hk:1<=k){v:AV}(h:Gl 5 H v n l):∃w,C k (.f 142) [v] H=.ok w H/\Gl 5 H w n l/\iC w=.val (iN n)/\(∀b,In w b->In v b):=by obtain⟨j,rfl⟩:=aX hk;obtain⟨w,e,h1,h2,h3⟩:=h.clip;refine⟨w,?_,h1,h2,h3⟩;rw[(hC j).zCp];unfold zCp zt2;simp only[go_sem,h.dA,e]
structure Ru.Rt(r:Ru):Prop where
 fit:r.Fit
 dp:r.depth<=8
 sz:r.size<=32
theorem zd8(hC:bA C)(hN:qbv C)(hk:12<=k){r:Ru}{P:Nat->Prop}(h4:vT H b 0 cs)(hr:jR P H r cs)(hf:r.Rt):Ok (C k (.f 110) [.ptr b 0] H) fun v H'=>∃ nv l d,v=.aY [nv,iN d,iN 0]/\Ac 5 kE H H' nv l/\l.map Prod.fst=r.nodes false:=by
 obtain⟨j,rfl⟩:=aX hk;rw[(hC j).zBw];unfold zBw zuj;simp(disch:=first|omega|exact ti rfl)only[go_sem,seval];generalize hH1:(aS ((aS (aS (aS H (aB 0 [.aA])) (aB 0 [iN 0])) (aB 0 [iN 0])).put (H.nx+1+1) (aB 0 [iN 0])) (aB 0 [.jF])).put (H.nx+1+1+1) (aB 0 [.fn 140 [] [.ptr H.nx 0,.ptr (H.nx+1) 0,.ptr (H.nx+1+1) 0,.ptr (H.nx+1+1+1) 0]])=H1;have f1:Fm No H H1:=by rw[<-hH1];repeat first|exact Fm.refl _ _|assumption|refine Fm.push ?_ _|refine Fm.aG ?_ _ _ (by omega)
 have n1:H1.nx=H.nx+4:=by rw[<-hH1];rfl
 have k0:H1.get H.nx=aB 0 [.aA]:=by rw[<-hH1];simp(disch:=first|omega|exact ti rfl|simp only[np,nq];first|done|omega)only[go_sem,seval]
 have k1:H1.get (H.nx+1)=aB 0 [iN 0]:=by rw[<-hH1];simp(disch:=first|omega|exact ti rfl|simp only[np,nq];first|done|omega)only[go_sem,seval]
 have k2:H1.get (H.nx+1+1)=aB 0 [iN 0]:=by rw[<-hH1];simp(disch:=first|omega|exact ti rfl|simp only[np,nq];first|done|omega)only[go_sem,seval]
 have k3:H1.get (H.nx+1+1+1)=aB 0 [.fn 140 [] [.ptr H.nx 0,.ptr (H.nx+1) 0,.ptr (H.nx+1+1) 0,.ptr (H.nx+1+1+1) 0]]:=by rw[<-hH1];exact eD _ _ _
 have hI:wS H1 H.nx (H.nx+1) (H.nx+1+1) (H.nx+1+1+1) [] .aA 0:=⟨k0,k1,k2,k3,⟨by omega,by omega,by omega,by omega⟩,Gl.nil 5 _,fun c h=>by obtain⟨_,_,_,_,h⟩:=h;cases h⟩;have hlt:=h4.lt;have hr2:jR (· < H.nx) H1 r cs:=(hr.mono (Q:=fun c=>c<H.nx) fun c h _=>h).fm f1;refine Ok.ve (zmo hC hN r j hf.fit (by have:=hf.dp;omega) b 0 1 false H1 _ _ _ _ [] .aA 0 cs hI (h4.fm f1) (hr2) hlt (by have:=hf.dp;omega) (by have:=hf.sz;simpa using this) (by omega)) ?_;rintro _ H2 ⟨rfl,l,nv,d,hI2,hl2,hd2,f2,hn2⟩;have e0:=hI2.n;have ed:=hI2.d;have ef:=hI2.f;unfold zbl;simp only[go_sem,ef];unfold zbm;obtain⟨w,e,hw,_,hwi⟩:=zpx hC (k:=j) (by omega) hI2.gl;have hfl:=zT (Gl.flat hI2.gl) 63;simp only[go_sem,e0,ed];refine Ok.y7 e ?_;have fA:Fm No H H2:=f1.then f2 fun c hc h=>by
  rcases h with h|h|h|⟨_,_,_,_,h⟩
  ·omega
  ·omega
  ·omega
  ·cases h
 have inw:∀ c,In w c->H.nx+4<=c:=fun c hc=>by
  rcases hn2 c (hwi c hc)with⟨_,_,_,_,h⟩|h
  ·cases h
  ·omega
 have gk:∀(x y:bM),Gl 5 ((H2.put H.nx x).put (H.nx+1) y) w l.length (l.flatMap kE):=fun x y=>hw.keep (Nat.le_refl _) fun c hc _=>by have:=inw c hc;rw[dJ _ _ _ _ (by omega),dJ _ _ _ _ (by omega)]
 have fk:∀(x y:bM),Fm No H ((H2.put H.nx x).put (H.nx+1) y):=fun x y=>(fA.aG _ _ (by omega)).aG _ _ (by omega);rcases hw.is with⟨h,_⟩|⟨_,_,_,_,_,h,_⟩
 ·subst h;simp(disch:=omega)only[go_sem,seval,e0,ed,hfl];exact Ok.ret ⟨_,l,d,rfl,⟨gk _ _,fk _ _,fun c hc=>by have:=inw c hc;omega⟩,by simpa using hl2⟩
 ·subst h;simp(disch:=omega)only[go_sem,seval,e0,ed,hfl];exact Ok.ret ⟨_,l,d,rfl,⟨gk _ _,fk _ _,fun c hc=>by have:=inw c hc;omega⟩,by simpa using hl2⟩
theorem vT.push:vT (aS H (aB 0 cs)) H.nx 0 cs:=⟨by rw[np];omega,fun j h=>by rw[lI,qb6,Nat.zero_add,List.getElem?_eq_getElem h]⟩
theorem qns(hC:bA C)(hN:qbv C)(hk:13<=k){r:Ru}{P:Nat->Prop}(hr:jR P H r cs)(hf:r.Rt):Ok (C k (.f 85) [.agg cs] H) fun v H'=>∃ nv l,v=.aY [nv,iN 0]/\Ac 5 kE H H' nv l/\l.map Prod.fst=r.nodes false:=by
 obtain⟨j,rfl⟩:=aX hk;rw[(hC j).zBk];unfold zBk zuu;obtain⟨c0,c1,c2,c3,hcs⟩:=hr.four;subst hcs;have f:Fm No H (aS H (aB 0 [c0,c1,c2,c3])):=by exact lT
 refine Ok.ve (zd8 hC hN (k:=j) (by omega) vT.push (hr.fm f) hf) ?_;rintro _ H1 ⟨nv,l,d,rfl,ha,hl⟩;exact Ok.ret ⟨nv,l,rfl,ha.trans f,hl⟩
theorem q8b(hC:bA C)(hN:qbv C)(hk:13<=k){r:Ru}{P:Nat->Prop}(hr:jR P H r cs)(hf:r.Rt):Ok (C k (.f 165) [.agg cs] H) fun v H'=>v=iN 0/\Fm No H H':=by
 obtain⟨j,rfl⟩:=aX hk;rw[(hC j).zCx];unfold zCx ztw;obtain⟨c0,c1,c2,c3,hcs⟩:=hr.four;subst hcs;have f:Fm No H (aS H (aB 0 [c0,c1,c2,c3])):=by exact lT
 refine Ok.ve (zd8 hC hN (k:=j) (by omega) vT.push (hr.fm f) hf) ?_;rintro _ H1 ⟨nv,l,d,rfl,ha,hl⟩;exact Ok.ret ⟨rfl,f.trans ha.fm⟩
structure wF(X:List aR):Prop where
 n:X.length<=16
 r:∀ g∈X,g.gs.length<=16/\Nm g.name
 x:∀ g∈X,∀x∈g.gs,x.r.types.length<=8/\Nm x.r.name/\x.r.rule.Rt/\∀ t∈x.r.types,Nm t.sp/\(t.rl=sE\/Nm t.rl)
theorem wF.sml(h:wF X):wI X:=⟨by have:=h.n;omega,fun g hg=>by have:=(h.r g hg).1;omega,fun g hg x hx=>by have:=(h.x g hg x hx).1;omega⟩
theorem qmm(hN:qbv C){j:Nat}(hj:1<=j){ts:List jS}{tv:AV}{Hb:Hp}(ht:Rs 2 tC Hb tv ts)(htl:ts.length<=8)(hnm:∀ t∈ts,Nm t.sp/\(t.rl=sE\/Nm t.rl)){Q:pL}{q:pH}{qr:pD}(hq:∀ H,Fm No Hb H->Ok (q H) Q):∀(k i:Nat) (H:Hp),i<=ts.length->ts.length-i<k->Fm No Hb H->Ok (q2o (C j) qr q tv (iN (ts.length)) k (iN i) H) Q
 |0,i,_,_,h,_=>by omega
 |k+1,i,H,hi,hk,hf=>by
  show Ok (za2 (C j) _ _ _ _ (q2o (C j) _ _ _ _ k) _ H) Q;unfold za2;obtain⟨m,rfl⟩:∃ m,j=m+1:=⟨j-1,by omega⟩;by_cases hlt:i<ts.length
  ·simp only[go_sem,hlt];unfold za1;have h1:=ht.fm hf;obtain⟨b1,o1,e1,e2,_,e3,e4⟩:=h1.at' i hlt;have hn:=hnm ts[i] (List.getElem_mem hlt);have m1:=(hN m).p _ hn.1;unfold tC SS.v at e3;unfold SS.v at m1;by_cases hz:ts[i].rl.n=0/\ts[i].rl.a=0
   ·have hzt:=eq_true hz;simp(disch:=first|omega|exact ti rfl)only[go_sem,seval,e1,e3,m1,hzt];unfold qyt;simp(disch:=first|omega|exact ti rfl|simp only[np,nq];first|done|omega)only[go_sem,rB,rI,rK,rL,rN,rS,r6];exact qmm hN hj ht htl hnm hq k (i+1) _ (by omega) (by omega) (hf.trans (by(repeat(first|exact Fm.refl _ _|assumption|refine Fm.push ?_ _|refine Fm.oV ?_ (by first|omega|simp only[np,nq];omega)|refine Fm.aG ?_ _ _ (by first|omega|simp only[np,nq];omega)))))
   ·have m2:=(hN m).p ts[i].rl (by
     rcases hn.2 with h|h
     ·exact absurd ((tO _ _).1 h) hz
     ·exact h)
    unfold SS.v at m2;simp(disch:=first|omega|exact ti rfl)only[go_sem,seval,e1,e3,m1,hz,m2];unfold qyt;simp(disch:=first|omega|exact ti rfl|simp only[np,nq];first|done|omega)only[go_sem,rB,rI,rK,rL,rN,rS,r6];exact qmm hN hj ht htl hnm hq k (i+1) _ (by omega) (by omega) (hf.trans (by(repeat(first|exact Fm.refl _ _|assumption|refine Fm.push ?_ _|refine Fm.oV ?_ (by first|omega|simp only[np,nq];omega)|refine Fm.aG ?_ _ _ (by first|omega|simp only[np,nq];omega)))))
  ·simp only[go_sem,hlt];exact hq H hf
theorem zyi(hC:bA C)(hN:qbv C)(hk:14<=k){g:bB}(hg:oW H g)(hp:g.r.types.length<=8/\Nm g.r.name/\g.r.rule.Rt/\∀ t∈g.r.types,Nm t.sp/\(t.rl=sE\/Nm t.rl)):Ok (C k (.f 131) [.agg (iI g)] H) fun v H'=>v=iN 0/\Fm No H H':=by
 obtain⟨j,rfl⟩:∃ j,k=j+1+1:=⟨k-2,by omega⟩;rw[(hC (j+1)).zCi];unfold zCi zt8;obtain⟨c0,c1,c2,c3,hcs⟩:=hg.ru.four;have hrc:iI g=[.str g.r.name.n g.r.name.a,g.tv,c0,c1,c2,c3]:=by unfold iI;rw[hcs];rfl
 rw[hrc];have m1:=(hN j).p _ hp.2.1;unfold SS.v at m1;have h8:¬ 8<g.r.types.length:=by omega
 have f:Fm No H (aS H (aB 0 [.str g.r.name.n g.r.name.a,g.tv,c0,c1,c2,c3])):=by exact lT
 have ht:=hg.ty.fm f;have hl:=ht.len;simp(disch:=first|omega|exact ti rfl|simp only[np,nq];first|done|omega)only[go_sem,rB,rI,rK,rL,rN,rS,r6,m1,hl,h8];unfold za0;simp(disch:=first|omega|exact ti rfl|simp only[np,nq];first|done|omega)only[go_sem,rB,rI,rK,rL,rN,rS,r6,hl];unfold zqu;rw[dH];refine qmm hN (by omega) ht hp.1 hp.2.2.2 (fun H2 f2=>?_) cK 0 _ (Nat.zero_le _) (by rw[dM];omega) (Fm.refl _ _);unfold zaz;have k2:H2.get H.nx=aB 0 [.str g.r.name.n g.r.name.a,g.tv,c0,c1,c2,c3]:=(f2.keep (by simp only[np,nq];omega)).trans (lI _ _);simp only[go_sem,k2];have lK:=hg.ru.fm (f.trans f2);rw[hcs]at lK;refine Ok.ve (q8b hC hN (k:=j+1) (by omega) lK hp.2.2.1) ?_;rintro _ H3 ⟨rfl,f3⟩;exact Ok.ret ⟨rfl,(f.trans f2).trans f3⟩
theorem qmp(hC:bA C)(hN:qbv C){j:Nat}(hj:14<=j){g:aR}{Hb:Hp}(hg:SpR Hb g)(hgl:g.gs.length<=16)(hp:∀ x∈g.gs,x.r.types.length<=8/\Nm x.r.name/\x.r.rule.Rt/\∀ t∈x.r.types,Nm t.sp/\(t.rl=sE\/Nm t.rl)){Q:pL}{q:pH}{qr:pD}(hq:∀ H,Fm No Hb H->Ok (q H) Q):∀(k i:Nat) (H:Hp),i<=g.gs.length->g.gs.length-i<k->Fm No Hb H->Ok (qrc (C j) qr q g.rv (iN (g.gs.length)) k (iN i) H) Q
 |0,i,_,_,h,_=>by omega
 |k+1,i,H,hi,hk,hf=>by
  show Ok (qyz (C j) _ _ _ _ (qrc (C j) _ _ _ _ k) _ H) Q;unfold qyz;by_cases hlt:i<g.gs.length
  ·simp only[go_sem,hlt];unfold zbr;have h1:=hg.fm hf;obtain⟨b1,o1,e1,e2,_,_,_,e6⟩:=h1.at' i hlt;have hm:=List.getElem_mem hlt;have hr:=h1.rel _ hm;obtain⟨c0,c1,c2,c3,hcs⟩:=hr.ru.four;have hrc:iI g.gs[i]=[.str g.gs[i].r.name.n g.gs[i].r.name.a,g.gs[i].tv,c0,c1,c2,c3]:=by unfold iI;rw[hcs];rfl
   have f2:Fm No H ((aS H (aB 0 [.str 0 0,.aA,.int .u8 (.ofNat 0),.str 0 0,.str 0 0,.aA])).put H.nx (aB 0 (iI g.gs[i]))):=by exact mO
   have call:=zyi hC hN (k:=j) hj (hr.fm f2) (hp _ hm);rw[hrc]at e6 f2 call;simp(disch:=omega)only[go_sem,seval,e1,e6];refine Ok.ve call ?_;rintro _ H3 ⟨rfl,f3⟩;unfold zbs;simp(disch:=first|omega|exact ti rfl|simp only[np,nq];first|done|omega)only[go_sem,rB,rI,rK,rL,rN,rS,r6];exact qmp hC hN hj hg hgl hp hq k (i+1) _ (by omega) (by omega) ((hf.trans f2).trans f3)
  ·simp only[go_sem,hlt];exact hq H hf
theorem qp1(hC:bA C)(hN:qbv C){j:Nat}(hj:14<=j){sv:AV}{X:List aR}{Hb:Hp}(hX:dK Hb sv X)(hP:wF X){Q:pL}{q:pH}{qr:pD}(hq:∀ H,Fm No Hb H->Ok (q H) Q):∀(k i:Nat) (H:Hp),i<=X.length->X.length-i<k->Fm No Hb H->Ok (qup (C j) qr q sv (iN (X.length)) k (iN i) H) Q
 |0,i,_,_,h,_=>by omega
 |k+1,i,H,hi,hk,hf=>by
  show Ok (zbu (C j) _ _ _ _ (qup (C j) _ _ _ _ k) _ H) Q;unfold zbu;obtain⟨m,rfl⟩:∃ m,j=m+1:=⟨j-1,by omega⟩;have hn:=hP.n;by_cases hlt:i<X.length
  ·simp only[go_sem,hlt];unfold zbp;have h1:=hX.fm hf;obtain⟨b1,o1,e1,e2,_,e3,_⟩:=h1.rs.at' i hlt;have hm:=List.getElem_mem hlt;unfold vP SS.v at e3;have hr:=hP.r _ hm;have m1:=(hN m).p _ hr.2;unfold SS.v at m1;have hsp:=h1.sp _ hm;have hl:=hsp.len;have h16:¬ 16<X[i].gs.length:=by omega
   simp(disch:=first|omega|exact ti rfl|simp only[np,nq];first|done|omega)only[go_sem,rB,rI,rK,rL,rN,rS,r6,e1,e3,m1,hl,h16];unfold zbq;simp(disch:=first|omega|exact ti rfl|simp only[np,nq];first|done|omega)only[go_sem,rB,rI,rK,rL,rN,rS,r6,hl];unfold zbv;rw[dH];have f2:Fm No H ((aS H (aB 0 [.str 0 0,.aA])).put H.nx (aB 0 [.str X[i].name.n X[i].name.a,X[i].rv])):=by exact mO
   refine qmp hC hN hj (hsp.fm f2) hr.1 (hP.x _ hm) (fun H3 f3=>?_) cK 0 _ (Nat.zero_le _) (by rw[dM];omega) (Fm.refl _ _);unfold zbn;simp(disch:=first|omega|exact ti rfl|simp only[np,nq];first|done|omega)only[go_sem,rB,rI,rK,rL,rN,rS,r6];exact qp1 hC hN hj hX hP hq k (i+1) _ (by omega) (by omega) ((hf.trans f2).trans f3)
  ·simp only[go_sem,hlt];exact hq H hf
theorem zi0(hC:bA C)(hN:qbv C)(hk:15<=k)(hX:dK H sv X)(hP:wF X):Ok (C k (.f 107) [.agg [sv]] H) fun v H'=>v=iN 0/\Fm No H H':=by
 obtain⟨j,rfl⟩:=aX hk;rw[(hC j).zBu];unfold zBu zul;have f:Fm No H (aS H (aB 0 [sv])):=by exact lT
 have hl:=hX.rs.len;have hn:=hP.n;have h16:¬ 16<X.length:=by omega
 simp(disch:=first|omega|exact ti rfl|simp only[np,nq];first|done|omega)only[go_sem,rB,rI,rK,rL,rN,rS,r6,hl,h16];unfold zbo;simp(disch:=first|omega|exact ti rfl|simp only[np,nq];first|done|omega)only[go_sem,rB,rI,rK,rL,rN,rS,r6,hl];unfold zqz;rw[dH];refine qp1 hC hN (by omega) (hX.fm f) hP (fun H3 f3=>?_) cK 0 _ (Nat.zero_le _) (by rw[dM];omega) (Fm.refl _ _);exact Ok.ret ⟨rfl,f.trans f3⟩
theorem zhc(e:AV->AV->Option Bool)(k:AV)(i:Nat):yY e k [] i=some none:=rfl
theorem q7i(e:AV->AV->Option Bool)(k:AV)(x:lS)(es:List lS)(i:Nat):yY e k (x::es) i=match e k x.key with|some true=>some (some ⟨i,x⟩)|some false=>yY e k es (i+1)|none=>none:=rfl
def eqPr:AV->AV->Option Bool:=gW (eqFields [(p1,⟨bZ⟩,0),(p1,⟨bZ⟩,1)])
theorem wJ(s t:SS):bZ s.v t.v=some (decide (s=t)):=by show some (Nat.beq s.n t.n&&Nat.beq s.a t.a)=_;rw[beq_eq,beq_eq,<-Bool.decide_and];congr 1;exact decide_eq_decide.2 (tO s t).symm
theorem qt1(p q:SS×SS):eqPr (.agg (pC p)) (.agg (pC q))=some (decide (p=q)):=by
 show andThen (bZ p.1.v q.1.v) (andThen (bZ p.2.v q.2.v) (some true))=_;rw[wJ,wJ];obtain⟨a,b⟩:=p;obtain⟨c,d⟩:=q;by_cases h1:a=c
 ·by_cases h2:b=d
  ·simp[h1,h2,andThen]
  ·simp[h1,h2,andThen]
 ·simp[h1,andThen]
theorem qtz{α:Type}[DecidableEq α]{e:AV->AV->Option Bool}{ky:α->AV}(he:∀ p q,e (ky p) (ky q)=some (decide (p=q)))(p:α):∀(es:List lS) (ps:List α) (i:Nat),es.map lS.key=ps.map ky -> (p∉ps->yY e (ky p) es i=some none)/\(p∈ps->∃ x,es[ps.findIdx fun q=>decide (q=p)]? =some x/\yY e (ky p) es i=some (some ⟨i+ps.findIdx (fun q=>decide (q=p)),x⟩))
 | [],[],i,_=>⟨fun _=>zhc _ _ _,fun h=>by cases h⟩
 | [],_::_,_,h=>by cases h
 |_::_,[],_,h=>by cases h
 |x::es,q::ps,i,h=>by
  injection h with h1 h2;obtain⟨i1,i2⟩:=qtz he p es ps (i+1) h2;rw[q7i,h1,he];by_cases hpq:p=q
  ·subst hpq;refine⟨fun h=>absurd List.mem_cons_self h,fun _=>⟨x,?_,?_⟩⟩
   ·simp[List.findIdx_cons]
   ·simp[List.findIdx_cons]
  ·have hqp:¬ q=p:=fun h=>hpq h.symm;refine⟨fun h=>?_,fun h=>?_⟩
   ·simp_all
   ·have h':p∈ps:=by
     simp_all
    obtain⟨y,y1,y2⟩:=i2 h';refine⟨y,?_,?_⟩
    ·simp[List.findIdx_cons,hqp];exact y1
    ·simp only[hpq,decide_false];rw[y2];simp only[List.findIdx_cons,hqp,decide_false,cond_false];congr 3;omega
structure kY{α:Type}(ky:α->AV)(vl:Nat->Nat)(H:Hp)(b:Nat)(ps:List α):Prop where
 ex:∃ es c,H.get b=.map es c/\es.map lS.key=ps.map ky/\es.map lS.val=(List.range ps.length).map fun i=>iN ((vl i))
theorem kY.eq{α:Type}{ky:α->AV}{vl:Nat->Nat}{ps:List α}(h:kY ky vl H b ps)(e:H'.get b=H.get b):kY ky vl H' b ps:=by obtain⟨es,c,h1,h2,h3⟩:=h.ex;exact⟨es,c,e.trans h1,h2,h3⟩
theorem kY.len{α:Type}{ky:α->AV}{vl:Nat->Nat}{ps:List α}(h:kY ky vl H b ps):xJ H (.map b)=.val (iN (ps.length)):=by
 obtain⟨es,c,h1,h2,h3⟩:=h.ex;have hl:es.length=ps.length:=by have:=congrArg List.length h2;simpa using this
 show(match H.get b with| .map es _=>R0.val (i64 es.length)|_=>.bad)=_;rw[h1,<-hl];rfl
theorem kY.look{α:Type}[DecidableEq α]{ky:α->AV}{vl:Nat->Nat}{ps:List α}(h:kY ky vl H b ps){e:AV->AV->Option Bool}{s:Option Nat}(he:∀ p q,e (ky p) (ky q)=some (decide (p=q)))(hs:∀ p,qhi s (ky p)=true)(z:AV)(ok:Bool)(p:α):qT ⟨e,s⟩ z ok H (.map b) (ky p)=if p∈ps then .val (bif ok then .aY [iN ((vl (ps.findIdx fun q=>decide (q=p)))),.bool true]else iN ((vl (ps.findIdx fun q=>decide (q=p)))))else .val (bif ok then .aY [z,.bool false]else z):=by
 obtain⟨es,c,h1,h2,h3⟩:=h.ex;obtain⟨g1,g2⟩:=qtz he p es ps 0 h2;show(match(match H.get b with| .map es _=>some es|_=>none)with|some es=>zw0 ok z (bif qhi s (ky p)then yY e (ky p) es 0 else none)|none=>.bad)=_;rw[h1,hs];simp only[cond_true];by_cases hp:p∈ps
 ·rw[if_pos hp];obtain⟨x,x1,x2⟩:=g2 hp;rw[x2];have hv:x.val=iN ((vl (ps.findIdx fun q=>decide (q=p)))):=by
   have hlt:(ps.findIdx fun q=>decide (q=p))<ps.length:=by rw[List.findIdx_lt_length];exact⟨p,hp,by simp⟩
   have h4:(es.map lS.val)[ps.findIdx fun q=>decide (q=p)]? =some x.val:=by rw[List.getElem?_map,x1];rfl
   simp_all
  show R0.val (bif ok then .aY [x.val,.bool true]else x.val)=_;rw[hv]
 ·rw[if_neg hp,g1 hp];rfl
theorem kY.upd{α:Type}[DecidableEq α]{ky:α->AV}{vl:Nat->Nat}{ps:List α}(h:kY ky vl H b ps){e:AV->AV->Option Bool}{s:Option Nat}(he:∀ p q,e (ky p) (ky q)=some (decide (p=q)))(hs:∀ p,qhi s (ky p)=true){p:α}(hp:p∉ps):∃k,pR ⟨e,s⟩ H (.map b) (ky p) (iN ((vl ps.length)))=.ok .undef (H.put b k)/\kY ky vl (H.put b k) b (ps++[p]):=by
 obtain⟨es,c,h1,h2,h3⟩:=h.ex;obtain⟨g1,_⟩:=qtz he p es ps 0 h2;refine⟨.map (es++[⟨ky p,iN ((vl ps.length)),c⟩]) (c+1),?_,⟨_,_,eD _ _ _,?_,?_⟩⟩
 ·have hf:qt0 ⟨e,s⟩ (ky p) es=some none:=by
   show(bif qhi s (ky p)then yY e (ky p) es 0 else none)=_;simp_all
  unfold pR;simp_all
 ·simp_all
 ·rw[List.map_append,h3,List.length_append,List.length_singleton,List.range_succ,List.map_append];rfl
theorem kY.nil{α:Type}(ky:α->AV)(vl:Nat->Nat){b c:Nat}(h:H.get b=.map [] c):kY ky vl H b ([]:List α):=⟨[],c,h,rfl,rfl⟩
def kyP(p:SS×SS):AV:=.agg [.str p.1.n p.1.a,.str p.2.n p.2.a]
def kyS(s:SS):AV:=.str s.n s.a
theorem qwg(p q:SS×SS):gW (eqFields [(p1,⟨bZ⟩,0),(p1,⟨bZ⟩,1)]) (kyP p) (kyP q)=some (decide (p=q)):=qt1 p q
theorem zgr(p q:SS):bZ (kyS p) (kyS q)=some (decide (p=q)):=wJ p q
abbrev jC(H:Hp)(b:Nat)(ps:List (SS×SS)):Prop:=kY kyP id H b ps
abbrev rE(H:Hp)(b:Nat)(ss:List SS):Prop:=kY kyS (fun _=>1) H b ss
theorem jC.find{ps:List (SS×SS)}(h:jC H b ps)(z:AV)(x y:SS)(hp:(x,y)∈ps):qT ⟨gW (eqFields [(p1,⟨bZ⟩,0),(p1,⟨bZ⟩,1)]),some 2⟩ z true H (.map b) (.agg [.str x.n x.a,.str y.n y.a])=.val (.aY [iN ((ps.findIdx fun q=>decide (q=(x,y)))),.bool true]):=by have:=h.look (s:=some 2) qwg (fun _=>rfl) z true (x,y);rw[if_pos hp]at this;exact this
theorem jC.aNb{ps:List (SS×SS)}(h:jC H b ps)(z:AV)(x y:SS)(hp:(x,y)∈ps):qT ⟨gW (eqFields [(p1,⟨bZ⟩,0),(p1,⟨bZ⟩,1)]),some 2⟩ z false H (.map b) (.agg [.str x.n x.a,.str y.n y.a])=.val (iN ((ps.findIdx fun q=>decide (q=(x,y))))):=by have:=h.look (s:=some 2) qwg (fun _=>rfl) z false (x,y);rw[if_pos hp]at this;exact this
theorem jC.miss{ps:List (SS×SS)}(h:jC H b ps)(z:AV)(x y:SS)(hp:(x,y)∉ps):qT ⟨gW (eqFields [(p1,⟨bZ⟩,0),(p1,⟨bZ⟩,1)]),some 2⟩ z true H (.map b) (.agg [.str x.n x.a,.str y.n y.a])=.val (.aY [z,.bool false]):=by have:=h.look (s:=some 2) qwg (fun _=>rfl) z true (x,y);rw[if_neg hp]at this;exact this
theorem jC.put{ps:List (SS×SS)}(h:jC H b ps)(x y:SS)(hp:(x,y)∉ps):∃k,pR ⟨gW (eqFields [(p1,⟨bZ⟩,0),(p1,⟨bZ⟩,1)]),some 2⟩ H (.map b) (.agg [.str x.n x.a,.str y.n y.a]) (iN (ps.length))=.ok .undef (H.put b k)/\jC (H.put b k) b (ps++[(x,y)]):=
 h.upd (s:=some 2) qwg (fun _=>rfl) hp
theorem rE.find{ss:List SS}(h:rE H b ss)(z:AV)(x:SS)(hp:x∈ss):qT ⟨bZ,none⟩ z false H (.map b) (.str x.n x.a)=.val (iN 1):=by have:=h.look (s:=none) zgr (fun _=>rfl) z false x;rw[if_pos hp]at this;exact this
theorem rE.miss{ss:List SS}(h:rE H b ss)(z:AV)(x:SS)(hp:x∉ss):qT ⟨bZ,none⟩ z false H (.map b) (.str x.n x.a)=.val z:=by have:=h.look (s:=none) zgr (fun _=>rfl) z false x;rw[if_neg hp]at this;exact this
theorem rE.put{ss:List SS}(h:rE H b ss)(x:SS)(hp:x∉ss):∃k,pR ⟨bZ,none⟩ H (.map b) (.str x.n x.a) (iN 1)=.ok .undef (H.put b k)/\rE (H.put b k) b (ss++[x]):=
 h.upd (s:=none) zgr (fun _=>rfl) hp
def ptC(q:Nat×Nat):List AV:=[.ptr q.1 q.2]
theorem q0y(q:Nat×Nat):(ptC q).length=1:=rfl
def nmC(q:SS×bB):List AV:=[q.1.v]
def kq(q:SS×bB):SS×SS:=(q.1,q.2.r.name)
def gT(X:List aR):List (SS×bB):=X.flatMap fun g=>g.gs.map fun x=>(g.name,x)
theorem yZ(X:List aR):(gT X).map kq=aN X:=by unfold gT aN;rw[List.map_flatMap];congr 1;funext g;rw[List.map_map];rfl
structure PtR(H:Hp)(q:Nat×Nat)(x:bB):Prop where
 lt:q.1<H.nx
 nm:dI (H.get q.1) q.2=.val (.str x.r.name.n x.r.name.a)
 tv:dI (H.get q.1) (q.2+1)=.val x.tv
 ru:fU (H.get q.1) (q.2+2) 4=some x.cs
 all:fU (H.get q.1) q.2 6=some (iI x)
theorem PtR.fm{q:Nat×Nat}{x:bB}(h:PtR H q x)(f:Fm No H H'):PtR H' q x:=by have e:=f.keep h.lt;exact⟨Nat.lt_of_lt_of_le h.lt f.nx,by rw[e];exact h.nm,by rw[e];exact h.tv,by rw[e];exact h.ru,by rw[e];exact h.all⟩
theorem SpR.pt(h:SpR H g)(hi:i<g.gs.length):∃ b o,aJ 6 g.rv (iN i)=.val (.ptr b o)/\PtR H (b,o) g.gs[i]:=by obtain⟨b,o,e1,e2,e3,e4,e5,e6⟩:=h.at' i hi;exact⟨b,o,e1,e2,e3,e4,e5,e6⟩
structure IxI(H0 H:Hp)(ib mb nb:Nat)(sv av iv:AV)(ss:List SS)(rs:List (SS×bB))(qs:List (Nat×Nat)):Prop where
 blk:H.get ib=aB 0 [sv,.map mb,.map nb,av,iv]
 ms:rE H mb ss
 mn:jC H nb (rs.map kq)
 a:Gl 1 H av qs.length (qs.flatMap ptC)
 i:Gl 1 H iv rs.length (rs.flatMap nmC)
 len:qs.length=rs.length
 pt:∀ i (h:i<qs.length) (h':i<rs.length),PtR H0 qs[i] rs[i].2
 o:H0.nx<=mb/\mb<nb/\nb<ib/\ib<H.nx
 an:∀ c,In av c->ib<c/\¬ In iv c
 vN:∀ c,In iv c->ib<c
 fm:Fm No H0 H
theorem q6h(H:Hp)(b o x y:Nat):fQ H (.ptr b o) (.ptr x y)=storeAt H b o [.ptr x y] .undef:=id rfl
theorem q7y(a b:Nat):xP (.ptr a b)=some [.ptr a b]:=id rfl
theorem zzg(a b c d e x:AV):bH [a,b,c,d,e] 3 [x]=[a,b,c,x,e]:=id rfl
theorem zzf(a b c d e x:AV):bH [a,b,c,d,e] 4 [x]=[a,b,c,d,x]:=id rfl
attribute [go_sem] q6h q7y zzg zzf
theorem zw8{g31:pD}{ib mb nb pb:Nat}{sv av iv:AV}{ss:List SS}{rs:List (SS×bB)}{qs:List (Nat×Nat)}(hI:IxI H0 H ib mb nb sv av iv ss rs qs){x:bB}{i b o:Nat}(hrv:aJ 6 g.rv (iN i)=.val (.ptr b o))(hpt:PtR H0 (b,o) x)(hnew:(g.name,x.r.name)∉rs.map kq)(hi:i<1000)(hpb:H.get pb=aB 0 [.str g.name.n g.name.a,g.rv])(hpl:pb<H.nx)(hrl:rs.length<=1000)(hpn:¬ In av pb/\¬ In iv pb/\ib<pb){Q:pL}(hg:∀ H' av' iv',IxI H0 H' ib mb nb sv av' iv' ss (rs++[(g.name,x)]) (qs++[(b,o)])->Fm (fun c=>c=nb\/c=ib\/In av c\/In iv c) H H'->(∀c,In av' c\/In iv' c->H.nx<=c)->Ok (g31 (iN ((i+1))) H') Q):Ok (qy0 call g31 (.ptr ib 0) (.ptr pb 0) (iN i) H) Q:=by
 unfold qy0;obtain⟨o1,o2,o3,o4⟩:=hI.o;have e0:=hI.blk;have p1:=hpt.fm hI.fm;have r0:dI (H.get b) o=.val (.str x.r.name.n x.r.name.a):=p1.nm;have em:=hI.mn.miss (iN 0) g.name x.r.name hnew;have la:=hI.a.dA;have hln:=hI.len;have hfi:=zT (Gl.flat hI.i) 63;simp(disch:=first|omega|exact ti rfl|simp only[np,nq];first|done|omega)only[go_sem,rB,rI,rK,rL,rN,rS,r6,hpb,hrv,e0,r0,em];obtain⟨k,eu,mu⟩:=hI.mn.put g.name x.r.name hnew;rw[List.length_map,<-hln]at eu;simp(disch:=first|omega|exact ti rfl|simp only[np,nq];first|done|omega)only[go_sem,rB,rI,rK,rL,rN,rS,r6,hpb,e0,r0,la];refine Ok.y7 eu ?_;unfold qy1;have kp1:∀ c,c≠nb->(H.put nb k).get c=H.get c:=fun c h=>dJ _ _ _ _ h;have e1:(H.put nb k).get ib=aB 0 [sv,.map mb,.map nb,av,iv]:=(kp1 _ (by omega)).trans e0;have q1:(H.put nb k).get pb=aB 0 [.str g.name.n g.name.a,g.rv]:=(kp1 _ (by omega)).trans hpb;simp only[go_sem,seval,e1,q1];have bAB:∀ c,In iv c->c<H.nx:=fun c hc=>hI.i.lt hc;have g2:Gl 1 ((Hp.mk (H.put nb k).t (H.nx+23)).put (H.nx+7) (aB 0 [.ptr b o])) av qs.length (qs.flatMap ptC):=by refine hI.a.keep (show H.nx<=H.nx+23 by omega) fun c hc hl=>?_;have:=(hI.an c hc).1;rw[dJ _ _ _ _ (by omega)];exact kp1 c (by omega)
 obtain⟨H2,e2,a2,_,f2,n2⟩:=g2.append (k:=1) (w:=8) (x:=[.ptr b o]) (by omega) rfl (by omega) (by omega);simp only[nq]at e2 a2 f2 n2;refine Ok.y7 e2 ?_;have kp2:∀ c,c<H.nx->c≠nb->¬ In av c->H2.get c=H.get c:=fun c h1 h2 h3=>by refine(f2.get c (show c<H.nx+23 by omega) h3).trans ?_;rw[dJ _ _ _ _ (by omega)];exact kp1 c h2
 have aKc:¬ In av ib:=fun h=>by have:=(hI.an ib h).1;omega
 have aWB:¬ In iv ib:=fun h=>by have:=hI.vN ib h;omega
 have aSL:=(kp2 ib (by omega) (by omega) aKc).trans e0;have pb2:=(kp2 pb (by omega) (by omega) hpn.1).trans hpb;simp only[go_sem,seval,aSL,pb2,hfi];have g3:Gl 1 (H2.put (H.nx+15) (aB 0 [.str g.name.n g.name.a])) iv rs.length (rs.flatMap nmC):=by refine hI.i.keep (show H.nx<=H2.nx by omega) fun c hc hl=>?_;have:=hI.vN c hc;rw[dJ _ _ _ _ (by omega)];exact kp2 c hl (by omega) fun h=>(hI.an c h).2 hc
 obtain⟨H3,e3,a3,_,f3,n3⟩:=g3.append (k:=1) (w:=16) (x:=[.str g.name.n g.name.a]) (by omega) rfl (by omega) (by omega);simp only[nq]at e3 a3 f3 n3;refine Ok.y7 e3 ?_;have kp3:∀ c,c<H.nx->c≠nb->¬ In av c->¬ In iv c->H3.get c=H.get c:=fun c h1 h2 h3 h4=>by refine(f3.get c (show c<H2.nx by omega) h4).trans ?_;rw[dJ _ _ _ _ (by omega)];simp_all
 have aZB:=(kp3 ib (by omega) (by omega) aKc aWB).trans e0;simp only[go_sem,seval,aZB];unfold zb1;simp(disch:=first|omega|exact ti rfl|simp only[np,nq];first|done|omega)only[go_sem,rB,rI,rK,rL,rN,rS,r6];have aE0:∀ c,In (.sl (H.nx+23) 0 (qs.length+1) (qs.length+1) false) c->c=H.nx+23:=fun c hc=>by obtain⟨_,_,_,_,hc⟩:=hc;simp_all
 have aDp:∀ c,In (.sl H2.nx 0 (rs.length+1) (rs.length+1) false) c->c=H2.nx:=fun c hc=>by obtain⟨_,_,_,_,hc⟩:=hc;simp_all
 generalize hH4:((H3.put ib (aB 0 [sv,.map mb,.map nb,.sl (H.nx+23) 0 (qs.length+1) (qs.length+1) false,iv])).put ib (aB 0 [sv,.map mb,.map nb,.sl (H.nx+23) 0 (qs.length+1) (qs.length+1) false,.sl H2.nx 0 (rs.length+1) (rs.length+1) false]))=H4;have n4:H4.nx=H3.nx:=by rw[<-hH4];rfl
 have kp4:∀ c,c≠ib->H4.get c=H3.get c:=fun c h=>by rw[<-hH4,dJ _ _ _ _ h,dJ _ _ _ _ h]
 have b4:H4.get ib=aB 0 [sv,.map mb,.map nb,.sl (H.nx+23) 0 (qs.length+1) (qs.length+1) false,.sl H2.nx 0 (rs.length+1) (rs.length+1) false]:=by rw[<-hH4];exact eD _ _ _
 have hmb:H4.get mb=H.get mb:=(kp4 mb (by omega)).trans (kp3 mb (by omega) (by omega) (fun h=>by have:=(hI.an mb h).1;omega) (fun h=>by have:=hI.vN mb h;omega));have hnb:H4.get nb=(H.put nb k).get nb:=by refine(kp4 nb (by omega)).trans ((f3.get nb (show nb<H2.nx by omega) (fun h=>by have:=hI.vN nb h;omega)).trans ?_);rw[dJ _ _ _ _ (by omega)];refine(f2.get nb (show nb<H.nx+23 by omega) (fun h=>by have:=(hI.an nb h).1;omega)).trans ?_;rw[dJ _ _ _ _ (by omega)];rfl
 have fF:Fm (fun c=>c=nb\/c=ib\/In av c\/In iv c) H H4:=⟨by omega,fun c hc hs=>(kp4 c fun h=>hs (.inr (.inl h))).trans (kp3 c hc (fun h=>hs (.inl h)) (fun h=>hs (.inr (.inr (.inl h)))) fun h=>hs (.inr (.inr (.inr h))))⟩;refine hg H4 (.sl (H.nx+23) 0 (qs.length+1) (qs.length+1) false) (.sl H2.nx 0 (rs.length+1) (rs.length+1) false) ⟨b4,hI.ms.eq hmb,?_,?_,?_,?_,?_,⟨o1,o2,o3,by omega⟩,?_,?_,?_⟩ fF ?_
 ·rw[List.map_append];exact mu.eq hnb
 ·rw[List.length_append,List.flatMap_append,List.flatMap_singleton];refine a2.keep (by omega) fun c hc hl=>?_;have:=aE0 c hc;rw[kp4 c (by omega),f3.get c (show c<H2.nx by omega) (fun h=>by have:=bAB c h;omega),dJ _ _ _ _ (by omega)]
 ·rw[List.length_append,List.flatMap_append,List.flatMap_singleton];refine a3.keep (by omega) fun c hc hl=>?_;have:=aDp c hc;exact kp4 c (by omega)
 ·simp[hln]
 ·intro m h1 h2;rw[List.getElem_append,List.getElem_append];split
  ·rename_i h;rw[dif_pos (by omega)];exact hI.pt m h (by omega)
  ·rename_i h;rw[dif_neg (by omega)];simpa using hpt
 ·intro c hc;have:=aE0 c hc;refine⟨by omega,fun h=>?_⟩;have:=aDp c h;omega
 ·intro c hc;have:=aDp c hc;omega
 ·refine hI.fm.then fF fun c hc h=>?_;rcases h with h|h|h|h
  ·omega
  ·omega
  ·have:=(hI.an c h).1;omega
  ·have:=hI.vN c h;omega
 ·intro c hc;rcases hc with hc|hc
  ·have:=aE0 c hc;omega
  ·have:=aDp c hc;omega
theorem qj8{α:Type}{l:List α}(h:l.Nodup)(hi:i<l.length):l[i]∉l.take i:=fun hm=>by obtain⟨j,hj,e⟩:=List.getElem_of_mem hm;rw[List.getElem_take]at e;exact List.pairwise_iff_getElem.1 h j i (by simp at hj;omega) hi (by simp at hj;omega) e
theorem qb8{α β:Type}(g:α->List β)(c:Nat):∀ l:List α,(∀x∈l,(g x).length<=c)->(l.flatMap g).length<=c*l.length
 | [],_=>by simp
 |a::l,h=>by rw[List.flatMap_cons,List.length_append,List.length_cons,Nat.mul_add,Nat.mul_one];have:=qb8 g c l fun x hx=>h x (List.mem_cons_of_mem _ hx);have:=h a List.mem_cons_self;omega
theorem wF.len(h:wF X):(gT X).length<=256:=by
 have:=qb8 (fun g:aR=>g.gs.map fun x=>(g.name,x)) 16 X fun g hg=>by rw[List.length_map];exact(h.r g hg).1
 have:=h.n;unfold gT;omega
def dW(X:List aR)(s:Nat):List (SS×bB):=gT (X.take s)
theorem q4o(X:List aR)(s:Nat):(dW X s).length<=(gT X).length:=by
 unfold dW gT
 conv=>rhs;rw[<-List.take_append_drop s X,List.flatMap_append,List.length_append]
 omega
theorem zfq{s i:Nat}(hs:s<X.length)(hi:i<X[s].gs.length):∃ Z,gT X=(dW X s++(X[s].gs.take i).map fun x=>(X[s].name,x))++(X[s].name,X[s].gs[i])::Z:=by
 refine⟨(X[s].gs.drop (i+1)).map (fun x=>(X[s].name,x))++gT (X.drop (s+1)),?_⟩;have h1:X=X.take s++X[s]::X.drop (s+1):=by rw[<-List.drop_eq_getElem_cons hs,List.take_append_drop]
 have h2:X[s].gs=X[s].gs.take i++X[s].gs[i]::X[s].gs.drop (i+1):=by rw[<-List.drop_eq_getElem_cons hi,List.take_append_drop]
 unfold dW gT
 conv=>lhs;rw[h1,List.flatMap_append,List.flatMap_cons]
 conv=>lhs;rw[h2,List.map_append,List.map_cons]
 simp
theorem q4n(hN:(aN X).Nodup){s i:Nat}(hs:s<X.length)(hi:i<X[s].gs.length):(X[s].name,X[s].gs[i].r.name)∉(dW X s++(X[s].gs.take i).map fun x=>(X[s].name,x)).map kq:=by obtain⟨Z,h⟩:=zfq hs hi;rw[<-yZ,h,List.map_append,List.map_cons]at hN;intro hm;exact(List.nodup_append.1 hN).2.2 _ hm (kq (X[s].name,X[s].gs[i])) List.mem_cons_self rfl
theorem q43{call:Ev.Call}{H0 Hb:Hp}{ib mb nb pb:Nat}{sv:AV}{ss:List SS}{X:List aR}(hX:dK H0 sv X)(hN:(aN X).Nodup)(hL:(gT X).length<=256){s:Nat}(hs:s<X.length)(hgl:X[s].gs.length<=16){Q:pL}{q:pH}(hq:∀ H av iv qs,IxI H0 H ib mb nb sv av iv ss (dW X s++X[s].gs.map fun x=>(X[s].name,x)) qs->Hb.nx<=H.nx->Ok (q H) Q):∀(k i:Nat) (H:Hp) (av iv:AV) (qs:List (Nat×Nat)),i<=X[s].gs.length->X[s].gs.length-i<k->IxI H0 H ib mb nb sv av iv ss (dW X s++(X[s].gs.take i).map fun x=>(X[s].name,x)) qs -> H.get pb=aB 0 [.str X[s].name.n X[s].name.a,X[s].rv]->pb<H.nx->(¬In av pb/\¬ In iv pb/\ib<pb)->Hb.nx<=H.nx -> Ok (qrd call q (.ptr ib 0) (.ptr pb 0) (iN (X[s].gs.length)) k (iN i) H) Q
 |0,i,_,_,_,_,_,h,_,_,_,_,_=>by omega
 |k+1,i,H,av,iv,qs,hi,hk,hI,hpb,hpl,hpn,hbn=>by
  show Ok (qy3 call _ _ _ _ (qrd call _ _ _ _ k) _ H) Q;unfold qy3;by_cases hlt:i<X[s].gs.length
  ·simp only[go_sem,hlt];obtain⟨b,o,e1,p1⟩:=(hX.sp _ (List.getElem_mem hs)).pt hlt;have aM9:(dW X s++(X[s].gs.take i).map fun x=>(X[s].name,x)).length<=1000:=by
    have:=q4o X s;rw[List.length_append,List.length_map,List.length_take];omega
   obtain⟨o1,o2,o3,o4⟩:=hI.o;refine zw8 hI e1 p1 (q4n hN hs hlt) (by omega) hpb hpl aM9 hpn fun H' av' iv' hI' f' hn'=>?_;refine q43 hX hN hL hs hgl hq k (i+1) H' av' iv' (qs++[(b,o)]) (by omega) (by omega) ?_ ((f'.get pb hpl fun h=>?_).trans hpb) (Nat.lt_of_lt_of_le hpl f'.nx) ⟨fun h=>?_,fun h=>?_,hpn.2.2⟩ (Nat.le_trans hbn f'.nx)
   ·rw[List.take_succ_eq_append_getElem hlt,List.map_append,List.map_singleton,<-List.append_assoc];exact hI'
   ·rcases h with h|h|h|h
    ·omega
    ·omega
    ·exact hpn.1 h
    ·exact hpn.2.1 h
   ·have:=hn' pb (.inl h);omega
   ·have:=hn' pb (.inr h);omega
  ·simp only[go_sem,hlt];have he:i=X[s].gs.length:=by omega
   rw[he,List.take_length]at hI;exact hq H av iv qs hI hbn
theorem q42{call:Ev.Call}{H0:Hp}{ib mb nb:Nat}{sv:AV}{X:List aR}(hX:dK H0 sv X)(hN:(aN X).Nodup)(hS:(X.map aR.name).Nodup)(hP:wF X){Q:pL}{q:pH}(hq:∀ H av iv qs,IxI H0 H ib mb nb sv av iv (X.map aR.name) (gT X) qs->Ok (q H) Q):∀(k s:Nat) (H:Hp) (av iv:AV) (qs:List (Nat×Nat)),s<=X.length->X.length-s<k->IxI H0 H ib mb nb sv av iv ((X.take s).map aR.name) (dW X s) qs -> Ok (qlk call q (.ptr ib 0) sv (iN (X.length)) k (iN s) H) Q
 |0,s,_,_,_,_,_,h,_=>by omega
 |k+1,s,H,av,iv,qs,hs,hk,hI=>by
  show Ok (qy4 call _ _ _ _ (qlk call _ _ _ _ k) _ H) Q;unfold qy4;have hn:=hP.n;by_cases hlt:s<X.length
  ·simp only[go_sem,hlt];unfold zbz;have h1:=hX.fm hI.fm;obtain⟨b1,o1,e1,e2,_,e3,_⟩:=h1.rs.at' s hlt;unfold vP SS.v at e3;have hm:=List.getElem_mem hlt;obtain⟨o1,o2,o3,o4⟩:=hI.o;have e0:=hI.blk;have hnew:X[s].name∉(X.take s).map aR.name:=by
    have h2:=qj8 hS (i:=s) (by simpa using hlt);simp_all
   have fp:Fm No H ((aS H (aB 0 [.str 0 0,.aA])).put H.nx (aB 0 [.str X[s].name.n X[s].name.a,X[s].rv])):=by exact mO
   have ms1:rE ((aS H (aB 0 [.str 0 0,.aA])).put H.nx (aB 0 [.str X[s].name.n X[s].name.a,X[s].rv])) mb ((X.take s).map aR.name):=hI.ms.eq (fp.keep (by omega));have em:=ms1.miss (iN 0) X[s].name hnew;have e0':=(fp.keep o4).trans e0;have em':qT ⟨bZ,none⟩ (iN 0) false ⟨((aS H (aB 0 [.str 0 0,.aA])).put H.nx (aB 0 [.str X[s].name.n X[s].name.a,X[s].rv])).t,H.nx+1⟩ (.map mb) (.str X[s].name.n X[s].name.a)=.val (iN 0):=em;simp(disch:=first|omega|exact ti rfl|simp only[np,nq];first|done|omega)only[go_sem,rB,rI,rK,rL,rN,rS,r6,e1,e3,e0',em'];obtain⟨kk,eu,mu⟩:=ms1.put X[s].name hnew;refine Ok.y7 eu ?_;have hsp:=hX.sp _ hm;have hl:=hsp.len;have aYJ:=(hP.r _ hm).1;simp(disch:=omega)only[go_sem,seval,hl];unfold zb2;rw[dH];generalize hH2:((aS H (aB 0 [.str 0 0,.aA])).put H.nx (aB 0 [.str X[s].name.n X[s].name.a,X[s].rv])).put mb kk=H2 at mu;have n2:H2.nx=H.nx+1:=by rw[<-hH2];rfl
   have kp:∀ c,c<H.nx->c≠mb->H2.get c=H.get c:=fun c h1 h2=>by rw[<-hH2,dJ _ _ _ _ h2];exact fp.keep h1
   have pbk:H2.get H.nx=aB 0 [.str X[s].name.n X[s].name.a,X[s].rv]:=by rw[<-hH2,dJ _ _ _ _ (by omega)];exact eD _ _ _
   have hI2:IxI H0 H2 ib mb nb sv av iv ((X.take s).map aR.name++[X[s].name]) (dW X s++(X[s].gs.take 0).map fun x=>(X[s].name,x)) qs:=by
    rw[List.take_zero,List.map_nil,List.append_nil];refine⟨(kp ib o4 (by omega)).trans e0,mu,hI.mn.eq (kp nb (by omega) (by omega)),hI.a.keep (by omega) fun c hc hl=>kp c hl ?_,hI.i.keep (by omega) fun c hc hl=>kp c hl ?_,hI.len,hI.pt,⟨o1,o2,o3,by omega⟩,hI.an,hI.vN,?_⟩
    ·have:=(hI.an c hc).1;omega
    ·have:=hI.vN c hc;omega
    ·exact⟨by have:=hI.fm.nx;omega,fun c hc _=>(kp c (Nat.lt_of_lt_of_le hc hI.fm.nx) (by omega)).trans (hI.fm.keep hc)⟩
   refine q43 hX hN hP.len hlt aYJ (Hb:=H2) (fun H3 av3 iv3 qs3 tQ hb3=>?_) cK 0 H2 av iv qs (Nat.zero_le _) (by rw[dM];omega) hI2 pbk (by omega) ⟨fun h=>?_,fun h=>?_,by omega⟩ (Nat.le_refl _)
   ·unfold qy2;simp(disch:=first|omega|exact ti rfl|simp only[np,nq];first|done|omega)only[go_sem,rB,rI,rK,rL,rN,rS,r6];refine q42 hX hN hS hP hq k (s+1) H3 av3 iv3 qs3 (by omega) (by omega) ?_;have hx:dW X (s+1)=dW X s++X[s].gs.map fun x=>(X[s].name,x):=by
     unfold dW gT;rw[List.take_succ_eq_append_getElem hlt,List.flatMap_append,List.flatMap_singleton]
    rw[List.take_succ_eq_append_getElem hlt,List.map_append,List.map_singleton,hx];exact tQ
   ·have:=hI.a.lt h;omega
   ·have:=hI.i.lt h;omega
  ·simp only[go_sem,hlt];have he:s=X.length:=by omega
   rw[he,List.take_length]at hI;refine hq H av iv qs ?_;have:dW X X.length=gT X:=by unfold dW;rw[List.take_length]
   simp_all
structure vU(H:Hp)(ib:Nat)(sv:AV)(X:List aR):Prop where
 ex:∃ mb nb av iv qs,H.get ib=aB 0 [sv,.map mb,.map nb,av,iv]/\rE H mb (X.map aR.name)/\jC H nb (aN X)/\Rs 1 ptC H av qs/\Rs 1 nmC H iv (gT X)/\yG av=true/\yG iv=true/\qs.length=(gT X).length /\
  (∀i (h:i<qs.length) (h':i<(gT X).length),PtR H qs[i] (gT X)[i].2)/\mb<H.nx/\nb<H.nx
 lt:ib<H.nx
theorem vU.fm(h:vU H ib sv X)(f:Fm No H H'):vU H' ib sv X:=by obtain⟨mb,nb,av,iv,qs,h1,h2,h3,h4,h5,h6,h7,h8,h9,l1,l2⟩:=h.ex;exact⟨⟨mb,nb,av,iv,qs,(f.keep h.lt).trans h1,h2.eq (f.keep l1),h3.eq (f.keep l2),h4.fm f,h5.fm f,h6,h7,h8,fun i a b=>(h9 i a b).fm f,Nat.lt_of_lt_of_le l1 f.nx,Nat.lt_of_lt_of_le l2 f.nx⟩,Nat.lt_of_lt_of_le h.lt f.nx⟩
theorem zwt(q:SS×bB):(nmC q).length=1:=rfl
theorem zsg(hC:bA C)(hk:1<=k)(hX:dK H sv X)(hP:wF X)(hN:(aN X).Nodup)(hS:(X.map aR.name).Nodup):Ok (C k (.f 108) [.agg [sv]] H) fun r H'=>∃ ib,r=.ptr ib 0/\vU H' ib sv X/\Fm No H H':=by
 obtain⟨j,rfl⟩:=aX hk;rw[(hC j).zBr];unfold zBr zun;have hl:=hX.rs.len;have hn:=hP.n;have hsv:xP sv=some [sv]:=by cases sv<;>first|rfl|(exfalso;revert hl;exact fun h=>by cases h)
 have hcm:∀ b,xP (.map b)=some [.map b]:=fun b=>rfl;simp(disch:=first|omega|exact ti rfl|simp only[np,nq];first|done|omega)only[go_sem,seval,hsv,hl,hcm];unfold zb3;rw[dH];generalize hH1:aS (aS (aS (aS H (aB 0 [sv])) (.map [] 0)) (.map [] 0)) (aB 0 [sv,.map (H.nx+1),.map (H.nx+1+1),.aA,.aA])=H1;have f1:Fm No H H1:=by rw[<-hH1];exact fP4
 have n1:H1.nx=H.nx+4:=by rw[<-hH1];rfl
 have k1:H1.get (H.nx+1)=.map [] 0:=by rw[<-hH1];simp(disch:=first|omega|exact ti rfl|simp only[np,nq];first|done|omega)only[go_sem,rB,rI,rK,rL,rN,rS,r6]
 have k2:H1.get (H.nx+1+1)=.map [] 0:=by rw[<-hH1];simp(disch:=first|omega|exact ti rfl|simp only[np,nq];first|done|omega)only[go_sem,rB,rI,rK,rL,rN,rS,r6]
 have k3:H1.get (H.nx+1+1+1)=aB 0 [sv,.map (H.nx+1),.map (H.nx+1+1),.aA,.aA]:=by rw[<-hH1];simp(disch:=first|omega|exact ti rfl|simp only[np,nq];first|done|omega)only[go_sem,rB,rI,rK,rL,rN,rS,r6]
 have nn:∀ c,¬In AV.aA c:=fun c h=>by obtain⟨_,_,_,_,h⟩:=h;cases h
 refine q42 hX hN hS hP (fun H2 av iv qs hI=>?_) cK 0 H1 .aA .aA [] (Nat.zero_le _) (by rw[dM];omega) ⟨k3,kY.nil _ _ k1,kY.nil _ _ k2,Gl.nil 1 _,Gl.nil 1 _,rfl,fun i h=>by simp at h,⟨by omega,by omega,by omega,by omega⟩,fun c h=>absurd h (nn c),fun c h=>absurd h (nn c),f1⟩;obtain⟨o1,o2,o3,o4⟩:=hI.o;refine Ok.ret ⟨_,rfl,⟨⟨_,_,av,iv,qs,hI.blk,hI.ms,?_,hI.a.rs q0y,hI.i.rs zwt,Gl.flat hI.a,Gl.flat hI.i,hI.len,fun i a b=>(hI.pt i a b).fm hI.fm,by omega,by omega⟩,o4⟩,hI.fm⟩;have:=hI.mn;rw[yZ]at this;exact this
end Go.Di
end
