/-
 For countersign/countersignlaw20.FitsAll: functions in direct style, their contracts, and the plain mathematics, part 6 of 10. No conditions beyond those that each theorem states.
-/
import Derived.Test.YtbfjjkjiokfdgaaGreatConE
import Derived.Test.YtbfjjkjiokfdgaaGreatConC
import Derived.Test.YtbfjjkjiokfdgaaGreatEv4
import Derived.Sort.AssemblyPlain
import Derived.Test.YtbfjjkjiokfdgaaGreatConD
import Derived.KernelRfl
set_option linter.unusedSimpArgs false
set_option linter.unusedVariables false
open Nat renaming reduceAdd->rB,reduceMul->rI,reduceSub->rK,reduceLeDiff->rL,reduceEqDiff->rN,reduceShiftRight->rS,reduceAnd->r6
noncomputable section
namespace Go.Di
open Go.Ev
variable {C:Nat->Ev.Call}
theorem zal(H:Hp)(b o m:Nat):kL H (.ptr b o) (.map m)=storeAt H b o [.map m] .undef:=id rfl
theorem z5i(a b x:AV):bD [a,b] 1 [x]=[a,x]:=id rfl
attribute [go_sem] zal z5i
theorem z9n(hC:aW C)(hN:mG C)(hS:qf5 C){k:Nat}(hk:23<=k){H:Hp}{sv:AV}{X:List aN}(hX:bS H sv X)(hV:dO X):Ok (C k (.f 56) [.agg [sv]] H) fun r H'=>∃ w,r=.aX [.agg [iN ((aJ X).length),w],iN 0]/\kP H' w (iG (sortE (rG X X)))/\gW w=.val (iN ((iG (sortE (rG X X))).length))/\Fm No H H'/\(w=.aA\/∃ b o n m e,w=.sl b o n m e):=by
 obtain⟨j,rfl⟩:=aS hk;rw[(hC j).zAt];unfold zAt zz3;simp(disch:=first|go_size|omega)only[go_sem,seval];have f:Fm No H (aO (aO H (aB 0 [sv])) (aB 0 [iN 0,.aA])):=by exact pU
 refine Ok.ve (q0k hC hN (k:=j) (by omega) (hX.fm f) hV) ?_;rintro _ H1 ⟨rfl,f1⟩;have n1:=f1.nx;simp only[np]at n1;have fA:=f.trans f1;have x1:H1.get H.nx=aB 0 [sv]:=(f1.keep (by(first|go_size|omega))).trans (by simp(disch:=first|go_size|omega)only[go_sem,seval]);have rb1:H1.get (H.nx+1)=aB 0 [iN 0,.aA]:=(f1.keep (by go_size)).trans (by simp(disch:=go_size)only[go_sem,seval]);have hX1:=hX.fm fA;have hls:=hX1.rs.len;have hn16:=hV.pr.n;unfold q62;simp(disch:=first|go_size|omega)only[go_sem,seval,x1,hls];unfold q7b;rw[dB];generalize hHn:(aO (aO H1 (.map [] 0)) (aB 0 [.dV])).put (H1.nx+1) (aB 0 [.map H1.nx])=Hn;have fn:Fm No H1 Hn:=by rw[<-hHn];repeat first|exact Fm.refl _ _|assumption|refine Fm.push ?_ _|refine Fm.aF ?_ _ _ (by omega)
 have nn:Hn.nx=H1.nx+2:=by rw[<-hHn];rfl
 have kn:Hn.get (H1.nx+1)=aB 0 [.map H1.nx]:=by rw[<-hHn];exact dS _ _ _
 have km:Hn.get H1.nx=.map [] 0:=by rw[<-hHn];simp(disch:=first|go_size|omega)only[go_sem,rB,rI,rK,rL,rN,rS,r6]
 have hm0:jE Hn H1.nx ((dA X 0).map kq):=by
  have:(dA X 0).map kq=[]:=by unfold dA fD;simp
  exact lW.nil _ _ km
 refine qsu (sv:=sv) hX1 hV.al hV.pr (H0:=H1) (nb:=H1.nx+1) (mb:=H1.nx) (fun H2 hI=>?_) bX 0 Hn (gq _) (by rw[dI];omega) ⟨kn,hm0,⟨lg _,by omega,by omega⟩,fn⟩;unfold qmb;have kn2:=hI.n;have hlm:=hI.m.len;have f2:=hI.fm;obtain⟨_,_,o3⟩:=hI.o;have x2:=(f2.keep (show H.nx<H1.nx by omega)).trans x1;have bFQ:=(hX1.fm f2).rs.len;simp(disch:=first|omega|exact ti rfl)only[go_sem,seval,kn2,hlm,x2,bFQ];unfold zhl;rw[dB];generalize hHg:(aO H2 (aB 0 [iN 0,.aA])).put H2.nx (aB 0 [iN ((aJ X).length),.aA])=Hg;have fg:Fm No H2 Hg:=by rw[<-hHg];exact oJ
 have ng:Hg.nx=H2.nx+1:=by rw[<-hHg];rfl
 have kg:Hg.get H2.nx=aB 0 [iN ((aJ X).length),.aA]:=by rw[<-hHg];exact dS _ _ _
 have nn0:∀ c,¬In AV.aA c:=fun c h=>by obtain⟨_,_,_,_,h⟩:=h;cases h
 have aKG:∀ H',Fm (fun c=>c=H2.nx\/In AV.aA c) Hg H'->Fm No H H':=fun H' f'=>(((fA.trans f2).trans fg)).then f' fun c hc h=>by
  rcases h with h|h
  ·omega
  ·simp_all
 refine q83 hC hN (j:=j) (by omega) (sv:=sv) (mb:=H1.nx) (Hb:=Hg) (jC:=.aA) (N:=(aJ X).length) hV (fun H' f'=>?_) ⟨by omega,by omega,by omega⟩ (fun H3 ev hG=>?_) bX 0 Hg .aA (gq _) (by rw[dI];omega) ⟨kg,by omega,?_,Fm.refl _ _,fun c h=>.inl h,fun c h=>absurd h (nn0 c)⟩
 ·have ne:∀ c,c<H2.nx->¬(c=H2.nx\/In AV.aA c):=fun c hc h=>by
   simp_all
  refine⟨hX.fm (aKG H' f'),?_,?_,?_⟩
  ·exact(f'.get _ (by omega) (ne _ (by omega))).trans ((fg.keep (by omega)).trans x2)
  ·exact(f'.get _ (by omega) (ne _ (by omega))).trans ((fg.keep (by omega)).trans kn2)
  ·exact(hI.m.eq (fg.keep (by omega))).eq (f'.get _ (by omega) (ne _ (by omega)))
 ·unfold qn1;have kg3:=hG.blk;have f3:=hG.fm;have n3:=f3.nx;have hlen:(rG X X).length<900000:=by
   have:=q85 hV.pr X.length;rw[uj]at this;omega
  simp only[go_sem,kg3];refine Ok.ve (za7 hC hS (k:=j) (by omega) hG.gl hlen) ?_;rintro w H4 ⟨hw,hc,f4,hns,hin⟩;have kg4:=(f4.get H2.nx (by omega) (fun h=>by have:=hG.nin _ h;omega)).trans kg3;have rb4:H4.get (H.nx+1)=aB 0 [iN 0,.aA]:=by
   refine(f4.get _ (by omega) (fun h=>by have:=hG.nin _ h;omega)).trans ((f3.get _ (by omega) (fun h=>?_)).trans ((fg.keep (by omega)).trans ((f2.keep (by omega)).trans rb1)));rcases h with h|h
   ·omega
   ·exact nn0 _ h
  have fin:∀ x y z:bO,kP (((H4.put H2.nx x).put (H.nx+1) y)) w (iG (sortE (rG X X)))/\Fm No H ((H4.put H2.nx x).put (H.nx+1) y):=fun x y z=>by
   refine⟨hw.keep (lg _) fun c hc' _=>?_,?_⟩
   ·have:=hG.nin c (hin c hc');rw[dG _ _ _ _ (by omega),dG _ _ _ _ (by omega)]
   ·refine((((aKG H3 f3).then f4 fun c hc h=>?_).aF _ _ (by omega)).aF _ _ (by omega));have:=hG.nin c h;omega
  rcases hns with rfl|⟨wb,wo,wn,wm,we,rfl⟩
  ·simp(disch:=omega)only[go_sem,seval,kg4,rb4];obtain⟨g1,g2⟩:=fin (aB 0 [iN ((aJ X).length),.aA]) (aB 0 [iN ((aJ X).length),.aA]) .dead;exact Ok.ret ⟨_,rfl,g1,hc,g2,.inl rfl⟩
  ·simp(disch:=omega)only[go_sem,seval,kg4,rb4];obtain⟨g1,g2⟩:=fin (aB 0 [iN ((aJ X).length),.sl wb wo wn wm we]) (aB 0 [iN ((aJ X).length),.sl wb wo wn wm we]) .dead;exact Ok.ret ⟨_,rfl,g1,hc,g2,.inr ⟨_,_,_,_,_,rfl⟩⟩
 ·rw[dE];exact Gl.nil 3 _
end Go.Di
end
noncomputable section
namespace Go.Di
open Go.Ev
variable {i n:Nat} {neg:Bool}
theorem qyv{a b:Nat}(h:gD a=gD b):a%4=b%4:=by injection h with _ h;omega
theorem qvw{a b:Nat}(h:bZ a=bZ b):a%3=b%3:=by unfold bZ at h;simp_all
theorem qyu(a:Nat):gD (a%4)=gD a:=by unfold gD;rw[Nat.mod_mod]
theorem zrr(a:Nat):bZ (a%3)=bZ a:=by unfold bZ;rw[Nat.mod_mod]
theorem qg7(a:Nat):Nm (gD a):=by
 rw[<-qyu];have:∀ i,i<4->gD i∈nmL:=by decide
 exact this _ (xF _ (by omega))
theorem q4k(a:Nat):Nm (bZ a):=by
 rw[<-zrr];have:∀ i,i<3->bZ i∈nmL:=by decide
 exact this _ (xF _ (by omega))
theorem z5k:Nm sU:=by show sU∈nmL;decide
theorem zr3(a:Nat):¬ gD a=sE:=fun h=>(qg7 a).ne (by rw[h];exact⟨rfl,rfl⟩)
def Blo(m n k:Nat):Prop:=n / 4*4<=k/\k<n / 4*4+4/\k<m
def RuP(L:List (List Nat))(n:Nat):Ru->Prop
 | .leaf k rl to=>(k=1/\rl=sE/\to=sE)\/(k=2/\to=sE/\∃ i,rl=gD i/\Blo (bF L) n i)\/(k=3/\∃ i j,rl=gD i/\Blo (bF L) n i/\to=gD j/\j<bF L/\(⟨bZ (j / 4),sE⟩:iQ)∈kG L i)
 | .node k a b=>(k=4\/k=5\/k=6)/\RuP L n a/\RuP L n b
theorem RuP.fit{L:List (List Nat)}:∀{r:Ru},RuP L n r->r.Fit
 | .leaf _ _ _,h=>by
  rcases h with h|⟨h,h2,i,rfl,_⟩|⟨h,i,j,rfl,_,rfl,_⟩
  ·exact .inl h
  ·exact .inr (.inl ⟨h,qg7 i,h2⟩)
  ·exact .inr (.inr ⟨h,qg7 i,qg7 j⟩)
 | .node _ _ _,⟨h,ha,hb⟩=>⟨h,ha.fit,hb.fit⟩
def NdP(L:List (List Nat))(n:Nat)(y:Nd):Prop:=
 (y.k=1/\y.rl=sE)\/(y.k=2/\∃ i,y.rl=gD i/\Blo (bF L) n i)\/(y.k=3/\∃ i j,y.rl=gD i/\Blo (bF L) n i/\y.to=gD j/\j<bF L/\(⟨bZ (j / 4),sE⟩:iQ)∈kG L i)\/4<=y.k
theorem RuP.nd{L:List (List Nat)}:∀{r:Ru} {neg:Bool},RuP L n r->∀ y∈r.nodes neg,NdP L n y
 | .leaf _ _ _,neg,h,y,hy=>by
  rw[Ru.nodes,gy]at hy;subst hy;rcases h with⟨h,h2,_⟩|⟨h,_,h2⟩|⟨h,h2⟩
  ·exact .inl ⟨h,h2⟩
  ·exact .inr (.inl ⟨h,h2⟩)
  ·exact .inr (.inr (.inl ⟨h,h2⟩))
 | .node k a b,neg,⟨h,ha,hb⟩,y,hy=>by
  rw[Ru.nodes,qg,gz]at hy;rcases hy with rfl|hy|hy
  ·exact .inr (.inr (.inr (by show 4<=k;omega)))
  ·exact ha.nd y hy
  ·exact hb.nd y hy
theorem qfr{α:Type}{l:List α}{d:α}(h:i<l.length):l.getD i d∈l:=by simp_all
theorem qwp{L:List (List Nat)}(hn:n<bF L)(neg:Bool):RuP L n (qjt neg):=by
 cases neg
 ·exact .inl ⟨rfl,rfl,rfl⟩
 ·refine .inr (.inl ⟨rfl,rfl,n / 4*4,?_,by omega,by omega,by omega⟩);rw[<-qyu (n / 4*4),Nat.mul_mod_left]
theorem zug{L:List (List Nat)}{x:ArS}(h:x∈lI L n neg):∃ i j,x.rl=gD i/\Blo (bF L) n i/\x.to=gD j/\j<bF L/\(⟨bZ (j / 4),sE⟩:iQ)∈kG L i:=by
 unfold lI mU at h;rw[yx]at h;obtain⟨i,hi,h⟩:=h;rw[qgm]at hi;unfold arK at h;rw[yx]at h;obtain⟨t,ht,h⟩:=h;unfold wJ at h;rw[qp]at h;obtain⟨j,hj,rfl⟩:=h;rw[uy,qgm]at hj;obtain⟨hj,hp⟩:=hj;unfold arP at hp;rw[pq,pq,vz,vz]at hp;refine⟨i,j,rfl,⟨hi.1,by omega,by omega⟩,rfl,hj.2,?_⟩;have:t=⟨bZ (j / 4),sE⟩:=by cases t;simp_all
 simp_all
theorem q4v{L:List (List Nat)}{n:Nat}(hn:n<bF L):∀(d i:Nat) (neg:Bool),(neg=true->0<lvl n)->RuP L n (eT L n d i neg).1
 |0,i,neg,_=>by unfold eT;exact qwp hn neg
 |d+1,i,neg,hneg=>by
  have hA:At (bF L) n neg:=⟨hn,um _ _,hneg⟩;unfold eT;split
  ·exact qwp hn neg
  split
  ·exact qwp hn neg
  split
  ·have hp:=qxa hA;have hm:=qfr (d:=sE) (xF (eG L n i / 8) hp);unfold cmpL at hm;rw[qp]at hm;obtain⟨k,hk,he⟩:=hm;rw[uy,qgm]at hk;refine .inr (.inl ⟨rfl,rfl,k,?_,by omega,by omega,by omega⟩);rw[he];rfl
  split
  ·unfold uM;split
   ·exact qwp hn neg
   ·rename_i h;have hm:=qfr (d:=(⟨sE,sE⟩:ArS)) (xF (eG L n i / 8) (show 0<(lI L n neg).length by omega));exact .inr (.inr ⟨rfl,zug hm⟩)
  refine⟨?_,q4v hn d _ _ hneg,q4v hn d _ _ fun h=>?_⟩
  ·unfold uU;split
   ·omega
   split<;>omega
  ·rw[af,vz]at h;rcases h with h|h
   ·exact hneg h
   ·unfold uU at h;split at h
    ·omega
    split at h
    ·omega
    ·omega
theorem qjr{α β:Type}{f:α->β}:∀{l:List α},l.Nodup->(∀x∈l,∀y∈l,f x=f y->x=y)->(l.map f).Nodup
 | [],_,_=>List.nodup_nil
 |a::l,h,hf=>by rw[ou]at h;rw[zy,ou];refine⟨fun hm=>?_,qjr h.2 fun x hx y hy=>hf x (qx _ hx) y (qx _ hy)⟩;obtain⟨b,hb,e⟩:=qp.1 hm;have:=hf b (qx _ hb) a ql e;simp_all
theorem qsa{L:List (List Nat)}(hn:n<bF L){t:iQ}(h:t∈kG L n):(t.rl=sE/\(t.sp=sU\/∃ i,i<(bF L+3) / 4/\t.sp=bZ i))\/∃ k,k<bF L/\t=⟨bZ (k / 4),gD k⟩:=by
 unfold kG at h;rw[gz]at h;rcases h with h|h
 ·left;unfold tQ at h;rw[qg]at h;rcases h with rfl|h
  ·simp
  ·rw[qp]at h;obtain⟨i,hi,rfl⟩:=h;rw[uy,qgm]at hi;have:=hi.1.2;unfold nS at this;exact⟨rfl,.inr ⟨i,by omega,rfl⟩⟩
 ·right;split at h
  ·rw[gy]at h;have hm:=qfr (d:=(⟨sE,sE⟩:iQ)) (xF (eG L n 1 / 2) (qvu hn));rw[<-h]at hm;unfold qT at hm;rw[qp]at hm;obtain⟨k,hk,rfl⟩:=hm;rw[uy,qgm]at hk;exact⟨k,hk.1.2,rfl⟩
  ·cases h
theorem qx5{L:List (List Nat)}(hn:n<bF L):(kG L n).Nodup:=by
 have hA:(tQ (eG L n 0) (nS (bF L))).Nodup:=by
  unfold tQ;rw[ou];constructor
  ·intro h;rw[qp]at h;obtain⟨i,_,e⟩:=h;injection e with e;injection e with e;omega
  ·have hr:(rg 0 (nS (bF L))).Nodup:=by
    unfold rg;rw[oq];exact List.nodup_range
   refine qjr (List.Pairwise.filter _ hr) fun x hx y hy e=>?_
   ·rw[uy,qgm]at hx hy;injection e with e;have:=qvw e;have h3:nS (bF L)<=3:=bz _ _;omega
 unfold kG;split
 ·rw[xf];refine⟨hA,zq _ _,fun a ha b hb=>?_⟩;rw[gy]at hb;intro e;subst e;have hm:=qfr (d:=(⟨sE,sE⟩:iQ)) (xF (eG L n 1 / 2) (qvu hn));rw[<-hb]at hm;unfold qT at hm;rw[qp]at hm;obtain⟨k,_,e⟩:=hm;have hr:a.rl=sE:=by
   unfold tQ at ha;rw[qg,qp]at ha;rcases ha with rfl|⟨i,_,rfl⟩<;>rfl
  rw[<-e]at hr;exact zr3 k hr
 ·simp_all
end Go.Di
end
noncomputable section
namespace Go.Di
open Go.Ev
def prN(n:Nat):SS×SS:=(bZ (n / 4),gD n)
def rls(L:List (List Nat))(i:Nat):List jD:=(rg (4*i) (min (bF L) (4*i+4))).map (lT L)
theorem z1h{a b:Nat}(ha:a<12)(hb:b<12)(h:prN a=prN b):a=b:=by injection h with h1 h2;have:=qvw h1;have:=qyv h2;omega
theorem aVP(m:Nat)(h:m<13):((List.range ((m+3) / 4)).flatMap fun i=>(rg (4*i) (min m (4*i+4))).map fun n=>(bZ i,gD n))=(List.range m).map prN:=by
 have:∀ m,m<13->((List.range ((m+3) / 4)).flatMap fun i=>(rg (4*i) (min m (4*i+4))).map fun n=>(bZ i,gD n))=(List.range m).map prN:=by decide
 exact this m h
theorem zi7(k:Nat)(h:k<4):(sU::(List.range k).map bZ).Nodup:=by
 have:∀ k,k<4->(sU::(List.range k).map bZ).Nodup:=by decide
 exact this k h
theorem qg8(L:List (List Nat)):bF L<13:=by have:bF L<=12:=um _ _;omega
structure mP(L:List (List Nat))(X:List aN):Prop where
 map:X.map aN.sp=xI L
theorem qd6(bG:List jD)(r:jD):(qM bG r).name=r.name:=by unfold qM;split<;>rfl
variable {L:List (List Nat)} {X:List aN}
theorem mP.names(h:mP L X):X.map aN.name=sU::(List.range ((bF L+3) / 4)).map bZ:=by
 have e:X.map aN.name=(X.map aN.sp).map xM.name:=by rw[bu];rfl
 rw[e,h.map];unfold xI sQ;rw[bu,zy,bu];rfl
theorem mP.all(h:mP L X):aJ X=(List.range (bF L)).map prN:=by
 have e:aJ X=(X.map aN.sp).flatMap fun s=>s.bG.map fun r=>(s.name,r.name):=by unfold aJ;rw[lAN];congr 1;funext g;unfold aN.sp;simp
 rw[e,h.map,<-aVP _ (qg8 L)];unfold xI sQ;rw[lAN,ug,lAN];show[]++_=_;rw[ae];congr 1;funext i;show((spN L i (min (bF L) (4*i+4))).bG.map (qM _)).map _=_;unfold spN;rw[bu,bu];refine lA0 fun n _=>?_;simp only[Function.comp,qd6];rfl
theorem mP.uN(h:mP L X){k:Nat}(hk:k<bF L):(bZ (k / 4),gD k)∈aJ X:=by rw[h.all];exact qp.2 ⟨k,uu.2 hk,rfl⟩
theorem mP.gs(h:mP L X){g:aN}(hg:g∈X):(g.name=sU/\g.gs=[])\/∃ i,i<(bF L+3) / 4/\g.name=bZ i/\g.gs.map aR.r=(rls L i).map (qM (rls L i)):=by
 have hm:g.sp∈xI L:=by rw[<-h.map];exact eQ hg
 unfold xI sQ at hm;rw[zy,qg,bu,qp]at hm;rcases hm with hm|⟨i,hi,hm⟩
 ·left;have h1:=congrArg xM.name hm;have h2:=congrArg xM.bG hm;refine⟨h1,?_⟩;have:g.gs.map aR.r=[]:=h2;simp_all
 ·right;refine⟨i,uu.1 hi,(congrArg xM.name hm).symm,(congrArg xM.bG hm).symm⟩
theorem mP.x(h:mP L X){g:aN}(hg:g∈X){x:aR}(hx:x∈g.gs):∃ i n,i<(bF L+3) / 4/\g.name=bZ i/\g.gs.map aR.r=(rls L i).map (qM (rls L i))/\n / 4=i/\n<bF L/\x.r=qM (rls L i) (lT L n):=by
 rcases h.gs hg with⟨_,h2⟩|⟨i,hi,h1,h2⟩
 ·simp_all
 ·have hm:x.r∈g.gs.map aR.r:=eQ hx;rw[h2,qp]at hm;obtain⟨r,hr,he⟩:=hm;unfold rls at hr;rw[qp]at hr;obtain⟨n,hn,rfl⟩:=hr;rw[qgm]at hn;exact⟨i,n,hi,h1,h2,by omega,by omega,he.symm⟩
theorem qgv(bG:List jD)(r:jD):∀ t∈(qM bG r).types,t∈r.types:=by
 unfold qM;split
 ·simp
 ·simp
theorem ztd{L:List (List Nat)}{n:Nat}{r:Ru}(h:RuP L n r):((r.nodes false).any fun y=>decide (y.k=1))=fM r 1 sE:=by
 unfold fM;have hn:=h.nd (neg:=false);generalize r.nodes false=l at hn
 induction l with
 |nil=>rfl
 |cons y l ih=>
  rw[List.any_cons,List.any_cons,ih fun z hz=>hn z (qx _ hz)];congr 1;unfold gU;rcases hn y ql with⟨h1,h2⟩|⟨h1,_⟩|⟨h1,_⟩|h1
  ·simp_all
  ·rw[h1];rfl
  ·rw[h1];rfl
  ·rw[qi (by omega)];rfl
theorem mP.val(h:mP L X):dO X:=by
 have bV1:bF L<=12:=um _ _;have hsp:(X.map aN.name).Nodup:=by rw[h.names];exact zi7 _ (by omega)
 have hal:(aJ X).Nodup:=by rw[h.all];exact qjr List.nodup_range fun a ha b hb e=>z1h (by have:=uu.1 ha;omega) (by have:=uu.1 hb;omega) e
 have hrp:∀ n,n<bF L->RuP L n (lT L n).rule:=fun n hn=>q4v hn 6 2 false fun h=>by cases h
 have bO1:X.length<=4:=by have:=congrArg List.length h.names;simp at this;omega
 refine⟨⟨by omega,fun g hg=>⟨?_,?_⟩,fun g hg x hx=>?_⟩,hal,hsp,fun g hg x hx=>?_,fun g hg x hx y hy=>?_,fun g hg x hx=>?_⟩
 ·rcases h.gs hg with⟨_,h2⟩|⟨i,hi,_,h2⟩
  ·rw[h2];simp
  ·have:=congrArg List.length h2;unfold rls at this;simp only[qc,qli]at this;omega
 ·rcases h.gs hg with⟨h1,_⟩|⟨i,hi,h1,_⟩
  ·rw[h1];exact z5k
  ·rw[h1];exact q4k i
 ·obtain⟨i,n,hi,h1,h2,hni,hn,hr⟩:=h.x hg hx;have hsm:=qop L n;refine⟨?_,?_,⟨?_,?_,?_⟩,fun t ht=>?_⟩
  ·have:x.r.types.length<=(kG L n).length:=by
    rw[hr];unfold qM;split
    ·exact lg _
    ·simp
   have:=qe0 L n;omega
  ·rw[hr,qd6];exact qg7 n
  ·rw[hr,qb9];exact(hrp n hn).fit
  ·rw[hr,qb9];omega
  ·rw[hr,qb9];omega
  ·rw[hr]at ht;have ht':=qgv _ _ t ht;rcases qsa hn ht' with⟨e1,e2⟩|⟨k,hk,rfl⟩
   ·refine⟨?_,.inl e1⟩;rcases e2 with e2|⟨i,_,e2⟩
    ·rw[e2];exact z5k
    ·rw[e2];exact q4k i
   ·exact⟨q4k _,.inr (qg7 _)⟩
 ·obtain⟨i,n,hi,h1,h2,hni,hn,hr⟩:=h.x hg hx;constructor
  ·rw[hr];unfold qM;split
   ·exact qx5 hn
   ·simp
  ·intro t ht;rw[hr]at ht;have ht':=qgv _ _ t ht;rw[h.names];rcases qsa hn ht' with⟨e1,e2⟩|⟨k,hk,rfl⟩
   ·refine⟨?_,.inl e1⟩;rcases e2 with e2|⟨i,hi,e2⟩
    ·simp_all
    ·rw[e2];exact qx _ (qp.2 ⟨i,uu.2 hi,rfl⟩)
   ·exact⟨qx _ (qp.2 ⟨k / 4,uu.2 (by omega),rfl⟩),.inr (h.uN hk)⟩
 ·obtain⟨i,n,hi,h1,h2,hni,hn,hr⟩:=h.x hg hx;rw[hr,qb9]at hy;have aK3:∀ k,Blo (bF L) n k->(g.name,gD k)∈aJ X:=fun k hk=>by
   have:=h.uN hk.2.2;unfold Blo at hk;rw[h1,<-hni];rwa [show k / 4=n / 4 by omega]at this
  rcases(hrp n hn).nd y hy with⟨e,_⟩|⟨e,k,e1,hk⟩|⟨e,k,j,e1,hk,e2,hj,ht⟩|e
  ·omega
  ·simp_all
  ·refine⟨fun _=>by rw[e1];exact aK3 k hk,fun _=>?_⟩;rw[e1,e2];obtain⟨x',hf,_⟩:=qfb hal hsp (aK3 k hk);obtain⟨g',hg',hx',en1,en2⟩:=qft hf;have hgg:g'=g:=qo6 hsp hg' hg (by rw[en1]);subst hgg;obtain⟨i',n',hi',h1',h2',bXR,hn',hr'⟩:=h.x hg' hx';have hii:i'=i:=by
    have:=qvw (h1'.symm.trans h1);omega
   subst hii;have hkn:n'=k:=by rw[hr',qd6]at en2;have:=qyv en2;unfold Blo at hk;omega
   subst hkn;have xP:qvt (rls L i') (lT L n')=true:=by
    unfold qvt;rw[af];right;rw[ag];refine⟨lT L n,?_,?_⟩
    ·unfold rls;exact qp.2 ⟨n,qgm.2 ⟨by omega,by omega⟩,rfl⟩
    ·unfold fM;rw[ag];refine⟨y,hy,?_⟩;unfold gU;rw[gp e,gp (show y.rl=(lT L n').name from e1)];rfl
   have hty:x'.r.types=kG L n':=by rw[hr'];unfold qM;rw[pz xP];rfl
   have hmem:bZ (j / 4)∈sG X g'.name (gD n') (gD j):=by unfold sG;rw[hf];unfold tgL;rw[qp];refine⟨⟨bZ (j / 4),sE⟩,?_,rfl⟩;rw[uy,hty];refine⟨ht,?_⟩;unfold tgP;rw[qhf hal hsp,gp (h.uN hj)];rfl
   intro h0;simp_all
  ·omega
 ·obtain⟨i,n,hi,h1,h2,hni,hn,hr⟩:=h.x hg hx;rw[hr,qb9,ztd (hrp n hn),qd6];constructor
  ·intro hh;unfold qM;rw[pz (by unfold qvt;rw[hh];rfl)];show kG L n≠[];unfold kG tQ;simp
  ·intro hh hne;have xP:qvt (rls L i) (lT L n)=true:=by
    unfold qM at hne;split at hne
    ·assumption
    ·trivial
   unfold qvt at xP;rw[hh,Bool.false_or]at xP;have e:(g.gs.any fun z=>fM z.r.rule 3 (lT L n).name)=(g.gs.map aR.r).any fun z=>fM z.rule 3 (lT L n).name:=by rw[lAZ];rfl
   rw[e,h2,lAZ];refine Eq.trans ?_ xP;congr 1;funext z;simp only[Function.comp,qb9]
end Go.Di
end
noncomputable section
namespace Go.Di
open Go.Ev
variable {X:List aN} {i:Nat}
theorem qji(X:List aN):(fD X).length=(aJ X).length:=by rw[<-yA,qc]
theorem qmk(h:i<(fD X).length)(h':i<(aJ X).length):(aJ X)[i]=((fD X)[i].1,(fD X)[i].2.r.name):=by
 have e:(aJ X)[i]? =some (kq (fD X)[i]):=by rw[<-yA,xw,lh h];rfl
 rw[lh h']at e;exact Option.some.inj e
theorem dO.at(hV:dO X)(h:i<(fD X).length):kI X (fD X)[i].1 (fD X)[i].2.r.name=some (fD X)[i].2/\bW X (fD X)[i].1 (fD X)[i].2.r.name=i/\∃ g∈X,(fD X)[i].2∈g.gs/\g.name=(fD X)[i].1:=by
 have h':i<(aJ X).length:=by rw[<-qji];exact h
 have hi:=qpg hV.al h';have hn:bW X (fD X)[i].1 (fD X)[i].2.r.name=i:=by rw[qmk h h']at hi;exact hi
 have hmem:((fD X)[i].1,(fD X)[i].2.r.name)∈aJ X:=by rw[<-qmk h h'];exact lu h'
 obtain⟨x,hf,hx⟩:=qfb hV.al hV.sp hmem;rw[hn,lh h]at hx;injection hx with hx;refine⟨by rw[hf,hx],hn,?_⟩;obtain⟨g,hg,hx2,e⟩:=qjh.1 (show((fD X)[i].1,(fD X)[i].2)∈fD X from lu h);exact⟨g,hg,hx2,e⟩
theorem z4y(X:List aN)(n:Nat)(neg:Bool)(p:SS×SS):toE (tE X n neg p)=eE X n neg p:=by cases neg<;>rfl
def rlE(X:List aN)(q:SS×aR):List Edge:=(q.2.r.rule.nodes false).flatMap fun y=>(ndT X q.1 q.2 y).map (eE X (bW X q.1 q.2.r.name) y.neg)
theorem ztg(X:List aN)(l:List aN):rG X l=(fD l).flatMap (rlE X):=by unfold rG fD;rw[List.flatMap_assoc];congr 1;funext g;rw[lAN];rfl
theorem zbi{α:Type}(l:List α)(f:Nat->List Edge)(g:α->List Edge)(h:∀ i (hi:i<l.length),f i=g l[i]):(List.range l.length).flatMap f=l.flatMap g:=by
 have:(List.range l.length).map f=l.map g:=by refine List.ext_getElem (by simp) fun i h1 h2=>?_;simp only[cu,List.getElem_range];simp_all
 rw[List.flatMap_def,this,<-List.flatMap_def]
theorem dO.ts(hV:dO X):(tsG X (aJ X).length).map toE=rG X X:=by
 rw[ztg];unfold tsG;rw[List.map_flatMap,<-qji];refine zbi (fD X) _ (rlE X) fun i h=>?_;have h':i<(aJ X).length:=by rw[<-qji];exact h
 obtain⟨hf,hn,_⟩:=hV.at h;unfold tsN;rw[lh h'];rw[qmk h h'];simp only;rw[hf];unfold rlE;rw[List.map_flatMap,hn];congr 1;funext y;unfold ndE;rw[bu];refine lA0 fun p _=>?_;exact z4y X i y.neg p
theorem dO.rng(hV:dO X):∀ e∈tsG X (aJ X).length,e.f<(aJ X).length/\e.t<(aJ X).length:=by
 intro e he;unfold tsG at he;rw[yx]at he;obtain⟨i,hi,he⟩:=he;have h':i<(aJ X).length:=uu.1 hi;have h:i<(fD X).length:=by rw[qji];exact h'
 obtain⟨hf,hn,g,hg,hx,eg⟩:=hV.at h;unfold tsN at he;rw[lh h']at he;rw[qmk h h']at he;simp only at he;rw[hf]at he;rw[yx]at he;obtain⟨y,hy,he⟩:=he;unfold ndE at he;rw[qp]at he;obtain⟨p,hp,rfl⟩:=he;rw[<-eg]at hp;exact⟨h',zwv (hV.ndt ⟨hg,hx⟩ hy p hp)⟩
theorem dO.same(hV:dO X):qex (aJ X).length (qwb (aJ X).length (List.replicate ((aJ X).length*(aJ X).length) 0) (tsG X (aJ X).length))=iG (sortE (rG X X)):=by rw[q41 hV.rng,hV.ts]
structure bEZ(c d:Ev.Call):Prop where
 aVz:∀(b o n m:Nat) (x:Bool) (H:Hp) (r:R1),qlf H b o n=some r->c (.f 147) [.sl b o n m x,.fn 148 [] []] H=r
 aGq:∀(H:Hp),c (.f 147) [.aA,.fn 148 [] []] H=.ok (.aX []) H
 aVY:∀(b o m:Nat) (x:Bool) (H:Hp),c (.f 147) [.sl b o 0 m x,.fn 148 [] []] H=.ok (.aX []) H
abbrev oO(C:Nat->Ev.Call):Prop:=∀ k,bEZ (C (k+1)) (C k)
structure aTF(c d:Ev.Call):Prop where
 jS:∀(x0:AV) (H:Hp),c (.f 123) [x0] H=Di.jS d x0 H
 srt:∀(b o n m:Nat) (x:Bool) (H:Hp) (r:R1),qyd H b o n=some r->c (.f 122) [.sl b o n m x] H=r
 aGq:∀(H:Hp),c (.f 122) [.aA] H=.ok (.aX []) H
abbrev pV(C:Nat->Ev.Call):Prop:=∀ k,aTF (C (k+1)) (C k)
end Go.Di
end
noncomputable section
namespace Go.Di
open Go.Ev
variable {C:Nat->Ev.Call} {LA LO:LP}
variable {H H0:Hp} {O:Ev.Call} {i k n:Nat} {l:List AV}
theorem Gl.rl{v:AV}(h:Gl 1 H v n l):Rl H v l:=by
 have hn:l.length=n:=by have:=h.len;omega
 refine⟨by rw[h.cO,hn],fun i hi=>?_⟩;obtain⟨b,o,h1,h2,_,h3⟩:=h.at (i:=i) (x:=l[i]) (by simp);exact⟨b,o,h1,h2,h3⟩
theorem qih(l:List Nat)(h:i<(aK l).length):(aK l)[i]=.int .i64 (.ofNat (l[i]'(by simpa [aK] using h))):=by simp[aK]
theorem mO(l:List Nat):(aK l).length=l.length:=by simp[aK]
theorem qtg{O:Ev.Call}{H:Hp}{v:AV}{l pre post:List Nat}{x:Nat}(hv:Rl H v (aK l))(hl:l.length<900000)(hx:l=pre++x::post)(hn:x∉pre){bL:pD}{q2e:pH}{Q:pL}(hq:Ok (bL (.int .i64 (.ofNat pre.length)) H) Q):∀(k i:Nat),pre.length+1-i<k+1->i<=pre.length -> Ok (q6i O bL q2e v (.int .i64 (.ofNat x)) (.int .i64 (.ofNat l.length)) k (.int .i64 (.ofNat i)) H) Q
 |0,i,h,hi=>by omega
 |k+1,i,h,hi=>by
  show Ok (zem O _ _ _ _ _ (q6i O _ _ _ _ _ k) _ H) Q;unfold zem;have hll:l.length=pre.length+1+post.length:=by rw[hx];simp;omega
  have hil:i<l.length:=by omega
  obtain⟨b,o,e1,e2,e3⟩:=hv.at' i (by rw[mO];exact hil);rw[qih]at e3;simp only[go_sem,hil];unfold zu7;by_cases he:i=pre.length
  ·subst he;have e4:l[pre.length]'hil=x:=by subst hx;simp
   rw[e4]at e3;simp only[go_sem,e1,e3];exact hq
  ·have e4:x≠l[i]'hil:=fun e=>hn (by
    have:l[i]'hil=pre[i]'(by omega):=by subst hx;rw[List.getElem_append_left]
    rw[e,this];exact lu _)
   simp only[go_sem,e1,e3,e4];unfold zu8;simp(disch:=go_size)only[go_sem,rB,rI,rK,rL,rN,rS,r6];exact qtg hv hl hx hn hq k (i+1) (by omega) (by omega)
theorem zur(hC:aW C)(hk:1<=k){v:AV}{l pre post:List Nat}{x:Nat}(hv:Rl H v (aK l))(hl:l.length<900000)(hx:l=pre++x::post)(hn:x∉pre):Ok (C k (.f 211) [v,.int .i64 (.ofNat x)] H) fun r H'=>r=.int .i64 (.ofNat pre.length)/\H'=H:=by
 obtain⟨j,rfl⟩:=aS hk;rw[(hC j).zDj];unfold zDj zyo;have e1:=hv.len;rw[mO]at e1;simp only[go_sem,e1];unfold zva;rw[dB];have hll:l.length=pre.length+1+post.length:=by rw[hx];simp;omega
 exact qtg hv hl hx hn (Ok.ret ⟨rfl,rfl⟩) bX 0 (by rw[dI];omega) (by omega)
theorem qxc(O:Ev.Call)(l:Nat)(args:List AV)(H:Hp):uG O (.yield l) args H=O (.y l) args H:=id rfl
theorem qp3{C0:Ev.Call}{v:AV}{l:List AV}{H0:Hp}(hl:l.length<900000)(hv:Rl H0 v l){y:Nat}{Inv:Nat->Hp->Prop}(hf:∀ i H,Inv i H->Fm No H0 H)(hy:∀ i (h:i<l.length) H,Inv i H->Ok (C0 (.y y) [l[i]] H) fun r H'=>r=.bool true/\Inv (i+1) H'){bL q2e:pH}{Q:pL}(hq:∀ H,Inv l.length H->Ok (q2e H) Q):∀(k i:Nat) (H:Hp),l.length-i<k->i<=l.length->Inv i H -> Ok (q6f C0 bL q2e (.yield y) v (.int .i64 (.ofNat l.length)) k (.int .i64 (.ofNat i)) H) Q
 |0,i,H,h,_,_=>by omega
 |k+1,i,H,h,hi,hI=>by
  show Ok (zeg C0 _ _ _ _ _ (q6f C0 _ _ _ _ _ k) _ H) Q;unfold zeg;by_cases hil:i<l.length
  ·obtain⟨b,o,e1,e2,e3⟩:=(hv.fm (hf i H hI)).at' i hil;simp only[go_sem,hil];unfold zef;simp only[go_sem,e1,e3,qxc];refine Ok.ve (hy i hil H hI) ?_;rintro r H' ⟨rfl,hI'⟩;unfold zuz;simp(disch:=go_size)only[go_sem,rB,rI,rK,rL,rN,rS,r6];exact qp3 hl hv hf hy hq k (i+1) H' (by omega) (by omega) hI'
  ·have:i=l.length:=by omega
   simp only[go_sem,hil];simp_all
theorem zcf(hC:aW C)(hk:1<=k){v:AV}(hl:l.length<900000)(hv:Rl H0 v l){vb y:Nat}(hb:H.get vb=aB 0 [v]){Inv:Nat->Hp->Prop}(hf:∀ i H',Inv i H'->Fm No H0 H')(hy:∀ i (h:i<l.length) H',Inv i H'->Ok (C (k-1) (.y y) [l[i]] H') fun r H'=>r=.bool true/\Inv (i+1) H')(h0:Inv 0 H):Ok (C k (.f 227) [.yield y,.ptr vb 0] H) fun r H'=>r=.aX []/\Inv l.length H':=by obtain⟨j,rfl⟩:=aS hk;rw[(hC j).zDq];unfold zDq zyi;have e1:=hv.len;simp only[go_sem,hb,e1];unfold zu0;rw[dB];exact qp3 hl hv hf hy (fun H' h=>Ok.ret ⟨rfl,h⟩) bX 0 H (by rw[dI];omega) (by omega) h0
theorem qbw(H:Hp)(c:Nat)(k:bO)(h:c≠H.nx):(aO H k).get c=H.get c:=by rw[qhd,kz h]
theorem Ok.aCD{l:Nat}{r:R1}{R Q:pL}{L:TT AV 2}{K:Kt 2}(h:Ok r R)(hk:∀ v H,R v H->Ok (fin (endLoop l (.ok v H) L) K) Q):Ok (fin (endLoop l r L) K) Q:=by obtain⟨v,H,rfl,hR⟩:=h;exact hk v H hR
structure Col(LA:LP)(H0:Hp)(L:TT AV 2)(l sb:Nat)(xs:List AV)(n:Nat)(H:Hp):Prop where
 fm:Fm No H0 H
 lp:H.get l=LA.blk true L
 hl:H0.nx<=l/\l<H.nx
 hs:H0.nx<=sb/\sb<H.nx
 ne:sb≠l
 vs:∃ v,H.get sb=aB 0 [v]/\Gl 1 H v n (xs.take n)/\∀ b,In v b->H0.nx<=b/\b≠l/\b≠sb
theorem qqh{L:TT AV 2}{l sb:Nat}{xs:List AV}(hi:i<xs.length)(hx:xs.length<900000)(hint:∃ n:Nat,xs[i]=.int .i64 (.ofNat n))(hI:Col LA H0 L l sb xs i H):Ok (eF O l L (.ptr sb 0) xs[i] (H.put l (LA.blk false L))) fun r H'=>r=.bool true/\Col LA H0 L l sb xs (i+1) H':=by
 obtain⟨v,g1,g2,g3⟩:=hI.vs;obtain⟨m,hm⟩:=hint;unfold eF;have hsl:=hI.ne;have gs:(H.put l (LA.blk false L)).get sb=aB 0 [v]:=by rw[dG _ _ _ _ hsl];exact g1
 have gv:Gl 1 (H.put l (LA.blk false L)) v i (xs.take i):=g2.keep (lg _) fun b hb _=>dG _ _ _ _ (g3 b hb).2.1;rw[hm];have gv':Gl 1 (aO (H.put l (LA.blk false L)) (aB 0 [.int .i64 (.ofNat m)])) v i (xs.take i):=gv.no ((Fm.refl _ _).push _);obtain⟨H2,e1,e2,e3,e4,e5⟩:=gv'.append (w:=8) (k:=1) (x:=[.int .i64 (.ofNat m)]) (by omega) rfl (by omega) (by omega);have hnx:(aO (H.put l (LA.blk false L)) (aB 0 [.int .i64 (.ofNat m)])).nx=H.nx+1:=rfl;have hlt:=hI.hl.2;have hst:=hI.hs.2;have gs2:H2.get sb=aB 0 [v]:=by rw[e4.get sb (by rw[hnx];omega) fun h=>(g3 sb h).2.2 rfl,qbw _ _ _ (by rw[nq];omega)];exact gs
 have gl2:H2.get l=LA.blk false L:=by rw[e4.get l (by rw[hnx];omega) fun h=>(g3 l h).2.1 rfl,qbw _ _ _ (by rw[nq];omega),dS]
 simp(disch:=go_size)only[go_sem,seval,gs,e1,gs2,pg,uo];have gl3:(H2.put sb (aB 0 [.sl (H.nx+1) 0 (i+1) (i+1) false])).get l=LA.blk false L:=by rw[dG _ _ _ _ (Ne.symm hsl)];exact gl2
 rw[q5n gl3];have f1:Fm No H0 (aO (H.put l (LA.blk false L)) (aB 0 [.int .i64 (.ofNat m)])):=((hI.fm.aF l _ hI.hl.1).push _);have f2:Fm No H0 H2:=f1.then e4 fun c hc h=>absurd (g3 c h).1 (by omega);have f3:Fm No H0 ((H2.put sb (aB 0 [.sl (H.nx+1) 0 (i+1) (i+1) false])).put l (LA.blk true L)):=(f2.aF sb _ hI.hs.1).aF l _ hI.hl.1;have h0:=hI.fm.nx;refine Ok.ret ⟨rfl,f3,dS _ _ _,⟨hI.hl.1,?_⟩,⟨hI.hs.1,?_⟩,hsl,.sl (H.nx+1) 0 (i+1) (i+1) false,?_,?_,?_⟩
 ·show l<H2.nx;omega
 ·show sb<H2.nx;omega
 ·rw[dG _ _ _ _ hsl,dS]
 ·have:xs.take (i+1)=xs.take i++[.int .i64 (.ofNat m)]:=by rw[ku hi,hm]
  rw[this];refine e2.keep (lg _) fun b hb _=>?_;obtain⟨_,_,_,_,hb⟩:=hb;cases hb;rw[dG _ _ _ _ (by omega),dG _ _ _ _ (by omega)]
 ·rintro b ⟨_,_,_,_,hb⟩;cases hb;omega
theorem q0n(hC:aW C)(hR:oP LA LO C)(hk:3<=k){v:AV}{xs:List AV}(hl:xs.length<900000)(hv:Rl H v xs)(hint:∀ i (h:i<xs.length),∃n:Nat,xs[i]=.int .i64 (.ofNat n)){vb:Nat}(hb:H.get vb=aB 0 [v])(hvb:vb<H.nx):Ok (C k (.f 231) [.aA,.fn 227 [] [.ptr vb 0]] H) fun r H'=>Gl 1 H' r xs.length xs/\(∀b,In r b->H.nx<=b)/\Fm No H H':=by
 obtain⟨j,rfl⟩:∃ j,k=j+3:=⟨k-3,by omega⟩;rw[(hR (j+2)).jO];unfold jO qin;simp only[go_sem];unfold qim;generalize hL:pu (nV [.aA,.fn 227 [] [.ptr vb 0]] 0 (same .undef 2)) [(2,.ptr H.nx 0),(4,.aA),(6,.fn 227 [] [.ptr vb 0])]=L;have gL:G L 2=.ptr H.nx 0:=by rw[<-hL];kernel_rfl
 generalize hH1:aO H (aB 0 [.aA])=H1;have n1:H1.nx=H.nx+1:=by rw[<-hH1];rfl
 have f1:Fm No H H1:=by rw[<-hH1];exact(Fm.refl _ _).push _
 have f2:Fm No H (aO H1 (LA.blk true L)):=f1.push _;have O:qgw (C (j+2)) (.fn 227 [] [.ptr vb 0]) [.yield H1.nx] (aO H1 (LA.blk true L))=C (j+2) (.f 227) [.yield H1.nx,.ptr vb 0] (aO H1 (LA.blk true L)):=rfl;have h0:Col LA H L H1.nx H.nx xs 0 (aO H1 (LA.blk true L)):=by
  refine⟨f2,lC _ _,⟨by omega,by rw[np];omega⟩,⟨lg _,by rw[np];omega⟩,by omega,.aA,?_,?_,?_⟩
  ·rw[qbj _ _ _ (by omega),<-hH1,lC]
  ·exact Gl.nil _ _
  ·rintro b ⟨_,_,_,_,h⟩;cases h
 refine Ok.aCD (zcf hC (k:=j+2) (by omega) hl hv (vb:=vb) (y:=H1.nx) (by rw[f2.keep hvb];exact hb) (Inv:=fun i H'=>Col LA H L H1.nx H.nx xs i H') (fun i H' h=>h.fm) (fun i hi H' h=>?_) h0) ?_
 ·rw[show j+2-1=j+1 from rfl,(hR j).eF L _ _ _ h.lp,gL];exact qqh hi hl (hint i hi) h
 ·rintro r H' ⟨rfl,hI⟩;rw[z0z hI.lp];unfold qgz;rw[gL];obtain⟨v',g1,g2,g3⟩:=hI.vs;have g1':(H'.put H1.nx .dead).get H.nx=aB 0 [v']:=by rw[dG _ _ _ _ (by omega)];exact g1
  rw[tu (lg _)]at g2;simp only[go_sem,g1'];refine Ok.ret ⟨g2.keep (lg _) fun b hb _=>dG _ _ _ _ (g3 b hb).2.1,fun b hb=>(g3 b hb).1,hI.fm.aF _ _ (by omega)⟩
theorem zck(hC:aW C)(hR:oP LA LO C)(hk:4<=k){v:AV}{xs:List AV}(hl:xs.length<900000)(hv:Rl H v xs)(hint:∀ i (h:i<xs.length),∃n:Nat,xs[i]=.int .i64 (.ofNat n)){vb:Nat}(hb:H.get vb=aB 0 [v])(hvb:vb<H.nx):Ok (C k (.f 226) [.fn 227 [] [.ptr vb 0]] H) fun r H'=>Gl 1 H' r xs.length xs/\(∀b,In r b->H.nx<=b)/\Fm No H H':=by obtain⟨j,rfl⟩:=aS hk;rw[(hC j).zDr];refine Ok.ve (q0n hC hR (k:=j) (by omega) hl hv hint hb hvb) ?_;rintro r H' h;exact Ok.ret h
end Go.Di
end
noncomputable section
namespace Go.Di
open Go.Ev Go.Sort
variable {C:Nat->Ev.Call} {LA LO:LP}
theorem qpd:∀ l:List Nat,qpe (aK l)=some (l.map Int.ofNat)
 | []=>rfl
 |n::l=>by show(match qpe (aK l)with|some r=>some (Int.ofNat n::r)|none=>none)=_;rw[qpd l];rfl
theorem q95(hC:aW C)(hO:pV C)(hS:oO C){k:Nat}{n:Nat}{v:AV}{l:List Nat}{H:Hp}(hn:n<900)(h1:1<=n)(hk:n+10<=k)(hv:Gl 1 H v n (aK l)):Ok (C k (.f 122) [v] H) fun r H'=>r=.aX []/\∃ R:List Nat,R.Perm l/\R.Pairwise (· <= ·)/\Gl 1 H' v n (aK R)/\Fm (In v) H H':=by
 obtain⟨k,rfl⟩:∃ j,k=j+1:=⟨k-1,by omega⟩;have hln:l.length=n:=by have:=hv.len;rw[mO]at this;omega
 rcases hv.is with⟨_,h0⟩|⟨b,o,e,q,L,rfl,g1,g2,g3,g4,g5⟩
 ·omega
 have hL:L.length=o+n:=by have:=congrArg List.length g3;rw[xg,mO]at this;omega
 let R:List Nat:=(qjc (l.map Int.ofNat)).map Int.toNat
 have hp:(qjc (l.map Int.ofNat)).Perm (l.map Int.ofNat):=List.mergeSort_perm _ _;have hnn:∀ x∈qjc (l.map Int.ofNat),∃m:Nat,x=Int.ofNat m:=fun x hx=>by obtain⟨m,_,rfl⟩:=qp.1 (hp.mem_iff.1 hx);exact⟨m,rfl⟩
 have hRe:R.map Int.ofNat=qjc (l.map Int.ofNat):=by rw[bu];refine(lA0 fun x hx=>?_).trans (List.map_id _);obtain⟨m,rfl⟩:=hnn x hx;rfl
 have hRc:(qjc (l.map Int.ofNat)).map (fun z=>AV.int .i64 z)=aK R:=by rw[<-hRe,bu];rfl
 have hRl:R.length=n:=by rw[qc,qoh,qc,hln]
 have hst:storeAt H b o (aK R) (.aX [])=.ok (.aX []) (H.put b (aB q (bD L o (aK R)))):=qch _ _ _ _ _ _ _ g1 (by rw[mO,hRl,hL];omega);have hs:qyd H b o n=some (.ok (.aX []) (H.put b (aB q (bD L o (aK R))))):=by
  unfold qyd;have hr:eB (H.get b) o n=some (aK l):=by rw[g1,qca,pz (by rw[hL];omega),g3,tu (by rw[mO];omega)]
  rw[hr];simp only[qpd,hRc,hst];have hb:Nat.blt n 4611686018427387904=true:=by rw[blt_eq,gp (by omega)]
  rw[hb];rfl
 rw[(hO k).srt _ _ _ _ _ _ _ hs];refine Ok.ret ⟨rfl,R,?_,?_,?_,?_⟩
 ·have h2:=hp.map Int.toNat;have:(l.map Int.ofNat).map Int.toNat=l:=by
   rw[bu];exact(lA0 fun x _=>rfl).trans (List.map_id _)
  rwa [this]at h2
 ·have hsd:(qjc (l.map Int.ofNat)).Pairwise fun x y=>decide (x<=y)=true:=List.pairwise_mergeSort (fun a b c h1 h2=>by simp only[xq]at *;omega) (fun a b=>by simp only[af,xq];omega) _;rw[lAU];refine hsd.imp fun{a c} h=>?_;rw[xq]at h;omega
 ·refine⟨by rw[mO,hRl,qj],.inr ⟨b,o,e,q,_,rfl,dS _ _ _,?_,?_,g4,g5⟩⟩
  ·unfold bD;simp_all
  ·unfold bD;rw[qw,xu (by rw[qo];omega),vk (by rw[qo];omega),ae,vk (by rw[mO,hRl,hL];omega),uh]
 ·exact(Fm.refl _ _).put _ _ fun _=>⟨_,_,_,_,rfl⟩
theorem znf(hC:aW C)(hO:pV C)(hS:oO C)(hR:oP LA LO C){k:Nat}{v:AV}{l:List Nat}{H:Hp}(hn:l.length<900)(h1:1<=l.length)(hk:l.length+11<=k)(hv:Rl H v (aK l)){vb:Nat}(hb:H.get vb=aB 0 [v])(hvb:vb<H.nx):Ok (C k (.f 212) [.fn 227 [] [.ptr vb 0]] H) fun r H'=>∃ R:List Nat,R.Perm l/\R.Pairwise (· <= ·)/\Gl 1 H' r l.length (aK R)/\(∀b,In r b->H.nx<=b)/\Fm No H H':=by obtain⟨j,rfl⟩:∃ j,k=j+1:=⟨k-1,by omega⟩;rw[(hC j).zDl];refine Ok.ve (zck hC hR (k:=j) (by omega) (by rw[mO];omega) hv (fun i h=>⟨_,qih l h⟩) hb hvb) ?_;rintro r H1 ⟨g1,g2,g3⟩;rw[mO]at g1;refine Ok.ve (q95 hC hO hS (k:=j) (by omega) h1 (by omega) g1) ?_;rintro r2 H2 ⟨rfl,R,hp,hs,g4,f4⟩;exact Ok.ret ⟨R,hp,hs,g4,g2,g3.then f4 fun c hc h=>absurd (g2 c h) (by omega)⟩
end Go.Di
end
noncomputable section
namespace Go.Di.T
inductive Rc(aQ:Nat->List Nat):Nat->Nat->Prop where
 |refl (a:Nat):Rc aQ a a
 |step {a b c:Nat} (h:Rc aQ a b) (e:c∈aQ b):Rc aQ a c
theorem Rc.trans{aQ:Nat->List Nat}{a b c:Nat}(h:Rc aQ a b)(k:Rc aQ b c):Rc aQ a c:=by
 induction k with
 |refl=>exact h
 |step _ e ih=>exact ih.step e
theorem Rc.one{aQ:Nat->List Nat}{a b:Nat}(e:b∈aQ a):Rc aQ a b:=(Rc.refl a).step e
theorem Rc.closed{aQ:Nat->List Nat}{S:Nat->Prop}(h:∀ v,S v->∀ k∈aQ v,S k){a b:Nat}(r:Rc aQ a b)(ha:S a):S b:=by
 induction r with
 |refl=>exact ha
 |step _ e ih=>exact h _ ih _ e
def upd{α:Type}(f:Nat->α)(i:Nat)(x:α):Nat->α:=fun j=>if j=i then x else f j
theorem upd_same{α:Type}(f:Nat->α)(i:Nat)(x:α):upd f i x i=x:=pz rfl
theorem upd_ne{α:Type}(f:Nat->α){i j:Nat}(x:α)(h:j≠i):upd f i x j=f j:=kz h
structure TS where
 num:Nat->Nat
 low:Nat->Nat
 on:Nat->Bool
 stk:List Nat
 cnt:Nat
 out:List (List Nat)
def TS.enter(s:TS)(k:Nat):TS:=
 {s with cnt:=s.cnt+1,num:=upd s.num k (s.cnt+1),low:=upd s.low k (s.cnt+1),on:=upd s.on k true,stk:=s.stk++[k]}
def qp8(fr:List (Nat×Nat))(p:Nat×Nat)(k:Nat):Prop:=∃ j,fr[j]? =some p/\(fr.map Prod.fst)[j+1]? =some k
abbrev gP(fr:List (Nat×Nat)):List Nat:=fr.map Prod.fst
structure TI(n:Nat)(aQ:Nat->List Nat)(s:TS)(fr:List (Nat×Nat)):Prop where
 mH:∀ v∈s.stk,v<n
 jV:∀ v∈s.stk,0<s.num v
 gN:s.stk.Pairwise (fun a b=>s.num a<s.num b)
 oV:∀ v,s.on v=true↔v∈s.stk
 vis:∀ v,0<s.num v->v∈s.stk\/v∈s.out.flatten
 lX:∀ v∈s.out.flatten,0<s.num v/\v∉s.stk/\v<n
 iE:∀ v∈s.out.flatten,∀k∈aQ v,k∈s.out.flatten
 pJ:∀ c∈s.out,c.Pairwise (· < ·)/\∃ r∈c,∀x,x∈c↔Rc aQ r x/\Rc aQ x r
 o8:s.out.flatten.Nodup
 iX:∀ v,s.num v<=s.cnt
 lJ:s.cnt=s.stk.length+s.out.flatten.length
 iI:(gP fr).Sublist s.stk
 jR:∀ v∈s.stk,s.low v<=s.num v
 kV:∀ v∈s.stk,∃u∈s.stk,s.num u=s.low v/\Rc aQ v u
 fin:∀ v∈s.stk,v∉gP fr->s.low v<s.num v
 pE:∀ v∈s.stk,v∉gP fr->∀ k∈aQ v,0<s.num k/\(k∈s.stk->s.low v<=s.num k)
 zO:∀ p∈fr,p.2<=(aQ p.1).length/\∀ j,j<p.2->∀ k,(aQ p.1)[j]? =some k->0<s.num k/\(k∈s.stk->s.low p.1<=s.num k\/qp8 fr p k)
 oG:∀ v∈gP fr,∀w∈s.stk,s.num v<=s.num w->(∀v'∈gP fr,s.num v<s.num v'->s.num w<s.num v')->s.low v<=s.low w
 frR:∀ v∈gP fr,∀w∈s.stk,s.num v<=s.num w->Rc aQ v w
 cov:∀ w∈s.stk,∃v∈gP fr,s.num v<=s.num w
variable {n:Nat} {aQ:Nat->List Nat} {s:TS}
theorem TI.nd{fr:List (Nat×Nat)}(h:TI n aQ s fr):s.stk.Nodup:=h.gN.imp fun hab e=>by rw[e]at hab;exact xn _ hab
theorem zwr{f:Nat->Nat}:∀{l:List Nat},l.Pairwise (fun a b=>f a<f b)->∀{a b},a∈l->b∈l->f a=f b->a=b
 |x::l,h,a,b,ha,hb,e=>by
  rw[yl]at h;rcases qg.1 ha with e1|ha'<;>rcases qg.1 hb with e2|hb'
  ·rw[e1,e2]
  ·subst e1;exact absurd e (Nat.ne_of_lt (h.1 _ hb'))
  ·subst e2;exact absurd e.symm (Nat.ne_of_lt (h.1 _ ha'))
  ·exact zwr h.2 ha' hb' e
theorem TI.inj{fr:List (Nat×Nat)}(h:TI n aQ s fr){a b:Nat}(ha:a∈s.stk)(hb:b∈s.stk)(e:s.num a=s.num b):a=b:=zwr h.gN ha hb e
theorem TI.lV{fr:List (Nat×Nat)}(h:TI n aQ s fr){v:Nat}(hv:v∈gP fr):v∈s.stk:=h.iI.subset hv
theorem TI.empty(h:TI n aQ s []):s.stk=[]:=by
 cases hs:s.stk with
 |nil=>rfl
 |cons a l=>obtain⟨v,hv,_⟩:=h.cov a (by rw[hs];exact ql);cases hv
theorem TI.kJ{fr:List (Nat×Nat)}(h:TI n aQ s fr):s.cnt<=n:=by
 have hnd:(s.stk++s.out.flatten).Nodup:=xf.2 ⟨h.nd,h.o8,fun a ha b hb e=>(h.lX b hb).2.1 (e▸ha)⟩;have hsub:∀ x∈s.stk++s.out.flatten,x∈List.range n:=fun x hx=>by
  rw[uu];rcases gz.1 hx with hx|hx
  ·exact h.mH x hx
  ·exact(h.lX x hx).2.2
 have:=hnd.length_le_of_subset hsub;rw[lq,lAF,<-h.lJ]at this;exact this
theorem TI.zI{fr:List (Nat×Nat)}(h:TI n aQ s fr):fr.length<=s.stk.length:=by have:=h.iI.length_le;simp_all
theorem TI.aEk{fr:List (Nat×Nat)}(h:TI n aQ s fr){k:Nat}(hk:s.num k=0):k∉s.stk/\k∉s.out.flatten:=
 ⟨fun hx=>by have:=h.jV k hx;omega,fun hx=>by have:=(h.lX k hx).1;omega⟩
end Go.Di.T
end
noncomputable section
namespace Go.Di.T
variable {n:Nat} {aQ:Nat->List Nat} {s:TS}
theorem qF(l:List (Nat×Nat))(v i:Nat):gP (l++[(v,i)])=gP l++[v]:=by simp[gP]
theorem TI.aGE{fr:List (Nat×Nat)}(h:TI n aQ s fr):(gP fr).Nodup:=h.nd.sublist h.iI
theorem ziw{l:List (Nat×Nat)}{v i k:Nat}(hn:(gP (l++[(v,i)])).Nodup):¬ qp8 (l++[(v,i)]) (v,i) k:=by
 rintro ⟨j,h1,h2⟩;have hj:j+1<(gP (l++[(v,i)])).length:=(qm.1 h2).1;have hl:(gP (l++[(v,i)])).length=l.length+1:=by simp[gP]
 have hv:v∈gP l:=by rw[uf (by omega)]at h1;exact qp.2 ⟨_,uq h1,rfl⟩
 rw[qF,xf]at hn;exact hn.2.2 v hv v (gy.2 rfl) rfl
theorem qp8.bump{l x:List (Nat×Nat)}{v i i' k:Nat}{p:Nat×Nat}(h:qp8 (l++[(v,i)]) p k):qp8 (l++(v,i')::x) p k:=by
 obtain⟨j,h1,h2⟩:=h;have hj:j+1<(gP (l++[(v,i)])).length:=(qm.1 h2).1;have hl:(gP (l++[(v,i)])).length=l.length+1:=by simp[gP]
 refine⟨j,?_,?_⟩
 ·rw[uf (by omega)]at h1 ⊢;exact h1
 ·have e:(l++(v,i')::x).map Prod.fst=(gP (l++[(v,i)]))++x.map Prod.fst:=by simp[gP]
  rw[e,uf hj];exact h2
theorem TI.top{l:List (Nat×Nat)}{v i:Nat}(h:TI n aQ s (l++[(v,i)])){x:Nat}(hx:x∈gP l):s.num x<s.num v:=by have:=h.gN.sublist h.iI;rw[qF,yh]at this;exact this.2.2 x hx v (gy.2 rfl)
theorem TI.tZ{l:List (Nat×Nat)}{v i:Nat}(h:TI n aQ s (l++[(v,i)])){x:Nat}(hx:x∈gP (l++[(v,i)])):s.num x<=s.num v:=by
 rw[qF]at hx;rcases gz.1 hx with hx|hx
 ·exact yw (h.top hx)
 ·simp_all
theorem TI.seen{l:List (Nat×Nat)}{v i:Nat}(h:TI n aQ s (l++[(v,i)])){j k:Nat}(hj:j<i)(e:(aQ v)[j]? =some k):0<s.num k/\(k∈s.stk->s.low v<=s.num k):=by obtain⟨_,h2⟩:=h.zO (v,i) (ah _ (gy.2 rfl));obtain⟨h3,h4⟩:=h2 j hj k e;exact⟨h3,fun hk=>(h4 hk).resolve_right (ziw h.aGE)⟩
theorem TI.enter{fr0 fr1:List (Nat×Nat)}(h:TI n aQ s fr0){k:Nat}(hk:s.num k=0)(hkn:k<n)(hc:fr0=[]/\fr1=[]\/∃ l v i,fr0=l++[(v,i)]/\(aQ v)[i]? =some k/\fr1=l++[(v,i+1)]):TI n aQ (s.enter k) (fr1++[(k,0)]):=by
 obtain⟨n1,n2⟩:=h.aEk hk;have hn:gP fr1=gP fr0:=by
  rcases hc with⟨rfl,rfl⟩|⟨l,v,i,rfl,_,rfl⟩
  ·rfl
  ·simp
 have ha:gP (fr1++[(k,0)])=gP fr0++[k]:=by rw[qF,hn]
 have nk:∀{v},v∈s.stk->v≠k:=fun hv e=>n1 (e▸hv);have nko:∀{v},v∈s.out.flatten->v≠k:=fun hv e=>n2 (e▸hv);have nkv:∀{v},0<s.num v->v≠k:=fun hv e=>by rw[e,hk]at hv;exact xn _ hv
 have iR:∀{v},v≠k->(s.enter k).num v=s.num v:=fun hv=>upd_ne _ _ hv;have aAX:(s.enter k).num k=s.cnt+1:=upd_same _ _ _;have jR:∀{v},v≠k->(s.enter k).low v=s.low v:=fun hv=>upd_ne _ _ hv;have kV:(s.enter k).low k=s.cnt+1:=upd_same _ _ _;have mem:∀{v},v∈(s.enter k).stk↔v∈s.stk\/v=k:=fun{v}=>by show v∈s.stk++[k]↔_;rw[gz,gy]
 have iM:∀{v},v∈gP (fr1++[(k,0)])↔v∈gP fr0\/v=k:=fun{v}=>by rw[ha,gz,gy]
 exact{
  mH:=fun v hv=>by rcases mem.1 hv with hv|rfl;exact h.mH v hv;exact hkn
  jV:=fun v hv=>by
   rcases mem.1 hv with hv|rfl
   ·rw[iR (nk hv)];exact h.jV v hv
   ·omega
  gN:=by show(s.stk++[k]).Pairwise _;rw[yh];refine⟨h.gN.imp_of_mem fun ha hb hab=>by rw[iR (nk ha),iR (nk hb)];exact hab,zq _ _,fun a ha b hb=>?_⟩;rw[gy.1 hb,aAX,iR (nk ha)];have:=h.iX a;omega
  oV:=fun v=>by
   rw[mem];show upd s.on k true v=true↔_;by_cases e:v=k
   ·rw[e,upd_same];simp
   ·rw[upd_ne _ _ e,h.oV];simp[e]
  vis:=fun v hv=>by
   by_cases e:v=k
   ·simp_all
   ·rw[iR e]at hv;exact(h.vis v hv).imp (fun x=>mem.2 (Or.inl x)) id
  lX:=fun v hv=>by obtain⟨h1,h2,h3⟩:=h.lX v hv;simp_all
  iE:=h.iE
  pJ:=h.pJ
  o8:=h.o8
  iX:=fun v=>by
   show _<=s.cnt+1;by_cases e:v=k
   ·simp_all
   ·rw[iR e];exact Nat.le_succ_of_le (h.iX v)
  lJ:=by show s.cnt+1=(s.stk++[k]).length+s.out.flatten.length;rw[lq,lE0,h.lJ];omega
  iI:=by rw[ha];exact h.iI.append (List.Sublist.refl _)
  jR:=fun v hv=>by
   rcases mem.1 hv with hv|rfl
   ·rw[iR (nk hv),jR (nk hv)];exact h.jR v hv
   ·omega
  kV:=fun v hv=>by
   rcases mem.1 hv with hv|rfl
   ·obtain⟨u,h1,h2,h3⟩:=h.kV v hv;exact⟨u,mem.2 (Or.inl h1),by rw[iR (nk h1),jR (nk hv)];exact h2,h3⟩
   ·exact⟨v,mem.2 (Or.inr rfl),by rw[aAX,kV],Rc.refl _⟩
  fin:=fun v hv hf=>by rw[iM,not_or]at hf;have hv:=(mem.1 hv).resolve_right hf.2;rw[iR hf.2,jR hf.2];exact h.fin v hv hf.1
  pE:=fun v hv hf x hx=>by rw[iM,not_or]at hf;have hv:=(mem.1 hv).resolve_right hf.2;obtain⟨h1,h2⟩:=h.pE v hv hf.1 x hx;simp_all
  zO:=fun p hp=>by
   rcases gz.1 hp with hp|hp
   ·-- an old frame
    have old:∀{x},0<s.num x->p.1∈gP fr0->(x∈s.stk->s.low p.1<=s.num x\/qp8 (fr1++[(k,0)]) p x) ->
      0<(s.enter k).num x/\(x∈(s.enter k).stk->(s.enter k).low p.1<=(s.enter k).num x\/qp8 (fr1++[(k,0)]) p x):=fun{x} h1 hpn h2=>by
     refine⟨by rw[iR (nkv h1)];exact h1,fun hx=>?_⟩;rw[jR (nk (h.lV hpn)),iR (nkv h1)];simp_all
    rcases hc with⟨rfl,rfl⟩|⟨l,v,i,rfl,he,rfl⟩
    ·cases hp
    ·rcases gz.1 hp with hp|hp
     ·obtain⟨g1,g2⟩:=h.zO p (zu _ hp);refine⟨g1,fun j hj x hx=>?_⟩;obtain⟨g3,g4⟩:=g2 j hj x hx;refine old g3 (qp.2 ⟨p,zu _ hp,rfl⟩) fun hxs=>(g4 hxs).imp id fun g=>?_;rw[qw];exact g.bump
     ·obtain rfl:=gy.1 hp;refine⟨(qm.1 he).1,fun j hj x hx=>?_⟩;rcases yf j i with hji|hji
      ·obtain⟨g3,g4⟩:=h.seen hji hx;simp_all
      ·have:j=i:=by have:j<i+1:=hj;omega
       subst this;have hx:(aQ v)[j]? =some x:=hx;rw[he]at hx;obtain rfl:=Option.some.inj hx;refine⟨by rw[aAX];omega,fun _=>Or.inr ⟨l.length,?_,?_⟩⟩
       ·simp
       ·simp
   ·simp_all
  oG:=fun v hv w hw hle hb=>by
   rcases iM.1 hv with hv|rfl
   ·have hvk:=nk (h.lV hv);rcases mem.1 hw with hw|rfl
    ·rw[jR hvk,jR (nk hw)];rw[iR hvk,iR (nk hw)]at hle;refine h.oG v hv w hw hle fun v' hv' hlt=>?_;have:=hb v' (iM.2 (Or.inl hv'));rw[iR hvk,iR (nk hw),iR (nk (h.lV hv'))]at this;omega
    ·have:=hb w (iM.2 (Or.inr rfl));rw[iR hvk,aAX]at this;have hle2:=h.iX v;omega
   ·rcases mem.1 hw with hw|rfl
    ·rw[aAX,iR (nk hw)]at hle;have:=h.iX w;omega
    ·simp
  frR:=fun v hv0 w hw hle=>by
   rcases iM.1 hv0 with hv|rfl
   ·rcases mem.1 hw with hw|rfl
    ·rw[iR (nk (h.lV hv)),iR (nk hw)]at hle;exact h.frR v hv w hw hle
    ·rcases hc with⟨rfl,rfl⟩|⟨l,t,i,rfl,he,rfl⟩
     ·trivial
     ·have ht:t∈gP (l++[(t,i)]):=by rw[qF];simp
      exact(h.frR v hv t (h.lV ht) (h.tZ hv)).step (uq he)
   ·rcases mem.1 hw with hw|rfl
    ·rw[aAX,iR (nk hw)]at hle;have:=h.iX w;omega
    ·exact Rc.refl _
  cov:=fun w hw=>by
   rcases mem.1 hw with hw|rfl
   ·obtain⟨v,h1,h2⟩:=h.cov w hw;exact⟨v,iM.2 (Or.inl h1),by rw[iR (nk (h.lV h1)),iR (nk hw)];exact h2⟩
   ·exact⟨w,iM.2 (Or.inr rfl),lg _⟩}
theorem TI.aNi{fr:List (Nat×Nat)}(h:TI n aQ s fr){v m:Nat}(hv:v∈gP fr)(hm:m<=s.low v)(hu:∃ u∈s.stk,s.num u=m/\Rc aQ v u):TI n aQ {s with low:=upd s.low v m} fr:=by
 have le:∀ x,upd s.low v m x<=s.low x:=fun x=>by
  by_cases e:x=v
  ·rw[e,upd_same];exact hm
  ·rw[upd_ne _ _ e];exact lg _
 exact{
  mH:=h.mH,jV:=h.jV,gN:=h.gN,oV:=h.oV,vis:=h.vis,lX:=h.lX,iE:=h.iE,pJ:=h.pJ,o8:=h.o8,iX:=h.iX,lJ:=h.lJ,iI:=h.iI
  jR:=fun x hx=>tq (le x) (h.jR x hx)
  kV:=fun x hx=>by
   show ∃u∈s.stk,s.num u=upd s.low v m x/\_;by_cases e:x=v
   ·rw[e,upd_same];exact hu
   ·rw[upd_ne _ _ e];exact h.kV x hx
  fin:=fun x hx hf=>lAS (le x) (h.fin x hx hf)
  pE:=fun x hx hf k hk=>⟨(h.pE x hx hf k hk).1,fun hks=>tq (le x) ((h.pE x hx hf k hk).2 hks)⟩
  zO:=fun p hp=>⟨(h.zO p hp).1,fun j hj k hk=>⟨((h.zO p hp).2 j hj k hk).1,fun hks=>(((h.zO p hp).2 j hj k hk).2 hks).imp (tq (le _)) id⟩⟩
  oG:=fun a ha w hw hle hb=>by
   show upd s.low v m a<=upd s.low v m w;by_cases e:w=v
   ·subst e;by_cases e2:a=w
    ·simp_all
    ·have hne:s.num a<s.num w:=Nat.lt_of_le_of_ne hle fun e3=>e2 (h.inj (h.lV ha) hw e3);exact absurd (hb w hv hne) (xn _)
   ·rw[upd_ne _ _ e];exact tq (le a) (h.oG a ha w hw hle hb)
  frR:=h.frR
  cov:=h.cov}
theorem TI.bump{l:List (Nat×Nat)}{v i k:Nat}(h:TI n aQ s (l++[(v,i)]))(he:(aQ v)[i]? =some k)(h1:0<s.num k)(h2:k∈s.stk->s.low v<=s.num k):TI n aQ s (l++[(v,i+1)]):=by
 have hn:gP (l++[(v,i+1)])=gP (l++[(v,i)]):=by rw[qF,qF]
 exact{
  mH:=h.mH,jV:=h.jV,gN:=h.gN,oV:=h.oV,vis:=h.vis,lX:=h.lX,iE:=h.iE,pJ:=h.pJ,o8:=h.o8,iX:=h.iX,lJ:=h.lJ,jR:=h.jR,kV:=h.kV
  iI:=by rw[hn];exact h.iI
  fin:=by rw[hn];exact h.fin
  pE:=by rw[hn];exact h.pE
  oG:=by rw[hn];exact h.oG
  frR:=by rw[hn];exact h.frR
  cov:=by rw[hn];exact h.cov
  zO:=fun p hp=>by
   rcases gz.1 hp with hp|hp
   ·obtain⟨g1,g2⟩:=h.zO p (zu _ hp);refine⟨g1,fun j hj x hx=>?_⟩;obtain⟨g3,g4⟩:=g2 j hj x hx;exact⟨g3,fun hxs=>(g4 hxs).imp id fun g=>g.bump⟩
   ·obtain rfl:=gy.1 hp;refine⟨(qm.1 he).1,fun j hj x hx=>?_⟩;rcases yf j i with hji|hji
    ·obtain⟨g3,g4⟩:=h.seen hji hx;simp_all
    ·have:j=i:=by have:j<i+1:=hj;omega
     subst this;have hx:(aQ v)[j]? =some x:=hx;rw[he]at hx;obtain rfl:=Option.some.inj hx;exact⟨h1,fun hxs=>Or.inl (h2 hxs)⟩}
def TS.look(s:TS)(v k:Nat):TS:=if s.on k then{s with low:=upd s.low v (min (s.low v) (s.num k))}else s
theorem TI.look{l:List (Nat×Nat)}{v i k:Nat}(h:TI n aQ s (l++[(v,i)]))(he:(aQ v)[i]? =some k)(hk:0<s.num k):TI n aQ (s.look v k) (l++[(v,i+1)]):=by
 unfold TS.look;have hv:v∈gP (l++[(v,i)]):=by rw[qF];simp
 cases ho:s.on k with
 |false=>
  have hns:k∉s.stk:=fun hx=>by rw[(h.oV k).2 hx]at ho;cases ho
  exact h.bump he hk fun hx=>absurd hx hns
 |true=>
  have hks:=(h.oV k).1 ho;have h2:TI n aQ {s with low:=upd s.low v (min (s.low v) (s.num k))} (l++[(v,i)]):=by
   refine h.aNi hv (bz _ _) ?_;rcases Nat.le_total (s.low v) (s.num k)with hle|hle
   ·rw[yg hle];exact h.kV v (h.lV hv)
   ·rw[Nat.min_eq_right hle];exact⟨k,hks,rfl,Rc.one (uq he)⟩
  refine TI.bump h2 he hk fun _=>?_;show upd s.low v _ v<=s.num k;rw[upd_same];exact um _ _
theorem q0h{l:List (Nat×Nat)}{v i k:Nat}{p:Nat×Nat}(hp:p∈l)(hn:(gP (l++[(v,i)])).Nodup)(h:qp8 (l++[(v,i)]) p k):qp8 l p k\/(k=v/\l.getLast? =some p):=by
 obtain⟨j,h1,h2⟩:=h;have hj:j+1<(gP (l++[(v,i)])).length:=(qm.1 h2).1;have hl:(gP (l++[(v,i)])).length=l.length+1:=by simp[gP]
 have h1':l[j]? =some p:=by rwa [uf (by omega)]at h1
 rw[show(l++[(v,i)]).map Prod.fst=gP l++[v]from qF l v i]at h2;have hnl:(gP l).length=l.length:=by simp[gP]
 rcases yf (j+1) l.length with h|h
 ·rw[uf (by omega)]at h2;exact Or.inl ⟨j,h1',h2⟩
 ·have e:j+1=l.length:=by omega
  rw[uC (by omega),hnl,e,lAM]at h2;refine Or.inr ⟨(Option.some.inj h2).symm,?_⟩;rw[List.getLast?_eq_getElem?,<-e];exact h1'
theorem TI.pop{l:List (Nat×Nat)}{v u j:Nat}(h:TI n aQ s ((l++[(u,j)])++[(v,(aQ v).length)]))(hlow:s.low v<s.num v):TI n aQ {s with low:=upd s.low u (min (s.low u) (s.low v))} (l++[(u,j)]):=by
 have hvf:v∈gP ((l++[(u,j)])++[(v,(aQ v).length)]):=by rw[qF];simp
 have huf:u∈gP (l++[(u,j)]):=by rw[qF];simp
 have iM:∀{x},x∈gP ((l++[(u,j)])++[(v,(aQ v).length)])↔x∈gP (l++[(u,j)])\/x=v:=fun{x}=>by rw[qF (l++[(u,j)]),gz,gy]
 have hvs:=h.lV hvf;have huv:s.num u<s.num v:=h.top huf;have xP:=h.lV (iM.2 (Or.inl huf));have aHm:∀{x},x∈gP (l++[(u,j)])->s.num x<=s.num u:=fun{x} hx=>by
  have h2:=h.gN.sublist ((List.sublist_append_left (gP (l++[(u,j)])) [v]).trans (by rw[<-qF];exact h.iI));rw[qF,yh]at h2;rw[qF]at hx;rcases gz.1 hx with hx|hx
  ·exact yw (h2.2.2 x hx u (gy.2 rfl))
  ·simp_all
 -- the old state over fewer frames
 have le:∀ x,upd s.low u (min (s.low u) (s.low v)) x<=s.low x:=fun x=>by
  by_cases e:x=u
  ·rw[e,upd_same];exact bz _ _
  ·rw[upd_ne _ _ e];exact lg _
 exact{
  mH:=h.mH,jV:=h.jV,gN:=h.gN,oV:=h.oV,vis:=h.vis,lX:=h.lX,iE:=h.iE,pJ:=h.pJ,o8:=h.o8,iX:=h.iX,lJ:=h.lJ
  iI:=(List.sublist_append_left (gP (l++[(u,j)])) [v]).trans (by rw[<-qF];exact h.iI)
  jR:=fun x hx=>tq (le x) (h.jR x hx)
  kV:=fun x hx=>by
   show ∃w∈s.stk,s.num w=upd s.low u (min (s.low u) (s.low v)) x/\_;by_cases e:x=u
   ·rw[e,upd_same];rcases Nat.le_total (s.low u) (s.low v)with hle|hle
    ·rw[yg hle];exact h.kV u xP
    ·rw[Nat.min_eq_right hle];obtain⟨w,h1,h2,h3⟩:=h.kV v hvs;exact⟨w,h1,h2,(h.frR u (iM.2 (Or.inl huf)) v hvs (yw huv)).trans h3⟩
   ·rw[upd_ne _ _ e];exact h.kV x hx
  fin:=fun x hx hf=>by
   refine lAS (le x) ?_;by_cases e:x=v
   ·simp_all
   ·exact h.fin x hx fun hx2=>(iM.1 hx2).elim hf e
  pE:=fun x hx hf k hk=>by
   by_cases e:x=v
   ·subst e;obtain⟨i,hi⟩:=lAB.1 hk;have hil:=(qm.1 hi).1;obtain⟨g1,g2⟩:=h.seen hil hi;exact⟨g1,fun hks=>tq (le x) (g2 hks)⟩
   ·obtain⟨g1,g2⟩:=h.pE x hx (fun hx2=>(iM.1 hx2).elim hf e) k hk;exact⟨g1,fun hks=>tq (le x) (g2 hks)⟩
  zO:=fun p hp=>by
   obtain⟨g1,g2⟩:=h.zO p (zu _ hp);refine⟨g1,fun i hi k hk=>?_⟩;obtain⟨g3,g4⟩:=g2 i hi k hk;refine⟨g3,fun hks=>?_⟩;rcases g4 hks with g|g
   ·exact Or.inl (tq (le _) g)
   ·rcases q0h hp h.aGE g with g6|⟨rfl,g6⟩
    ·exact Or.inr g6
    ·rw[List.getLast?_concat]at g6;obtain rfl:=Option.some.inj g6;refine Or.inl ?_;show upd s.low u (min (s.low u) (s.low k)) u<=s.num k;rw[upd_same];omega
  oG:=fun a ha w hw hle hb=>by
   show upd s.low u (min (s.low u) (s.low v)) a<=upd s.low u (min (s.low u) (s.low v)) w;have haf:=iM.2 (Or.inl ha:a∈gP (l++[(u,j)])\/a=v);have has:=h.lV haf;by_cases e:w=u
   ·subst e;by_cases e2:a=w
    ·simp_all
    ·exact absurd (hb w huf (Nat.lt_of_le_of_ne hle fun e3=>e2 (h.inj has hw e3))) (xn _)
   ·rw[upd_ne _ _ e];rcases yf (s.num w) (s.num v)with hwv|hwv
    ·refine tq (le a) (h.oG a haf w hw hle fun v' hv' hlt=>?_);rcases iM.1 hv' with hv'|rfl
     ·simp_all
     ·exact hwv
    ·have hau:a=u:=by
      refine h.inj has xP (Nat.le_antisymm (aHm ha) ?_);rcases yf (s.num a) (s.num u)with g|g
      ·have:=hb u huf g;have:s.num w<s.num u:=this;omega
      ·exact g
     rw[hau,upd_same];refine tq (um _ _) (h.oG v hvf w hw hwv fun v' hv' hlt=>?_);have:=h.tZ hv';omega
  frR:=fun a ha=>h.frR a (iM.2 (Or.inl ha))
  cov:=fun w hw=>by
   obtain⟨v',h1,h2⟩:=h.cov w hw;rcases iM.1 h1 with h1|rfl
   ·exact⟨v',h1,h2⟩
   ·exact⟨u,huf,by show s.num u<=s.num w;omega⟩}
theorem TI.root{v i:Nat}(h:TI n aQ s [(v,i)]):¬ s.low v<s.num v:=fun hlt=>by
 have hv:v∈gP [(v,i)]:=by simp[gP]
 obtain⟨u,h1,h2,_⟩:=h.kV v (h.lV hv);obtain⟨f,h3,h4⟩:=h.cov u h1;have:f=v:=by simpa [gP] using h3
 subst this;omega
theorem TI.leave{l:List (Nat×Nat)}{v:Nat}(h:TI n aQ s (l++[(v,(aQ v).length)]))(hlow:¬ s.low v<s.num v){pre post comp:List Nat}(hs:s.stk=pre++v::post)(hp:comp.Perm (v::post))(ha:comp.Pairwise (· < ·))(on':Nat->Bool)(hon:∀ x,on' x=if x∈comp then false else s.on x):TI n aQ {s with stk:=pre,on:=on',out:=s.out++[comp]} l:=by
 have hvf:v∈gP (l++[(v,(aQ v).length)]):=by rw[qF];simp
 have iM:∀{x},x∈gP (l++[(v,(aQ v).length)])↔x∈gP l\/x=v:=fun{x}=>by rw[qF,gz,gy]
 have hvs:=h.lV hvf;have hsort:=h.gN;rw[hs,yh,yl]at hsort;obtain⟨s1,⟨s2,s3⟩,s4⟩:=hsort;have mem:∀{x},x∈s.stk↔x∈pre\/x∈v::post:=fun{x}=>by rw[hs,gz]
 have pP:∀{x},x∈pre->s.num x<s.num v:=fun{x} hx=>s4 x hx v ql;have lZ:∀{x},x∈v::post->s.num v<=s.num x:=fun{x} hx=>by
  rcases qg.1 hx with rfl|hx
  ·simp
  ·exact yw (s2 x hx)
 have uX:∀{x},x∈pre->x∉v::post:=fun{x} h1 h2=>by have:=pP h1;have:=lZ h2;omega
 have aMz:∀{x},x∈s.stk->s.num x<s.num v->x∈pre:=fun{x} h1 h2=>(mem.1 h1).resolve_right fun h3=>by have:=lZ h3;omega
 have isPost:∀{x},x∈s.stk->s.num v<=s.num x->x∈v::post:=fun{x} h1 h2=>(mem.1 h1).resolve_left fun h3=>by have:=pP h3;omega
 have uH:∀{x},x∈comp↔x∈v::post:=hp.mem_iff;have memo:∀{x},x∈(s.out++[comp]).flatten↔x∈s.out.flatten\/x∈v::post:=fun{x}=>by rw[ny,gz];simp[uH]
 have postS:∀{x},x∈v::post->x∈s.stk:=fun hx=>mem.2 (Or.inr hx)
 -- a way back
 have back:∀ m x,s.num x=m->x∈v::post->Rc aQ x v:=by
  intro m
  induction m using Nat.strongRecOn with
  |_ m ih=>
   intro x hm hx;by_cases e:x=v
   ·rw[e];exact Rc.refl _
   ·have hxs:=postS hx;have hxf:x∉gP (l++[(v,(aQ v).length)]):=fun hf=>by
     have h1:=h.tZ hf;have h2:=lZ hx;exact e (h.inj hxs hvs (by omega))
    obtain⟨u,h1,h2,h3⟩:=h.kV x hxs;have h4:=h.fin x hxs hxf;have h5:s.low v<=s.low x:=h.oG v hvf x hxs (lZ hx) fun v' hv' hlt=>by have:=h.tZ hv';omega
    exact h3.trans (ih (s.num u) (by omega) u rfl (isPost h1 (by omega)))
 have closed:∀ x∈v::post,∀k∈aQ x,k∈v::post\/k∈s.out.flatten:=fun x hx k hk=>by
  have hxs:=postS hx;have key:0<s.num k/\(k∈s.stk->s.num v<=s.num k):=by
   by_cases e:x=v
   ·subst e;obtain⟨i,hi⟩:=lAB.1 hk;obtain⟨g1,g2⟩:=h.seen (qm.1 hi).1 hi;exact⟨g1,fun hks=>by have:=g2 hks;omega⟩
   ·have hxf:x∉gP (l++[(v,(aQ v).length)]):=fun hf=>by
     have h1:=h.tZ hf;have h2:=lZ hx;exact e (h.inj hxs hvs (by omega))
    obtain⟨g1,g2⟩:=h.pE x hxs hxf k hk;have h5:s.low v<=s.low x:=h.oG v hvf x hxs (lZ hx) fun v' hv' hlt=>by have:=h.tZ hv';omega
    exact⟨g1,fun hks=>by have:=g2 hks;omega⟩
  rcases h.vis k key.1 with hks|hko
  ·simp_all
  ·simp_all
 have aG2:∀{x},x∈s.out.flatten->x∉v::post:=fun h1 h2=>(h.lX _ h1).2.1 (postS h2);have aWx:∀{p k},p∈l->k∈pre->qp8 (l++[(v,(aQ v).length)]) p k->qp8 l p k:=fun{p k} hp hk g=>by
  rcases q0h hp h.aGE g with g|⟨rfl,_⟩
  ·exact g
  ·exact absurd ql (uX hk)
 exact{
  mH:=fun x hx=>h.mH x (mem.2 (Or.inl hx))
  jV:=fun x hx=>h.jV x (mem.2 (Or.inl hx))
  gN:=s1
  oV:=fun x=>by
   show on' x=true↔x∈pre;rw[hon];by_cases hx:x∈comp
   ·rw[pz hx];exact⟨fun e=>(by cases e),fun e=>absurd (uH.1 hx) (uX e)⟩
   ·rw[kz hx,h.oV,mem];exact⟨fun e=>e.resolve_right fun g=>hx (uH.2 g),Or.inl⟩
  vis:=fun x hx=>by
   rcases h.vis x hx with g|g
   ·rcases mem.1 g with g|g
    ·exact Or.inl g
    ·simp_all
   ·simp_all
  lX:=fun x hx=>by
   rcases memo.1 hx with g|g
   ·obtain⟨h1,h2,h3⟩:=h.lX x g;simp_all
   ·exact⟨h.jV x (postS g),fun h4=>uX h4 g,h.mH x (postS g)⟩
  iE:=fun x hx k hk=>by
   rcases memo.1 hx with g|g
   ·exact memo.2 (Or.inl (h.iE x g k hk))
   ·exact memo.2 ((closed x g k hk).symm)
  pJ:=fun c hc=>by
   rcases gz.1 hc with hc|hc
   ·exact h.pJ c hc
   ·obtain rfl:=gy.1 hc;refine⟨ha,v,uH.2 ql,fun x=>⟨fun hx=>⟨h.frR v hvf x (postS (uH.1 hx)) (lZ (uH.1 hx)),back _ x rfl (uH.1 hx)⟩,fun⟨g1,g2⟩=>?_⟩⟩;have hcl:x∈v::post\/x∈s.out.flatten:=Rc.closed (S:=fun x=>x∈v::post\/x∈s.out.flatten) (fun y hy k hk=>hy.elim (fun g=>closed y g k hk) fun g=>Or.inr (h.iE y g k hk)) g1 (Or.inl ql);rcases hcl with g|g
    ·exact uH.2 g
    ·have:=Rc.closed (S:=fun x=>x∈s.out.flatten) h.iE g2 g;exact absurd hvs (h.lX v this).2.1
  o8:=by
   rw[ny,xf];refine⟨h.o8,by
    have e:[comp].flatten=comp:=by simp
    rw[e];exact ha.imp fun hab=>Nat.ne_of_lt hab,fun a h1 b h2 e=>?_⟩
   have h2:b∈comp:=by simpa using h2
   exact aG2 h1 (uH.1 (e▸h2))
  iX:=h.iX
  lJ:=by rw[h.lJ,hs];have:=hp.length_eq;simp at this ⊢;omega
  iI:=by
   have h1:=h.iI.filter (fun x=>decide (s.num x<s.num v));rw[qF,hs,yj,yj]at h1;have e1:(gP l).filter (fun x=>decide (s.num x<s.num v))=gP l:=List.filter_eq_self.2 fun x hx=>gp (h.top hx);have e2:pre.filter (fun x=>decide (s.num x<s.num v))=pre:=List.filter_eq_self.2 fun x hx=>gp (pP hx);have e3:(v::post).filter (fun x=>decide (s.num x<s.num v))=[]:=List.filter_eq_nil_iff.2 fun x hx=>by simpa using lZ hx
   simp_all
  jR:=fun x hx=>h.jR x (mem.2 (Or.inl hx))
  kV:=fun x hx=>by obtain⟨u,h1,h2,h3⟩:=h.kV x (mem.2 (Or.inl hx));have:=h.jR x (mem.2 (Or.inl hx));have:=pP hx;exact⟨u,aMz h1 (by omega),h2,h3⟩
  fin:=fun x hx hf=>h.fin x (mem.2 (Or.inl hx)) fun g=>(iM.1 g).elim hf fun e=>by have:=pP hx;rw[e]at this;exact xn _ this
  pE:=fun x hx hf k hk=>by obtain⟨g1,g2⟩:=h.pE x (mem.2 (Or.inl hx)) (fun g=>(iM.1 g).elim hf fun e=>by have:=pP hx;rw[e]at this;exact xn _ this) k hk;simp_all
  zO:=fun p hp=>by obtain⟨g1,g2⟩:=h.zO p (zu _ hp);refine⟨g1,fun i hi k hk=>?_⟩;obtain⟨g3,g4⟩:=g2 i hi k hk;exact⟨g3,fun hks=>(g4 (mem.2 (Or.inl hks))).imp id (aWx hp hks)⟩
  oG:=fun a ha w hw hle hb=>h.oG a (iM.2 (Or.inl ha)) w (mem.2 (Or.inl hw)) hle fun v' hv' hlt=>by
   rcases iM.1 hv' with g|rfl
   ·exact hb v' g hlt
   ·exact pP hw
  frR:=fun a ha w hw hle=>h.frR a (iM.2 (Or.inl ha)) w (mem.2 (Or.inl hw)) hle
  cov:=fun w hw=>by
   obtain⟨v',h1,h2⟩:=h.cov w (mem.2 (Or.inl hw));rcases iM.1 h1 with h1|rfl
   ·exact⟨v',h1,h2⟩
   ·have:=pP hw;omega}
theorem TI.init(n:Nat)(aQ:Nat->List Nat):TI n aQ ⟨fun _=>0,fun _=>0,fun _=>false,[],0,[]⟩ [] where
 mH:=fun v hv=>by cases hv
 jV:=fun v hv=>by cases hv
 gN:=List.Pairwise.nil
 oV:=fun v=>by simp
 vis:=fun v hv=>by cases hv
 lX:=fun v hv=>by cases hv
 iE:=fun v hv=>by cases hv
 pJ:=fun v hv=>by cases hv
 o8:=List.nodup_nil
 iX:=fun v=>lg _
 lJ:=rfl
 iI:=List.Sublist.refl _
 jR:=fun v hv=>by cases hv
 kV:=fun v hv=>by cases hv
 fin:=fun v hv=>by cases hv
 pE:=fun v hv=>by cases hv
 zO:=fun v hv=>by cases hv
 oG:=fun v hv=>by cases hv
 frR:=fun v hv=>by cases hv
 cov:=fun v hv=>by cases hv
end Go.Di.T
end
noncomputable section
namespace Go.Di
open Go.Ev Go.Di.T
variable {C:Nat->Ev.Call} {LA LO:LP}
variable {H H':Hp} {S:Nat->Prop} {b i j k m n o z:Nat} {l:List AV}
structure Gs(z:Nat)(H:Hp)(v:AV)(n:Nat)(l:List AV):Prop where
 len:l.length=n*z
 is:(v=.aA/\n=0)\/∃ b o m e q L,v=.sl b o n m e/\n<=m/\H.get b=aB q L/\o+m*z=L.length/\(L.drop o).take (n*z)=l/\(e=true\/q=z)/\b<H.nx
theorem Gs.nil(z:Nat)(H:Hp):Gs z H .aA 0 []:=⟨by simp,.inl ⟨rfl,rfl⟩⟩
theorem Gs.cO{v:AV}(h:Gs z H v n l):aD v=.val (.int .i64 (.ofNat n)):=by rcases h.is with⟨rfl,rfl⟩|⟨b,o,m,e,q,L,rfl,_⟩<;>rfl
theorem Gs.lt{v:AV}(h:Gs z H v n l)(hb:In v b):b<H.nx:=by
 obtain⟨_,_,_,_,e⟩:=hb;rcases h.is with⟨rfl,_⟩|⟨b',o,m,y,q,L,rfl,_,_,_,_,_,h5⟩
 ·cases e
 ·simp_all
theorem Gs.keep{v:AV}(h:Gs z H v n l)(hn:H.nx<=H'.nx)(hk:∀ b,In v b->b<H.nx->H'.get b=H.get b):Gs z H' v n l:=by
 refine⟨h.len,?_⟩;rcases h.is with h|⟨b,o,m,e,q,L,rfl,h0,h1,h2,h3,h4,h5⟩
 ·exact .inl h
 ·exact .inr ⟨b,o,m,e,q,L,rfl,h0,(hk b ⟨_,_,_,_,rfl⟩ h5).trans h1,h2,h3,h4,lL h5 hn⟩
theorem Gs.fm{v:AV}(h:Gs z H v n l)(a:Fm S H H')(hs:∀ b,In v b->¬ S b):Gs z H' v n l:=
 h.keep a.nx fun b hb hlt=>a.get b hlt (hs b hb)
theorem Gl.gs{v:AV}(h:Gl z H v n l):Gs z H v n l:=by
 refine⟨h.len,?_⟩;rcases h.is with h|⟨b,o,e,q,L,rfl,h1,h2,h3,h4,h5⟩
 ·exact .inl h
 ·have hd:o+n*z=L.length:=by have:=h.len;rw[<-h3,xg]at this;omega
  exact .inr ⟨b,o,n,e,q,L,rfl,lg _,h1,hd,by rw[h3,tu (by rw[h.len];exact lg _)],h4,h5⟩
theorem Gs.rl{v:AV}(h:Gs 1 H v n l):Rl H v l:=by
 have hn:l.length=n:=by have:=h.len;omega
 refine⟨by rw[h.cO,hn],fun i hi=>?_⟩;rcases h.is with⟨rfl,rfl⟩|⟨b,o,m,e,q,L,rfl,h0,h1,h2,h3,h4,h5⟩
 ·omega
 ·refine⟨b,o+i,by rw[sV _ _ _ _ _ _ _ _ (by omega),qj],h5,?_⟩;have:L[o+i]? =some l[i]:=by
   have e1:((L.drop o).take (n*1))[i]? =some l[i]:=by rw[h3];simp
   rw[lA7,pz (by omega),zf]at e1;exact e1
  rw[h1,qb0,this]
theorem Gs.cut{e:Bool}(h:Gs z H (.sl b o n m e) n l)(hk:k<=n):Gs z H (.sl b o k m e) k (l.take (k*z)):=by
 have hkz:k*z<=n*z:=uz _ hk;refine⟨by rw[qo,h.len];omega,?_⟩;rcases h.is with⟨h,_⟩|⟨b',o',m',e',q,L,hv,h0,h1,h2,h3,h4,h5⟩
 ·cases h
 ·cases hv;refine .inr ⟨b,o,m,e,q,L,rfl,by omega,h1,h2,?_,h4,h5⟩;rw[<-h3,List.take_take];simp_all
theorem Gs.append{z w n:Nat}{v:AV}{l x:List AV}(h:Gs z H v n l)(hx:x.length=z)(hb:(n+1)*w<=1099511627776)(hb2:n+1<=1099511627776):Ok (j5 z w H v (some ⟨1,x⟩)) fun v' H'=>(∃b o m e,v'=.sl b o (n+1) m e)/\Gs z H' v' (n+1) (l++x)/\Fm (In v) H H'/\(∀b,In v' b->In v b\/H.nx<=b):=by
 have aE8:∀(H:Hp) (v:AV),Gl z H v n l->Ok (j5 z w H v (some ⟨1,x⟩)) fun v' H'=>(∃b o m e,v'=.sl b o (n+1) m e)/\Gs z H' v' (n+1) (l++x)/\Fm (In v) H H'/\(∀b,In v' b->In v b\/H.nx<=b):=fun H v g=>by obtain⟨H',e1,e2,e3,e4,e5⟩:=g.append (w:=w) (k:=1) (x:=x) (by omega) (by omega) hb hb2;exact⟨_,H',e1,⟨_,_,_,_,rfl⟩,e2.gs,e4,fun b hb=>by obtain⟨_,_,_,_,e⟩:=hb;cases e;exact Or.inr (lg _)⟩
 rcases h.is with⟨rfl,rfl⟩|⟨b,o,m,e,q,L,rfl,h0,h1,h2,h3,h4,h5⟩
 ·have:l=[]:=ry.1 (by rw[h.len];simp);subst this;exact aE8 H _ (Gl.nil _ _)
 ·rcases yf n m with hnm|hnm
  ·have e0:Nat.ble (n+1) m=true:=by rw[ble_eq,gp (by omega)]
   have hm1:(n+1)*z<=m*z:=uz _ hnm;have hz1:(n+1)*z=n*z+z:=by rw[xh,au]
   have e1:j5 z w H (.sl b o n m e) (some ⟨1,x⟩)=.ok (.sl b o (n+1) m e) (H.put b (aB q (bD L (o+n*z) x))):=by show(bif Nat.ble (n+1) m then storeAt H b (o+n*z) x (.sl b o (n+1) m e)else _)=_;rw[e0];exact qch _ _ _ _ _ _ _ h1 (by omega)
   refine⟨_,_,e1,⟨_,_,_,_,rfl⟩,⟨by rw[lq,h.len,hx,hz1],.inr ⟨b,o,m,e,q,_,rfl,hnm,dS _ _ _,?_,?_,h4,h5⟩⟩,(Fm.refl _ _).put b _ fun _=>⟨_,_,_,_,rfl⟩,fun b' hb'=>Or.inl ?_⟩
   ·unfold bD;simp only[lq,qo,xg];omega
   ·rw[hz1];unfold bD;have ht:(L.take (o+n*z)).length=o+n*z:=by rw[qo];omega
    rw[qw,xu (by omega),List.drop_take,show o+n*z-o=n*z by omega];have hl2:((L.drop o).take (n*z)).length=n*z:=by rw[h3];exact h.len
    rw[lE4,tu (by omega),hl2,h3,show n*z+z-n*z=z by omega];simp_all
   ·obtain⟨_,_,_,_,e⟩:=hb';cases e;exact⟨_,_,_,_,rfl⟩
  ·have:m=n:=by omega
   subst this;refine aE8 H _ ⟨h.len,.inr ⟨b,o,e,q,L,rfl,h1,by omega,?_,h4,h5⟩⟩;rw[<-h3,tu (by rw[xg];omega)]
def rU(nx:Nat->AV)(s:TS)(sv ov:AV)(i:Nat):AV:=
 if i<256 then nx i else if i<512 then .int .i64 (.ofNat (s.num (i-256)))else if i<768 then .int .i64 (.ofNat (s.low (i-512)))else if i<1024 then .bool (s.on (i-768))
 else if i=1024 then sv else if i=1025 then .int .i64 (.ofNat s.cnt)else ov
def qpb(nx:Nat->AV)(s:TS)(sv ov:AV):List AV:=(List.range 1027).map (rU nx s sv ov)
def TB(nx:Nat->AV)(s:TS)(sv ov:AV):bO:=aB 0 (qpb nx s sv ov)
theorem zbj(nx:Nat->AV)(s:TS)(sv ov:AV):(qpb nx s sv ov).length=1027:=by unfold qpb;rw[qc,lAF]
variable {nx:Nat->AV} {s:TS} {sv ov:AV}
theorem zlf(j:Nat):(qpb nx s sv ov)[j]? =if j<1027 then some (rU nx s sv ov j)else none:=by
 unfold qpb;rw[xw];by_cases hj:j<1027
 ·simp_all
 ·simp_all
theorem q56(h:i<1027):dK (TB nx s sv ov) i=.val (rU nx s sv ov i):=by unfold TB;rw[qb0,zlf,pz h]
attribute [local irreducible] qpb rU
theorem q55{nx':Nat->AV}{s':TS}{rE ov':AV}{x:AV}(h:i<1027)(h1:rU nx' s' rE ov' i=x)(h2:∀ j,j<1027->j≠i->rU nx' s' rE ov' j=rU nx s sv ov j):wH (TB nx s sv ov) i [x]=some (TB nx' s' rE ov'):=by
 unfold TB;have hlen:=zbj nx s sv ov;rw[qg1,pz (by rw[hlen];exact h)];refine congrArg some (congrArg (aB 0) ?_);unfold bD;generalize hl:qpb nx s sv ov=l at hlen;apply List.ext_getElem?;intro j;have hj0:l[j]? =if j<1027 then some (rU nx s sv ov j)else none:=by rw[<-hl];exact zlf j
 rw[zlf j];have hlt:(l.take i).length=i:=by rw[qo];omega
 have hlx:(l.take i++[x]).length=i+1:=by rw[lq,hlt];rfl
 rcases oz j i with hji|hji|hji
 ·rw[uf (by omega),uf (by omega),lA7,pz hji,hj0];by_cases g:j<1027
  ·rw[pz g,pz g,h2 j g (by omega)]
  ·omega
 ·simp_all
 ·rw[uC (by omega),zf,hlx];have e:i+[x].length+(j-(i+1))=j:=by show i+1+(j-(i+1))=j;omega
  rw[e,hj0];by_cases g:j<1027
  ·rw[pz g,pz g,h2 j g (by omega)]
  ·rw[kz g,kz g]
attribute [local semireducible] rU
theorem kN(h:i<256):rU nx s sv ov i=nx i:=by unfold rU;rw[pz h]
theorem aD6(h:256<=i)(h2:i<512):rU nx s sv ov i=.int .i64 (.ofNat (s.num (i-256))):=by unfold rU;rw[kz (by omega),pz h2]
theorem aEG(h:512<=i)(h2:i<768):rU nx s sv ov i=.int .i64 (.ofNat (s.low (i-512))):=by unfold rU;rw[kz (by omega),kz (by omega),pz h2]
theorem kOn(h:768<=i)(h2:i<1024):rU nx s sv ov i=.bool (s.on (i-768)):=by unfold rU;rw[kz (by omega),kz (by omega),kz (by omega),pz h2]
theorem kS:rU nx s sv ov 1024=sv:=rfl
theorem kC:rU nx s sv ov 1025=.int .i64 (.ofNat s.cnt):=rfl
theorem kO:rU nx s sv ov 1026=ov:=rfl
theorem qpc{nx':Nat->AV}{s':TS}{rE ov':AV}(hj:j<1027)(hji:j≠i)(h1:j<256->nx' j=nx j)(h2:∀ m,j=256+m->s'.num m=s.num m)(h3:∀ m,j=512+m->s'.low m=s.low m)(h4:∀ m,j=768+m->s'.on m=s.on m)(h5:j=1024->rE=sv)(h6:j=1025->s'.cnt=s.cnt)(h7:j=1026->ov'=ov):rU nx' s' rE ov' j=rU nx s sv ov j:=by
 by_cases g1:j<256
 ·rw[kN g1,kN g1,h1 g1]
 by_cases g2:j<512
 ·rw[aD6 (by omega) g2,aD6 (by omega) g2,h2 (j-256) (by omega)]
 by_cases g3:j<768
 ·rw[aEG (by omega) g3,aEG (by omega) g3,h3 (j-512) (by omega)]
 by_cases g4:j<1024
 ·rw[kOn (by omega) g4,kOn (by omega) g4,h4 (j-768) (by omega)]
 by_cases g5:j=1024
 ·subst g5;rw[kS,kS,h5 rfl]
 by_cases g6:j=1025
 ·subst g6;rw[kC,kC,h6 rfl]
 have g7:j=1026:=by omega
 subst g7;rw[kO,kO,h7 rfl]
theorem tF{v:Nat}(h:v<256):dK (TB nx s sv ov) v=.val (nx v):=by rw[q56 (by omega),kN h]
theorem rdNum{v:Nat}(h:v<256):dK (TB nx s sv ov) (256+v)=.val (.int .i64 (.ofNat (s.num v))):=by rw[q56 (by omega),aD6 (by omega) (by omega),zo]
theorem aK5{v:Nat}(h:v<256):dK (TB nx s sv ov) (512+v)=.val (.int .i64 (.ofNat (s.low v))):=by rw[q56 (by omega),aEG (by omega) (by omega),zo]
theorem aTL{v:Nat}(h:v<256):dK (TB nx s sv ov) (768+v)=.val (.bool (s.on v)):=by rw[q56 (by omega),kOn (by omega) (by omega),zo]
theorem rdS:dK (TB nx s sv ov) 1024=.val sv:=by rw[q56 (by omega),kS]
theorem rdC:dK (TB nx s sv ov) 1025=.val (.int .i64 (.ofNat s.cnt)):=by rw[q56 (by omega),kC]
theorem rdO:dK (TB nx s sv ov) 1026=.val ov:=by rw[q56 (by omega),kO]
theorem wrN{v:Nat}(h:v<256)(x:AV):wH (TB nx s sv ov) v [x]=some (TB (upd nx v x) s sv ov):=
 q55 (by omega) (by rw[kN h,upd_same]) fun j hl hj=>qpc hl hj (fun _=>upd_ne _ _ hj) (fun _ _=>rfl) (fun _ _=>rfl) (fun _ _=>rfl) (fun _=>rfl) (fun _=>rfl) fun _=>rfl
theorem aMI{v:Nat}(h:v<256)(x:Nat):wH (TB nx s sv ov) (256+v) [.int .i64 (.ofNat x)]=some (TB nx {s with num:=upd s.num v x} sv ov):=
 q55 (by omega) (by rw[aD6 (by omega) (by omega),zo,show({s with num:=upd s.num v x}:TS).num v=x from upd_same _ _ _]) fun j hl hj=>qpc hl hj (fun _=>rfl) (fun m hm=>upd_ne _ _ (by omega)) (fun _ _=>rfl) (fun _ _=>rfl) (fun _=>rfl) (fun _=>rfl) fun _=>rfl
theorem aPb{v:Nat}(h:v<256)(x:Nat):wH (TB nx s sv ov) (512+v) [.int .i64 (.ofNat x)]=some (TB nx {s with low:=upd s.low v x} sv ov):=
 q55 (by omega) (by rw[aEG (by omega) (by omega),zo,show({s with low:=upd s.low v x}:TS).low v=x from upd_same _ _ _]) fun j hl hj=>qpc hl hj (fun _=>rfl) (fun _ _=>rfl) (fun m hm=>upd_ne _ _ (by omega)) (fun _ _=>rfl) (fun _=>rfl) (fun _=>rfl) fun _=>rfl
theorem aTN{v:Nat}(h:v<256)(x:Bool):wH (TB nx s sv ov) (768+v) [.bool x]=some (TB nx {s with on:=upd s.on v x} sv ov):=
 q55 (by omega) (by rw[kOn (by omega) (by omega),zo,show({s with on:=upd s.on v x}:TS).on v=x from upd_same _ _ _]) fun j hl hj=>qpc hl hj (fun _=>rfl) (fun _ _=>rfl) (fun _ _=>rfl) (fun m hm=>upd_ne _ _ (by omega)) (fun _=>rfl) (fun _=>rfl) fun _=>rfl
theorem wrS(x:AV):wH (TB nx s sv ov) 1024 [x]=some (TB nx s x ov):=
 q55 (by omega) kS fun j hl hj=>qpc hl hj (fun _=>rfl) (fun _ _=>rfl) (fun _ _=>rfl) (fun _ _=>rfl) (fun h=>absurd h hj) (fun _=>rfl) fun _=>rfl
theorem wrC(x:Nat):wH (TB nx s sv ov) 1025 [.int .i64 (.ofNat x)]=some (TB nx {s with cnt:=x} sv ov):=
 q55 (by omega) kC fun j hl hj=>qpc hl hj (fun _=>rfl) (fun _ _=>rfl) (fun _ _=>rfl) (fun _ _=>rfl) (fun _=>rfl) (fun h=>absurd h hj) fun _=>rfl
theorem wrO(x:AV):wH (TB nx s sv ov) 1026 [x]=some (TB nx s sv x):=
 q55 (by omega) kO fun j hl hj=>qpc hl hj (fun _=>rfl) (fun _ _=>rfl) (fun _ _=>rfl) (fun _ _=>rfl) (fun _=>rfl) (fun _=>rfl) fun h=>absurd h hj
attribute [go_sem] tF rdNum aK5 aTL rdS rdC rdO wrN aMI aPb aTN wrS wrC wrO
end Go.Di
end
noncomputable section
namespace Go.Di
open Go.Ev Go.Di.T
variable {C:Nat->Ev.Call} {LA LO:LP}
variable {H H' H0:Hp} {S:Nat->Prop} {aQ:Nat->List Nat} {b i j k n o z:Nat} {col:Nat->Nat} {cs l:List AV}
structure aD4(H:Hp)(col:Nat->Nat)(cs:List AV)(out:List (List Nat)):Prop where
 len:cs.length=out.length
 at':∀(i:Nat) (c:AV) (o:List Nat),cs[i]? =some c->out[i]? =some o->(∃b q n m e,c=.sl b q n m e)/\Gl 1 H c o.length (aK o)/\∀ b,In c b->col b=5
structure TMd(H0:Hp)(aQ:Nat->List Nat)(s:TS)(col:Nat->Nat)(tb:Nat)(H:Hp)(nx:Nat->AV)(sv ov:AV)(cs:List AV):Prop where
 fm:Fm No H0 H
 base:∀ b,b<H0.nx->col b=9
 ge:H0.nx<=tb
 lt:tb<H.nx
 ct:col tb=0
 get:H.get tb=TB nx s sv ov
 zD:∀ v,v<256->Gl 1 H (nx v) (aQ v).length (aK (aQ v))/\∀ b,In (nx v) b->col b=10+v
 stk:Gs 1 H sv s.stk.length (aK s.stk)
 wD:∀ b,In sv b->col b=2
 out:Gl 1 H ov cs.length cs
 ouc:∀ b,In ov b->col b=4
 css:aD4 H col cs s.out
def TM(H0:Hp)(aQ:Nat->List Nat)(s:TS)(col:Nat->Nat)(tb:Nat)(H:Hp):Prop:=∃ nx sv ov cs,TMd H0 aQ s col tb H nx sv ov cs
theorem aD4.keep{col col':Nat->Nat}{out:List (List Nat)}(h:aD4 H col cs out)(hn:H.nx<=H'.nx)(hg:∀ b,b<H.nx->col b=5->H'.get b=H.get b)(hc:∀ b,b<H.nx->col' b=col b):aD4 H' col' cs out:=
 ⟨h.len,fun i c o h1 h2=>by obtain⟨g0,g1,g2⟩:=h.at' i c o h1 h2;exact⟨g0,g1.keep hn fun b hb hlt=>hg b hlt (g2 b hb),fun b hb=>(hc b (g1.lt hb)).trans (g2 b hb)⟩⟩
theorem TMd.step{s:TS}{tb:Nat}{nx:Nat->AV}{sv ov:AV}(h:TMd H0 aQ s col tb H nx sv ov cs)(f:Fm S H H')(hS:∀ b,b<H.nx->S b->b=tb\/col b=2\/col b=3){col':Nat->Nat}(hc:∀ b,b<H.nx->col' b=col b){s':TS}{rE:AV}(hg:H'.get tb=TB nx s' rE ov)(hs:Gs 1 H' rE s'.stk.length (aK s'.stk))(hsc:∀ b,In rE b->col' b=2)(ho:s'.out=s.out):TMd H0 aQ s' col' tb H' nx rE ov cs:=by
 have h9:∀ b,b<H0.nx->¬ S b:=fun b hb hs=>by
  have hlt:b<H.nx:=lL hb h.fm.nx;rcases hS b hlt hs with e|e|e
  ·have:=h.ge;omega
  ·rw[h.base b hb]at e;cases e
  ·rw[h.base b hb]at e;cases e
 have kp:∀{c:Nat},c≠0->c≠2->c≠3->∀ b,b<H.nx->col b=c->H'.get b=H.get b:=fun{c} h0 h2 h3 b hb hcb=>f.get b hb fun hs=>by
  rcases hS b hb hs with e|e|e
  ·rw[e,h.ct]at hcb;exact h0 hcb.symm
  ·omega
  ·omega
 exact{
  fm:=h.fm.then f fun b hb hs=>absurd hs (h9 b hb)
  base:=fun b hb=>(hc b (lL hb h.fm.nx)).trans (h.base b hb)
  ge:=h.ge
  lt:=lL h.lt f.nx
  ct:=(hc tb h.lt).trans h.ct
  get:=hg
  zD:=fun v hv=>by obtain⟨g1,g2⟩:=h.zD v hv;exact⟨g1.keep f.nx fun b hb hlt=>kp (c:=10+v) (by omega) (by omega) (by omega) b hlt (g2 b hb),fun b hb=>(hc b (g1.lt hb)).trans (g2 b hb)⟩
  stk:=hs
  wD:=hsc
  out:=h.out.keep f.nx fun b hb hlt=>kp (c:=4) (by omega) (by omega) (by omega) b hlt (h.ouc b hb)
  ouc:=fun b hb=>(hc b (h.out.lt hb)).trans (h.ouc b hb)
  css:=ho▸h.css.keep f.nx (kp (c:=5) (by omega) (by omega) (by omega)) hc}
def qss(col:Nat->Nat)(H:Hp)(k:Nat):Nat->Nat:=fun b=>if b<H.nx then col b else k
theorem qb2(h:b<H.nx):qss col H k b=col b:=pz h
theorem qhb(h:H.nx<=b):qss col H k b=k:=kz (by omega)
theorem q9n(hC:aW C)(hk:1<=k){s:TS}{tb:Nat}(hM:TM H0 aQ s col tb H){v:Nat}(hv:v<256)(hcnt:s.cnt<=256)(hst:s.stk.length<=256):Ok (C k (.f 181) [.ptr tb 0,.int .i64 (.ofNat v)] H) fun r H'=>r=.aX []/\∃ col',(∀b,b<H.nx->col' b=col b)/\TM H0 aQ (s.enter v) col' tb H'/\Fm (fun b=>b=tb\/col b=2) H H':=by
 obtain⟨j,rfl⟩:=aS hk;rw[(hC j).zDd];unfold zDd zys;obtain⟨nx,sv,ov,cs,hM⟩:=hM;have g1:=hM.get;have g3:=hM.stk;have g3c:=hM.wD;simp(disch:=first|go_size|omega)only[go_sem,rB,rI,rK,rL,rN,rS,r6,qj,qf,g1];have ht2:∀ b,In sv b->b≠tb:=fun b hb e=>by have:=g3c b hb;rw[e,hM.ct]at this;cases this
 refine Ok.ve (Gs.append (z:=1) (n:=s.stk.length) (l:=aK s.stk) (g3.keep ?_ fun b hb hlt=>?_) ?_ ?_ ?_) ?_
 ·simp only[np,nq];omega
 ·rw[qbw _ _ _ (by simp only[nq];omega)];simp only[zln,dG _ _ _ _ (ht2 b hb)]
 ·rfl
 ·omega
 ·omega
 rintro r H1 ⟨⟨b',o',m',e',rfl⟩,h1,h2,h3⟩;have hlt:=hM.lt;have gt:H1.get tb=TB nx {s with cnt:=s.cnt+1,num:=upd s.num v (s.cnt+1),low:=upd s.low v (s.cnt+1),on:=upd s.on v true} sv ov:=by rw[h2.get tb (by simp only[np,nq];omega) fun hb=>ht2 tb hb rfl,qbw _ _ _ (by simp only[nq];omega),dS]
 simp only[go_sem,qj,qf,gt];have f2:Fm (fun b=>b=tb\/col b=2) H H1:=by refine Fm.then (S:=fun b=>b=tb\/col b=2) (Fm.push ?_ _) h2 fun c hc hi=>Or.inr (g3c c hi);exact((((Fm.refl _ _).put tb _ fun _=>Or.inl rfl).put tb _ fun _=>Or.inl rfl).put tb _ fun _=>Or.inl rfl).put tb _ fun _=>Or.inl rfl
 have f3:=f2.put tb (TB nx {s with cnt:=s.cnt+1,num:=upd s.num v (s.cnt+1),low:=upd s.low v (s.cnt+1),on:=upd s.on v true} (.sl b' o' (s.stk.length+1) m' e') ov) fun _=>Or.inl rfl;have nlt:=h2.nx;simp only[np,nq]at nlt h3;refine Ok.ret ⟨rfl,qss col H 2,fun b hb=>qb2 hb,⟨nx,_,ov,cs,hM.step f3 (fun b _ h=>h.imp id Or.inl) (fun b hb=>qb2 hb) (dS _ _ _) ?_ ?_ rfl⟩,f3⟩
 ·have e:aK s.stk++[.int .i64 (.ofNat v)]=aK (s.stk++[v]):=by simp[aK]
  rw[e]at h1;show Gs 1 _ _ (s.stk++[v]).length (aK (s.stk++[v]));rw[lq];refine h1.keep (lg _) fun b hb _=>dG _ _ _ _ fun e=>?_;subst e;rcases h3 b hb with g|g
  ·exact ht2 b g rfl
  ·omega
 ·intro b hb;rcases h3 b hb with g|g
  ·rw[qb2 (g3.lt g)];exact g3c b g
  ·exact qhb (by omega)
theorem qko(z b o n m:Nat)(e:Bool){a:Nat}(h:a<=n)(h2:n<=m)(h3:a<m):kM z (.sl b o n m e) (some (.int .i64 (.ofNat a))) none none=.val (.sl b (o+a*z) (n-a) (m-a) e):=by
 show(match bounds n m (some (.int .i64 (.ofNat a))) none none with|some bd=>iD b o z bd e|none=>R0.bad)=_;have:bounds n m (some (.int .i64 (.ofNat a))) none none=some ⟨a,n,m⟩:=by show(match(bif Nat.ble a n then some a else none)with|none=>none|some l=>some (Bd.mk l n m))=_;rw[ble_eq,gp h];rfl
 rw[this];show(bif Nat.beq m a then _ else R0.val (.sl b (o+a*z) (n-a) (m-a) e))=_;rw[beq_eq,qi (by omega)];rfl
theorem q7u(z b o n m:Nat)(e:Bool)(h:k<=n)(h2:n<=m)(h3:0<m):kM z (.sl b o n m e) none (some (.int .i64 (.ofNat k))) none=.val (.sl b o k m e):=by
 show(match bounds n m none (some (.int .i64 (.ofNat k))) none with|some bd=>iD b o z bd e|none=>R0.bad)=_;have:bounds n m none (some (.int .i64 (.ofNat k))) none=some ⟨0,k,m⟩:=by show(match(bif Nat.ble k m then some k else none)with|none=>none|some h=>match(some 0:Option Nat)with|none=>none|some l=>some (Bd.mk l h m))=_;rw[ble_eq,gp (by omega)];rfl
 rw[this];show(bif Nat.beq m 0 then _ else R0.val (.sl b (o+0*z) (k-0) (m-0) e))=_;rw[beq_eq,qi (by omega),lAL];rfl
theorem Gs.from{v:AV}(h:Gs 1 H v n l){a:Nat}(ha:a<n):∃ w,kM 1 v (some (.int .i64 (.ofNat a))) none none=.val w/\(∃b o n m e,w=.sl b o n m e)/\Rl H w (l.drop a):=by
 have hr:=h.rl;have hl:l.length=n:=by have:=h.len;omega
 rcases h.is with⟨rfl,h0⟩|⟨b,o,m,e,q,L,rfl,h0,h1,h2,h3,h4,h5⟩
 ·omega
 ·refine⟨_,qko 1 b o n m e (by omega) h0 (by omega),⟨_,_,_,_,_,rfl⟩,?_,fun i hi=>?_⟩
  ·show R0.val (.int .i64 (.ofNat (n-a)))=_;simp_all
  ·rw[xg]at hi;refine⟨b,o+a*1+i,by rw[sV _ _ _ _ _ _ _ _ (by omega)];simp only[qj],h5,?_⟩;obtain⟨b',o',e1,_,e3⟩:=hr.at' (a+i) (by omega);rw[sV _ _ _ _ _ _ _ _ (by omega)]at e1;cases e1;have:o+a*1+i=o+(a+i)*1:=by omega
   simp_all
theorem Gs.upto{v:AV}(h:Gs z H v n l)(hk:k<=n)(hn:0<n):∃ b o m e,kM z v none (some (.int .i64 (.ofNat k))) none=.val (.sl b o k m e)/\Gs z H (.sl b o k m e) k (l.take (k*z))/\∀ c,In (.sl b o k m e) c->In v c:=by
 rcases h.is with⟨rfl,h0⟩|⟨b,o,m,e,q,L,rfl,h0,h1,h2,h3,h4,h5⟩
 ·omega
 ·refine⟨b,o,m,e,q7u z b o n m e hk h0 (by omega),?_,fun c hc=>?_⟩
  ·exact Gs.cut h hk
  ·obtain⟨_,_,_,_,g⟩:=hc;cases g;exact⟨_,_,_,_,rfl⟩
theorem zs6(hC:aW C)(hk:1<=k){s:TS}{tb:Nat}(hM:TM H0 aQ s col tb H){v:Nat}(hv:v<256)(hl:s.low v<s.num v):C k (.f 182) [.ptr tb 0,.int .i64 (.ofNat v)] H=.ok (.aX []) H:=by obtain⟨j,rfl⟩:=aS hk;rw[(hC j).zDe];unfold zDe zpc;obtain⟨nx,sv,ov,cs,hM⟩:=hM;have g1:=hM.get;simp(disch:=omega)only[go_sem,seval,qj,qf,g1,hl]
def aCX(on:Nat->Bool):List Nat->Nat->Bool
 | [],x=>on x
 |k::r,x=>aCX (upd on k false) r x
theorem zkg:∀(l:List Nat) (on:Nat->Bool) (x:Nat),aCX on l x=if x∈l then false else on x
 | [],on,x=>by simp[aCX]
 |k::r,on,x=>by
  rw[aCX,zkg r];by_cases h:x∈r
  ·simp[h]
  ·by_cases e:x=k
   ·subst e;simp[h,upd_same]
   ·simp[h,e,upd_ne _ _ e]
theorem q8o{O:Ev.Call}{nx:Nat->AV}{sv ov:AV}{tb:Nat}{comp:List Nat}{w:AV}{s:TS}(hc:∀ x∈comp,x<256)(hl:comp.length<900000){H1:Hp}(hw:Rl H1 w (aK comp)){q:pH}{Q:pL}(hne:∀ i b o,i<comp.length->aH 1 w (.int .i64 (.ofNat i))=.val (.ptr b o)->b≠tb)(htb:tb<H1.nx)(hq:∀ H on',(∀x,on' x=if x∈comp then false else s.on x)->H.get tb=TB nx {s with on:=on'} sv ov->Fm (fun b=>b=tb) H1 H->Ok (q H) Q):∀(k i:Nat) (H:Hp) (on1:Nat->Bool),comp.length-i<k->i<=comp.length->H.get tb=TB nx {s with on:=on1} sv ov->Fm (fun b=>b=tb) H1 H->(∀x,aCX on1 (comp.drop i) x=if x∈comp then false else s.on x) -> Ok (qt1 O q (.ptr tb 0) w (.int .i64 (.ofNat comp.length)) k (.int .i64 (.ofNat i)) H) Q
 |0,i,H,on1,h,_,_,_,_=>by omega
 |k+1,i,H,on1,h,hi,hg,hF,ho=>by
  show Ok (q2b O _ _ _ _ (qt1 O _ _ _ _ k) _ H) Q;unfold q2b;by_cases hil:i<comp.length
  ·obtain⟨b,o,e1,e2,e3⟩:=hw.at' i (by rw[mO];exact hil);rw[qih]at e3;have hx:comp[i]<256:=hc _ (lu _);have e4:H.get b=H1.get b:=hF.get b e2 (hne i b o hil e1);simp only[go_sem,qj,qf,hil];unfold zeo;simp(disch:=omega)only[go_sem,seval,qj,qf,e1,e4,e3,hg];unfold zep;simp(disch:=go_size)only[go_sem,rB,rI,rK,rL,rN,rS,r6,qj,qf];refine q8o hc hl hw hne htb hq k (i+1) _ (upd on1 comp[i] false) (by omega) (by omega) (dS _ _ _) (hF.put _ _ fun _=>rfl) fun x=>?_;rw[<-ho x,ut hil];rfl
  ·simp only[go_sem,qj,qf,hil];have:i=comp.length:=by omega
   subst this;rw[lAO]at ho;exact hq H on1 (fun x=>ho x) hg hF
theorem Gl.yN{v:AV}(h:Gl 1 H v n l)(hi:i<n)(e:aH 1 v (.int .i64 (.ofNat i))=.val (.ptr b o)):In v b:=by
 rcases h.is with⟨rfl,h0⟩|⟨b',o',e',q,L,rfl,_⟩
 ·omega
 ·rw[sV _ _ _ _ _ _ _ _ hi]at e;cases e;exact⟨_,_,_,_,rfl⟩
theorem Gl.uW{z w n:Nat}{v:AV}{l x:List AV}(h:Gl z H v n l)(hx:x.length=z)(hb:(n+1)*w<=1099511627776)(hb2:n+1<=1099511627776):Ok (j5 z w H v (some ⟨1,x⟩)) fun v' H'=>v'=.sl H.nx 0 (n+1) (n+1) false/\Gl z H' v' (n+1) (l++x)/\Fm (In v) H H'/\H'.nx=H.nx+1:=by obtain⟨H',e1,e2,e3,e4,e5⟩:=h.append (w:=w) (k:=1) (x:=x) (by omega) (by omega) hb hb2;exact⟨_,H',e1,rfl,e2,e4,e5⟩
theorem TMd.aNo{s:TS}{tb:Nat}{nx:Nat->AV}{sv ov:AV}(h:TMd H0 aQ s col tb H nx sv ov cs)(f:Fm S H H')(hS:∀ b,b<H.nx->S b->b=tb\/col b=4){col':Nat->Nat}(hc:∀ b,b<H.nx->col' b=col b){s':TS}{rE ov' c:AV}{o:List Nat}(hg:H'.get tb=TB nx s' rE ov')(hs:Gs 1 H' rE s'.stk.length (aK s'.stk))(hsc:∀ b,In rE b->In sv b)(ho:s'.out=s.out++[o])(hov:Gl 1 H' ov' (cs++[c]).length (cs++[c]))(hoc:∀ b,In ov' b->col' b=4)(aLG:∃ b q n m e,c=.sl b q n m e)(hcg:Gl 1 H' c o.length (aK o))(hcc:∀ b,In c b->col' b=5):TMd H0 aQ s' col' tb H' nx rE ov' (cs++[c]):=by
 have h9:∀ b,b<H0.nx->¬ S b:=fun b hb hs=>by
  have hlt:b<H.nx:=lL hb h.fm.nx;rcases hS b hlt hs with e|e
  ·have:=h.ge;omega
  ·rw[h.base b hb]at e;cases e
 have kp:∀{c:Nat},c≠0->c≠4->∀ b,b<H.nx->col b=c->H'.get b=H.get b:=fun{c} h0 h4 b hb hcb=>f.get b hb fun hs=>by
  rcases hS b hb hs with e|e
  ·rw[e,h.ct]at hcb;exact h0 hcb.symm
  ·omega
 have hcs:=h.css.keep f.nx (kp (c:=5) (by omega) (by omega)) hc;exact{
  fm:=h.fm.then f fun b hb hs=>absurd hs (h9 b hb)
  base:=fun b hb=>(hc b (lL hb h.fm.nx)).trans (h.base b hb)
  ge:=h.ge
  lt:=lL h.lt f.nx
  ct:=(hc tb h.lt).trans h.ct
  get:=hg
  zD:=fun v hv=>by obtain⟨g1,g2⟩:=h.zD v hv;exact⟨g1.keep f.nx fun b hb hlt=>kp (c:=10+v) (by omega) (by omega) b hlt (g2 b hb),fun b hb=>(hc b (g1.lt hb)).trans (g2 b hb)⟩
  stk:=hs
  wD:=fun b hb=>(hc b (h.stk.lt (hsc b hb))).trans (h.wD b (hsc b hb))
  out:=hov
  ouc:=hoc
  css:=⟨by rw[ho,lq,lq,hcs.len];rfl,fun i c' o' g1 g2=>by
   rw[ho]at g2;rcases yf i cs.length with hi|hi
   ·rw[uf hi]at g1;rw[uf (by rw[<-hcs.len];exact hi)]at g2;exact hcs.at' i c' o' g1 g2
   ·rw[uC hi]at g1;rw[uC (by rw[<-hcs.len];exact hi),<-hcs.len]at g2;have h0:i-cs.length=0:=by
     have:=(qm.1 g1).1;simp_all
    rw[h0]at g1 g2;cases g1;cases g2;exact⟨aLG,hcg,hcc⟩⟩}
theorem zlb(hC:aW C)(hO:pV C)(hS:oO C)(hR:oP LA LO C)(hk:300<=k){s:TS}{tb:Nat}(hM:TM H0 aQ s col tb H){v:Nat}(hv:v<256)(hl:¬ s.low v<s.num v){pre post:List Nat}(hs:s.stk=pre++v::post)(hp:v∉pre)(hst:s.stk.length<=256)(hlt:∀ x∈s.stk,x<256)(hout:s.out.length<=256):Ok (C k (.f 182) [.ptr tb 0,.int .i64 (.ofNat v)] H) fun r H'=>r=.aX []/\∃(comp:List Nat) (on':Nat->Bool) (col':Nat->Nat),comp.Perm (v::post)/\comp.Pairwise (· <= ·)/\(∀x,on' x=if x∈comp then false else s.on x) /\ (∀b,b<H.nx->col' b=col b)/\TM H0 aQ {s with stk:=pre,on:=on',out:=s.out++[comp]} col' tb H'/\Fm (fun b=>b=tb\/col b=4) H H':=by
 obtain⟨j,rfl⟩:∃ j,k=j+2:=⟨k-2,by omega⟩;rw[(hC (j+1)).zDe];unfold zDe zpc;obtain⟨nx,sv,ov,cs,hM⟩:=hM;have g1:=hM.get;have g3:=hM.stk;have hlen:s.stk.length=pre.length+1+post.length:=by rw[hs];simp;omega
 simp(disch:=omega)only[go_sem,seval,qj,qf,g1,hl];unfold zen;simp(disch:=first|go_size|omega)only[go_sem,rB,rI,rK,rL,rN,rS,r6,qj,qf,g1];refine Ok.ve (zur hC (k:=j+1) (by omega) g3.rl (by omega) hs hp) ?_;rintro r H1 ⟨rfl,rfl⟩;obtain⟨w,e1,⟨wb,wo,wn,wm,we,rfl⟩,e2⟩:=g3.from (a:=pre.length) (by omega);have ed:(aK s.stk).drop pre.length=aK (v::post):=by unfold aK;simp_all
 rw[ed]at e2;simp only[go_sem,qj,qf,g1,e1]
 -- the component, sorted
 rw[(hC j).zDk];unfold zDk zyn;simp only[go_sem,qj,qf];generalize hH2:aO H1 (aB 0 [.sl wb wo wn wm we])=H2;have n2:H2.nx=H1.nx+1:=by rw[<-hH2];rfl
 have f2:Fm No H1 H2:=by rw[<-hH2];exact(Fm.refl _ _).push _
 have gb2:H2.get H1.nx=aB 0 [.sl wb wo wn wm we]:=by rw[<-hH2,lC]
 refine Ok.ve (znf hC hO hS hR (k:=j+1) (l:=v::post) (by simp;omega) (by simp) (by simp;omega) (e2.fm f2) gb2 (by omega)) ?_;rintro a9 H3 ⟨comp,c1,c2,c3,c4,f3⟩;have f13:Fm No H1 H3:=f2.trans f3;have hcl:comp.length=post.length+1:=by rw[c1.length_eq];rfl
 have hcn:(v::post).length=comp.length:=by rw[c1.length_eq]
 rw[hcn]at c3;have hge:∀ b,In a9 b->H1.nx<=b:=fun b hb=>by have:=c4 b hb;omega
 have e3:=c3.cO;simp only[go_sem,qj,qf,e3];unfold zeq;rw[dB];have htb:=hM.lt;refine q8o (s:=s) (sv:=sv) (ov:=ov) (nx:=nx) (comp:=comp) (fun x hx=>hlt x (by rw[hs];exact ah _ (c1.mem_iff.1 hx))) (by omega) c3.rl (fun i b o hi e hb=>?_) (lL htb f13.nx) (fun H4 on' ho hg4 f4=>?_) bX 0 H3 s.on (by rw[dI];omega) (by omega) ((f13.keep htb).trans g1) (Fm.refl _ _) fun x=>?_
 ·have:=hge b (c3.yN hi e);omega
 ·-- the rest
  unfold q2a;obtain⟨b5,o5,m5,e5,e6,e7,e8⟩:=g3.upto (k:=pre.length) (by omega) (by omega);rw[qj]at e7;have e9:(aK s.stk).take pre.length=aK pre:=by unfold aK;rw[<-List.map_take,hs,List.take_left]
  rw[e9]at e7;simp only[go_sem,qj,qf,hg4,e6];have c3f:xO a9=true:=c3.flat;rcases c3.is with⟨_,h0⟩|⟨b9,o9,e9',q9,L9,rfl,_⟩
  ·omega
  simp(disch:=go_size)only[go_sem,seval,qj,qf,hg4];have hne2:∀ b,In sv b->b≠tb:=fun b hb e=>by have:=hM.wD b hb;rw[e,hM.ct]at this;cases this
  have aFT:∀ b,In ov b->b≠tb:=fun b hb e=>by have:=hM.ouc b hb;rw[e,hM.ct]at this;cases this
  have f34:Fm (fun b=>b=tb) H1 H4:=(f13.mono fun _ _ h=>h.elim).trans (f4.mono fun _ _ h=>h);have hn4:=f34.nx;have nn4:=f4.nx;have aLG:cs.length<=256:=by rw[hM.css.len];exact hout
  refine Ok.ve (Gl.uW (z:=1) (n:=cs.length) (l:=cs) (hM.out.keep ?_ fun b hb hlt'=>?_) ?_ ?_ ?_) ?_
  ·simp only[np,nq];omega
  ·rw[qbw _ _ _ (by simp only[nq];omega),dG _ _ _ _ (aFT b hb)];exact f34.get b hlt' (aFT b hb)
  ·rfl
  ·omega
  ·omega
  rintro r H5 ⟨rfl,h1,h2,h3⟩;simp only[np,nq]at h1 h3;have gt:H5.get tb=TB nx {s with on:=on'} (.sl b5 o5 pre.length m5 e5) ov:=by rw[h2.get tb (by simp only[np,nq];omega) fun hb=>aFT tb hb rfl,qbw _ _ _ (by simp only[nq];omega),dS]
  simp only[go_sem,qj,qf,gt];have c9':H1.nx<=b9:=hge b9 ⟨_,_,_,_,rfl⟩;have f5:Fm (fun b=>b=tb\/col b=4) H1 H5:=by refine Fm.then (S:=fun b=>b=tb\/col b=4) (Fm.push (Fm.put (f34.mono fun _ _ h=>Or.inl h) tb _ fun _=>Or.inl rfl) _) h2 fun c hc hi=>Or.inr (hM.ouc c hi)
  have f6:=f5.put tb (TB nx {s with on:=on'} (.sl b5 o5 pre.length m5 e5) (.sl (H4.nx+1) 0 (cs.length+1) (cs.length+1) false)) fun _=>Or.inl rfl;refine Ok.ret ⟨rfl,comp,on',fun b=>if b<H1.nx then col b else if b=b9 then 5 else 4,c1,c2,ho,fun b hb=>pz hb,⟨nx,_,_,_,hM.aNo (c:=.sl b9 o9 comp.length comp.length e9') (o:=comp) f6 (fun b _ h=>h) (fun b hb=>pz hb) (dS _ _ _) ?_ e8 rfl ?_ ?_ ⟨_,_,_,_,_,rfl⟩ ?_ ?_⟩,f6⟩
  ·refine e7.keep f6.nx fun b hb hlt'=>f6.get b hlt' fun h=>?_;rcases h with h|h
   ·exact hne2 b (e8 b hb) h
   ·have:=hM.wD b (e8 b hb);rw[h]at this;cases this
  ·rw[lq];refine h1.keep (lg _) fun b hb _=>dG _ _ _ _ fun e=>?_;obtain⟨_,_,_,_,g⟩:=hb;cases g;omega
  ·rintro b ⟨_,_,_,_,g⟩;cases g;rw[kz (by omega),kz (by omega)]
  ·refine c3.keep (by show H3.nx<=H5.nx;omega) fun b hb hlt'=>?_;have hb9:b=b9:=by obtain⟨_,_,_,_,g⟩:=hb;cases g;rfl
   subst hb9;rw[dG _ _ _ _ (by omega),h2.get b (by simp only[np,nq];omega) fun hb=>by have:=hM.out.lt hb;omega,qbw _ _ _ (by simp only[nq];omega),dG _ _ _ _ (by omega)];exact f4.get b (by omega) (by show b≠tb;omega)
  ·rintro b ⟨_,_,_,_,g⟩;cases g;rw[kz (by omega),pz rfl]
 ·rw[zkg];rfl
def vP(fr:List (Nat×Nat)):List AV:=(fr.map fun p=>[AV.int .i64 (.ofNat p.1),AV.int .i64 (.ofNat p.2)]).flatten
theorem qhg(fr:List (Nat×Nat)):(vP fr).length=fr.length*2:=by
 induction fr with
 |nil=>rfl
 |cons a l ih=>simp[vP]at ih ⊢;omega
theorem qdv(l:List (Nat×Nat))(p:Nat×Nat):vP (l++[p])=vP l++[.int .i64 (.ofNat p.1),.int .i64 (.ofNat p.2)]:=by simp[vP]
theorem q9d(a b:Nat):qE oI (.int .i64 (.ofNat a)) [.int .i64 (.ofNat b)]=.val (.int .i64 (.ofNat (min a b))):=by rw[q5j];congr 2;simp only[rq];omega
theorem Gs.aBR{v:AV}{l:List (Nat×Nat)}{u i:Nat}(h:Gs 2 H v (l.length+1) (vP (l++[(u,i)]))):∃b o,aH 2 v (.int .i64 (.ofNat l.length))=.val (.ptr b o)/\In v b/\b<H.nx/\dK (H.get b) o=.val (.int .i64 (.ofNat u))/\dK (H.get b) (o+1)=.val (.int .i64 (.ofNat i)) /\ ∀i':Nat,∃B,wH (H.get b) (o+1) [.int .i64 (.ofNat i')]=some B/\∀ H':Hp,H.nx<=H'.nx->H'.get b=B->Gs 2 H' v (l.length+1) (vP (l++[(u,i')])):=by
 have hl:=qhg l;rcases h.is with⟨_,h0⟩|⟨b,o,m,e,q,L,rfl,h0,h1,h2,h3,h4,h5⟩
 ·omega
 ·have hmz:(l.length+1)*2<=m*2:=uz _ h0;have g0:∀ j x,(vP (l++[(u,i)]))[j]? =some x->j<(l.length+1)*2->L[o+j]? =some x:=fun j x hx hj=>by
   rw[<-h3,lA7,pz hj,zf]at hx;exact hx
  have gu:=g0 (l.length*2) (.int .i64 (.ofNat u)) (by rw[qdv,uC (by omega),hl,lAM];rfl) (by omega);have gi:=g0 (l.length*2+1) (.int .i64 (.ofNat i)) (by rw[qdv,uC (by omega),hl,show l.length*2+1-l.length*2=1 by omega];rfl) (by omega);refine⟨b,o+l.length*2,sV _ _ _ _ _ _ _ _ (by omega),⟨_,_,_,_,rfl⟩,h5,by rw[h1,qb0,gu],by rw[h1,qb0,show o+l.length*2+1=o+(l.length*2+1)by omega,gi],fun i'=>?_⟩;refine⟨_,by rw[h1,qg1,pz (by show o+l.length*2+1+1<=L.length;omega)],fun H' hn hg=>⟨by rw[qhg,lq];rfl,.inr ⟨b,o,m,e,q,_,rfl,h0,hg,?_,?_,h4,lL h5 hn⟩⟩⟩
  ·unfold bD;simp only[lq,qo,xg,pg,uo];omega
  ·have e1:(l.length+1)*2=l.length*2+1+1:=by omega
   unfold bD;have hlt:(L.take (o+l.length*2+1)).length=o+l.length*2+1:=by rw[qo];omega
   rw[qw,xu (by omega),List.drop_take,show o+l.length*2+1-o=l.length*2+1 by omega,qdv];have hl2:((L.drop o).take (l.length*2+1)).length=l.length*2+1:=by rw[qo,xg];omega
   rw[e1,lE4,tu (by omega),hl2,show l.length*2+1+1-(l.length*2+1)=1 by omega];have e2:(L.drop o).take (l.length*2+1)=vP l++[.int .i64 (.ofNat u)]:=by
    have:((L.drop o).take ((l.length+1)*2)).take (l.length*2+1)=(vP (l++[(u,i)])).take (l.length*2+1):=by rw[h3]
    rw[List.take_take,yg (by omega)]at this;rw[this,qdv,lE4,tu (by omega),hl,show l.length*2+1-l.length*2=1 by omega];rfl
   simp_all
structure WS(H0:Hp)(N:Nat)(aQ:Nat->List Nat)(s:TS)(fr:List (Nat×Nat))(col:Nat->Nat)(tb:Nat)(v:AV)(H:Hp):Prop where
 tm:TM H0 aQ s col tb H
 ti:TI N aQ s fr
 fr:Gs 2 H v fr.length (vP fr)
 fc:∀ b,In v b->col b=3
def Le(s s':TS):Prop:=(∀x,0<s.num x->0<s'.num x)/\s.cnt<=s'.cnt
theorem Le.refl(s:TS):Le s s:=⟨fun _ h=>h,lg _⟩
theorem Le.trans{a b c:TS}(h:Le a b)(k:Le b c):Le a c:=⟨fun x hx=>k.1 x (h.1 x hx),tq h.2 k.2⟩
theorem Le.look(s:TS)(v k:Nat):Le s (s.look v k):=by unfold TS.look;split<;>exact⟨fun _ h=>h,lg _⟩
theorem Le.enter(s:TS)(hk:s.num k=0):Le s (s.enter k):=⟨fun x hx=>by
 show 0<upd s.num k (s.cnt+1) x;by_cases e:x=k
 ·simp_all
 ·rw[upd_ne _ _ e];exact hx,Nat.le_succ _⟩
structure q6c(N:Nat)(aQ:Nat->List Nat):Prop where
 le:N<=256
 lt:∀ u,∀k∈aQ u,k<N
 len:∀ u,(aQ u).length<200000
theorem zsy(s:TS)(v k:Nat):(s.look v k).cnt=s.cnt:=by unfold TS.look;split<;>rfl
theorem z0h(hC:aW C){j:Nat}(hj:1<=j){H0:Hp}{N:Nat}{aQ:Nat->List Nat}(hA:q6c N aQ){tb:Nat}{l:List (Nat×Nat)}{u fb fo:Nat}{v:AV}{s0:TS}{q1 q2:pD}{Q:pL}(hp:aH 2 v (.int .i64 (.ofNat l.length))=.val (.ptr fb fo))(hq1:∀ v' H' s' fr' col',WS H0 N aQ s' fr' col' tb v' H'->Le s0 s'->2*(N-s'.cnt)+fr'.length<2*(N-s0.cnt)+(l.length+1)->Ok (q1 v' H') Q)(hq2:∀ H' s' col',WS H0 N aQ s' (l++[(u,(aQ u).length)]) col' tb v H'->Le s0 s'->s'.cnt=s0.cnt->Ok (q2 v H') Q):∀(k i:Nat) (s:TS) (col:Nat->Nat) (H:Hp),(aQ u).length-i<k->WS H0 N aQ s (l++[(u,i)]) col tb v H->Le s0 s->s.cnt=s0.cnt -> Ok (qt7 (C j) q1 q2 (.ptr tb 0) (.ptr fb fo) k v H) Q
 |0,i,s,col,H,h,_,_,_=>by omega
 |k+1,i,s,col,H,h,hW,hle,hcnt=>by
  show Ok (q2l (C j) _ _ _ _ (qt7 (C j) _ _ _ _ k) _ H) Q;unfold q2l;have hT:=hW.ti;have hfl:(l++[(u,i)]).length=l.length+1:=by simp
  have hF:=hW.fr;rw[hfl]at hF;obtain⟨b,o,e1,e2,e3,e4,e5,e6⟩:=hF.aBR;rw[hp]at e1;cases e1;obtain⟨nx,sv,ov,cs,hM⟩:=hW.tm;have g1:=hM.get;have xP:u∈s.stk:=hT.lV (by rw[qF];simp);have huN:u<N:=hT.mH u xP;have hN:=hA.le;have hu:u<256:=by omega
  obtain⟨n1,n2⟩:=hM.zD u hu;have n3:=n1.cO;have hil:i<=(aQ u).length:=(hT.zO (u,i) (ah _ (gy.2 rfl))).1;have hne:fb≠tb:=fun e=>by have:=hW.fc fb e2;rw[e,hM.ct]at this;cases this
  by_cases hi:i<(aQ u).length
  ·simp(disch:=omega)only[go_sem,qj,qf,e4,e5,g1,n3,hi,xy];unfold q6n;obtain⟨b2,o2,m1,m2,m3⟩:=n1.rl.at' i (by rw[mO];exact hi);rw[qih]at m3;obtain⟨B,w1,w2⟩:=e6 (i+1);have hk:(aQ u)[i]? =some (aQ u)[i]:=by simp[hi]
   generalize hkk:(aQ u)[i]=x at *;have hxN:x<N:=hA.lt u x (uq hk);have hx:x<256:=by omega
   have hi2:i<900000:=by have:=hA.len u;omega
   simp(disch:=go_size)only[go_sem,rB,rI,rK,rL,rN,rS,r6,qj,qf,e4,e5,g1,m1,m3,w1,xy];have g1':(H.put fb B).get tb=TB nx s sv ov:=by rw[dG _ _ _ _ (Ne.symm hne)];exact g1
   have fB:Fm (fun c=>c=tb\/col c=3) H (H.put fb B):=(Fm.refl _ _).put _ _ fun _=>Or.inr (hW.fc fb e2);have gF:Gs 2 (H.put fb B) v (l.length+1) (vP (l++[(u,i+1)])):=w2 _ (lg _) (dS _ _ _);have bEw:Gs 1 (H.put fb B) sv s.stk.length (aK s.stk):=hM.stk.keep (lg _) fun c hc _=>dG _ _ _ _ fun e=>by have h1:=hM.wD c hc;rw[e,hW.fc fb e2]at h1;cases h1
   have hM1:TMd H0 aQ s col tb (H.put fb B) nx sv ov cs:=hM.step fB (fun c _ h=>h.imp id Or.inr) (fun _ _=>rfl) g1' bEw hM.wD rfl;by_cases h0:s.num x=0
   ·simp only[go_sem,qj,qf,h0];have tE:TI N aQ (s.enter x) ((l++[(u,i+1)])++[(x,0)]):=hT.enter h0 hxN (Or.inr ⟨l,u,i,rfl,hk,rfl⟩);have hc1:=tE.kJ;have hc1:s.cnt+1<=N:=hc1;have hsl:s.stk.length<=N:=by have h1:=hT.lJ;have h2:=hT.kJ;omega
    refine Ok.ve (q9n hC hj ⟨nx,sv,ov,cs,hM1⟩ hx (by omega) (by omega)) ?_;rintro r H2 ⟨rfl,col',c1,⟨nx2,sv2,ov2,cs2,t2⟩,f2⟩;have hv2:∀ c,In v c->c<H.nx:=fun c hc=>hF.lt hc;have gF2:Gs 2 H2 v (l.length+1) (vP (l++[(u,i+1)])):=gF.fm f2 fun c hc=>by
     rintro (e|e)
     ·have:=hW.fc c hc;rw[e,hM.ct]at this;cases this
     ·have:=hW.fc c hc;rw[e]at this;cases this
    have hv3:∀ c,In v c->col' c=3:=fun c hc=>(c1 c (hv2 c hc)).trans (hW.fc c hc);have fl:l.length<=N:=by have h1:=hT.zI;rw[hfl]at h1;omega
    simp(disch:=first|go_size|omega)only[go_sem,rB,rI,rK,rL,rN,rS,r6];refine Ok.ve (Gs.append (z:=2) (n:=l.length+1) (l:=vP (l++[(u,i+1)])) (gF2.fm ((Fm.refl No _).push _) fun _ _ h=>h) rfl (by omega) (by omega)) ?_;rintro r H3 ⟨⟨b',o',m',e',rfl⟩,a1,a2,a3⟩;have f23:Fm (fun c=>col' c=3) H2 H3:=Fm.then (S:=fun c=>col' c=3) ((Fm.refl _ _).push _) a2 fun c _ hc=>hv3 c hc;have n23:=f23.nx;simp only[np]at a3;have ht2:H3.get tb=TB nx2 (s.enter x) sv2 ov2:=(f23.get tb t2.lt fun e=>by rw[t2.ct]at e;cases e).trans t2.get;have hs3:Gs 1 H3 sv2 (s.enter x).stk.length (aK (s.enter x).stk):=t2.stk.keep n23 fun c hc hlt=>f23.get c hlt fun e=>by have:=t2.wD c hc;rw[e]at this;cases this
    refine hq1 _ _ (s.enter x) ((l++[(u,i+1)])++[(x,0)]) (qss col' H2 3) ⟨⟨nx2,sv2,ov2,cs2,t2.step f23 (fun c _ h=>Or.inr (Or.inr h)) (fun c hc=>qb2 hc) ht2 hs3 (fun c hc=>by rw[qb2 (t2.stk.lt hc)];exact t2.wD c hc) rfl⟩,tE,?_,?_⟩ (hle.trans (Le.enter s h0)) ?_
    ·rw[qdv];simpa using a1
    ·intro c hc;rcases a3 c hc with g|g
     ·rw[qb2 (gF2.lt g)];exact hv3 c g
     ·exact qhb (by omega)
    ·show 2*(N-(s.cnt+1))+((l++[(u,i+1)])++[(x,0)]).length<_;simp only[lq,pg,uo];omega
   ·simp(disch:=go_size)only[go_sem,rB,rI,rK,rL,rN,rS,r6,qj,qf,h0];have hpos:0<s.num x:=by omega
    have tL:=hT.look hk hpos;unfold ze7;have hfr:∀ i',(l++[(u,i')]).length=l.length+1:=fun i'=>by simp
    cases ho:s.on x with
    |false=>
     have e0:s.look u x=s:=by unfold TS.look;rw[ho];rfl
     rw[e0]at tL;simp(disch:=omega)only[go_sem,qj,qf,g1',ho];refine z0h hC hj hA hp hq1 hq2 k (i+1) s col _ (by omega) ⟨⟨nx,sv,ov,cs,hM1⟩,tL,?_,hW.fc⟩ hle hcnt;simp_all
    |true=>
     have e0:s.look u x={s with low:=upd s.low u (min (s.low u) (s.num x))}:=by unfold TS.look;rw[ho];rfl
     have r0:dK ((H.put fb B).get fb) fo=.val (.int .i64 (.ofNat u)):=by obtain⟨b3,o3,e7,e8,e9,e10,_⟩:=gF.aBR;simp_all
     rw[dS]at r0;simp(disch:=omega)only[go_sem,qj,qf,g1',ho,r0,q9d,xy];rw[<-e0];have fT:Fm (fun c=>c=tb\/col c=3) (H.put fb B) ((H.put fb B).put tb (TB nx (s.look u x) sv ov)):=(Fm.refl _ _).put _ _ fun _=>Or.inl rfl;refine z0h hC hj hA hp hq1 hq2 k (i+1) (s.look u x) col _ (by omega) ⟨⟨nx,sv,ov,cs,hM1.step fT (fun c _ h=>h.imp id Or.inr) (fun _ _=>rfl) (dS _ _ _) ?_ hM.wD (by rw[e0])⟩,tL,?_,hW.fc⟩ (hle.trans (Le.look s u x)) ((zsy s u x).trans hcnt)
     ·have:(s.look u x).stk=s.stk:=by rw[e0]
      rw[this];exact hM1.stk.keep (lg _) fun c hc _=>dG _ _ _ _ fun e=>by have h1:=hM.wD c hc;rw[e,hM.ct]at h1;cases h1
     ·rw[hfr];exact gF.keep (lg _) fun c hc _=>dG _ _ _ _ fun e=>by have h1:=hW.fc c hc;rw[e,hM.ct]at h1;cases h1
  ·simp(disch:=omega)only[go_sem,qj,qf,e4,e5,g1,n3,hi,xy];have:i=(aQ u).length:=by omega
   subst this;exact hq2 H s col hW hle hcnt
theorem zrf{α:Type}(f:Nat->α)(i:Nat):upd f i (f i)=f:=funext fun j=>by
 by_cases e:j=i
 ·rw[e,upd_same]
 ·rw[upd_ne _ _ e]
theorem zsj{a b:List Nat}(hp:a.Perm b)(hn:b.Nodup)(h:a.Pairwise (· <= ·)):a.Pairwise (· < ·):=by have hn':a.Pairwise (· ≠ ·):=hp.nodup_iff.2 hn;exact(h.and hn').imp fun⟨h1,h2⟩=>Nat.lt_of_le_of_ne h1 h2
def aMs(H0:Hp)(N:Nat)(aQ:Nat->List Nat)(s:TS)(l:List (Nat×Nat))(u tb:Nat)(v:AV)(H1:Hp):Prop:=
 ∃(s1:TS) (uR:Nat->Nat),TM H0 aQ s1 uR tb H1/\Gs 2 H1 v (l.length+1) (vP (l++[(u,(aQ u).length)]))/\(∀c,In v c->uR c=3)/\(l=[]->TI N aQ s1 []) /\
  (∀l' up jj,l=l'++[(up,jj)]->up<256/\TI N aQ {s1 with low:=upd s1.low up (min (s1.low up) (s1.low u))} l)/\Le s s1/\s1.cnt=s.cnt
theorem z13(hC:aW C)(hO:pV C)(hS:oO C)(hR:oP LA LO C)(hj:300<=j){N:Nat}(hA:q6c N aQ){tb:Nat}{l:List (Nat×Nat)}{u:Nat}{v:AV}{s:TS}(hW:WS H0 N aQ s (l++[(u,(aQ u).length)]) col tb v H):Ok (C j (.f 182) [.ptr tb 0,.int .i64 (.ofNat u)] H) fun r H1=>r=.aX []/\aMs H0 N aQ s l u tb v H1:=by
 have hT:=hW.ti;have hfl:(l++[(u,(aQ u).length)]).length=l.length+1:=by simp
 have hF:=hW.fr;rw[hfl]at hF;have xP:u∈s.stk:=hT.lV (by rw[qF];simp);have hN:=hA.le;have jP:∀ x∈s.stk,x<256:=fun x hx=>lL (hT.mH x hx) hN;have hup:∀{l' up jj},l=l'++[(up,jj)]->up∈gP l:=fun{l' up jj} e=>by rw[e,qF];simp
 have aGf:∀{x},x∈gP l->x∈s.stk:=fun{x} hx=>hT.lV (by rw[qF];exact zu _ hx);by_cases hl:s.low u<s.num u
 ·refine⟨_,_,zs6 hC (by omega) hW.tm (jP u xP) hl,rfl,s,col,hW.tm,hF,hW.fc,fun e=>?_,fun l' up jj e=>?_,Le.refl _,rfl⟩
  ·subst e;exact absurd hl hT.root
  ·subst e;exact⟨jP _ (aGf (hup rfl)),hT.pop hl⟩
 ·obtain⟨pre,post,hs⟩:=List.append_of_mem xP;have hnd:=hT.nd;rw[hs]at hnd;have hpre:u∉pre:=fun h=>(xf.1 hnd).2.2 u h u ql rfl;have hpost:=(xf.1 hnd).2.1;have hcl:=hT.kJ;have hce:=hT.lJ;have hsl:s.stk.length<=256:=by omega
  have hol:s.out.length<=256:=by
   have h1:s.out.length<=s.out.flatten.length:=by
    have:∀(o:List (List Nat)),(∀c∈o,c≠[])->o.length<=o.flatten.length:=fun o=>by
     induction o with
     |nil=>intro _;exact lg _
     |cons c o ih=>intro h;have h1:=ih fun c hc=>h c (qx _ hc);have h2:0<c.length:=zk.2 (h c ql);rw[ai,lq,pg];omega
    refine this _ fun c hc e=>?_;obtain⟨_,r,hr,_⟩:=hT.pJ c hc;simp_all
   omega
  refine(zlb hC hO hS hR hj hW.tm (jP u xP) hl hs hpre hsl jP hol).mono ?_;rintro r H1 ⟨rfl,comp,on',col',c1,c2,c3,c4,t1,f1⟩;have tl:=hT.leave hl hs c1 (zsj c1 hpost c2) on' c3;refine⟨rfl,_,col',t1,?_,?_,?_,?_,⟨fun _ h=>h,lg _⟩,rfl⟩
  ·obtain⟨_,_,_,_,hM⟩:=hW.tm;exact hF.fm f1 fun c hc=>by
    rintro (e|e)
    ·have:=hW.fc c hc;rw[e,hM.ct]at this;cases this
    ·have:=hW.fc c hc;rw[e]at this;cases this
  ·exact fun c hc=>(c4 c (hF.lt hc)).trans (hW.fc c hc)
  ·rintro rfl;exact tl
  ·intro l' up jj e;have hu1:=hup e;refine⟨jP _ (aGf hu1),?_⟩;have hlt:=hT.top hu1;have hlo:=hT.jR up (aGf hu1);have e1:min (s.low up) (s.low u)=s.low up:=yg (by omega);rw[e1,zrf];exact tl
theorem zrd(hC:aW C)(hO:pV C)(hS:oO C)(hR:oP LA LO C)(hj:300<=j){N:Nat}(hA:q6c N aQ){tb:Nat}{l:List (Nat×Nat)}{u fb fo:Nat}{v:AV}{s:TS}{g3:pD}{Q:pL}(hp:aH 2 v (.int .i64 (.ofNat l.length))=.val (.ptr fb fo))(hW:WS H0 N aQ s (l++[(u,(aQ u).length)]) col tb v H)(hg:∀ v' H' s' col',WS H0 N aQ s' l col' tb v' H'->Le s s'->s'.cnt=s.cnt->Ok (g3 v' H') Q):Ok (qt8 (C j) g3 (.ptr tb 0) v (.ptr fb fo) H) Q:=by
 unfold qt8;have hfl:(l++[(u,(aQ u).length)]).length=l.length+1:=by simp
 have hF:=hW.fr;rw[hfl]at hF;obtain⟨b,o,e1,e2,e3,e4,e5,_⟩:=hF.aBR;rw[hp]at e1;cases e1;have hlen:l.length<=256:=by have h1:=hW.ti.zI;have h2:=hW.ti.lJ;have h3:=hW.ti.kJ;have h4:=hA.le;omega
 have bPo:u<256:=by have:=hW.ti.mH u (hW.ti.lV (by rw[qF];simp));have:=hA.le;omega
 simp only[go_sem,qj,qf,e4,xy];refine Ok.ve (z13 hC hO hS hR hj hA hW) ?_;rintro r H1 ⟨rfl,s1,uR,⟨nx,sv,ov,cs,hM⟩,hF1,hc1,h0,h1,hle,hcnt⟩;have g1:=hM.get;have e6:=hF1.cO;obtain⟨b5,o5,m5,y5,e7,e8,e9⟩:=hF1.upto (k:=l.length) (by omega) (by omega);have e10:(vP (l++[(u,(aQ u).length)])).take (l.length*2)=vP l:=by rw[qdv,List.take_append_of_le_length (by rw[qhg];exact lg _),tu (by rw[qhg];exact lg _)]
 rw[e10]at e8;have hcv:∀ c,In (.sl b5 o5 l.length m5 y5) c->uR c=3:=fun c hc=>hc1 c (e9 c hc);rcases List.eq_nil_or_concat l with rfl|⟨l',⟨up,jj⟩,hl'⟩
 ·have e7:kM 2 v none (some (.int .i64 (.ofNat 0))) none=.val (.sl b5 o5 0 m5 y5):=e7;have e6:aD v=.val (.int .i64 (.ofNat 1)):=e6;simp(disch:=first|go_size|omega)only[go_sem,rB,rI,rK,rL,rN,rS,r6,qj,qf,e6,e7];exact hg _ H1 s1 uR ⟨⟨nx,sv,ov,cs,hM⟩,h0 rfl,e8,hcv⟩ hle hcnt
 ·rw[List.concat_eq_append]at hl';obtain⟨bRe,hT2⟩:=h1 l' up jj hl';have hll:l.length=l'.length+1:=by rw[hl'];simp
  have hF2:=e8;rw[hl',lq]at hF2;obtain⟨b6,o6,k1,k2,k3,k4,k5,_⟩:=Gs.aBR (l:=l') (u:=up) (i:=jj) hF2;have hpos:0<l.length:=by omega
  have hm1:l.length-1=l'.length:=by omega
  have k1':aH 2 (.sl b5 o5 l.length m5 y5) (.int .i64 (.ofNat l'.length))=.val (.ptr b6 o6):=by simp_all
  simp(disch:=go_size)only[go_sem,rB,rI,rK,rL,rN,rS,r6,qj,qf,e6,e7,hpos,hm1,k1',k4,g1,q9d,xy,lA6];have fT:Fm (fun c=>c=tb\/uR c=3) H1 (H1.put tb (TB nx {s1 with low:=upd s1.low up (min (s1.low up) (s1.low u))} sv ov)):=(Fm.refl _ _).put _ _ fun _=>Or.inl rfl;refine hg _ _ {s1 with low:=upd s1.low up (min (s1.low up) (s1.low u))} uR ⟨⟨nx,sv,ov,cs,hM.step fT (fun c _ h=>h.imp id Or.inr) (fun _ _=>rfl) (dS _ _ _) ?_ hM.wD rfl⟩,hT2,?_,hcv⟩ ⟨hle.1,hle.2⟩ hcnt
  ·exact hM.stk.keep (lg _) fun c hc _=>dG _ _ _ _ fun e=>by have h1:=hM.wD c hc;rw[e,hM.ct]at h1;cases h1
  ·exact e8.keep (lg _) fun c hc _=>dG _ _ _ _ fun e=>by have h1:=hcv c hc;rw[e,hM.ct]at h1;cases h1
theorem qvp(hC:aW C)(hO:pV C)(hS:oO C)(hR:oP LA LO C){j:Nat}(hj:300<=j){H0:Hp}{N:Nat}{aQ:Nat->List Nat}(hA:q6c N aQ){tb:Nat}{s0:TS}{q:pH}{Q:pL}(hq:∀ H' s' col',TM H0 aQ s' col' tb H'->TI N aQ s' []->Le s0 s'->Ok (q H') Q):∀(k:Nat) (v:AV) (H:Hp) (s:TS) (fr:List (Nat×Nat)) (col:Nat->Nat),2*(N-s.cnt)+fr.length<k->WS H0 N aQ s fr col tb v H->Le s0 s -> Ok (qrk (C j) q (.ptr tb 0) k v H) Q
 |0,v,H,s,fr,col,h,_,_=>by omega
 |k+1,v,H,s,fr,col,h,hW,hle=>by
  show Ok (ze8 (C j) _ _ (qrk (C j) _ _ k) _ H) Q;unfold ze8;have e1:=hW.fr.cO;rcases List.eq_nil_or_concat fr with rfl|⟨l,⟨u,i⟩,hl⟩
  ·have e1:aD v=.val (.int .i64 (.ofNat 0)):=e1;simp only[go_sem,qj,qf,e1];exact hq H s col hW.tm hW.ti hle
  ·rw[List.concat_eq_append]at hl;have hll:fr.length=l.length+1:=by rw[hl];simp
   rw[hll]at e1 h;have hlen:l.length<=256:=by have h1:=hW.ti.zI;have h2:=hW.ti.lJ;have h3:=hW.ti.kJ;have h4:=hA.le;omega
   have hpos:0<l.length+1:=by omega
   unfold q6m;have hF:=hW.fr;rw[hll]at hF;rw[hl]at hF hW;obtain⟨b,o,k1,k2,k3,k4,k5,_⟩:=hF.aBR;simp(disch:=go_size)only[go_sem,rB,rI,rK,rL,rN,rS,r6,qj,qf,e1,k1,lA6];unfold ze9;rw[dB];have hal:=hA.len u;refine z0h hC (by omega) hA k1 (fun v' H' s' fr' col' hW' hle' hm=>?_) (fun H' s' col' hW' hle' hc'=>?_) bX i s col H (by rw[dI];omega) hW (Le.refl s) rfl
   ·exact qvp hC hO hS hR hj hA hq k v' H' s' fr' col' (by omega) hW' (hle.trans hle')
   ·refine zrd hC hO hS hR hj hA k1 hW' fun v2 H2 s2 bBN hW2 hle2 hc2=>?_;exact qvp hC hO hS hR hj hA hq k v2 H2 s2 l bBN (by omega) hW2 ((hle.trans hle').trans hle2)
theorem zri(hC:aW C)(hO:pV C)(hS:oO C)(hR:oP LA LO C)(hk:301<=k){N:Nat}(hA:q6c N aQ){tb:Nat}{s:TS}(hM:TM H0 aQ s col tb H)(hT:TI N aQ s []){r:Nat}(hr:r<N)(h0:s.num r=0):Ok (C k (.f 150) [.ptr tb 0,.int .i64 (.ofNat r)] H) fun v H'=>v=.aX []/\∃ s' col',TM H0 aQ s' col' tb H'/\TI N aQ s' []/\Le s s'/\0<s'.num r:=by
 obtain⟨j,rfl⟩:=aS hk;rw[(hC j).zCu];have hN:=hA.le;have hcl:=hT.kJ;have hce:=hT.lJ;refine Ok.ve (q9n hC (k:=j) (by omega) hM (v:=r) (by omega) (by omega) (by omega)) ?_;rintro x H1 ⟨rfl,uR,c1,⟨nx,sv,ov,cs,t1⟩,f1⟩;unfold q6l zvg;rw[dB];have tE:TI N aQ (s.enter r) ([]++[(r,0)]):=hT.enter h0 hr (Or.inl ⟨rfl,rfl⟩);have f2:Fm No H1 (aO H1 (aB 0 [.int .i64 (.ofNat r),.int .i64 (.ofNat 0)])):=(Fm.refl _ _).push _;have hW:WS H0 N aQ (s.enter r) ([]++[(r,0)]) (qss uR H1 3) tb (.sl H1.nx 0 1 1 true) (aO H1 (aB 0 [.int .i64 (.ofNat r),.int .i64 (.ofNat 0)])):=by refine⟨⟨nx,sv,ov,cs,t1.step f2 (fun c _ h=>h.elim) (fun c hc=>qb2 hc) ((f2.keep t1.lt).trans t1.get) (t1.stk.fm f2 fun _ _ h=>h) (fun c hc=>by rw[qb2 (t1.stk.lt hc)];exact t1.wD c hc) rfl⟩,tE,⟨rfl,.inr ⟨H1.nx,0,1,true,0,_,rfl,lg _,lC _ _,rfl,rfl,Or.inl rfl,ak _⟩⟩,?_⟩;rintro c ⟨_,_,_,_,e⟩;cases e;exact qhb (lg _)
 refine qvp hC hO hS hR (by omega) hA (s0:=s.enter r) (fun H' s' col' t' i' hle=>?_) bX _ _ (s.enter r) ([]++[(r,0)]) _ ?_ hW (Le.refl _)
 ·exact Ok.ret ⟨rfl,s',col',t',i',(Le.enter s h0).trans hle,hle.1 r (by show 0<upd s.num r (s.cnt+1) r;rw[upd_same];omega)⟩
 ·rw[dI];show 2*(N-(s.cnt+1))+1<1000000;omega
end Go.Di
end
