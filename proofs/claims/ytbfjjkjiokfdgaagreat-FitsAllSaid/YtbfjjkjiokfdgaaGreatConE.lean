/-
 For countersign/countersignlaw20.FitsAll: functions in direct style, their contracts, and the plain mathematics, part 5 of 10. No conditions beyond those that each theorem states.
-/
import Derived.Test.YtbfjjkjiokfdgaaGreatConD
set_option linter.unusedSimpArgs false
set_option linter.unusedVariables false
open Nat renaming reduceAdd->rB,reduceMul->rI,reduceSub->rK,reduceLeDiff->rL,reduceEqDiff->rN,reduceShiftRight->rS,reduceAnd->r6
section
namespace Go.Di
open Go.Ev
variable {C:Nat->Ev.Call}
variable {H H' Hb:Hp} {X:List aN} {b i k n sb z:Nat} {g:aN} {l:List AV} {sv:AV}
structure dO(X:List aN):Prop where
 pr:vG X
 al:(aJ X).Nodup
 sp:(X.map aN.name).Nodup
 ty:∀ g∈X,∀x∈g.gs,x.r.types.Nodup/\∀ t∈x.r.types,t.sp∈X.map aN.name/\(t.rl=sE\/(t.sp,t.rl)∈aJ X)
 nd:∀ g∈X,∀x∈g.gs,∀y∈x.r.rule.nodes false,(y.k=2\/y.k=3->(g.name,y.rl)∈aJ X)/\(y.k=3->sG X g.name y.rl y.to≠[])
 us:∀ g∈X,∀x∈g.gs,((x.r.rule.nodes false).any (fun n=>decide (n.k=1))=true->x.r.types≠[])/\((x.r.rule.nodes false).any (fun n=>decide (n.k=1))=false->x.r.types≠[]->(g.gs.any fun z=>fM z.r.rule 3 x.r.name)=true)
theorem qjh{a:SS}{x:aR}:(a,x)∈fD X↔∃ g∈X,x∈g.gs/\g.name=a:=by
 unfold fD;rw[yx];constructor
 ·rintro ⟨g,hg,h⟩;rw[qp]at h;obtain⟨y,hy,e⟩:=h;injection e with e1 e2;subst e2;exact⟨g,hg,hy,e1⟩
 ·simp
theorem qjz{a b:SS}:(a,b)∈aJ X↔∃ g∈X,∃x∈g.gs,g.name=a/\x.r.name=b:=by
 rw[<-yA,qp];constructor
 ·rintro ⟨⟨a',x⟩,h,e⟩;injection e with e1 e2;subst e1;obtain⟨g,hg,hx,e⟩:=qjh.1 h;exact⟨g,hg,x,hx,e,e2⟩
 ·rintro ⟨g,hg,x,hx,rfl,rfl⟩;exact⟨(g.name,x),qjh.2 ⟨g,hg,hx,rfl⟩,rfl⟩
theorem qo6{α β:Type}{f:α->β}:∀{l:List α},(l.map f).Nodup->∀{x y:α},x∈l->y∈l->f x=f y->x=y
 | [],_,_,_,h,_,_=>by cases h
 |a::l,hn,x,y,hx,hy,e=>by
  rw[zy,ou]at hn;rcases qg.1 hx with h1|h1
  ·rcases qg.1 hy with h2|h2
   ·rw[h1,h2]
   ·exact absurd (by rw[<-h1,e];exact eQ h2) hn.1
  ·rcases qg.1 hy with h2|h2
   ·simp_all
   ·exact qo6 hn.2 h1 h2 e
theorem qpg{α:Type}[DecidableEq α]{l:List α}(h:l.Nodup)(hi:i<l.length):(l.findIdx fun q=>decide (q=l[i]))=i:=by rw[List.findIdx_eq hi];refine⟨by simp,fun j hj=>?_⟩;have:=uw.1 h j i (by omega) hi hj;simp_all
theorem qfb(hal:(aJ X).Nodup)(hsp:(X.map aN.name).Nodup){a b:SS}(h:(a,b)∈aJ X):∃ x,kI X a b=some x/\(fD X)[bW X a b]? =some (a,x):=by
 obtain⟨g,hg,x,hx,rfl,rfl⟩:=qjz.1 h;have h1:X.find? (fun p=>decide (p.name=g.name))=some g:=by
  cases hf:X.find? (fun p=>decide (p.name=g.name))with
  |none=>rw[List.find?_eq_none]at hf;exact absurd (hf g hg) (by simp)
  |some p=>
   have e:p.name=g.name:=by simpa using lE8 hf
   rw[qo6 hsp (vw hf) hg e]
 obtain⟨y,h2⟩:∃ y,g.gs.find? (fun z=>decide (z.r.name=x.r.name))=some y:=by
  cases hf:g.gs.find? (fun z=>decide (z.r.name=x.r.name))with
  |none=>rw[List.find?_eq_none]at hf;exact absurd (hf x hx) (by simp)
  |some y=>exact⟨y,rfl⟩
 have hfg:kI X g.name x.r.name=some y:=by unfold kI;rw[h1];exact h2
 have hy:y.r.name=x.r.name:=by simpa using lE8 h2
 refine⟨y,hfg,?_⟩;have hm:(g.name,y)∈fD X:=qjh.2 ⟨g,hg,vw h2,rfl⟩;obtain⟨n,hn,e⟩:=ay hm;have hln:(fD X).length=(aJ X).length:=by rw[<-yA,qc]
 have hk:(aJ X)[n]'(by omega)=(g.name,x.r.name):=by
  have e2:(aJ X)[n]? =some (kq (fD X)[n]):=by rw[<-yA,xw,lh hn];rfl
  rw[lh (by omega)]at e2;injection e2 with e2;rw[e2,e];show(g.name,y.r.name)=_;rw[hy]
 have aYG:bW X g.name x.r.name=n:=by have:=qpg hal (i:=n) (by omega);rw[hk]at this;exact this
 rw[aYG,lh hn,e]
theorem qhf(hal:(aJ X).Nodup)(hsp:(X.map aN.name).Nodup)(a b:SS):(kI X a b).isSome=decide ((a,b)∈aJ X):=by
 by_cases h:(a,b)∈aJ X
 ·obtain⟨x,h1,_⟩:=qfb hal hsp h;simp_all
 ·rw[qi h];cases hf:kI X a b with
  |none=>rfl
  |some x=>obtain⟨p,hp,hx,e1,e2⟩:=qft hf;exact absurd (qjz.2 ⟨p,hp,x,hx,e1,e2⟩) h
theorem ztm(a b:Nat):qpp (.ptr a b) .cK=some false:=id rfl
theorem ztn:qpp .cK .cK=some true:=id rfl
theorem zca(n b:Bool):mF n (some b)=.val (.bool (bif n then !b else b)):=id rfl
attribute [go_sem] ztm ztn zca
theorem qhi(hC:aW C)(hk:1<=k){ib:Nat}(hI:xN H ib sv X)(hal:(aJ X).Nodup)(hsp:(X.map aN.name).Nodup){a b:SS}(h:(a,b)∈aJ X):∃q x,kI X a b=some x/\C k (.f 111) [.ptr ib 0,.str a.n a.a,.str b.n b.a] H=.ok (.ptr q.1 q.2) H/\PtR H q x:=by
 obtain⟨j,rfl⟩:=aS hk;obtain⟨x,hf,hx⟩:=qfb hal hsp h;obtain⟨mb,nb,av,iv,qs,h1,h2,h3,h4,h5,h6,h7,h8,h9,l1,l2⟩:=hI.ex;have hlt:=zwv h;have hln:(fD X).length=(aJ X).length:=by rw[<-yA,qc]
 have hq:bW X a b<qs.length:=by omega
 obtain⟨b1,o1,e1,e2,_,_,e4⟩:=h4.at' _ hq;have r0:dK (H.get b1) o1=.val (.ptr qs[bW X a b].1 qs[bW X a b].2):=e4 0 (by rw[q42];omega);refine⟨qs[bW X a b],x,hf,?_,?_⟩
 ·rw[(hC j).zBx];unfold zBx zp9;have em:=h3.find (iN 0) a b h;have hnx:(List.findIdx (fun q=>decide (q=(a,b))) (aJ X))=bW X a b:=rfl;rw[hnx]at em;simp(disch:=go_size)only[go_sem,rB,rI,rK,rL,rN,rS,r6,h1,em];unfold zfy;simp only[go_sem,h1,e1,r0]
 ·have:=h9 _ hq (by omega);simp_all
theorem zuo(hC:aW C)(hk:1<=k){ib:Nat}(hI:xN H ib sv X){a b:SS}(h:(a,b)∉aJ X):C k (.f 111) [.ptr ib 0,.str a.n a.a,.str b.n b.a] H=.ok .cK H:=by obtain⟨j,rfl⟩:=aS hk;obtain⟨mb,nb,av,iv,qs,h1,h2,h3,h4,h5,h6,h7,h8,h9,l1,l2⟩:=hI.ex;rw[(hC j).zBx];unfold zBx zp9;have em:=h3.miss (iN 0) a b h;simp(disch:=go_size)only[go_sem,rB,rI,rK,rL,rN,rS,r6,h1,em]
theorem qwc(hC:aW C){j:Nat}(hj:1<=j){H0:Hp}{ib:Nat}{sv tv:AV}{X:List aN}(hI:xN H0 ib sv X)(hal:(aJ X).Nodup)(hsp:(X.map aN.name).Nodup){ts:List iQ}(ht:Rs 2 tC H0 tv ts)(htl:ts.length<=1000)(to:SS){Q:pL}{q:pD}(hq:∀ w H,Ac 1 sC H0 H w (tgL X to ts)->Ok (q w H) Q):∀(k i:Nat) (w:AV) (H:Hp),i<=ts.length->ts.length-i<k->Ac 1 sC H0 H w (tgL X to (ts.take i)) -> Ok (qxo (C j) q (.ptr ib 0) to.v tv (iN (ts.length)) k w (iN i) H) Q
 |0,i,_,_,_,h,_=>by omega
 |k+1,i,w,H,hi,hk,hw=>by
  show Ok (zfx (C j) _ _ _ _ _ (qxo (C j) _ _ _ _ _ k) _ _ H) Q;unfold zfx;by_cases hlt:i<ts.length
  ·simp only[go_sem,hlt];unfold zfw;have ht1:=ht.fm hw.fm;obtain⟨b1,o1,e1,e2,_,e3,_⟩:=ht1.at' i hlt;unfold tC SS.v at e3;have hs:=zrk X to hlt;have hll:=q4h X to (ts.take i);rw[qo]at hll;have skip:∀ H3,Fm No H H3->tgP X to ts[i]=false->Ok (qns (C j) (qxo (C j) q (.ptr ib 0) (.str to.n to.a) tv (iN (ts.length)) k) w (iN i) H3) Q:=fun H3 f3 h=>by
    unfold qns;simp(disch:=go_size)only[go_sem,rB,rI,rK,rL,rN,rS,r6];refine qwc hC hj hI hal hsp ht htl to hq k (i+1) w H3 (by omega) (by omega) ?_;rw[hs,h];simpa using hw.no f3
   have f2:Fm No H ((aO H (aB 0 [.str 0 0,.str 0 0])).put H.nx (aB 0 [.str ts[i].sp.n ts[i].sp.a,.str ts[i].rl.n ts[i].rl.a])):=by exact oJ
   have hI2:=(hI.fm hw.fm).fm f2;unfold SS.v;unfold tgP at skip hs;by_cases h1:ts[i].rl.n=0/\ts[i].rl.a=0
   ·have h1':ts[i].rl=sE:=(sJ _ _).2 h1;have h1t:=dh h1;rw[gp h1',qhf hal hsp]at skip hs;by_cases hin:(ts[i].sp,to)∈aJ X
    ·obtain⟨qq,x,_,ec,_⟩:=qhi hC (k:=j) hj hI2 hal hsp hin;rw[gp hin]at hs;simp(disch:=go_size)only[go_sem,seval,e1,e3,h1t,ec];refine Ok.ve ((hw.no (f2.trans (by(repeat(first|exact Fm.refl _ _|assumption|refine Fm.push ?_ _|refine Fm.lF ?_ (by go_size)|refine Fm.aF ?_ _ _ (by go_size)))))).add ts[i].sp 16 rfl (by omega) (by omega)) ?_;intro w4 H4 hw4;unfold qns;simp(disch:=go_size)only[go_sem,rB,rI,rK,rL,rN,rS,r6];refine qwc hC hj hI hal hsp ht htl to hq k (i+1) w4 H4 (by omega) (by omega) ?_;simp_all
    ·have ec:=zuo hC (k:=j) hj hI2 hin;rw[qi hin]at skip;simp(disch:=first|omega|exact ti rfl)only[go_sem,seval,e1,e3,h1t,ec];simp_all
   ·rw[qi (fun h=>h1 ((sJ _ _).1 h))]at skip;simp(disch:=first|omega|exact ti rfl)only[go_sem,seval,e1,e3,h1];simp_all
  ·simp only[go_sem,hlt];have he:i=ts.length:=by omega
   simp_all
theorem zus(hC:aW C)(hk:1<=k){v:AV}(h:Gl 1 H v n l):∃w,C k (.f 143) [v] H=.ok w H/\Gl 1 H w n l/\(∀b,In w b->In v b):=by obtain⟨j,rfl⟩:=aS hk;obtain⟨w,e,h1,h2,h3⟩:=h.clip;refine⟨w,?_,h1,h3⟩;rw[(hC j).zCq];unfold zCq zy3;simp only[go_sem,h.cO,e]
theorem qp4(hC:aW C)(hk:2<=k){ib:Nat}(hX:bS H sv X)(hS:yD X)(hI:xN H ib sv X)(hal:(aJ X).Nodup)(hsp:(X.map aN.name).Nodup)(a b to:SS)(hab:(a,b)∈aJ X):Ok (C k (.f 112) [.ptr ib 0,.str a.n a.a,.str b.n b.a,.str to.n to.a] H) fun r H'=>Ac 1 sC H H' r (sG X a b to):=by obtain⟨j,rfl⟩:=aS hk;rw[(hC j).zBy];unfold zBy zzh;obtain⟨q,x,hf,ec,hp⟩:=qhi hC (k:=j) (by omega) hI hal hsp hab;have rt:=hp.tv;obtain⟨p,hp1,hx,_,_⟩:=qft hf;have hty:=((hX.sp p hp1).rel x hx).ty;have htl:=hS.t p hp1 x hx;have hl:=hty.len;simp only[go_sem,ec,rt,hl];unfold zvv;rw[dB];refine qwc hC (by omega) hI hal hsp hty (by omega) to (fun w H2 hw=>?_) bX 0 .aA H (gq _) (by rw[dI];omega) (Ac.nil _ _ (Fm.refl _ _));unfold q6v;obtain⟨w',e,g,hi⟩:=zus hC (k:=j) (by omega) hw.gl;simp only[go_sem,e];unfold sG;rw[hf];exact Ok.ret ⟨g,hw.fm,fun c hc=>hw.nw c (hi c hc)⟩
theorem qz8(n m i:Nat)(h:i<=m):bounds n m none (some (iN i)) none=some ⟨0,i,m⟩:=by show(match(bif Nat.ble i m then some i else none)with|none=>none|some h=>match(some 0:Option Nat)with|none=>none|some l=>some (Bd.mk l h m))=_;rw[ble_eq,gp h];rfl
theorem Rs.pre{α:Type}{f:α->List AV}{v:AV}{l:List α}(h:Rs z f H v l)(hc:v=.aA\/∃ b o n m e,v=.sl b o n m e/\n<=m/\0<n)(hi:i<l.length):∃w,kM z v none (some (iN i)) none=.val w/\Rs z f H w (l.take i):=by
 have hl:=h.len;rcases hc with rfl|⟨b,o,n,m,e,rfl,hnm⟩
 ·exfalso;have:l.length=0:=by
   have h1:aD .aA=R0.val (iN 0):=rfl;injection hl with hl;injection hl with _ hl;injection hl with hl;omega
  omega
 ·have hn:n=l.length:=by
   have h1:aD (.sl b o n m e)=R0.val (iN n):=rfl;injection hl with hl;injection hl with _ hl;injection hl
  subst hn;have e1:kM z (.sl b o l.length m e) none (some (iN i)) none=iD b o z ⟨0,i,m⟩ e:=by show(match bounds l.length m none (some (iN i)) none with|some bd=>iD b o z bd e|none=>R0.bad)=_;rw[qz8 _ _ _ (by omega)]
  have e2:iD b o z ⟨0,i,m⟩ e=.val (.sl b o i m e):=by unfold iD;simp only[beq_eq];rw[qi (by omega),zh];simp
  refine⟨.sl b o i m e,e1.trans e2,?_,fun j hj=>?_⟩
  ·rw[qo,yg (by omega)];rfl
  ·have hj':j<i:=by rw[qo]at hj;omega
   obtain⟨b',o',i1,i2,i3,i4,i5⟩:=h.at' j (by omega);rw[sV _ _ _ _ _ _ _ _ (by omega)]at i1;injection i1 with i1;injection i1 with i1 i6;subst i1 i6;refine⟨b,_,sV _ _ _ _ _ _ _ _ hj',i2,⟨_,_,_,_,rfl⟩,?_,fun m hm=>?_⟩
   ·simp_all
   ·have:((l.take i)[j]'hj)=l[j]'(by omega):=List.getElem_take ..;simp only[this]at hm ⊢;exact i5 m hm
def kyT(t:iQ):SS×SS:=(t.sp,t.rl)
theorem z14{t u:iQ}(h:kyT t=kyT u):t=u:=by injection h with h1 h2;cases t;simp_all
theorem q7l{O:Ev.Call}{H:Hp}{tv:AV}{ts:List iQ}(ht:Rs 2 tC H tv ts)(htl:ts.length<=1000){t:iQ}{pb:Nat}(hp:H.get pb=aB 0 [.str t.sp.n t.sp.a,.str t.rl.n t.rl.a]){Q:pL}{q:pH}{qr:pD}(hq:t∉ts->Ok (q H) Q)(hr:t∈ts->∀ i:Nat,Ok (qr (iN i) H) Q):∀(k i:Nat),i<=ts.length->ts.length-i<k->t∉ts.take i->Ok (q6h O qr q tv (.ptr pb 0) (iN (ts.length)) k (iN i) H) Q
 |0,i,_,h,_=>by omega
 |k+1,i,hi,hk,hn=>by
  show Ok (zel O _ _ _ _ _ (q6h O _ _ _ _ _ k) _ H) Q;unfold zel;by_cases hlt:i<ts.length
  ·simp only[go_sem,hlt];unfold zej;obtain⟨b1,o1,e1,e2,_,e3,_⟩:=ht.at' i hlt;unfold tC SS.v at e3;have ee:dQ (eqFields [(p1,⟨bH⟩,0),(p1,⟨bH⟩,1)]) (.agg [.str t.sp.n t.sp.a,.str t.rl.n t.rl.a]) (.agg [.str ts[i].sp.n ts[i].sp.a,.str ts[i].rl.n ts[i].rl.a])=some (decide (kyT t=kyT ts[i])):=qln (kyT t) (kyT ts[i]);by_cases hne:kyT t=kyT ts[i]
   ·rw[gp hne]at ee;simp only[go_sem,seval,hp,e1,e3,ee];exact hr (by rw[z14 hne];exact lu hlt) i
   ·rw[qi hne]at ee;simp only[go_sem,seval,hp,e1,e3,ee];unfold zu5;simp(disch:=omega)only[go_sem];refine q7l ht htl hp hq hr k (i+1) (by omega) (by omega) fun h=>?_;rw[ku hlt,gz,gy]at h;simp_all
  ·simp only[go_sem,hlt];exact hq (by rw[tu (by omega)]at hn;exact hn)
theorem qlp(hC:aW C)(hk:2<=k){tv:AV}{ts:List iQ}(ht:Rs 2 tC H tv ts)(htl:ts.length<=1000)(t:iQ):Ok (C k (.f 65) [tv,.agg [.str t.sp.n t.sp.a,.str t.rl.n t.rl.a]] H) fun r H'=>r=.bool (decide (t∈ts))/\Fm No H H':=by
 obtain⟨j,rfl⟩:∃ j,k=j+1+1:=⟨k-2,by omega⟩;rw[(hC (j+1)).zDf];unfold zDf zyr;simp(disch:=go_size)only[go_sem,rB,rI,rK,rL,rN,rS,r6];rw[(hC j).zDm];unfold zDm zym;have hl:=ht.len;simp only[go_sem,hl];have f:Fm No H (aO (aO H (aB 0 [.str t.sp.n t.sp.a,.str t.rl.n t.rl.a])) (aB 0 [.str t.sp.n t.sp.a,.str t.rl.n t.rl.a])):=by exact pU
 unfold zu6;rw[dB];refine Ok.ve (R:=fun r H'=>((t∉ts/\r=.int .i64 (.negSucc 0))\/(t∈ts/\∃ i:Nat,r=iN i))/\Fm No H H') (q7l (ht.fm f) htl (t:=t) (pb:=H.nx+1) (by simp(disch:=go_size)only[go_sem]) (fun h=>?_) (fun h i=>Ok.ret ⟨.inr ⟨h,i,rfl⟩,f⟩) bX 0 (gq _) (by rw[dI];omega) (by rw[dE];exact oh)) ?_
 ·unfold zek;exact Ok.ret ⟨.inl ⟨h,rfl⟩,f⟩
 ·rintro _ H2 ⟨⟨h,rfl⟩|⟨h,i,rfl⟩,f2⟩
  ·simp only[go_sem];exact Ok.ret ⟨by rw[qi h],f2⟩
  ·simp only[go_sem];exact Ok.ret ⟨by rw[gp h,gp (gq i)],f2⟩
theorem q0j(hC:aW C)(hk:2<=k){tv:AV}{ts:List iQ}(ht:Rs 2 tC H tv ts)(htl:ts.length<=1000){t:iQ}(hn:t∉ts):Ok (C k (.f 65) [tv,.agg [.str t.sp.n t.sp.a,.str t.rl.n t.rl.a]] H) fun r H'=>r=.bool false/\Fm No H H':=
 (qlp hC hk ht htl t).mono fun _ _ h=>by rw[qi hn]at h;exact h
theorem q8i(hC:aW C){j:Nat}(hj:2<=j){Hb:Hp}{ib:Nat}{sv:AV}{X:List aN}(hI:xN Hb ib sv X)(hV:dO X){pp:Nat×Nat}{x:aR}(hpx:PtR Hb pp x)(hxr:kR Hb x)(htl:x.r.types.length<=8)(hnd:x.r.types.Nodup)(hty:∀ t∈x.r.types,t.sp∈X.map aN.name/\(t.rl=sE\/(t.sp,t.rl)∈aJ X)){Q:pL}{q:pH}{qr:pD}(hq:∀ H,Fm No Hb H->Ok (q H) Q):∀(k i:Nat) (H:Hp),i<=x.r.types.length->x.r.types.length-i<k->Fm No Hb H->Ok (qrh (C j) qr q (.ptr ib 0) (.ptr pp.1 pp.2) x.tv (iN (x.r.types.length)) k (iN i) H) Q
 |0,i,_,_,h,_=>by omega
 |k+1,i,H,hi,hk,hf=>by
  show Ok (ze0 (C j) _ _ _ _ _ _ (qrh (C j) _ _ _ _ _ _ k) _ H) Q;unfold ze0;by_cases hlt:i<x.r.types.length
  ·simp only[go_sem,hlt];rw[qri];unfold qt5;have h1:=hxr.fm hf;obtain⟨b1,o1,e1,e2,_,e3,_⟩:=h1.ty.at' i hlt;unfold tC SS.v at e3;have hI1:=hI.fm hf;have ht:=hty _ (lu hlt);have fp:Fm No H ((aO H (aB 0 [.str 0 0,.str 0 0])).put H.nx (aB 0 [.str x.r.types[i].sp.n x.r.types[i].sp.a,.str x.r.types[i].rl.n x.r.types[i].rl.a])):=by exact oJ
   have hI2:=hI1.fm fp;obtain⟨mb,nb,av,iv,qs,g1,g2,g3,_⟩:=hI2.ex;have em:qL ⟨bH,none⟩ (iN 0) false ⟨((aO H (aB 0 [.str 0 0,.str 0 0])).put H.nx (aB 0 [.str x.r.types[i].sp.n x.r.types[i].sp.a,.str x.r.types[i].rl.n x.r.types[i].rl.a])).t,H.nx+1⟩ (.map mb) (.str x.r.types[i].sp.n x.r.types[i].sp.a)=.val (iN 1):=g2.find _ _ ht.1;have aZa:=(hpx.fm hf).fm fp;have rt:=aZa.tv;have aK0:=h1.fm fp;obtain⟨w,ew,hw⟩:=aK0.ty.pre aK0.tc hlt;have tail:∀ H3,Fm No ((aO H (aB 0 [.str 0 0,.str 0 0])).put H.nx (aB 0 [.str x.r.types[i].sp.n x.r.types[i].sp.a,.str x.r.types[i].rl.n x.r.types[i].rl.a])) H3->Ok (C j (.f 65) [w,.agg [.str x.r.types[i].sp.n x.r.types[i].sp.a,.str x.r.types[i].rl.n x.r.types[i].rl.a]] H3) fun r H'=>r=.bool false/\Fm No H3 H':=fun H3 f3=>
    q0j hC hj (hw.fm f3) (by rw[qo];omega) (t:=x.r.types[i]) (qll hnd hlt)
   have fin:∀ H3,Fm No H H3->Ok (zex (C j) (qrh (C j) qr q (.ptr ib 0) (.ptr pp.1 pp.2) x.tv (iN (x.r.types.length)) k) (iN i) H3) Q:=fun H3 f3=>by rw[qxk];unfold q2g;simp(disch:=omega)only[go_sem];exact q8i hC hj hI hV hpx hxr htl hnd hty hq k (i+1) H3 (by omega) (by omega) (hf.trans f3)
   by_cases hz:x.r.types[i].rl.n=0/\x.r.types[i].rl.a=0
   ·have hzt:=dh hz;simp(disch:=first|go_size|omega)only[go_sem,rB,rI,rK,rL,rN,rS,r6,e1,e3,g1,em,hzt,rt,ew];refine Ok.mI (tail _ (Fm.refl _ _)) ?_;rintro _ H3 ⟨rfl,f3⟩;simp only[go_sem];exact fin H3 (fp.trans f3)
   ·have hin:(x.r.types[i].sp,x.r.types[i].rl)∈aJ X:=by
     rcases ht.2 with h|h
     ·exact absurd ((sJ _ _).1 h) hz
     ·exact h
    obtain⟨qq,y,_,ec,_⟩:=qhi hC (k:=j) (by omega) hI2 hV.al hV.sp hin;have ec':C j (.f 111) [.ptr ib 0,.str x.r.types[i].sp.n x.r.types[i].sp.a,.str x.r.types[i].rl.n x.r.types[i].rl.a] ⟨((aO H (aB 0 [.str 0 0,.str 0 0])).put H.nx (aB 0 [.str x.r.types[i].sp.n x.r.types[i].sp.a,.str x.r.types[i].rl.n x.r.types[i].rl.a])).t,H.nx+1⟩=.ok (.ptr qq.1 qq.2) ((aO H (aB 0 [.str 0 0,.str 0 0])).put H.nx (aB 0 [.str x.r.types[i].sp.n x.r.types[i].sp.a,.str x.r.types[i].rl.n x.r.types[i].rl.a])):=ec;simp(disch:=first|go_size|omega)only[go_sem,rB,rI,rK,rL,rN,rS,r6,e1,e3,g1,em,hz,ec',rt,ew];refine Ok.mI (tail _ (Fm.refl _ _)) ?_;rintro _ H3 ⟨rfl,f3⟩;simp only[go_sem];exact fin H3 (fp.trans f3)
  ·simp only[go_sem,hlt];exact hq H hf
theorem zni(hC:aW C)(hk:3<=k){ib:Nat}(hI:xN H ib sv X)(hV:dO X){pp:Nat×Nat}{x:aR}(hpx:PtR H pp x)(hxr:kR H x)(htl:x.r.types.length<=8)(hnd:x.r.types.Nodup)(hty:∀ t∈x.r.types,t.sp∈X.map aN.name/\(t.rl=sE\/(t.sp,t.rl)∈aJ X)):Ok (C k (.f 135) [.ptr ib 0,.ptr pp.1 pp.2] H) fun r H'=>r=iN 0/\Fm No H H':=by obtain⟨j,rfl⟩:=aS hk;rw[(hC j).zCy];unfold zCy zyx;have rt:=hpx.tv;have hl:=hxr.ty.len;simp only[go_sem,rt,hl];unfold zve;rw[dB];refine q8i hC (by omega) hI hV hpx hxr htl hnd hty (fun H2 f2=>?_) bX 0 H (gq _) (by rw[dI];omega) (Fm.refl _ _);rw[qxl];exact Ok.ret ⟨rfl,f2⟩
theorem zt5(nm n a:Nat):jT nm (.str n a)=.new (.ptr nm 0) (aB 0 [.str n a]):=id rfl
theorem zt6(nm n a:Nat):jT nm (.ptr n a)=.new (.ptr nm 0) (aB 0 [.ptr n a]):=id rfl
attribute [go_sem] zt5 zt6
theorem qkt(hC:aW C){j:Nat}(hj:2<=j){Hb:Hp}{ib:Nat}{sv nv:AV}{X:List aN}(hX:bS Hb sv X)(hI:xN Hb ib sv X)(hV:dO X)(s:SS){l:List (Nd×AV)}(hl:Rs 5 kW Hb nv l)(hll:l.length<=1000)(hnd:∀ y∈l,(y.1.k=2\/y.1.k=3->(s,y.1.rl)∈aJ X)/\(y.1.k=3->sG X s y.1.rl y.1.to≠[])){Q:pL}{q:pD}{qr:AV->pD}(hq:∀ H,Fm No Hb H->Ok (q (.bool (l.any fun y=>decide (y.1.k=1))) H) Q):∀(k i:Nat) (u:Bool) (H:Hp),i<=l.length->l.length-i<k->Fm No Hb H->u=((l.take i).any fun y=>decide (y.1.k=1))->Ok (qxi (C j) qr q (.ptr ib 0) (.str s.n s.a) nv (iN (l.length)) k (.bool u) (iN i) H) Q
 |0,i,_,_,_,h,_,_=>by omega
 |k+1,i,u,H,hi,hk,hf,hu=>by
  show Ok (zet (C j) _ _ _ _ _ _ (qxi (C j) _ _ _ _ _ _ k) _ _ H) Q;unfold zet;by_cases hlt:i<l.length
  ·simp only[go_sem,hlt];unfold zes;have h1:=hl.fm hf;obtain⟨b1,o1,e1,e2,_,e3,_⟩:=h1.at' i hlt;unfold kW SS.v at e3;have hn:=hnd _ (lu hlt);have fp:Fm No H ((aO H (aB 0 [.int .u8 (.ofNat 0),.str 0 0,.str 0 0,.aA,.bool false])).put H.nx (aB 0 [.int .u8 (.ofNat l[i].1.k),.str l[i].1.rl.n l[i].1.rl.a,.str l[i].1.to.n l[i].1.to.a,l[i].2,.bool l[i].1.neg])):=by exact oJ
   obtain⟨H1,hH1⟩:∃ H1,H1=(aO H (aB 0 [.int .u8 (.ofNat 0),.str 0 0,.str 0 0,.aA,.bool false])).put H.nx (aB 0 [.int .u8 (.ofNat l[i].1.k),.str l[i].1.rl.n l[i].1.rl.a,.str l[i].1.to.n l[i].1.to.a,l[i].2,.bool l[i].1.neg]):=⟨_,rfl⟩;rw[<-hH1]at fp;have pb:H1.get H.nx=aB 0 [.int .u8 (.ofNat l[i].1.k),.str l[i].1.rl.n l[i].1.rl.a,.str l[i].1.to.n l[i].1.to.a,l[i].2,.bool l[i].1.neg]:=by rw[hH1];exact dS _ _ _
   have n1:H.nx<H1.nx:=by rw[hH1];simp only[np,nq];omega
   have hI2:=(hI.fm hf).fm fp;have hs:((l.take (i+1)).any fun y=>decide (y.1.k=1))=(((l.take i).any fun y=>decide (y.1.k=1))||decide (l[i].1.k=1)):=by rw[ku hlt,lAA];simp
   have fin:∀ H3,Fm No H1 H3->Ok (q2d (C j) (qxi (C j) qr q (.ptr ib 0) (.str s.n s.a) nv (iN (l.length)) k) (.bool u) (.ptr H.nx 0) (iN i) H3) Q:=fun H3 f3=>by
    unfold q2d;have p3:=(f3.keep n1).trans pb;cases u with
    |true=>unfold zer;simp(disch:=go_size)only[go_sem,rB,rI,rK,rL,rN,rS,r6];exact qkt hC hj hX hI hV s hl hll hnd hq k (i+1) true H3 (by omega) (by omega) (hf.trans (fp.trans f3)) (by rw[hs,<-hu];rfl)
    |false=>simp only[go_sem,p3];unfold zer;simp(disch:=go_size)only[go_sem,rB,rI,rK,rL,rN,rS,r6];exact qkt hC hj hX hI hV s hl hll hnd hq k (i+1) _ H3 (by omega) (by omega) (hf.trans (fp.trans f3)) (by rw[hs,<-hu];rfl)
   by_cases q2:l[i].1.k=2
   ·have q2t:=dh q2;obtain⟨qq,y,_,ec,_⟩:=qhi hC (k:=j) (by omega) hI2 hV.al hV.sp (hn.1 (.inl q2));have q3:¬ l[i].1.k=3:=by omega
    rw[hH1]at ec;simp(disch:=go_size)only[go_sem,rB,rI,rK,rL,rN,rS,r6,e1,e3,q2t,q3,ec];rw[<-hH1];exact fin H1 (Fm.refl _ _)
   ·by_cases q3:l[i].1.k=3
    ·have q3t:=dh q3;have hin:=hn.1 (.inr q3);obtain⟨qq,y,_,ec,_⟩:=qhi hC (k:=j) (by omega) hI2 hV.al hV.sp hin;have ht:=qp4 hC (k:=j) (by omega) ((hX.fm hf).fm fp) hV.pr.sml hI2 hV.al hV.sp s l[i].1.rl l[i].1.to hin;rw[hH1]at ec;simp(disch:=go_size)only[go_sem,rB,rI,rK,rL,rN,rS,r6,e1,e3,q3t,q2,ec];rw[<-hH1];refine Ok.ve ht ?_;intro tv H2 ha;have hla:=ha.cO;have hne:¬(sG X s l[i].1.rl l[i].1.to).length=0:=fun h=>hn.2 q3 (ry.1 h);simp only[go_sem,hla,hne];exact fin H2 ha.fm
    ·simp(disch:=go_size)only[go_sem,rB,rI,rK,rL,rN,rS,r6,e1,e3,q2,q3];rw[<-hH1];exact fin H1 (Fm.refl _ _)
  ·simp only[go_sem,hlt];have he:i=l.length:=by omega
   rw[he,uj]at hu;rw[hu];exact hq H hf
theorem zun(hC:aW C)(hk:3<=k){ib:Nat}{sv nv:AV}(hX:bS H sv X)(hI:xN H ib sv X)(hV:dO X)(s:SS){l:List (Nd×AV)}(hl:Rs 5 kW H nv l)(hll:l.length<=1000)(hnd:∀ y∈l,(y.1.k=2\/y.1.k=3->(s,y.1.rl)∈aJ X)/\(y.1.k=3->sG X s y.1.rl y.1.to≠[])):Ok (C k (.f 137) [.ptr ib 0,.str s.n s.a,nv] H) fun r H'=>r=.aX [.bool (l.any fun y=>decide (y.1.k=1)),iN 0]/\Fm No H H':=by obtain⟨j,rfl⟩:=aS hk;rw[(hC j).zCz];unfold zCz zyw;have hln:=hl.len;simp only[go_sem,hln];unfold zvc;rw[dB];refine qkt hC (by omega) hX hI hV s hl hll hnd (fun H2 f2=>?_) bX 0 false H (gq _) (by rw[dI];omega) (Fm.refl _ _) rfl;exact Ok.ret ⟨rfl,f2⟩
theorem q8v(hC:aW C){j:Nat}(hj:1<=j){Hb:Hp}{nv:AV}{l:List (Nd×AV)}(hl:Rs 5 kW Hb nv l)(hll:l.length<=1000){s:SS}{sb:Nat}(hs:Hb.get sb=aB 0 [.str s.n s.a])(hsl:sb<Hb.nx){Q:pL}{q:pH}{qr:pD}(hr:∀ i H,l.any (fun y=>gU 3 s y.1)=true->Fm No Hb H->Ok (qr (iN i) H) Q)(hq:∀ H,l.any (fun y=>gU 3 s y.1)=false->Fm No Hb H->Ok (q H) Q):∀(k i:Nat) (H:Hp),i<=l.length->l.length-i<k->Fm No Hb H->(l.take i).any (fun y=>gU 3 s y.1)=false->Ok (qxh (C j) qr q nv (.fn 169 [] [.ptr sb 0]) (iN (l.length)) k (iN i) H) Q
 |0,i,_,_,h,_,_=>by omega
 |k+1,i,H,hi,hk,hf,hn=>by
  show Ok (zee (C j) _ _ _ _ _ (qxh (C j) _ _ _ _ _ k) _ H) Q;unfold zee;obtain⟨m,rfl⟩:∃ m,j=m+1:=⟨j-1,by omega⟩;by_cases hlt:i<l.length
  ·simp only[go_sem,hlt];unfold zux;have h1:=hl.fm hf;obtain⟨b1,o1,e1,e2,_,e3,_⟩:=h1.at' i hlt;unfold kW SS.v at e3;have hs1:=(hf.keep hsl).trans hs;have nx1:=hf.nx;simp only[go_sem,e1,e3];rw[(hC m).zDn];unfold zDn zyl;have fp:Fm No H (aO H (aB 0 [.int .u8 (.ofNat l[i].1.k),.str l[i].1.rl.n l[i].1.rl.a,.str l[i].1.to.n l[i].1.to.a,l[i].2,.bool l[i].1.neg])):=by exact jY
   have hst:(l.take (i+1)).any (fun y=>gU 3 s y.1)=gU 3 s l[i].1:=by rw[ku hlt,lAA,hn];simp
   have skip:gU 3 s l[i].1=false->Ok (zec (C (m+1)) (qxh (C (m+1)) qr q nv (.fn 169 [] [.ptr sb 0]) (iN (l.length)) k) (iN i) (aO H (aB 0 [.int .u8 (.ofNat l[i].1.k),.str l[i].1.rl.n l[i].1.rl.a,.str l[i].1.to.n l[i].1.to.a,l[i].2,.bool l[i].1.neg]))) Q:=fun hh=>by unfold zec;simp(disch:=go_size)only[go_sem,rB,rI,rK,rL,rN,rS,r6];exact q8v hC hj hl hll hs hsl hr hq k (i+1) _ (by omega) (by omega) (hf.trans fp) (by rw[hst,hh])
   by_cases q3:l[i].1.k=3
   ·have q3t:=dh q3;by_cases h2:l[i].1.rl.n=s.n/\l[i].1.rl.a=s.a
    ·have h2t:=dh h2;have hh:gU 3 s l[i].1=true:=by unfold gU;rw[gp q3,gp ((sJ _ _).2 h2)];rfl
     simp(disch:=go_size)only[go_sem,rB,rI,rK,rL,rN,rS,r6,q3t,hs1,h2t];exact hr i _ (ag.2 ⟨_,lu hlt,hh⟩) (hf.trans fp)
    ·have hh:gU 3 s l[i].1=false:=by unfold gU;rw[qi (fun h=>h2 ((sJ _ _).1 h))];simp
     simp(disch:=go_size)only[go_sem,rB,rI,rK,rL,rN,rS,r6,q3t,hs1,h2];exact skip hh
   ·have hh:gU 3 s l[i].1=false:=by unfold gU;rw[qi q3];simp
    simp(disch:=go_size)only[go_sem,rB,rI,rK,rL,rN,rS,r6,q3];exact skip hh
  ·simp only[go_sem,hlt];have he:i=l.length:=by omega
   rw[he,uj]at hn;simp_all
theorem q0m(hC:aW C)(hk:3<=k){nv:AV}{l:List (Nd×AV)}(hl:Rs 5 kW H nv l)(hll:l.length<=1000){s:SS}(hs:H.get sb=aB 0 [.str s.n s.a])(hsl:sb<H.nx):Ok (C k (.f 168) [nv,.fn 169 [] [.ptr sb 0]] H) fun r H'=>r=.bool (l.any fun y=>gU 3 s y.1)/\Fm No H H':=by
 obtain⟨j,rfl⟩:∃ j,k=j+1+1:=⟨k-2,by omega⟩;rw[(hC (j+1)).zDo];unfold zDo zyk;simp only[go_sem];rw[(hC j).zDs];unfold zDs zyh;have hln:=hl.len;simp only[go_sem,hln];unfold zuy;rw[dB];refine Ok.ve (R:=fun r H'=>Fm No H H'/\((l.any (fun y=>gU 3 s y.1)=true/\∃ i,r=iN i)\/(l.any (fun y=>gU 3 s y.1)=false/\r=.int .i64 (.negSucc 0)))) (q8v hC (by omega) hl hll hs hsl (fun i H2 h f=>Ok.ret ⟨f,.inl ⟨h,i,rfl⟩⟩) (fun H2 h f=>?_) bX 0 H (gq _) (by rw[dI];omega) (Fm.refl _ _) rfl) ?_
 ·unfold zed;exact Ok.ret ⟨f,.inr ⟨h,rfl⟩⟩
 ·rintro r H2 ⟨f2,⟨h,i,rfl⟩|⟨h,rfl⟩⟩
  ·simp only[go_sem,gq];exact Ok.ret ⟨by rw[h],f2⟩
  ·simp only[go_sem];exact Ok.ret ⟨by rw[h],f2⟩
theorem qfm{x:aR}(h:kR H x):∃ c0 c1 c2 c3,x.cs=[c0,c1,c2,c3]/\fI x=[.str x.r.name.n x.r.name.a,x.tv,c0,c1,c2,c3]:=by obtain⟨c0,c1,c2,c3,hcs⟩:=h.ru.four;exact⟨c0,c1,c2,c3,hcs,by unfold fI;rw[hcs];rfl⟩
theorem zm7(hC:aW C)(hN:mG C)(hk:14<=k){x:aR}(hx:kR H x)(hr:x.r.rule.Rt){s:SS}(hs:H.get sb=aB 0 [.str s.n s.a])(hsl:sb<H.nx):Ok (C k (.f 167) [.agg (fI x),.ptr sb 0] H) fun r H'=>r=.bool (fM x.r.rule 3 s)/\Fm No H H':=by
 obtain⟨j,rfl⟩:=aS hk;rw[(hC j).zDg];unfold zDg zyq;obtain⟨c0,c1,c2,c3,hcs,hrc⟩:=qfm hx;rw[hrc];have f:Fm No H (aO H (aB 0 [.str x.r.name.n x.r.name.a,x.tv,c0,c1,c2,c3])):=by exact jY
 have mE:=hx.ru.fm f;rw[hcs]at mE;simp(disch:=omega)only[go_sem,seval];refine Ok.ve (qp5 hC hN (k:=j) (by omega) mE hr) ?_;rintro _ H2 ⟨nv,l,rfl,ha,hl⟩;have hln:l.length<=32:=by have:=congrArg List.length hl;simp only[qc,qce]at this;have:=hr.sz;omega
 refine Ok.ve (q0m hC (k:=j) (by omega) (ha.rs qig) (by omega) (s:=s) ((ha.fm.keep (show sb<(aO H _).nx by simp only[np,nq];omega)).trans ((f.keep hsl).trans hs)) (lL hsl (tq f.nx ha.fm.nx))) ?_;rintro _ H3 ⟨rfl,f3⟩;refine Ok.ret ⟨?_,f.trans (ha.fm.trans f3)⟩;unfold fM;rw[<-hl,lAZ];rfl
theorem q79(hC:aW C)(hN:mG C){j:Nat}(hj:14<=j){Hb:Hp}{g:aN}(hg:xZ Hb g)(hgl:g.gs.length<=16)(hr:∀ x∈g.gs,x.r.rule.Rt){s:SS}{sb:Nat}(hs:Hb.get sb=aB 0 [.str s.n s.a])(hsl:sb<Hb.nx){Q:pL}{q:pH}{qr:pD}(hr':∀ i H,g.gs.any (fun x=>fM x.r.rule 3 s)=true->Fm No Hb H->Ok (qr (iN i) H) Q)(hq:∀ H,g.gs.any (fun x=>fM x.r.rule 3 s)=false->Fm No Hb H->Ok (q H) Q):∀(k i:Nat) (H:Hp),i<=g.gs.length->g.gs.length-i<k->Fm No Hb H->(g.gs.take i).any (fun x=>fM x.r.rule 3 s)=false->Ok (q6g (C j) qr q g.rv (.fn 167 [] [.ptr sb 0]) (iN (g.gs.length)) k (iN i) H) Q
 |0,i,_,_,h,_,_=>by omega
 |k+1,i,H,hi,hk,hf,hn=>by
  show Ok (zei (C j) _ _ _ _ _ (q6g (C j) _ _ _ _ _ k) _ H) Q;unfold zei;by_cases hlt:i<g.gs.length
  ·simp only[go_sem,hlt];unfold zu1;have h1:=hg.fm hf;obtain⟨b,o,e1,_,_,_,_,e6⟩:=h1.at' i hlt;have hm:=lu hlt;simp only[go_sem,e1,e6];refine Ok.ve (zm7 hC hN hj (h1.rel _ hm) (hr _ hm) ((hf.keep hsl).trans hs) (lL hsl hf.nx)) ?_;rintro _ H2 ⟨rfl,f2⟩;have hst:(g.gs.take (i+1)).any (fun x=>fM x.r.rule 3 s)=fM g.gs[i].r.rule 3 s:=by
    rw[ku hlt,lAA,hn];simp
   cases hh:fM g.gs[i].r.rule 3 s with
   |true=>exact hr' i _ (ag.2 ⟨_,hm,hh⟩) (hf.trans f2)
   |false=>unfold zu3;simp(disch:=go_size)only[go_sem,rB,rI,rK,rL,rN,rS,r6];exact q79 hC hN hj hg hgl hr hs hsl hr' hq k (i+1) _ (by omega) (by omega) (hf.trans f2) (by rw[hst,hh])
  ·simp only[go_sem,hlt];have he:i=g.gs.length:=by omega
   simp_all
theorem znk(hC:aW C)(hN:mG C)(hk:17<=k)(hg:xZ H g)(hgl:g.gs.length<=16)(hr:∀ x∈g.gs,x.r.rule.Rt)(s:SS):Ok (C k (.f 139) [.agg [.str g.name.n g.name.a,g.rv],.str s.n s.a] H) fun r H'=>r=.bool (g.gs.any fun x=>fM x.r.rule 3 s)/\Fm No H H':=by
 obtain⟨j,rfl⟩:∃ j,k=j+1+1+1:=⟨k-3,by omega⟩;rw[(hC (j+1+1)).zDa];unfold zDa zyv;simp(disch:=first|go_size|omega)only[go_sem,rB,rI,rK,rL,rN,rS,r6];have f:Fm No H (aO (aO H (aB 0 [.str g.name.n g.name.a,g.rv])) (aB 0 [.str s.n s.a])):=by exact pU
 rw[(hC (j+1)).zDh];unfold zDh zyp;simp only[go_sem];rw[(hC j).zDp];unfold zDp zyj;have hln:=hg.len;simp only[go_sem,hln];unfold zu4;rw[dB];refine Ok.ve (R:=fun r H'=>r=.bool (g.gs.any fun x=>fM x.r.rule 3 s)/\Fm No H H') (Ok.ve (R:=fun r H'=>Fm No H H'/\((g.gs.any (fun x=>fM x.r.rule 3 s)=true/\∃ i,r=iN i)\/(g.gs.any (fun x=>fM x.r.rule 3 s)=false/\r=.int .i64 (.negSucc 0)))) (q79 hC hN (j:=j) (by omega) (hg.fm f) hgl hr (s:=s) (sb:=H.nx+1) (by simp(disch:=go_size)only[go_sem,seval]) (by go_size) (fun i H2 h f2=>Ok.ret ⟨f.trans f2,.inl ⟨h,i,rfl⟩⟩) (fun H2 h f2=>?_) bX 0 _ (gq _) (by rw[dI];omega) (Fm.refl _ _) rfl) ?_) ?_
 ·unfold zeh;exact Ok.ret ⟨f.trans f2,.inr ⟨h,rfl⟩⟩
 ·rintro r H2 ⟨f2,⟨h,i,rfl⟩|⟨h,rfl⟩⟩
  ·simp only[go_sem,gq];exact Ok.ret ⟨by rw[h],f2⟩
  ·simp only[go_sem];exact Ok.ret ⟨by rw[h],f2⟩
 ·rintro _ H2 ⟨rfl,f2⟩;exact Ok.ret ⟨rfl,f2⟩
structure RlI(H:Hp)(X:List aN)(g:aN)(x:aR)(sv:AV)(ib n A0 A1 AR A2:Nat)(q:Nat×Nat):Prop where
 sch:bS H sv X
 id:xN H ib sv X
 mem:g∈X/\x∈g.gs
 a0:H.get A0=aB 0 [.ptr ib 0]
 a1:H.get A1=aB 0 [.str g.name.n g.name.a,g.rv]
 ar:H.get AR=aB 0 [.ptr q.1 q.2]
 a2:H.get A2=aB 0 [iN n]
 lt:A0<H.nx/\A1<H.nx/\AR<H.nx/\A2<H.nx
 pt:PtR H q x
 nu:bW X g.name x.r.name=n
theorem RlI.fm{x:aR}{ib n A0 A1 AR A2:Nat}{q:Nat×Nat}(h:RlI H X g x sv ib n A0 A1 AR A2 q)(f:Fm No H H'):RlI H' X g x sv ib n A0 A1 AR A2 q:=by obtain⟨l0,l1,l2,l3⟩:=h.lt;have:=f.nx;exact⟨h.sch.fm f,h.id.fm f,h.mem,(f.keep l0).trans h.a0,(f.keep l1).trans h.a1,(f.keep l2).trans h.ar,(f.keep l3).trans h.a2,⟨by omega,by omega,by omega,by omega⟩,h.pt.fm f,h.nu⟩
theorem z05(hC:aW C)(hk:1<=k){x:aR}{ib n A0 A1 AR A2:Nat}{q:Nat×Nat}(h:RlI H X g x sv ib n A0 A1 AR A2 q):C k (.f 133) [.ptr A0 0,.ptr A1 0,.ptr AR 0,.ptr A2 0] H=.ok (iN 0) H:=by obtain⟨j,rfl⟩:=aS hk;rw[(hC j).zCj];unfold zCj zy9;have a0:=h.a0;have a1:=h.a1;have ar:=h.ar;have a2:=h.a2;have r0:=h.pt.nm;obtain⟨mb,nb,av,iv,qs,g1,g2,g3,_⟩:=h.id.ex;have em:=g3.aMo (iN 0) g.name x.r.name (qjz.2 ⟨g,h.mem.1,x,h.mem.2,rfl,rfl⟩);have hnx:(List.findIdx (fun q=>decide (q=(g.name,x.r.name))) (aJ X))=n:=h.nu;rw[hnx]at em;simp(disch:=go_size)only[go_sem,rB,rI,rK,rL,rN,rS,r6,a0,a1,ar,a2,r0,g1,em];rfl
theorem z04(hC:aW C)(hk:4<=k){x:aR}{ib n A0 A1 AR A2:Nat}{q:Nat×Nat}(h:RlI H X g x sv ib n A0 A1 AR A2 q)(hV:dO X):Ok (C k (.f 134) [.ptr A0 0,.ptr AR 0] H) fun r H'=>r=iN 0/\Fm No H H':=by obtain⟨j,rfl⟩:=aS hk;rw[(hC j).zCk];unfold zCk zy8;have a0:=h.a0;have ar:=h.ar;simp only[go_sem,a0,ar];have ht:=hV.ty _ h.mem.1 _ h.mem.2;refine Ok.ve (zni hC (k:=j) (by omega) h.id hV h.pt ((h.sch.sp _ h.mem.1).rel _ h.mem.2) (hV.pr.x _ h.mem.1 _ h.mem.2).1 ht.1 ht.2) ?_;rintro _ H2 ⟨rfl,f2⟩;exact Ok.ret ⟨rfl,f2⟩
theorem z03(hC:aW C)(hk:4<=k){x:aR}{sv nv:AV}{ib n A0 A1 AR A2 A20 A22:Nat}{q:Nat×Nat}(h:RlI H X g x sv ib n A0 A1 AR A2 q)(hV:dO X){l:List (Nd×AV)}(hl:Rs 5 kW H nv l)(hln:l.map Prod.fst=x.r.rule.nodes false)(h20:H.get A20=aB 0 [nv]){u:Bool}(h22:H.get A22=aB 0 [.bool u])(hlt:A22<H.nx):Ok (C k (.f 136) [.ptr A0 0,.ptr A1 0,.ptr A20 0,.ptr A22 0] H) fun r H'=>r=iN 0/\∃ H1,Fm No H H1/\H'=H1.put A22 (aB 0 [.bool ((x.r.rule.nodes false).any fun y=>decide (y.k=1))]):=by
 obtain⟨j,rfl⟩:=aS hk;rw[(hC j).zCl];unfold zCl zy7;have a0:=h.a0;have a1:=h.a1;simp only[go_sem,a0,a1,h20];have hll:l.length<=32:=by have:=congrArg List.length hln;simp only[qc,qce]at this;have:=(hV.pr.x _ h.mem.1 _ h.mem.2).2.2.1.sz;omega
 refine Ok.ve (zun hC (k:=j) (by omega) h.sch h.id hV g.name hl (by omega) fun y hy=>?_) ?_
 ·exact hV.nd _ h.mem.1 _ h.mem.2 y.1 (by rw[<-hln];exact eQ hy)
 rintro _ H2 ⟨rfl,f2⟩;have bCt:=(f2.keep hlt).trans h22;simp only[go_sem,bCt];refine Ok.ret ⟨rfl,H2,f2,?_⟩;rw[<-hln,lAZ];rfl
theorem z02(hC:aW C)(hN:mG C)(hk:18<=k){x:aR}{ib n A0 A1 AR A2 A22:Nat}{q:Nat×Nat}(h:RlI H X g x sv ib n A0 A1 AR A2 q)(hV:dO X)(h22:H.get A22=aB 0 [.bool ((x.r.rule.nodes false).any fun y=>decide (y.k=1))]):Ok (C k (.f 138) [.ptr A22 0,.ptr AR 0,.ptr A1 0] H) fun r H'=>r=iN 0/\Fm No H H':=by
 obtain⟨j,rfl⟩:=aS hk;rw[(hC j).zCm];unfold zCm zy6;have a1:=h.a1;have ar:=h.ar;have r0:=h.pt.nm;have rt:=h.pt.tv;have hsp:=h.sch.sp _ h.mem.1;have hl:=((hsp.rel _ h.mem.2).ty).len;have hu:=hV.us _ h.mem.1 _ h.mem.2;cases hb:(x.r.rule.nodes false).any fun y=>decide (y.k=1)with
 |true=>rw[hb]at h22;have hne:¬ x.r.types.length=0:=fun h0=>hu.1 hb (ry.1 h0);simp only[go_sem,h22,ar,rt,hl,hne];exact Ok.ret ⟨rfl,Fm.refl _ _⟩
 |false=>
  rw[hb]at h22;by_cases h0:0<x.r.types.length
  ·have hba:=hu.2 hb (fun h=>by rw[h]at h0;exact absurd h0 (by simp));simp(disch:=go_size)only[go_sem,rB,rI,rK,rL,rN,rS,r6,h22,ar,rt,hl,h0,a1,r0];refine Ok.mI (znk hC hN (k:=j) (by omega) hsp (hV.pr.r _ h.mem.1).1 (fun y hy=>(hV.pr.x _ h.mem.1 y hy).2.2.1) x.r.name) ?_;rintro _ H2 ⟨rfl,f2⟩;rw[hba];simp only[go_sem];exact Ok.ret ⟨rfl,f2⟩
  ·simp only[go_sem,h22,ar,rt,hl,h0];exact Ok.ret ⟨rfl,Fm.refl _ _⟩
theorem sf2(O:Ev.Call)(qr:pD)(q:pH)(a b:AV)(n:Nat):q6p O qr q a b (n+1)=qnq O qr q a b (q6p O qr q a b n):=rfl
theorem zm0(f:FuncId)(x y:List AV):yS (.fn f x y)=some [.fn f x y]:=id rfl
attribute [go_sem] zm0
theorem z7x(hC:aW C)(hk:1<=k){f1 f2 f3 f4:FuncId}{c1 c2 c3 c4:List AV}(hb:H.get b=aB 0 [.fn f1 [] c1,.fn f2 [] c2,.fn f3 [] c3,.fn f4 [] c4]){R1' R2' R3' R4':Hp->Prop}(h1:Ok (C (k-1) (.f f1) c1 H) fun r H'=>r=iN 0/\R1' H')(g1:∀ H',R1' H'->H'.get b=H.get b)(h2:∀ H1,R1' H1->Ok (C (k-1) (.f f2) c2 H1) fun r H'=>r=iN 0/\R2' H')(g2:∀ H',R2' H'->H'.get b=H.get b)(h3:∀ H1,R2' H1->Ok (C (k-1) (.f f3) c3 H1) fun r H'=>r=iN 0/\R3' H')(g3:∀ H',R3' H'->H'.get b=H.get b)(h4:∀ H1,R3' H1->Ok (C (k-1) (.f f4) c4 H1) fun r H'=>r=iN 0/\R4' H'):Ok (C k (.f 132) [.sl b 0 4 4 true] H) fun r H'=>r=iN 0/\R4' H':=by obtain⟨j,rfl⟩:=aS hk;rw[(hC j).zCn];unfold zCn zy5;simp only[go_sem];unfold zvq;obtain⟨m,hm⟩:∃ m,bX=m+5:=⟨999995,by rw[dI]⟩;rw[dB,hm,sf2];unfold qnq;unfold qnp;simp(disch:=omega)only[go_sem,hb];refine Ok.ve h1 ?_;rintro _ H1 ⟨rfl,r1⟩;unfold qxn;rw[sf2];unfold qnq;unfold qnp;have hb1:=(g1 _ r1).trans hb;simp(disch:=omega)only[go_sem,hb1];refine Ok.ve (h2 _ r1) ?_;rintro _ H2 ⟨rfl,r2⟩;unfold qxn;rw[sf2];unfold qnq;unfold qnp;have hb2:=(g2 _ r2).trans hb;simp(disch:=omega)only[go_sem,hb2];refine Ok.ve (h3 _ r2) ?_;rintro _ H3 ⟨rfl,r3⟩;unfold qxn;rw[sf2];unfold qnq;unfold qnp;have hb3:=(g3 _ r3).trans hb;simp(disch:=omega)only[go_sem,hb3];refine Ok.ve (h4 _ r3) ?_;rintro _ H4 ⟨rfl,r4⟩;unfold qxn;rw[sf2];unfold qnq;exact Ok.ret ⟨rfl,r4⟩
theorem q0l(hC:aW C)(hN:mG C)(hk:20<=k){x:aR}{ib n:Nat}(hX:bS H sv X)(hI:xN H ib sv X)(hV:dO X)(hn:(fD X)[n]? =some (g.name,x))(hm:g∈X/\x∈g.gs):Ok (C k (.f 109) [.ptr ib 0,.agg [.str g.name.n g.name.a,g.rv],iN n] H) fun r H'=>r=iN 0/\Fm No H H':=by
 obtain⟨j,rfl⟩:=aS hk;rw[(hC j).zBv];unfold zBv zzj;obtain⟨mb,nb,av,iv,qs,g1,g2,g3,g4,g5,g6,g7,g8,g9,_⟩:=hI.ex;have hnl:n<(fD X).length:=by
  rcases yf n (fD X).length with h|h
  ·exact h
  ·simp_all
 have hxx:(fD X)[n]=(g.name,x):=by simp_all
 have hq:=g9 n (by omega) hnl;rw[hxx]at hq;obtain⟨b1,o1,e1,e2,_,_,e4⟩:=g4.at' n (by omega);have r0:dK (H.get b1) o1=.val (.ptr (qs[n]'(by omega)).1 (qs[n]'(by omega)).2):=e4 0 (by rw[q42];omega);have il:=hI.lt;simp(disch:=first|go_size|omega)only[go_sem,rB,rI,rK,rL,rN,rS,r6,g1,e1,r0];have hP:=hV.pr.x _ hm.1 _ hm.2;generalize hHa:(((Hp.mk (aO (aO (aO H (aB 0 [.ptr ib 0])) (aB 0 [.str g.name.n g.name.a,g.rv])) (aB 0 [iN n])).t (H.nx+1+1+1+9)).put (H.nx+1+1+1+7) (aB 0 [.cK])).put (H.nx+1+1+1+7) (aB 0 [.ptr (qs[n]'(by omega)).1 (qs[n]'(by omega)).2]))=Ha;have fa:Fm No H Ha:=by rw[<-hHa];exact(((((Fm.refl No H).push _).push _).push _).lF (n:=H.nx+1+1+1+9) (by omega)).aF _ _ (by omega) |>.aF _ _ (by omega)
 have na:Ha.nx=H.nx+12:=by rw[<-hHa];rfl
 have hR:RlI Ha X g x sv ib n H.nx (H.nx+1) (H.nx+1+1+1+7) (H.nx+1+1) (qs[n]'(by omega)):=by
  refine⟨hX.fm fa,hI.fm fa,hm,?_,?_,?_,?_,⟨by omega,by omega,by omega,by omega⟩,hq.fm fa,?_⟩
  ·rw[<-hHa];simp(disch:=first|omega|exact ti rfl|simp only[np,nq];first|done|omega)only[go_sem]
  ·rw[<-hHa];simp(disch:=first|omega|exact ti rfl|simp only[np,nq];first|done|omega)only[go_sem]
  ·rw[<-hHa];exact dS _ _ _
  ·rw[<-hHa];simp(disch:=first|omega|exact ti rfl|simp only[np,nq];first|done|omega)only[go_sem]
  ·obtain⟨y,_,hy⟩:=qfb hV.al hV.sp (qjz.2 ⟨g,hm.1,x,hm.2,rfl,rfl⟩);have hnd:=qpg hV.al (i:=n) (by rw[<-yA,qc];exact hnl);have hk:(aJ X)[n]'(by rw[<-yA,qc];exact hnl)=(g.name,x.r.name):=by
    have e3:(aJ X)[n]? =some (kq (fD X)[n]):=by rw[<-yA,xw,lh hnl];rfl
    rw[lh (by rw[<-yA,qc];exact hnl),hxx]at e3;exact Option.some.inj e3
   rw[hk]at hnd;exact hnd
 have ru:=(hq.fm fa).ru;obtain⟨c0,c1,c2,c3,hcs,_⟩:=qfm ((hX.sp _ hm.1).rel _ hm.2);have mE:=(((hX.sp _ hm.1).rel _ hm.2).ru).fm fa;simp only[go_sem,ru];refine Ok.ve (qp5 hC hN (k:=j) (by omega) mE hP.2.2.1) ?_;rintro _ H2 ⟨nv,l,rfl,ha,hl⟩;have n2:=ha.fm.nx;obtain⟨Hf,hHf⟩:∃ Hf,Hf=aO ((aO ((aO H2 (aB 0 [.aA])).put H2.nx (aB 0 [nv])) (aB 0 [.bool false])).put (H2.nx+1) (aB 0 [.bool false])) (aB 0 [.fn 133 [] [.ptr H.nx 0,.ptr (H.nx+1) 0,.ptr (H.nx+1+1+1+7) 0,.ptr (H.nx+1+1) 0],.fn 134 [] [.ptr H.nx 0,.ptr (H.nx+1+1+1+7) 0],.fn 136 [] [.ptr H.nx 0,.ptr (H.nx+1) 0,.ptr H2.nx 0,.ptr (H2.nx+1) 0],.fn 138 [] [.ptr (H2.nx+1) 0,.ptr (H.nx+1+1+1+7) 0,.ptr (H.nx+1) 0]]):=⟨_,rfl⟩;have ff:Fm No H2 Hf:=by rw[hHf];repeat first|exact Fm.refl _ _|assumption|refine Fm.push ?_ _|refine Fm.aF ?_ _ _ (by omega)
 have nf:Hf.nx=H2.nx+3:=by rw[hHf];rfl
 have k20:Hf.get H2.nx=aB 0 [nv]:=by rw[hHf];simp(disch:=first|go_size|omega)only[go_sem]
 have k22:Hf.get (H2.nx+1)=aB 0 [.bool false]:=by rw[hHf];simp(disch:=first|go_size|omega)only[go_sem]
 have kfb:Hf.get (H2.nx+1+1)=aB 0 [.fn 133 [] [.ptr H.nx 0,.ptr (H.nx+1) 0,.ptr (H.nx+1+1+1+7) 0,.ptr (H.nx+1+1) 0],.fn 134 [] [.ptr H.nx 0,.ptr (H.nx+1+1+1+7) 0],.fn 136 [] [.ptr H.nx 0,.ptr (H.nx+1) 0,.ptr H2.nx 0,.ptr (H2.nx+1) 0],.fn 138 [] [.ptr (H2.nx+1) 0,.ptr (H.nx+1+1+1+7) 0,.ptr (H.nx+1) 0]]:=by rw[hHf];simp(disch:=go_size)only[go_sem]
 have faf:Fm No Ha Hf:=ha.fm.trans ff;have hRf:=hR.fm faf;have hlf:Rs 5 kW Hf nv l:=(ha.rs qig).fm ff;have main:Ok (C j (.f 132) [.sl (H2.nx+1+1) 0 4 4 true] Hf) fun r H'=>r=iN 0/\∃ Hm,Fm No Hf Hm/\Fm No (Hm.put (H2.nx+1) (aB 0 [.bool ((x.r.rule.nodes false).any fun y=>decide (y.k=1))])) H':=by
  refine z7x hC (k:=j) (by omega) kfb (R1':=fun H'=>H'=Hf) (R2':=fun H'=>Fm No Hf H') (R3':=fun H'=>∃ Hm,Fm No Hf Hm/\H'=Hm.put (H2.nx+1) (aB 0 [.bool ((x.r.rule.nodes false).any fun y=>decide (y.k=1))])) ?_ ?_ ?_ ?_ ?_ ?_ ?_
  ·rw[z05 hC (by omega) hRf];exact Ok.ret ⟨rfl,rfl⟩
  ·simp
  ·rintro _ rfl;exact z04 hC (by omega) hRf hV
  ·intro H' f;exact f.keep (by omega)
  ·intro H1 f1;exact z03 hC (by omega) (hRf.fm f1) hV (hlf.fm f1) hl ((f1.keep (by omega)).trans k20) ((f1.keep (by omega)).trans k22) (by have:=f1.nx;omega) |>.mono fun r H' ⟨e,Hm,f,h⟩=>⟨e,Hm,f1.trans f,h⟩
  ·rintro _ ⟨Hm,fm,rfl⟩;rw[dG _ _ _ _ (by omega)];exact fm.keep (by omega)
  ·rintro _ ⟨Hm,fm,rfl⟩;have hRm:RlI (Hm.put (H2.nx+1) (aB 0 [.bool ((x.r.rule.nodes false).any fun y=>decide (y.k=1))])) X g x sv ib n H.nx (H.nx+1) (H.nx+1+1+1+7) (H.nx+1+1) (qs[n]'(by omega)):=hR.fm ((faf.trans fm).aF _ _ (by omega));exact(z02 hC hN (by omega) hRm hV (dS _ _ _)).mono fun r H' ⟨e,f⟩=>⟨e,Hm,fm,f⟩
 have done:∀ r H',r=AV.int .i64 (.ofNat 0)/\(∃Hm,Fm No Hf Hm/\Fm No (Hm.put (H2.nx+1) (aB 0 [.bool ((x.r.rule.nodes false).any fun y=>decide (y.k=1))])) H')->Ok (.ok r H') fun r H'=>r=iN 0/\Fm No H H':=fun r H' ⟨e,Hm,f,f'⟩=>
  Ok.ret ⟨e,(((fa.trans faf).trans f).aF (H2.nx+1) _ (by omega)).trans f'⟩
 rcases ha.gl.is with⟨h,_⟩|⟨_,_,_,_,_,h,_⟩
 ·subst h;simp(disch:=first|omega|exact ti rfl)only[go_sem,rB,rI,rK,rL,rN,rS,r6];simp(disch:=first|go_size|omega)only[go_sem,rB,rI,rK,rL,rN,rS,r6];rw[<-hHf];exact Ok.ve main done
 ·subst h;simp(disch:=first|omega|exact ti rfl)only[go_sem,rB,rI,rK,rL,rN,rS,r6];simp(disch:=first|go_size|omega)only[go_sem,rB,rI,rK,rL,rN,rS,r6];rw[<-hHf];exact Ok.ve main done
theorem zsg{s i:Nat}(hs:s<X.length)(hi:i<X[s].gs.length):(fD X)[(dA X s).length+i]? =some (X[s].name,X[s].gs[i]):=by obtain⟨Z,h⟩:=zj6 hs hi;rw[h,uC (by simp;omega)];simp[yg (yw hi)]
theorem qs8(hC:aW C)(hN:mG C){j:Nat}(hj:20<=j){sv:AV}{X:List aN}{ib pb:Nat}{Hb:Hp}(hX:bS Hb sv X)(hI:xN Hb ib sv X)(hV:dO X){s:Nat}(hs:s<X.length)(hp:Hb.get pb=aB 0 [.str X[s].name.n X[s].name.a,X[s].rv])(hpl:pb<Hb.nx){Q:pL}{q:pD}{qr:pD}(hq:∀ H,Fm No Hb H->Ok (q (iN (((dA X s).length+X[s].gs.length))) H) Q):∀(k i:Nat) (H:Hp),i<=X[s].gs.length->X[s].gs.length-i<k->Fm No Hb H->Ok (quj (C j) qr q (.ptr ib 0) (.ptr pb 0) (iN (X[s].gs.length)) k (iN (((dA X s).length+i))) (iN i) H) Q
 |0,i,_,_,h,_=>by omega
 |k+1,i,H,hi,hk,hf=>by
  show Ok (q3d (C j) _ _ _ _ _ (quj (C j) _ _ _ _ _ k) _ _ H) Q;unfold q3d;have jP:=hV.pr.len;have aLq:=q8j X s;by_cases hlt:i<X[s].gs.length
  ·have h16:=(hV.pr.r _ (lu hs)).1;simp only[go_sem,hlt];unfold zgr;have hp1:=(hf.keep hpl).trans hp;simp only[go_sem,hp1];refine Ok.ve (q0l hC hN hj (hX.fm hf) (hI.fm hf) hV (zsg hs hlt) ⟨lu hs,lu hlt⟩) ?_;rintro _ H2 ⟨rfl,f2⟩;unfold zgs;unfold zgt;simp(disch:=go_size)only[go_sem,rB,rI,rK,rL,rN,rS,r6];exact qs8 hC hN hj hX hI hV hs hp hpl hq k (i+1) H2 (by omega) (by omega) (hf.trans f2)
  ·simp only[go_sem,hlt];have he:i=X[s].gs.length:=by omega
   simp_all
theorem qz2(hC:aW C)(hN:mG C){j:Nat}(hj:20<=j){sv:AV}{X:List aN}{ib:Nat}{Hb:Hp}(hX:bS Hb sv X)(hI:xN Hb ib sv X)(hV:dO X){Q:pL}{q:pH}{qr:pD}(hq:∀ H,Fm No Hb H->Ok (q H) Q):∀(k s:Nat) (H:Hp),s<=X.length->X.length-s<k->Fm No Hb H->Ok (qxq (C j) qr q (.ptr ib 0) sv (iN (X.length)) k (iN ((dA X s).length)) (iN s) H) Q
 |0,i,_,_,h,_=>by omega
 |k+1,s,H,hi,hk,hf=>by
  show Ok (zgu (C j) _ _ _ _ _ (qxq (C j) _ _ _ _ _ k) _ _ H) Q;unfold zgu;have hn:=hV.pr.n;by_cases hlt:s<X.length
  ·simp only[go_sem,hlt];unfold zgq;have h1:=hX.fm hf;obtain⟨b1,o1,e1,e2,_,e3,_⟩:=h1.rs.at' s hlt;unfold pX SS.v at e3;have hsp:=h1.sp _ (lu hlt);have hl:=hsp.len;have h16:=(hV.pr.r _ (lu hlt)).1;simp(disch:=first|omega|exact ti rfl)only[go_sem,seval,e1,e3,hl];have fp:Fm No H ((aO H (aB 0 [.str 0 0,.aA])).put H.nx (aB 0 [.str X[s].name.n X[s].name.a,X[s].rv])):=by exact oJ
   unfold zgv;rw[dB];refine qs8 hC hN hj (h1.fm fp) ((hI.fm hf).fm fp) hV hlt (pb:=H.nx) (dS _ _ _) (by go_size) (fun H3 f3=>?_) bX 0 _ (gq _) (by rw[dI];omega) (Fm.refl _ _);unfold q3c;simp(disch:=go_size)only[go_sem,rB,rI,rK,rL,rN,rS,r6];have hx:(dA X s).length+X[s].gs.length=(dA X (s+1)).length:=by unfold dA fD;rw[ku hlt,uA,uB,lq,qc]
   rw[hx];exact qz2 hC hN hj hX hI hV hq k (s+1) H3 (by omega) (by omega) ((hf.trans fp).trans f3)
  ·simp only[go_sem,hlt];exact hq H hf
theorem q0k(hC:aW C)(hN:mG C)(hk:21<=k)(hX:bS H sv X)(hV:dO X):Ok (C k (.f 84) [.agg [sv]] H) fun r H'=>r=iN 0/\Fm No H H':=by
 obtain⟨j,rfl⟩:=aS hk;rw[(hC j).zBj];unfold zBj zzt;simp(disch:=omega)only[go_sem,seval];have f:Fm No H (aO H (aB 0 [sv])):=by exact jY
 refine Ok.ve (znj hC hN (k:=j) (by omega) (hX.fm f) hV.pr) ?_;rintro _ H1 ⟨rfl,f1⟩;unfold zgo;have n1:=f1.nx;simp only[np]at n1;have k1:H1.get H.nx=aB 0 [sv]:=(f1.keep (by simp only[np,nq];omega)).trans (lC _ _);simp only[go_sem,seval,k1];have hX1:=(hX.fm f).fm f1;refine Ok.ve (zxc hC (k:=j) (by omega) hX1 hV.pr hV.al hV.sp) ?_;rintro _ H2 ⟨ib,rfl,hI,f2⟩;have k2:=(f2.keep (by omega)).trans k1;have hX2:=hX1.fm f2;obtain⟨mb,nb,av,iv,qs,g1,g2,_⟩:=hI.ex;have hlm:=g2.len;have hls:=hX2.rs.len;have hn:=hV.pr.n;simp only[go_sem,g1,hlm,k2,hls,xn];unfold zgp;simp only[go_sem,k2,hls];unfold zvz;rw[dB];have h0:(0:Nat)=(dA X 0).length:=by unfold dA fD;simp
 have main:=qz2 hC hN (j:=j) (by omega) hX2 hI hV (Q:=fun r H'=>r=iN 0/\Fm No H H') (q:=fun H=>q6x (C j) H) (qr:=fun x2 H=>.ok x2 H) (fun H3 f3=>by exact Ok.ret ⟨rfl,((f.trans f1).trans f2).trans f3⟩) bX 0 H2 (gq _) (by rw[dI];omega) (Fm.refl _ _);trivial
theorem q57(hC:aW C)(hN:mG C)(hk:22<=k)(hX:bS H sv X)(hV:dO X)(a b to:SS)(hab:(a,b)∈aJ X)(hne:sG X a b to≠[]):Ok (C k (.f 87) [.agg [sv],.str a.n a.a,.str b.n b.a,.str to.n to.a] H) fun r H'=>∃ tv,r=.aX [tv,iN 0]/\Ac 1 sC H H' tv (sG X a b to):=by
 obtain⟨j,rfl⟩:=aS hk;rw[(hC j).zBm];unfold zBm zzq;simp(disch:=omega)only[go_sem,seval];have f:Fm No H (aO H (aB 0 [sv])):=by exact jY
 refine Ok.ve (q0k hC hN (k:=j) (by omega) (hX.fm f) hV) ?_;rintro _ H1 ⟨rfl,f1⟩;unfold zgn;have n1:=f1.nx;have k1:H1.get H.nx=aB 0 [sv]:=(f1.keep (by simp only[np,nq];omega)).trans (lC _ _);simp only[go_sem,k1];have hX1:=(hX.fm f).fm f1;refine Ok.ve (zxc hC (k:=j) (by omega) hX1 hV.pr hV.al hV.sp) ?_;rintro _ H2 ⟨ib,rfl,hI,f2⟩;obtain⟨q,x,_,ec,_⟩:=qhi hC (k:=j) (by omega) hI hV.al hV.sp hab;simp only[go_sem,ec];refine Ok.ve (qp4 hC (k:=j) (by omega) (hX1.fm f2) hV.pr.sml hI hV.al hV.sp a b to hab) ?_;intro tv H3 ha;have hl:=ha.cO;have h0:¬(sG X a b to).length=0:=fun h=>hne (ry.1 h);simp only[go_sem,hl,h0];exact Ok.ret ⟨tv,rfl,ha.trans ((f.trans f1).trans f2)⟩
theorem zld(p q:SS×SS):dQ (fun xs ys=>zJ p1 ⟨bH⟩ 1 xs ys 2 0) (kyP p) (kyP q)=some (decide (p=q)):=qw2 p q
theorem jE.aFe{ps:List (SS×SS)}(h:jE H b ps)(z:AV)(x y:SS)(hp:(x,y)∈ps):qL ⟨dQ fun xs ys=>zJ p1 ⟨bH⟩ 1 xs ys 2 0,some 2⟩ z false H (.map b) (.agg [.str x.n x.a,.str y.n y.a])=.val (iN ((ps.findIdx fun q=>decide (q=(x,y))))):=by have:=h.look (s:=some 2) zld (fun _=>rfl) z false (x,y);rw[pz hp]at this;exact this
theorem jE.bAp{ps:List (SS×SS)}(h:jE H b ps)(x y:SS)(hp:(x,y)∉ps):∃k,nI ⟨dQ fun xs ys=>zJ p1 ⟨bH⟩ 1 xs ys 2 0,some 2⟩ H (.map b) (.agg [.str x.n x.a,.str y.n y.a]) (iN (ps.length))=.ok .undef (H.put b k)/\jE (H.put b k) b (ps++[(x,y)]):=
 h.upd (s:=some 2) zld (fun _=>rfl) hp
structure qZ(Hb:Hp)(jC:AV)(H:Hp)(gb N:Nat)(ev:AV)(es:List Edge):Prop where
 blk:H.get gb=aB 0 [iN N,ev]
 lt:gb<Hb.nx
 gl:Gl 3 H ev es.length (es.flatMap Edge.cells)
 fm:Fm (fun c=>c=gb\/In jC c) Hb H
 nw:∀ c,In ev c->In jC c\/Hb.nx<=c
 nin:∀ c,In ev c->gb<c
theorem qZ.no{jC ev:AV}{gb N:Nat}{es:List Edge}(h:qZ Hb jC H gb N ev es)(f:Fm No H H'):qZ Hb jC H' gb N ev es:=
 ⟨(f.keep (lL h.lt h.fm.nx)).trans h.blk,h.lt,h.gl.no f,h.fm.then f fun _ _ h=>absurd h id,h.nw,h.nin⟩
theorem qZ.base{jC ev:AV}{gb N:Nat}{es:List Edge}(h:qZ Hb jC H gb N ev es)(f:Fm No H H'):qZ H' ev H' gb N ev es:=
 ⟨(f.keep (lL h.lt h.fm.nx)).trans h.blk,lL h.lt (tq h.fm.nx f.nx),h.gl.no f,Fm.refl _ _,fun _ h=>.inl h,h.nin⟩
theorem qZ.comp{Hb H H1 H2:Hp}{jC ev ev2:AV}{gb N:Nat}{es es2:List Edge}(h:qZ Hb jC H gb N ev es)(f:Fm No H H1)(h2:qZ H1 ev H2 gb N ev2 es2):qZ Hb jC H2 gb N ev2 es2:=
 ⟨h2.blk,h.lt,h2.gl,(h.fm.then f fun _ _ h=>absurd h id).then h2.fm fun c hc hs=>by
  rcases hs with hs|hs
  ·omega
  ·rcases h.nw c hs with h|h
   ·exact .inr h
   ·omega,fun c hc=>by
  have n1:=h.fm.nx;have n2:=f.nx;rcases h2.nw c hc with h'|h'
  ·exact h.nw c h'
  ·exact .inr (by omega),h2.nin⟩
structure ToR(X:List aN)(g:aN)(x:aR)(y:Nd×AV)(nb mb pb rb yb:Nat)(H:Hp):Prop where
 n:H.get nb=aB 0 [.map mb]
 m:jE H mb (aJ X)
 p:H.get pb=aB 0 [.str g.name.n g.name.a,g.rv]
 r:∃ c1 c2 c3 c4 c5,H.get rb=aB 0 [.str x.r.name.n x.r.name.a,c1,c2,c3,c4,c5]
 y:H.get yb=aB 0 (kW y)
theorem z0k(hC:aW C)(hk:1<=k){jC ev:AV}{gb N:Nat}{es:List Edge}(hG:qZ Hb jC H gb N ev es)(hes:es.length<=1000000){x:aR}{y:Nd×AV}{nb mb pb rb yb:Nat}(hR:ToR X g x y nb mb pb rb yb H)(hself:(g.name,x.r.name)∈aJ X){a b:SS}(hab:(a,b)∈aJ X)(jP:(aJ X).length<=256):Ok (C k (.f 86) [.str a.n a.a,.str b.n b.a,.ptr gb 0,.ptr nb 0,.ptr pb 0,.ptr rb 0,.ptr yb 0] H) fun _ H'=>∃ ev',qZ Hb jC H' gb N ev' (es++[⟨bW X g.name x.r.name,bW X a b,y.1.neg⟩]):=by
 obtain⟨j,rfl⟩:=aS hk;rw[(hC j).zBl];unfold zBl zzr;have e0:=hG.blk;have hn:=hR.n;have hp:=hR.p;obtain⟨c1,c2,c3,c4,c5,hr⟩:=hR.r;have hy:=hR.y;have m1:=hR.m.aFe (iN 0) g.name x.r.name hself;have m2:=hR.m.aFe (iN 0) a b hab;have i1:(List.findIdx (fun q=>decide (q=(g.name,x.r.name))) (aJ X))=bW X g.name x.r.name:=rfl;have i2:(List.findIdx (fun q=>decide (q=(a,b))) (aJ X))=bW X a b:=rfl;have m1':qL ⟨dQ fun xs ys=>zJ p1 ⟨bH⟩ 1 xs ys 2 0,some 2⟩ (iN 0) false ⟨H.t,H.nx+21⟩ (.map mb) (.agg [.str g.name.n g.name.a,.str x.r.name.n x.r.name.a])=.val (iN ((bW X g.name x.r.name))):=m1;have m2':qL ⟨dQ fun xs ys=>zJ p1 ⟨bH⟩ 1 xs ys 2 0,some 2⟩ (iN 0) false ⟨H.t,H.nx+21⟩ (.map mb) (.agg [.str a.n a.a,.str b.n b.a])=.val (iN ((bW X a b))):=m2;unfold kW SS.v at hy;simp(disch:=go_size)only[go_sem,rB,rI,rK,rL,rN,rS,r6,e0,hn,hp,hr,hy,m1',m2'];have hbl:=lL hG.lt hG.fm.nx;have fp:Fm No H ((Hp.mk H.t (H.nx+21)).put (H.nx+17) (aB 0 [iN ((bW X g.name x.r.name)),iN ((bW X a b)),.bool y.1.neg])):=by(repeat(first|exact Fm.refl _ _|assumption|refine Fm.push ?_ _|refine Fm.lF ?_ (by go_size)|refine Fm.aF ?_ _ _ (by go_size)))
 obtain⟨H2,e2,g2,_,f2,n2⟩:=(hG.gl.no fp).append (k:=1) (w:=24) (x:=Edge.cells ⟨bW X g.name x.r.name,bW X a b,y.1.neg⟩) (by omega) rfl (by omega) (by omega);simp only[nq]at e2 g2 n2;refine Ok.deE e2 ?_;have nig:¬ In ev gb:=fun h=>by have:=hG.nin gb h;omega
 have k2:H2.get gb=aB 0 [iN N,ev]:=(f2.get gb (show gb<H.nx+21 by omega) nig).trans ((fp.keep hbl).trans e0);simp only[go_sem,seval,k2];have hnb:=hG.fm.nx;refine Ok.ret ⟨.sl (H.nx+21) 0 (es.length+1) (es.length+1) false,dS _ _ _,hG.lt,?_,?_,?_,?_⟩
 ·rw[lq,uA,uB];refine g2.keep (lg _) fun c hc _=>?_;obtain⟨_,_,_,_,hc⟩:=hc;injection hc with hc;rw[dG _ _ _ _ (by omega)]
 ·refine((hG.fm.then fp fun _ _ h=>absurd h id).then f2 fun c hc h=>?_).put _ _ fun _=>.inl rfl;rcases hG.nw c h with h|h
  ·exact .inr h
  ·omega
 ·rintro c ⟨_,_,_,_,hc⟩;injection hc with hc;omega
 ·rintro c ⟨_,_,_,_,hc⟩;injection hc with hc;omega
def eE(X:List aN)(n:Nat)(neg:Bool)(p:SS×SS):Edge:=⟨n,bW X p.1 p.2,neg⟩
def toF(gb nb pb rb yb:Nat):AV:=.fn 86 [] [.ptr gb 0,.ptr nb 0,.ptr pb 0,.ptr rb 0,.ptr yb 0]
theorem q4e(l:List iQ):(y9 l).length<=l.length:=by unfold y9;rw[qc];exact yt _ _
theorem qwx(hC:aW C){j:Nat}(hj:1<=j){Hb:Hp}{jC tv:AV}{gb N nb mb pb rb yb:Nat}{X:List aN}{g:aN}{x:aR}{y:Nd×AV}(hR:∀ H,Fm (fun c=>c=gb\/In jC c) Hb H->ToR X g x y nb mb pb rb yb H)(hT:∀ H,Fm (fun c=>c=gb\/In jC c) Hb H->Rs 2 tC H tv x.r.types)(htl:x.r.types.length<=8)(hself:(g.name,x.r.name)∈aJ X)(jP:(aJ X).length<=256)(hin:∀ p∈y9 x.r.types,p∈aJ X){E:List Edge}(hE:E.length<=900000){Q:pL}{q:pH}(hq:∀ H ev,qZ Hb jC H gb N ev (E++(y9 x.r.types).map (eE X (bW X g.name x.r.name) y.1.neg))->Ok (q H) Q):∀(k i:Nat) (H:Hp) (ev:AV),i<=x.r.types.length->x.r.types.length-i<k->qZ Hb jC H gb N ev (E++(y9 (x.r.types.take i)).map (eE X (bW X g.name x.r.name) y.1.neg)) -> Ok (quy (C j) q (toF gb nb pb rb yb) tv (iN (x.r.types.length)) k (iN i) H) Q
 |0,i,_,_,_,h,_=>by omega
 |k+1,i,H,ev,hi,hk,hG=>by
  show Ok (q3v (C j) _ _ _ _ (quy (C j) _ _ _ _ k) _ H) Q;unfold q3v;by_cases hlt:i<x.r.types.length
  ·simp only[go_sem,hlt];unfold zhg;obtain⟨b1,o1,e1,e2,_,e3,_⟩:=(hT H hG.fm).at' i hlt;unfold tC SS.v at e3;have hs:=zrh hlt;have fp:Fm No H ((aO H (aB 0 [.str 0 0,.str 0 0])).put H.nx (aB 0 [.str x.r.types[i].sp.n x.r.types[i].sp.a,.str x.r.types[i].rl.n x.r.types[i].rl.a])):=by exact oJ
   have hll:=q4e (x.r.types.take i);rw[qo]at hll;by_cases hz:x.r.types[i].rl.n=0/\x.r.types[i].rl.a=0
   ·have hzt:=dh hz;rw[pz ((sJ _ _).2 hz),uh]at hs;simp(disch:=first|omega|exact ti rfl)only[go_sem,seval,e1,e3,hzt];unfold quz;simp(disch:=go_size)only[go_sem,rB,rI,rK,rL,rN,rS,r6];exact qwx hC hj hR hT htl hself jP hin hE hq k (i+1) _ ev (by omega) (by omega) (by rw[hs];exact hG.no fp)
   ·have hz':¬ x.r.types[i].rl=sE:=fun h=>hz ((sJ _ _).1 h);rw[kz hz']at hs;have hpm:(x.r.types[i].sp,x.r.types[i].rl)∈aJ X:=hin _ (by
     unfold y9;rw[qp];exact⟨x.r.types[i],by rw[uy];exact⟨lu hlt,by simpa using hz'⟩,rfl⟩)
    simp(disch:=first|omega|exact ti rfl)only[go_sem,seval,e1,e3,hz];refine Ok.ve (z0k hC hj (hG.no fp) (by rw[lq,qc];omega) (hR _ (hG.no fp).fm) hself hpm jP) ?_;rintro _ H3 ⟨ev3,hG3⟩;unfold quz;simp(disch:=go_size)only[go_sem,rB,rI,rK,rL,rN,rS,r6];refine qwx hC hj hR hT htl hself jP hin hE hq k (i+1) _ ev3 (by omega) (by omega) ?_;rw[hs,ui,<-qw];exact hG3
  ·simp only[go_sem,hlt];have he:i=x.r.types.length:=by omega
   rw[he,uj]at hG;exact hq H ev hG
theorem q82(hC:aW C){j:Nat}(hj:1<=j){Hb:Hp}{jC tv:AV}{gb N nb mb pb rb yb:Nat}{X:List aN}{g:aN}{x:aR}{y:Nd×AV}(hR:∀ H,Fm (fun c=>c=gb\/In jC c) Hb H->ToR X g x y nb mb pb rb yb H){ts:List SS}(hT:∀ H,Fm (fun c=>c=gb\/In jC c) Hb H->Rs 1 sC H tv ts)(htl:ts.length<=100)(hself:(g.name,x.r.name)∈aJ X)(jP:(aJ X).length<=256)(hin:∀ s∈ts,(s,y.1.to)∈aJ X){E:List Edge}(hE:E.length<=900000){Q:pL}{q:pH}(hq:∀ H ev,qZ Hb jC H gb N ev (E++(ts.map fun s=>(s,y.1.to)).map (eE X (bW X g.name x.r.name) y.1.neg))->Ok (q H) Q):∀(k i:Nat) (H:Hp) (ev:AV),i<=ts.length->ts.length-i<k->qZ Hb jC H gb N ev (E++((ts.take i).map fun s=>(s,y.1.to)).map (eE X (bW X g.name x.r.name) y.1.neg)) -> Ok (qux (C j) q (.ptr yb 0) (toF gb nb pb rb yb) tv (iN (ts.length)) k (iN i) H) Q
 |0,i,_,_,_,h,_=>by omega
 |k+1,i,H,ev,hi,hk,hG=>by
  show Ok (q3u (C j) _ _ _ _ _ (qux (C j) _ _ _ _ _ k) _ H) Q;unfold q3u;by_cases hlt:i<ts.length
  ·simp only[go_sem,hlt];unfold q69;obtain⟨b1,o1,e1,e2,e3⟩:=(hT H hG.fm).at1 (g:=SS.v) (fun _=>rfl) hlt;have r:=hR H hG.fm;have hy:=r.y;simp only[go_sem,e1,e3,hy];refine Ok.ve (z0k hC hj hG (by rw[lq,qc,qc,qo];omega) r hself (hin ts[i] (lu hlt)) jP) ?_;rintro _ H3 ⟨ev3,hG3⟩;unfold zhf;simp(disch:=go_size)only[go_sem,rB,rI,rK,rL,rN,rS,r6];refine q82 hC hj hR hT htl hself jP hin hE hq k (i+1) _ ev3 (by omega) (by omega) ?_;rw[ku hlt,ui,ui,<-qw];exact hG3
  ·simp only[go_sem,hlt];have he:i=ts.length:=by omega
   rw[he,uj]at hG;exact hq H ev hG
def zL(X:List aN)(g:aN)(x:aR)(y:Nd):List Edge:=(ndT X g.name x y).map (eE X (bW X g.name x.r.name) y.neg)
structure NdR(X:List aN)(g:aN)(x:aR)(sv nv:AV)(l:List (Nd×AV))(xb nb mb pb rb:Nat)(H:Hp):Prop where
 sch:bS H sv X
 x1:H.get xb=aB 0 [sv]
 n:H.get nb=aB 0 [.map mb]
 m:jE H mb (aJ X)
 p:H.get pb=aB 0 [.str g.name.n g.name.a,g.rv]
 r:∃ c2 c3 c4 c5,H.get rb=aB 0 [.str x.r.name.n x.r.name.a,x.tv,c2,c3,c4,c5]
 nd:Rs 5 kW H nv l
theorem z1t(hS:yD X){a:SS}{x:aR}(hx:x.r.types.length<=100)(y:Nd):(ndT X a x y).length<=100:=by
 unfold ndT;split
 ·have:=q4e x.r.types;omega
 split
 ·simp
 split
 ·rw[qc];exact qx7 hS _ _ _
 ·simp
theorem z1u(hS:yD X){x:aR}(hx:x.r.types.length<=100)(y:Nd):(zL X g x y).length<=100:=by unfold zL;rw[qc];exact z1t hS hx y
theorem q87(hC:aW C)(hN:mG C){j:Nat}(hj:22<=j){Hb:Hp}{jC sv nv:AV}{gb N xb nb mb pb rb:Nat}{X:List aN}(hV:dO X){g:aN}{x:aR}(hm:g∈X/\x∈g.gs){l:List (Nd×AV)}(hR:∀ H,Fm (fun c=>c=gb\/In jC c) Hb H->NdR X g x sv nv l xb nb mb pb rb H)(hlt':xb<Hb.nx/\nb<Hb.nx/\mb<Hb.nx/\pb<Hb.nx/\rb<Hb.nx)(hll:l.length<=32)(hln:l.map Prod.fst=x.r.rule.nodes false)(hin:∀ y∈l,∀p∈ndT X g.name x y.1,p∈aJ X){E:List Edge}(hE:E.length<=800000){Q:pL}{q:pH}(hq:∀ H ev,qZ Hb jC H gb N ev (E++l.flatMap fun y=>zL X g x y.1)->Ok (q H) Q):∀(k i:Nat) (H:Hp) (ev:AV),i<=l.length->l.length-i<k->qZ Hb jC H gb N ev (E++(l.take i).flatMap fun y=>zL X g x y.1) -> Ok (qkg (C j) q (.ptr xb 0) (.ptr nb 0) (.ptr gb 0) (.ptr pb 0) (.ptr rb 0) nv (iN (l.length)) k (iN i) H) Q
 |0,i,_,_,_,h,_=>by omega
 |k+1,i,H,ev,hi,hk,hG=>by
  show Ok (q3w (C j) _ _ _ _ _ _ _ _ (qkg (C j) _ _ _ _ _ _ _ _ k) _ H) Q;unfold q3w;obtain⟨t1,t2,t3,t4,t5⟩:=hlt';by_cases hlt:i<l.length
  ·simp only[go_sem,hlt];unfold q68;have r:=hR H hG.fm;obtain⟨b1,o1,e1,e2,_,e3,_⟩:=r.nd.at' i hlt;unfold kW SS.v at e3;have hSm:=hV.pr.sml;have htx:=(hV.pr.x _ hm.1 _ hm.2).1;have hself:(g.name,x.r.name)∈aJ X:=qjz.2 ⟨g,hm.1,x,hm.2,rfl,rfl⟩;have jP:(aJ X).length<=256:=by have:=hV.pr.len;rw[<-yA,qc];exact this
   have fp:Fm No H ((aO H (aB 0 [.int .u8 (.ofNat 0),.str 0 0,.str 0 0,.aA,.bool false])).put H.nx (aB 0 [.int .u8 (.ofNat l[i].1.k),.str l[i].1.rl.n l[i].1.rl.a,.str l[i].1.to.n l[i].1.to.a,l[i].2,.bool l[i].1.neg])):=by exact oJ
   obtain⟨H1,hH1⟩:∃ H1,H1=(aO H (aB 0 [.int .u8 (.ofNat 0),.str 0 0,.str 0 0,.aA,.bool false])).put H.nx (aB 0 [.int .u8 (.ofNat l[i].1.k),.str l[i].1.rl.n l[i].1.rl.a,.str l[i].1.to.n l[i].1.to.a,l[i].2,.bool l[i].1.neg]):=⟨_,rfl⟩;rw[<-hH1]at fp;have kb:H1.get H.nx=aB 0 (kW l[i]):=by rw[hH1];exact dS _ _ _
   have n1:H1.nx=H.nx+1:=by rw[hH1];rfl
   have hG1:=hG.no fp;have nx0:=hG.fm.nx;have hEl:(E++(l.take i).flatMap fun y=>zL X g x y.1).length<=900000:=by
    have h1:=qcf (fun y:Nd×AV=>zL X g x y.1) 100 (l.take i) fun y _=>z1u hSm (by omega) _;rw[lq];have h2:(l.take i).length<=32:=by rw[qo];omega
    omega
   have next:∀ H' ev',qZ Hb jC H' gb N ev' ((E++(l.take i).flatMap fun y=>zL X g x y.1)++zL X g x l[i].1)->Ok (qh5 (C j) (qkg (C j) q (.ptr xb 0) (.ptr nb 0) (.ptr gb 0) (.ptr pb 0) (.ptr rb 0) nv (iN (l.length)) k) (iN i) H') Q:=fun H' ev' h=>by unfold qh5;simp(disch:=go_size)only[go_sem,rB,rI,rK,rL,rN,rS,r6];refine q87 hC hN hj hV hm hR ⟨t1,t2,t3,t4,t5⟩ hll hln hin hE hq k (i+1) H' ev' (by omega) (by omega) ?_;rw[ku hlt,uA,uB,<-qw];exact h
   have pF:∀ c,In ev c->c<H.nx:=fun c hc=>hG.gl.lt hc;have gbl:=hG.lt;have hTo:∀ H2,Fm No H1 H2->∀ H',Fm (fun c=>c=gb\/In ev c) H2 H'->ToR X g x l[i] nb mb pb rb H.nx H':=fun H2 f2 H' f'=>by
    have ft:Fm (fun c=>c=gb\/In jC c) Hb H':=((hG1.fm).then f2 fun _ _ h=>absurd h id).then f' fun c hc hs=>by
     rcases hs with hs|hs
     ·omega
     ·rcases hG.nw c hs with h|h
      ·exact .inr h
      ·omega
    have r':=hR H' ft;refine⟨r'.n,r'.m,r'.p,?_,?_⟩
    ·obtain⟨c2,c3,c4,c5,h⟩:=r'.r;exact⟨_,_,_,_,_,h⟩
    ·have:=f2.nx;refine(f'.get H.nx (by omega) fun hs=>?_).trans ((f2.keep (by omega)).trans kb);rcases hs with hs|hs
     ·omega
     ·have:=pF _ hs;omega
   have r1:=hR H1 hG1.fm;have uF:=hin _ (lu hlt);have hnf:zL X g x l[i].1=(ndT X g.name x l[i].1).map (eE X (bW X g.name x.r.name) l[i].1.neg):=rfl;unfold ndT at uF hnf;by_cases q1:l[i].1.k=1
   ·have q1t:=dh q1;rw[pz q1]at uF hnf;obtain⟨c2,c3,c4,c5,hrb⟩:=r.r;have rr:=(fp.keep (show rb<H.nx by omega)).trans hrb;rw[hH1]at rr;have hty:=((r.sch.sp _ hm.1).rel _ hm.2).ty;have hl:=hty.len;simp(disch:=go_size)only[go_sem,rB,rI,rK,rL,rN,rS,r6,e1,e3,q1t,rr,hl];unfold zhi;rw[dB,<-hH1];have hGb:=hG1.base (Fm.refl No H1);refine qwx hC (by omega) (N:=N) (Hb:=H1) (jC:=ev) (y:=l[i]) (hTo H1 (Fm.refl _ _)) (fun H' f'=>?_) htx hself jP uF hEl (fun H' ev' h=>?_) bX 0 H1 ev (gq _) (by rw[dI];omega) ?_
    ·have ft:Fm (fun c=>c=gb\/In jC c) Hb H':=(hG1.fm).then f' fun c hc hs=>by
      rcases hs with hs|hs
      ·omega
      ·rcases hG.nw c hs with h|h
       ·exact .inr h
       ·omega
     exact(((hR H' ft).sch.sp _ hm.1).rel _ hm.2).ty
    ·refine next H' ev' ?_
     rw[hnf];exact hG1.comp (Fm.refl _ _) h
    ·rw[dE];simpa [y9] using hGb
   ·rw[kz q1]at uF hnf;by_cases q2:l[i].1.k=2
    ·have q2t:=dh q2;rw[pz q2]at uF hnf;have rp:=(fp.keep (show pb<H.nx by omega)).trans r.p;rw[hH1]at rp;simp(disch:=go_size)only[go_sem,rB,rI,rK,rL,rN,rS,r6,e1,e3,q1,q2t,rp];rw[<-hH1];have hGb:=hG1.base (Fm.refl No H1);refine Ok.ve (z0k hC (by omega) hGb (by omega) (hTo H1 (Fm.refl _ _) H1 (Fm.refl _ _)) hself (uF _ ql) jP) ?_;rintro _ H3 ⟨ev3,hG3⟩;refine next H3 ev3 ?_
     rw[hnf];exact hG1.comp (Fm.refl _ _) hG3
    ·rw[kz q2]at uF hnf;by_cases q3:l[i].1.k=3
     ·have q3t:=dh q3;rw[pz q3]at uF hnf;have rp:=(fp.keep (show pb<H.nx by omega)).trans r.p;have rx:=(fp.keep (show xb<H.nx by omega)).trans r.x1;rw[hH1]at rp rx;simp(disch:=go_size)only[go_sem,rB,rI,rK,rL,rN,rS,r6,e1,e3,q1,q2,q3t,rp,rx];rw[<-hH1];have hnd:=hV.nd _ hm.1 _ hm.2 l[i].1 (by rw[<-hln];exact eQ (lu hlt));refine Ok.ve (q57 hC hN (k:=j) (by omega) r1.sch hV g.name l[i].1.rl l[i].1.to (hnd.1 (.inr q3)) (hnd.2 q3)) ?_;rintro _ H2 ⟨tv,rfl,ha⟩;have hl:=ha.cO;simp only[go_sem,hl];unfold zhh;rw[dB];have hGb:=hG1.base ha.fm;have htl:=qx7 hSm g.name l[i].1.rl l[i].1.to;refine q82 hC (by omega) (N:=N) (Hb:=H2) (jC:=ev) (y:=l[i]) (hTo H2 ha.fm) (fun H' f'=>(ha.rs qyq).iH f' fun c hc hs=>?_) htl hself jP (fun s hs=>uF _ (eQ hs)) hEl (fun H' ev' h=>?_) bX 0 H2 ev (gq _) (by rw[dI];omega) ?_
      ·have:=ha.nw c hc;rcases hs with hs|hs
       ·omega
       ·have:=pF c hs;omega
      ·refine next H' ev' ?_
       rw[hnf];exact hG1.comp ha.fm h
      ·simp_all
     ·rw[kz q3]at hnf;simp(disch:=go_size)only[go_sem,rB,rI,rK,rL,rN,rS,r6,e1,e3,q1,q2,q3];rw[<-hH1];refine next H1 ev ?_
      simp_all
  ·simp only[go_sem,hlt];have he:i=l.length:=by omega
   rw[he,uj]at hG;exact hq H ev hG
theorem dO.tg(hV:dO X){a b to s:SS}(h:s∈sG X a b to):(s,to)∈aJ X:=by
 unfold sG at h;cases hf:kI X a b with
 |none=>rw[hf]at h;cases h
 |some x=>rw[hf]at h;unfold tgL at h;rw[qp]at h;obtain⟨t,ht,rfl⟩:=h;rw[uy]at ht;have h2:=ht.2;unfold tgP at h2;rw[pq,qhf hV.al hV.sp]at h2;simp_all
theorem dO.ndt(hV:dO X){x:aR}(hm:g∈X/\x∈g.gs){y:Nd}(hy:y∈x.r.rule.nodes false):∀ p∈ndT X g.name x y,p∈aJ X:=by
 intro p hp;unfold ndT at hp;have hnd:=hV.nd _ hm.1 _ hm.2 y hy;split at hp
 ·unfold y9 at hp;rw[qp]at hp;obtain⟨t,ht,rfl⟩:=hp;rw[uy]at ht;rcases((hV.ty _ hm.1 _ hm.2).2 t ht.1).2 with h|h
  ·simp[h]at ht
  ·exact h
 split at hp
 ·simp_all
 split at hp
 ·rw[qp]at hp;obtain⟨s,hs,rfl⟩:=hp;exact hV.tg hs
 ·cases hp
theorem zah(hP:vG X)(a b to:SS):(sG X a b to).length<=8:=by
 unfold sG;cases h:kI X a b with
 |none=>simp
 |some g=>refine tq (q4h X to _) ?_;obtain⟨p,hp,hx,_,_⟩:=qft h;exact(hP.x p hp g hx).1
theorem zst(hP:vG X){x:aR}(hx:x.r.types.length<=8)(y:Nd):(zL X g x y).length<=8:=by
 unfold zL ndT;rw[qc];split
 ·have:=q4e x.r.types;omega
 split
 ·simp
 split
 ·rw[qc];exact zah hP _ _ _
 ·simp
def relE(X:List aN)(g:aN)(x:aR):List Edge:=(x.r.rule.nodes false).flatMap (zL X g x)
theorem q8c(hP:vG X){x:aR}(hm:g∈X/\x∈g.gs):(relE X g x).length<=256:=by unfold relE;have h1:=qcf (zL X g x) 8 (x.r.rule.nodes false) fun y _=>zst hP (hP.x _ hm.1 _ hm.2).1 y;have h2:=qce x.r.rule false;have h3:=(hP.x _ hm.1 _ hm.2).2.2.1.sz;omega
def rG(X:List aN)(l:List aN):List Edge:=l.flatMap fun g=>g.gs.flatMap (relE X g)
structure RlR(X:List aN)(sv:AV)(xb nb mb:Nat)(H:Hp):Prop where
 sch:bS H sv X
 x1:H.get xb=aB 0 [sv]
 n:H.get nb=aB 0 [.map mb]
 m:jE H mb (aJ X)
theorem q84(hC:aW C)(hN:mG C){j:Nat}(hj:22<=j){Hb:Hp}{jC sv:AV}{gb N xb nb mb pb:Nat}{X:List aN}(hV:dO X){g:aN}(hm:g∈X)(hR:∀ H,Fm (fun c=>c=gb\/In jC c) Hb H->RlR X sv xb nb mb H/\H.get pb=aB 0 [.str g.name.n g.name.a,g.rv])(hlt':xb<Hb.nx/\nb<Hb.nx/\mb<Hb.nx/\pb<Hb.nx){E:List Edge}(hE:E.length<=100000){Q:pL}{q:pH}(hq:∀ H ev,qZ Hb jC H gb N ev (E++g.gs.flatMap (relE X g))->Ok (q H) Q):∀(k i:Nat) (H:Hp) (ev:AV),i<=g.gs.length->g.gs.length-i<k->qZ Hb jC H gb N ev (E++(g.gs.take i).flatMap (relE X g)) -> Ok (qn0 (C j) q (.ptr xb 0) (.ptr nb 0) (.ptr gb 0) (.ptr pb 0) g.rv (iN (g.gs.length)) k (iN i) H) Q
 |0,i,_,_,_,h,_=>by omega
 |k+1,i,H,ev,hi,hk,hG=>by
  show Ok (q3x (C j) _ _ _ _ _ _ _ (qn0 (C j) _ _ _ _ _ _ _ k) _ H) Q;unfold q3x;obtain⟨t1,t2,t3,t4⟩:=hlt';by_cases hlt:i<g.gs.length
  ·simp only[go_sem,hlt];unfold q67;obtain⟨r,rp⟩:=hR H hG.fm;have hsp:=r.sch.sp _ hm;obtain⟨b1,o1,e1,e2,_,_,_,e6⟩:=hsp.at' i hlt;have hx:=lu hlt;have hrr:=hsp.rel _ hx;obtain⟨c0,c1,c2,c3,hcs,hrc⟩:=qfm hrr;have hpr:=hV.pr.x _ hm _ hx;rw[hrc]at e6;have h16:=(hV.pr.r _ hm).1;obtain⟨H1,hH1⟩:∃ H1,H1=(aO H (aB 0 [.str 0 0,.aA,.int .u8 (.ofNat 0),.str 0 0,.str 0 0,.aA])).put H.nx (aB 0 [.str g.gs[i].r.name.n g.gs[i].r.name.a,g.gs[i].tv,c0,c1,c2,c3]):=⟨_,rfl⟩;have fp:Fm No H H1:=by rw[hH1];exact oJ
   have kb:H1.get H.nx=aB 0 [.str g.gs[i].r.name.n g.gs[i].r.name.a,g.gs[i].tv,c0,c1,c2,c3]:=by rw[hH1];exact dS _ _ _
   have n1:H1.nx=H.nx+1:=by rw[hH1];rfl
   have mE:=hrr.ru.fm fp;rw[hcs]at mE;have O:=qp5 hC hN (k:=j) (by omega) mE hpr.2.2.1;simp(disch:=go_size)only[go_sem,rB,rI,rK,rL,rN,rS,r6,e1,e6];rw[<-hH1];refine Ok.ve O ?_;rintro _ H2 ⟨nv,l,rfl,ha,hl⟩;have hla:=ha.cO;simp only[go_sem,hla];unfold zhj;rw[dB];have f2:=ha.fm;have n2:=f2.nx;have nx0:=hG.fm.nx;have gbl:=hG.lt;have pF:∀ c,In ev c->c<H.nx:=fun c hc=>hG.gl.lt hc;have hln:l.length<=32:=by have:=congrArg List.length hl;simp only[qc,qce]at this;have:=hpr.2.2.1.sz;omega
   have hEl:(E++(g.gs.take i).flatMap (relE X g)).length<=800000:=by
    have h1:=qcf (relE X g) 256 (g.gs.take i) fun x hx=>q8c hV.pr ⟨hm,iy hx⟩;rw[lq];have h2:(g.gs.take i).length<=16:=by rw[qo];omega
    omega
   have hG2:=hG.base (fp.trans f2);refine q87 hC hN hj (N:=N) (Hb:=H2) (jC:=ev) (sv:=sv) (mb:=mb) hV (x:=g.gs[i]) ⟨hm,hx⟩ (l:=l) (fun H' f'=>?_) ⟨by omega,by omega,by omega,by omega,by omega⟩ hln hl (fun y hy=>hV.ndt ⟨hm,hx⟩ (by rw[<-hl];exact eQ hy)) hEl (fun H' ev' h=>?_) bX 0 H2 ev (gq _) (by rw[dI];omega) (by simpa using hG2)
   ·have ft:Fm (fun c=>c=gb\/In jC c) Hb H':=(hG.fm.then (fp.trans f2) fun _ _ h=>absurd h id).then f' fun c hc hs=>by
     rcases hs with hs|hs
     ·exact .inl hs
     ·rcases hG.nw c hs with h|h
      ·exact .inr h
      ·omega
    obtain⟨r',rp'⟩:=hR H' ft;refine⟨r'.sch,r'.x1,r'.n,r'.m,rp',⟨c0,c1,c2,c3,?_⟩,(ha.rs qig).iH f' fun c hc hs=>?_⟩
    ·refine(f'.get H.nx (by omega) fun hs=>?_).trans ((f2.keep (by omega)).trans kb);rcases hs with hs|hs
     ·omega
     ·have:=pF _ hs;omega
    ·have:=ha.nw c hc;rcases hs with hs|hs
     ·omega
     ·have:=pF c hs;omega
   ·unfold q3s;simp(disch:=go_size)only[go_sem,rB,rI,rK,rL,rN,rS,r6];refine q84 hC hN hj hV hm hR ⟨t1,t2,t3,t4⟩ hE hq k (i+1) H' ev' (by omega) (by omega) ?_;have hre:relE X g g.gs[i]=l.flatMap fun y=>zL X g g.gs[i] y.1:=by
     unfold relE;rw[<-hl,lAN]
    rw[ku hlt,uA,uB,<-qw,hre];exact hG.comp (fp.trans f2) h
  ·simp only[go_sem,hlt];have he:i=g.gs.length:=by omega
   rw[he,uj]at hG;exact hq H ev hG
theorem q85(hP:vG X)(i:Nat):(rG X (X.take i)).length<=65536:=by
 unfold rG;have h1:=qcf (fun g:aN=>g.gs.flatMap (relE X g)) 4096 (X.take i) fun g hg=>by have hgx:=iy hg;have h2:=qcf (relE X g) 256 g.gs fun x hx=>q8c hP ⟨hgx,hx⟩;have:=(hP.r g hgx).1;omega
 have h2:(X.take i).length<=16:=by rw[qo];have:=hP.n;omega
 omega
theorem q83(hC:aW C)(hN:mG C){j:Nat}(hj:22<=j){Hb:Hp}{jC sv:AV}{gb N xb nb mb:Nat}{X:List aN}(hV:dO X)(hR:∀ H,Fm (fun c=>c=gb\/In jC c) Hb H->RlR X sv xb nb mb H)(hlt':xb<Hb.nx/\nb<Hb.nx/\mb<Hb.nx){Q:pL}{q:pH}(hq:∀ H ev,qZ Hb jC H gb N ev (rG X X)->Ok (q H) Q):∀(k s:Nat) (H:Hp) (ev:AV),s<=X.length->X.length-s<k->qZ Hb jC H gb N ev (rG X (X.take s)) -> Ok (qkh (C j) q (.ptr xb 0) (.ptr nb 0) (.ptr gb 0) sv (iN (X.length)) k (iN s) H) Q
 |0,i,_,_,_,h,_=>by omega
 |k+1,s,H,ev,hi,hk,hG=>by
  show Ok (q3y (C j) _ _ _ _ _ _ (qkh (C j) _ _ _ _ _ _ k) _ H) Q;unfold q3y;obtain⟨t1,t2,t3⟩:=hlt';have hn:=hV.pr.n;by_cases hlt:s<X.length
  ·simp only[go_sem,hlt];unfold q66;have r:=hR H hG.fm;obtain⟨b1,o1,e1,e2,_,e3,_⟩:=r.sch.rs.at' s hlt;unfold pX SS.v at e3;have hm:=lu hlt;have hl:=(r.sch.sp _ hm).len;have h16:=(hV.pr.r _ hm).1;obtain⟨H1,hH1⟩:∃ H1,H1=(aO H (aB 0 [.str 0 0,.aA])).put H.nx (aB 0 [.str X[s].name.n X[s].name.a,X[s].rv]):=⟨_,rfl⟩;have fp:Fm No H H1:=by rw[hH1];exact oJ
   have kb:H1.get H.nx=aB 0 [.str X[s].name.n X[s].name.a,X[s].rv]:=by rw[hH1];exact dS _ _ _
   have n1:H1.nx=H.nx+1:=by rw[hH1];rfl
   simp(disch:=first|omega|exact ti rfl)only[go_sem,seval,e1,e3,hl];rw[<-hH1];unfold zhk;rw[dB];have nx0:=hG.fm.nx;have gbl:=hG.lt;have pF:∀ c,In ev c->c<H.nx:=fun c hc=>hG.gl.lt hc;have hG1:=hG.base fp;refine q84 hC hN hj (N:=N) (Hb:=H1) (jC:=ev) (sv:=sv) (mb:=mb) hV hm (fun H' f'=>?_) ⟨by omega,by omega,by omega,by omega⟩ (E:=rG X (X.take s)) (by have:=q85 hV.pr s;omega) (fun H' ev' h=>?_) bX 0 H1 ev (gq _) (by rw[dI];omega) (by simpa using hG1)
   ·have ft:Fm (fun c=>c=gb\/In jC c) Hb H':=(hG.fm.then fp fun _ _ h=>absurd h id).then f' fun c hc hs=>by
     rcases hs with hs|hs
     ·omega
     ·rcases hG.nw c hs with h|h
      ·exact .inr h
      ·omega
    refine⟨hR H' ft,(f'.get H.nx (by omega) fun hs=>?_).trans kb⟩;rcases hs with hs|hs
    ·omega
    ·have:=pF _ hs;omega
   ·unfold qu0;simp(disch:=go_size)only[go_sem,rB,rI,rK,rL,rN,rS,r6];refine q83 hC hN hj hV hR ⟨t1,t2,t3⟩ hq k (s+1) H' ev' (by omega) (by omega) ?_;unfold rG at h ⊢;rw[ku hlt,uA,uB];exact hG.comp fp h
  ·simp only[go_sem,hlt];have he:s=X.length:=by omega
   rw[he,uj]at hG;exact hq H ev hG
end Go.Di
end
section
namespace Go.Di
open Go.Ev
variable {i k m n:Nat} {ms:List Nat}
def kT(n:Nat)(e:T3):Nat:=(e.f*n+e.t)*2+e.s
theorem zl9{e:T3}(h:e∈ent n ms i k):e.f=i/\e.t=k/\e.s<2/\0<ms.getD (i*n+k) 0:=by
 rcases gz.1 h with h|h
 ·split at h
  ·rw[gy]at h;subst h;refine⟨rfl,rfl,Nat.zero_lt_two,?_⟩;omega
  ·cases h
 ·split at h
  ·rename_i h1;rw[gy]at h;subst h;exact⟨rfl,rfl,Nat.one_lt_two,by omega⟩
  ·cases h
theorem z8f(n:Nat)(ms:List Nat)(i k:Nat):(ent n ms i k).Pairwise (fun a b=>kT n a<kT n b):=by unfold ent;split<;>split<;>simp[kT]
theorem q9q{n:Nat}{ms:List Nat}{i:Nat}{e:T3}:∀{k:Nat},e∈eR n ms i k->e.f=i/\e.t<k/\e.s<2/\0<ms.getD (i*n+e.t) 0
 |0,h=>by cases h
 |k+1,h=>by
  rcases gz.1 h with h|h
  ·obtain⟨h1,h2,h3,h4⟩:=q9q h;omega
  ·obtain⟨h1,h2,h3,h4⟩:=zl9 h;simp_all
theorem z8l(n:Nat)(ms:List Nat)(i:Nat):∀ k,(eR n ms i k).Pairwise (fun a b=>kT n a<kT n b)
 |0=>List.Pairwise.nil
 |k+1=>by refine yh.2 ⟨z8l n ms i k,z8f n ms i k,fun a ha b hb=>?_⟩;obtain⟨a1,a2,a3,_⟩:=q9q ha;obtain⟨b1,b2,b3,_⟩:=zl9 hb;unfold kT;rw[a1,b1,b2];omega
theorem qz0{n:Nat}{ms:List Nat}{e:T3}:∀{i:Nat},e∈eM n ms i->e.f<i/\e.t<n/\e.s<2/\0<ms.getD (e.f*n+e.t) 0
 |0,h=>by cases h
 |i+1,h=>by
  rcases gz.1 h with h|h
  ·obtain⟨h1,h2,h3,h4⟩:=qz0 h;omega
  ·obtain⟨h1,h2,h3,h4⟩:=q9q h;simp_all
theorem z8m(n:Nat)(ms:List Nat):∀ i,(eM n ms i).Pairwise (fun a b=>kT n a<kT n b)
 |0=>List.Pairwise.nil
 |i+1=>by refine yh.2 ⟨z8m n ms i,z8l n ms i n,fun a ha b hb=>?_⟩;obtain⟨a1,a2,a3,_⟩:=qz0 ha;obtain⟨b1,b2,b3,_⟩:=q9q hb;have h1:(a.f+1)*n<=i*n:=uz n a1;rw[xh,au]at h1;unfold kT;rw[b1];omega
theorem zmx{a b:Int}(h:a<b):iT a b= -1:=by unfold iT;rw[pz h]
theorem q5y(a:Int):iT a a=0:=by unfold iT;rw[kz (Int.lt_irrefl a),kz (Int.lt_irrefl a)]
theorem z7j{a b:T3}(ha:a.t<n)(hb:b.t<n)(sa:a.s<2)(sb:b.s<2)(h:kT n a<kT n b):sI (toE a) (toE b)<0:=by
 unfold kT at h;rcases oz a.f b.f with hf|hf|hf
 ·show orI [iT (.ofNat a.f) (.ofNat b.f),_,_]<0;rw[zmx (by simp only[rq];omega)];exact Int.negSucc_lt_zero 0
 ·have hft:a.f*n=b.f*n:=by rw[hf]
  rcases oz a.t b.t with ht|ht|ht
  ·show orI [iT (.ofNat a.f) (.ofNat b.f),iT (.ofNat a.t) (.ofNat b.t),_]<0;rw[hf,q5y,zmx (a:=.ofNat a.t) (by simp only[rq];omega)];exact Int.negSucc_lt_zero 0
  ·have hs:a.s=0/\b.s=1:=by omega
   show orI [iT (.ofNat a.f) (.ofNat b.f),iT (.ofNat a.t) (.ofNat b.t),iT (sgn (decide (a.s=1))) (sgn (decide (b.s=1)))]<0;rw[hf,ht,q5y,q5y,hs.1,hs.2];decide
  ·omega
 ·have h1:(b.f+1)*n<=a.f*n:=uz n hf;rw[xh,au]at h1;omega
theorem q9o(n:Nat)(ms:List Nat):qdj n (qex n ms):=by
 refine⟨fun e he=>?_,fun i hi=>?_⟩
 ·obtain⟨x,hx,rfl⟩:=qp.1 he;obtain⟨h1,h2,_⟩:=qz0 hx;exact⟨h1,h2⟩
 ·unfold qex at hi ⊢;rw[qc]at hi;rw[cu,cu];have hp:=z8m n ms n;have:=uw.1 hp i (i+1) (by omega) hi (ak i);obtain⟨_,a2,a3,_⟩:=qz0 (lu (show i<(eM n ms n).length by omega));obtain⟨_,b2,b3,_⟩:=qz0 (lu hi);exact z7j a2 b2 a3 b3 this
theorem z18{n i j i' j':Nat}(hj:j<n)(hj':j'<n)(h:i*n+j=i'*n+j'):i=i'/\j=j':=by
 have h1:(i*n+j) / n=i:=by rw[lA5,Nat.mul_add_div (by omega),Nat.div_eq_of_lt hj,xy]
 have h2:(i'*n+j') / n=i':=by rw[lA5,Nat.mul_add_div (by omega),Nat.div_eq_of_lt hj',xy]
 simp_all
def ltE(x y:Edge):Bool:=decide (sI x y<0)
theorem qpk(cs:List Nat)(a c v:Nat)(hc:c<cs.length):(cs.set a v).getD c 0=if a=c then v else cs.getD c 0:=by
 rw[kw,kw,lAD];by_cases h:a=c
 ·simp_all
 ·simp_all
theorem zsd(n:Nat)(ms:List Nat)(f t:Nat)(s:Bool):(p9 n ms f t s).length=ms.length:=by
 unfold p9;generalize (if s=true then 2 else 1)=d;by_cases hd:ms.getD (f*n+t) 0 / d%2=0
 ·simp_all
 ·rw[kz hd]
theorem zse(hl:ms.length=n*n){f t:Nat}(s:Bool)(hi:i<n)(hk:k<n)(ht:t<n)(h3:ms.getD (i*n+k) 0<=3):(p9 n ms f t s).getD (i*n+k) 0<=3/\((p9 n ms f t s).getD (i*n+k) 0%2=1↔ms.getD (i*n+k) 0%2=1\/(f=i/\t=k/\s=false))/\(1<(p9 n ms f t s).getD (i*n+k) 0↔1<ms.getD (i*n+k) 0\/(f=i/\t=k/\s=true)):=by
 have hx:=z7k hi hk;by_cases e:f=i/\t=k
 ·obtain⟨rfl,rfl⟩:=e;unfold p9;generalize hv:ms.getD (f*n+t) 0=v at *;cases s
  ·simp only[aj,lA4];by_cases h:v / 1%2=0
   ·rw[pz h,qpk _ _ _ _ (by omega),pz rfl];refine⟨by omega,?_,?_⟩
    ·simp;omega
    ·simp;omega
   ·simp_all
  ·simp only[ik];by_cases h:v / 2%2=0
   ·rw[pz h,qpk _ _ _ _ (by omega),pz rfl];refine⟨by omega,?_,?_⟩
    ·simp
    ·simp
   ·rw[kz h,hv];refine⟨by omega,?_,?_⟩
    ·simp
    ·simp;omega
 ·have:(p9 n ms f t s).getD (i*n+k) 0=ms.getD (i*n+k) 0:=by
   unfold p9;generalize (if s=true then 2 else 1)=d;by_cases hd:ms.getD (f*n+t) 0 / d%2=0
   ·rw[pz hd,qpk _ _ _ _ (by omega),kz fun h=>e (z18 ht hk h)]
   ·rw[kz hd]
  omega
theorem qot{n i k:Nat}(hi:i<n)(hk:k<n):∀(ts:List T3) (ms:List Nat),ms.length=n*n->(∀e∈ts,e.f<n/\e.t<n)->ms.getD (i*n+k) 0<=3 -> ((qwb n ms ts).getD (i*n+k) 0%2=1↔ms.getD (i*n+k) 0%2=1\/∃ e∈ts,e.f=i/\e.t=k/\decide (e.s=1)=false)/\(1<(qwb n ms ts).getD (i*n+k) 0↔1<ms.getD (i*n+k) 0\/∃ e∈ts,e.f=i/\e.t=k/\decide (e.s=1)=true)
 | [],ms,_,_,_=>by simp[qwb]
 |e::l,ms,hl,hT,h3=>by obtain⟨a1,a2,a3⟩:=zse hl (f:=e.f) (t:=e.t) (decide (e.s=1)) hi hk (hT e ql).2 h3;obtain⟨b1,b2⟩:=qot hi hk l (p9 n ms e.f e.t (decide (e.s=1))) (by rw[zsd,hl]) (fun x hx=>hT x (qx _ hx)) a1;show((qwb n (p9 n ms e.f e.t (decide (e.s=1))) l).getD _ 0%2=1↔_)/\_;rw[b1,a2];show _/\(1<(qwb n (p9 n ms e.f e.t (decide (e.s=1))) l).getD _ 0↔_);rw[b2,a3];simp only[qg,exists_eq_or_imp,or_assoc,and_self]
def bn(b:Bool):Nat:=if b then 1 else 0
theorem z8y{a b:Bool}(h:bn a=bn b):a=b:=by cases a<;>cases b<;>first|rfl|(simp[bn]at h)
theorem zwm(b:Bool):sgn b=(bn b:Int):=by cases b<;>rfl
def pM(x y:Edge):Prop:=x.f<y.f\/(x.f=y.f/\(x.t<y.t\/(x.t=y.t/\bn x.s<bn y.s)))
theorem zkw(x y:Edge):ltE x y=true↔pM x y:=by unfold ltE sI pM;rw[zwm,zwm];simp only[orI,iT,rq,xq];omega
theorem q5a(x y:Edge):ltE x y=false↔¬ pM x y:=by rw[<-zkw];cases ltE x y<;>simp
theorem pM.tri{x y:Edge}(h1:¬ pM x y)(h2:¬ pM y x):x=y:=by
 unfold pM at h1 h2;obtain⟨a,b,c⟩:=x;obtain⟨d,e,f⟩:=y;simp only at h1 h2;have e1:a=d:=by omega
 have e2:b=e:=by omega
 have e3:bn c=bn f:=by omega
 subst e1;subst e2;rw[z8y e3]
theorem pM.irr(x:Edge):¬ pM x x:=by unfold pM;omega
theorem pM.trans{x y z:Edge}:pM x y->pM y z->pM x z:=by unfold pM;omega
abbrev Asc(l:List Edge):Prop:=l.Pairwise pM
theorem Asc.nodup{l:List Edge}(h:Asc l):l.Nodup:=List.Pairwise.imp (fun{a b} (h:pM a b) (e:a=b)=>pM.irr b (e▸h)) h
theorem Asc.uniq:∀{l l':List Edge},Asc l->Asc l'->l.Perm l'->l=l'
 | [],l',_,_,hp=>by rw[List.nil_perm.1 hp]
 |x::l,[],_,_,hp=>by have:=hp.length_eq;simp at this
 |x::l,y::l',h,h',hp=>by
  have h:=yl.1 h;have h':=yl.1 h';have exy:x=y:=by
   have hx:x∈y::l':=hp.mem_iff.1 (qg.2 (Or.inl rfl));have hy:y∈x::l:=hp.mem_iff.2 (qg.2 (Or.inl rfl));rcases qg.1 hx with e|hx
   ·exact e
   ·rcases qg.1 hy with e|hy
    ·exact e.symm
    ·exact absurd ((h.1 y hy).trans (h'.1 x hx)) (pM.irr _)
  subst exy;rw[Asc.uniq h.2 h'.2 ((List.perm_cons x).1 hp)]
theorem qxb{x y:Edge}:sI x y<0↔pM x y:=by rw[<-zkw];unfold ltE;simp
theorem qdj.asc{es:List Edge}(h:qdj n es):Asc es:=by
 refine uw.2 ?_;intro i j hi hj hij;obtain⟨k,rfl⟩:∃ k,j=i+1+k:=⟨j-i-1,by omega⟩;clear hij
 induction k with
 |zero=>exact qxb.1 (h.ord i hj)
 |succ k ih=>exact(ih (by omega)).trans (qxb.1 (h.ord (i+1+k) (by omega)))
theorem Asc.ok{es:List Edge}(h:Asc es)(hr:∀ e∈es,e.f<n/\e.t<n):qdj n es:=
 ⟨hr,fun i hi=>qxb.2 (uw.1 h i (i+1) (by omega) hi (by omega))⟩
def aFW(n:Nat)(ms:List Nat)(f t:Nat)(s:Bool):Prop:=if s then 1<ms.getD (f*n+t) 0 else ms.getD (f*n+t) 0%2=1
theorem qpq{e:T3}:e∈ent n ms i k↔e.f=i/\e.t=k/\((e.s=0/\ms.getD (i*n+k) 0%2=1)\/(e.s=1/\1<ms.getD (i*n+k) 0)):=by
 obtain⟨f,t,s⟩:=e;unfold ent;rw[gz];constructor
 ·rintro (h|h)
  ·simp_all
  ·simp_all
 ·rintro ⟨rfl,rfl,⟨h1,h2⟩|⟨h1,h2⟩⟩
  ·simp_all
  ·simp_all
theorem zw3{n:Nat}{ms:List Nat}{i:Nat}{e:T3}:∀{k:Nat},e∈eR n ms i k↔e.t<k/\e∈ent n ms i e.t
 |0=>by constructor;(intro h;cases h);(intro h;omega)
 |k+1=>by
  show e∈eR n ms i k++ent n ms i k↔_;rw[gz,zw3];constructor
  ·rintro (⟨h1,h2⟩|h)
   ·exact⟨by omega,h2⟩
   ·have h':=(qpq.1 h).2.1;simp_all
  ·rintro ⟨h1,h2⟩;by_cases h:e.t<k
   ·simp_all
   ·have:e.t=k:=by omega
    simp_all
theorem q9s{n:Nat}{ms:List Nat}{e:T3}:∀{m:Nat},e∈eM n ms m↔e.f<m/\e.t<n/\e∈ent n ms e.f e.t
 |0=>by constructor;(intro h;cases h);(intro h;omega)
 |m+1=>by
  show e∈eM n ms m++eR n ms m n↔_;rw[gz,q9s,zw3];constructor
  ·rintro (⟨h1,h2,h3⟩|⟨h1,h2⟩)
   ·exact⟨by omega,h2,h3⟩
   ·have h':=(qpq.1 h2).1;simp_all
  ·rintro ⟨h1,h2,h3⟩;by_cases h:e.f<m
   ·simp_all
   ·have:e.f=m:=by omega
    simp_all
theorem q5o{e:Edge}:e∈qex n ms↔e.f<n/\e.t<n/\aFW n ms e.f e.t e.s:=by
 unfold qex aFW;rw[qp];constructor
 ·rintro ⟨t,ht,rfl⟩;obtain⟨h1,h2,h3⟩:=q9s.1 ht;refine⟨h1,h2,?_⟩;rcases(qpq.1 h3).2.2 with⟨h4,h5⟩|⟨h4,h5⟩
  ·show(if decide (t.s=1)=true then _ else _);rw[h4,kz (by decide)];exact h5
  ·show(if decide (t.s=1)=true then _ else _);rw[h4,pz (by decide)];exact h5
 ·rintro ⟨h1,h2,h3⟩;obtain⟨f,t,s⟩:=e;cases s
  ·exact⟨⟨f,t,0⟩,q9s.2 ⟨h1,h2,qpq.2 ⟨rfl,rfl,.inl ⟨rfl,by simpa using h3⟩⟩⟩,rfl⟩
  ·exact⟨⟨f,t,1⟩,q9s.2 ⟨h1,h2,qpq.2 ⟨rfl,rfl,.inr ⟨rfl,by simpa using h3⟩⟩⟩,rfl⟩
theorem zbr{ts:List T3}(hT:∀ e∈ts,e.f<n/\e.t<n){e:Edge}:e∈qex n (qwb n (List.replicate (n*n) 0) ts)↔e∈ts.map toE:=by
 rw[q5o,qp];have h0:∀ x,(List.replicate (n*n) 0).getD x 0=0:=fun x=>by rw[kw,List.getElem?_replicate];split<;>rfl
 constructor
 ·rintro ⟨h1,h2,h3⟩;obtain⟨g1,g2⟩:=qot h1 h2 ts _ (iq) hT (by rw[h0];omega);rw[h0]at g1 g2;unfold aFW at h3;obtain⟨f,t,s⟩:=e;cases s
  ·simp only[aj,lA4]at h3;rw[g1]at h3;rcases h3 with h3|⟨x,hx,a,b,c⟩
   ·omega
   ·exact⟨x,hx,by unfold toE;rw[a,b,c]⟩
  ·simp only[ik]at h3;rw[g2]at h3;rcases h3 with h3|⟨x,hx,a,b,c⟩
   ·omega
   ·exact⟨x,hx,by unfold toE;rw[a,b,c]⟩
 ·rintro ⟨x,hx,rfl⟩;obtain⟨h1,h2⟩:=hT x hx;obtain⟨g1,g2⟩:=qot (i:=x.f) (k:=x.t) h1 h2 ts _ (iq) hT (by rw[h0];omega);refine⟨h1,h2,?_⟩;show if decide (x.s=1)=true then _ else _
  cases hs:decide (x.s=1)
  ·rw[kz (by simp)];exact g1.2 (.inr ⟨x,hx,rfl,rfl,hs⟩)
  ·rw[pz rfl];exact g2.2 (.inr ⟨x,hx,rfl,rfl,hs⟩)
def qju{α:Type}[DecidableEq α](S:List α)(i:Nat):Bool:=decide (i=0)|| !decide (S[i]? =S[i-1]?)
def lK{α:Type}[DecidableEq α](S:List α)(m:Nat):List α:=(List.range m).filterMap fun i=>if qju S i then S[i]? else none
def iG{α:Type}[DecidableEq α](S:List α):List α:=lK S S.length
theorem qw5{α:Type}[DecidableEq α](S:List α)(h:m<S.length):lK S (m+1)=lK S m++if qju S m then[S[m]]else[]:=by unfold lK;rw[lA9,List.filterMap_append];congr 1;rw[List.filterMap_cons,List.filterMap_nil,lh h];cases qju S m<;>rfl
theorem q5p{α:Type}[DecidableEq α]{S:List α}{x:α}:x∈iG S↔x∈S:=by
 unfold iG lK;rw[List.mem_filterMap];constructor
 ·rintro ⟨i,hi,h⟩;split at h
  ·exact uq h
  ·cases h
 ·intro hx;have hlt:S.findIdx (fun y=>decide (y=x))<S.length:=by rw[List.findIdx_lt_length];exact⟨x,hx,by simp⟩
  have hp:=List.findIdx_getElem (w:=hlt);refine⟨S.findIdx fun y=>decide (y=x),uu.2 hlt,?_⟩;have he:S[S.findIdx fun y=>decide (y=x)]=x:=by simpa using hp
  have hk:qju S (S.findIdx fun y=>decide (y=x))=true:=by
   unfold qju;rw[af];by_cases h0:(S.findIdx fun y=>decide (y=x))=0
   ·simp_all
   ·right;rw[xe,xm];intro h;have hn:=List.not_of_lt_findIdx (xs:=S) (p:=fun y=>decide (y=x)) (i:=(S.findIdx fun y=>decide (y=x))-1) (by omega);rw[lh hlt,lh (by omega),he]at h;injection h with h;rw[<-h]at hn;simp at hn
  simp_all
theorem zmm{α:Type}[DecidableEq α]{R:α->α->Prop}{S:List α}(irr:∀ x∈S,¬R x x)(tri:∀ x∈S,∀y∈S,¬R x y->¬ R y x->x=y)(hS:S.Pairwise fun x y=>¬ R y x):(iG S).Pairwise R:=by
 unfold iG lK;rw[List.pairwise_filterMap];refine List.Pairwise.imp_of_mem ?_ List.pairwise_lt_range;intro i j hi hj hij x hx y hy;have hjl:j<S.length:=uu.1 hj;have hil:i<S.length:=uu.1 hi;split at hy
 ·rename_i hk;split at hx
  ·rw[lh hil]at hx;rw[lh hjl]at hy;injection hx with hx;injection hy with hy;subst hx hy;have hp:=uw.1 hS;have h1:=hp i j hil hjl hij;by_cases hlt:R S[i] S[j]
   ·exact hlt
   ·exfalso;have e:=tri _ (lu hil) _ (lu hjl) hlt h1;have h2:=hp (j-1) j (by omega) hjl (by omega);have h3:¬ R S[j-1] S[j]:=by
     rw[<-e];by_cases he:i=j-1
     ·simp_all
     ·exact hp i (j-1) hil (by omega) (by omega)
    have e2:=tri _ (lu (by omega)) _ (lu hjl) h3 h2;unfold qju at hk;rw[af,xe,xm,lh hjl,lh (by omega),e2]at hk;rcases hk with hk|hk
    ·simp at hk;omega
    ·exact hk rfl
  ·cases hx
 ·cases hy
theorem z2t{S:List Edge}(hS:S.Pairwise fun x y=>¬ pM y x):Asc (iG S):=zmm (R:=pM) (fun x _=>pM.irr x) (fun _ _ _ _=>pM.tri) hS
theorem Asc.ext{l l':List Edge}(h:Asc l)(h':Asc l')(hm:∀ x,x∈l↔x∈l'):l=l':=
 Asc.uniq h h' ((List.perm_ext_iff_of_nodup h.nodup h'.nodup).2 hm)
def sortE(S:List Edge):List Edge:=S.mergeSort fun x y=> !ltE y x
theorem zrt(S:List Edge):(sortE S).Pairwise fun x y=>¬ pM y x:=by
 have h:=List.pairwise_mergeSort (le:=fun x y=> !ltE y x) (fun a b c=>by
  simp only[xe,q5a];unfold pM;omega) (fun a b=>by
  simp only[af,xe,q5a];unfold pM;omega) S
 refine List.Pairwise.imp ?_ h;intro a b h;rwa [xe,q5a]at h
theorem qyf{S:List Edge}{x:Edge}:x∈sortE S↔x∈S:=(List.mergeSort_perm _ _).mem_iff
theorem qyg(S:List Edge):(sortE S).length=S.length:=lAX _
theorem q41{ts:List T3}(hT:∀ e∈ts,e.f<n/\e.t<n):qex n (qwb n (List.replicate (n*n) 0) ts)=iG (sortE (ts.map toE)):=
 Asc.ext (q9o n _).asc (z2t (zrt _)) fun x=>by rw[zbr hT,q5p,qyf]
end Go.Di
end
section
namespace Go.Di
open Go.Ev
variable {C:Nat->Ev.Call}
structure CpW{α:Type}[DecidableEq α](z:Nat)(f:α->List AV)(e0:AV->AV->Option Bool)(zs:List AV):Prop where
 len:∀ x,(f x).length=z
 pos:0<z
 eq:∀(neg:Bool) (x y:α),mF neg (e0 (.agg (f x)) (.agg (f y)))=.val (.bool (bif neg then !decide (x=y)else decide (x=y)))
 zl:zs.length=z
theorem qc9{α:Type}{z:Nat}{f:α->List AV}(hf:∀ x,(f x).length=z):∀ l:List α,(l.flatMap f).length=l.length*z
 | []=>by simp
 |a::l=>by rw[ug,lq,qc9 hf l,hf,pg,xh];omega
variable {α:Type} [DecidableEq α] {z:Nat} {f:α->List AV} {e0:AV->AV->Option Bool} {zs:List AV}
theorem zks{i n:Nat}(z:Nat)(h:i<n):i*z+z<=n*z:=by have:=uz z h;rwa [Nat.succ_mul]at this
omit [DecidableEq α]in
theorem qp0(hf:∀ x,(f x).length=z)(q:Nat)(A Z:List AV)(S:List α){i:Nat}(h:i<S.length):eB (aB q (A++S.flatMap f++Z)) (A.length+i*z) z=some (f S[i]):=by have hl:=qc9 hf S;have hm:=zks z h;rw[qca,pz (by simp only[lq];omega),qw,<-lAI,List.drop_left' rfl,xu (by omega),List.take_append_of_le_length (by rw[xg];omega),qgr hf S i h]
omit [DecidableEq α]in
theorem z3d(hf:∀ x,(f x).length=z)(A Z:List AV)(e:α):∀(S:List α) (i:Nat),i<S.length->bD (A++S.flatMap f++Z) (A.length+i*z) (f e)=A++(S.set i e).flatMap f++Z:=by
 have core:∀(S:List α) (i:Nat),i<S.length->bD (S.flatMap f++Z) (i*z) (f e)=(S.set i e).flatMap f++Z:=by
  intro S
  induction S with
  |nil=>intro i h;simp at h
  |cons a S ih=>
   intro i h;have ha:=hf a;have he:=hf e;cases i with
   |zero=>unfold bD;simp_all
   |succ i=>have:=ih i (by simpa using h);rw[List.set_cons_succ,ug,ug,qw,qw,<-this];unfold bD;rw[show(i+1)*z=(f a).length+i*z by rw[ha,Nat.succ_mul];omega,mf,qw,qw,qw,uk,mg]
 intro S i h;rw[qw,qw,<-core S i h];unfold bD;rw[mf,uk,mg];simp
theorem zm2(n m i:Nat)(h:i<=n)(h2:n<=m):bounds n m (some (iN i)) none none=some ⟨i,n,m⟩:=by show(match(bif Nat.ble i n then some i else none)with|none=>none|some l=>some (Bd.mk l n m))=_;rw[ble_eq,gp h];rfl
theorem q7v(z b o n i:Nat)(e:Bool)(h:i<n):kM z (.sl b o n n e) (some (iN i)) none none=.val (.sl b (o+i*z) (n-i) (n-i) e):=by show(match bounds n n (some (iN i)) none none with|some bd=>iD b o z bd e|none=>R0.bad)=_;rw[zm2 _ _ _ (by omega) (lg _)];unfold iD;simp only[beq_eq];rw[qi (by omega)];rfl
theorem zru(z b o n i:Nat)(e:Bool)(h:i<=n)(h0:0<n):kM z (.sl b o n n e) none (some (iN i)) none=.val (.sl b o i n e):=by show(match bounds n n none (some (iN i)) none with|some bd=>iD b o z bd e|none=>R0.bad)=_;rw[qz8 _ _ _ h];unfold iD;simp only[beq_eq];rw[qi (by omega),zh];simp
structure CpO{α:Type}(f:α->List AV)(H:Hp)(b q:Nat)(A:List AV)(l:List α)(w:AV)(e:Bool)(H':Hp):Prop where
 is:∃ m Z,w=.sl b A.length l.length m e/\l.length<=m/\0<m/\H'.get b=aB q (A++(l.flatMap f)++Z)
 fm:Fm (· =b) H H'
 nx:H'.nx=H.nx
theorem qz1(hw:CpW z f e0 zs){O:Ev.Call}{H0:Hp}{b q k0:Nat}{A:List AV}{S:List α}{e:Bool}(hb:b<H0.nx)(hk0:0<k0/\k0<S.length)(hn:S.length<900000){Q:pL}{qe:pD}(hq:∀ H (cur:List α),cur.length=S.length->H.get b=aB q (A++(cur.flatMap f)++[])->cur.take (iG S).length=iG S->(iG S).length<S.length->0<(iG S).length->Fm (· =b) H0 H->H.nx=H0.nx->Ok (qe (iN ((iG S).length)) H) Q):∀(k k2:Nat) (H:Hp) (cur:List α),1<=k2->k0+k2<=S.length->S.length-(k0+k2)<k->cur.length=S.length->H.get b=aB q (A++(cur.flatMap f)++[])->(∀p (h:p<S.length) (h':p<cur.length),k0+k2-1<=p->cur[p]=S[p]) -> cur.take (lK S (k0+k2)).length=lK S (k0+k2)->(lK S (k0+k2)).length<k0+k2->0<(lK S (k0+k2)).length->Fm (· =b) H0 H->H.nx=H0.nx -> Ok (qgu O z e0 zs qe (.sl b A.length S.length S.length e) (.sl b (A.length+k0*z) (S.length-k0) (S.length-k0) e) k (iN ((lK S (k0+k2)).length)) (iN k2) H) Q
 |0,k2,_,_,_,_,h,_,_,_,_,_,_,_,_=>by omega
 |k+1,k2,H,cur,h1,h2,h3,hc,hg,hp,ht,hl,h0,hf,hx=>by
  show Ok (q5u O z e0 zs _ _ _ (qgu O z e0 zs _ _ _ k) _ _ H) Q;unfold q5u;obtain⟨k01,k02⟩:=hk0;by_cases hlt:k0+k2<S.length
  ·have hlt':k2<S.length-k0:=by omega
   have hlt2:k2-1<S.length-k0:=by omega
   unfold q5t;have r1:=qp0 hw.len q A [] cur (i:=k0+k2) (by omega);have r2:=qp0 hw.len q A [] cur (i:=k0+k2-1) (by omega);rw[hp (k0+k2) hlt (by omega) (by omega)]at r1;rw[hp (k0+k2-1) (by omega) (by omega) (by omega)]at r2;rw[show A.length+(k0+k2)*z=A.length+k0*z+k2*z by rw[xh,uk]]at r1;rw[show A.length+(k0+k2-1)*z=A.length+k0*z+(k2-1)*z by rw[show k0+k2-1=k0+(k2-1)by omega,xh,uk]]at r2;rw[uh]at r1 r2;have hg':H.get b=aB q (A++(cur.flatMap f)):=by rw[hg,uh]
   have hsucc:=qw5 S hlt;have next:∀(H':Hp) (cur':List α) (i':Nat),i'=(lK S (k0+k2+1)).length->cur'.length=S.length->H'.get b=aB q (A++(cur'.flatMap f)++[])->(∀p (h:p<S.length) (h':p<cur'.length),k0+(k2+1)-1<=p->cur'[p]=S[p]) ->
     cur'.take (lK S (k0+(k2+1))).length=lK S (k0+(k2+1))->(lK S (k0+(k2+1))).length<k0+(k2+1)->0<(lK S (k0+(k2+1))).length->Fm (· =b) H0 H'->H'.nx=H0.nx ->
     Ok (qpu O z e0 zs (qgu O z e0 zs qe (.sl b A.length S.length S.length e) (.sl b (A.length+k0*z) (S.length-k0) (S.length-k0) e) k) (iN i') (iN k2) H') Q:=fun H' cur' i' hi' a1 a2 a3 a4 a5 a6 a7 a8=>by
    subst hi';unfold qpu;simp(disch:=go_size)only[go_sem,rB,rI,rK,rL,rN,rS,r6];exact qz1 hw hb ⟨k01,k02⟩ hn hq k (k2+1) H' cur' (by omega) (by omega) (by omega) a1 a2 a3 a4 a5 a6 a7 a8
   have hke:qju S (k0+k2)= !decide (S[k0+k2]=S[k0+k2-1]):=by unfold qju;rw[qi (show ¬k0+k2=0 by omega),Bool.false_or,lh hlt,lh (by omega)];simp
   by_cases hd:S[k0+k2]=S[k0+k2-1]
   ·have hdt:=dh hd;rw[hke,gp hd]at hsucc;rw[show lK S (k0+k2)++(if(!true)=true then[S[k0+k2]]else[])=lK S (k0+k2)by simp]at hsucc;simp(disch:=go_size)only[go_sem,rB,rI,rK,rL,rN,rS,r6,hlt',hlt2,hg',r1,r2,hw.eq,hdt];exact next H cur _ (by rw[hsucc]) hc hg (fun p a b c=>hp p a b (by omega)) (by rw[<-uk,hsucc];exact ht) (by rw[<-uk,hsucc];omega) (by rw[<-uk,hsucc];exact h0) hf hx
   ·rw[hke,qi hd]at hsucc;rw[show lK S (k0+k2)++(if(!false)=true then[S[k0+k2]]else[])=lK S (k0+k2)++[S[k0+k2]]by simp]at hsucc;have hil:(lK S (k0+k2)).length<S.length:=by omega
    have hle:=dh (show A.length+(lK S (k0+k2)).length*z+(f S[k0+k2]).length<=(A++(cur.flatMap f)).length by have h1:=qc9 hw.len cur;have h2:=zks z (show(lK S (k0+k2)).length<cur.length by omega);rw[lq,hw.len];omega);have hset:=z3d hw.len A [] S[k0+k2] cur (lK S (k0+k2)).length (by omega);rw[uh,uh]at hset;have hc3:(f S[k0+k2]).length=z:=hw.len _;simp(disch:=go_size)only[go_sem,rB,rI,rK,rL,rN,rS,r6,hlt',hlt2,hg',r1,r2,hw.eq,hd,hil,q7o,hc3];rw[hc3]at hle;simp(disch:=go_size)only[go_sem,rB,rI,rK,rL,rN,rS,r6,hle,hset];have hcl:(cur.set (lK S (k0+k2)).length S[k0+k2]).length=S.length:=by rw[xk,hc]
    have hl1:(lK S (k0+k2+1)).length=(lK S (k0+k2)).length+1:=by rw[hsucc];simp
    refine next _ (cur.set (lK S (k0+k2)).length S[k0+k2]) _ hl1.symm hcl ?_ (fun p a b c=>?_) ?_ ?_ ?_ (hf.put _ _ fun _=>rfl) hx
    ·rw[uh];exact dS _ _ _
    ·rw[List.getElem_set_ne (by omega)];exact hp p a (by omega) (by omega)
    ·rw[<-uk,hl1,hsucc];rw[ku (by omega),List.take_set_of_le (lg _),ht,List.getElem_set_self]
    ·rw[<-uk,hl1];omega
    ·rw[<-uk,hl1];omega
  ·have he:k0+k2=S.length:=by omega
   have hlt':¬ k2<S.length-k0:=by omega
   simp only[go_sem,hlt'];rw[he]at ht hl h0 ⊢;exact hq H cur hc hg ht hl h0 hf hx
end Go.Di
end
section
namespace Go.Di
open Go.Ev
variable {C:Nat->Ev.Call}
variable {α:Type} [DecidableEq α] {z:Nat} {f:α->List AV} {e0:AV->AV->Option Bool} {zs:List AV}
theorem qw6{α:Type}[DecidableEq α]{S:List α}:∀{m:Nat},m<=S.length->(∀i,i<m->qju S i=true)->lK S m=S.take m
 |0,_,_=>rfl
 |m+1,h,hk=>by rw[qw5 S h,qw6 (by omega) fun i hi=>hk i (by omega),hk m (by omega),ku h];rfl
theorem q9v(hw:CpW z f e0 zs){O:Ev.Call}{H0:Hp}{b q:Nat}{A:List AV}{S:List α}{e:Bool}(hb:b<H0.nx)(hn:S.length<900000)(hg:H0.get b=aB q (A++(S.flatMap f)++[])){Q:pL}{qe:pH}{qr:pD}(hr:∀ w H,CpO f H0 b q A (iG S) w e H->Ok (qr w H) Q)(hq:iG S=S->Ok (qe H0) Q):∀(k i:Nat),0<i->i<=S.length->S.length-i<k->(∀p,p<i->qju S p=true)->Ok (qpt O z e0 zs qr qe (.sl b A.length S.length S.length e) k (iN i) H0) Q
 |0,i,_,_,h,_=>by omega
 |k+1,i,h0,hi,hk,hp=>by
  show Ok (zmp O z e0 zs _ _ _ (qpt O z e0 zs _ _ _ k) _ H0) Q;unfold zmp;by_cases hlt:i<S.length
  ·have hlt2:i-1<S.length:=by omega
   unfold q5s;have r1:=qp0 hw.len q A [] S hlt;have r2:=qp0 hw.len q A [] S hlt2;rw[uh]at r1 r2;have hg':H0.get b=aB q (A++(S.flatMap f)):=by rw[hg,uh]
   have hke:qju S i= !decide (S[i]=S[i-1]):=by unfold qju;rw[qi (show ¬i=0 by omega),Bool.false_or,lh hlt,lh hlt2];simp
   by_cases hd:S[i]=S[i-1]
   ·have hdt:=dh hd;have hsl:=q7v z b A.length S.length i e hlt;rw[gp hd]at hke;have hsucc:=qw5 S hlt;rw[hke]at hsucc;have hall:=qw6 (yw hlt) hp;have hdd:lK S (i+1)=S.take i:=by rw[hsucc,hall];simp
    have hl1:(lK S (i+1)).length=i:=by rw[hdd,qo];omega
    simp(disch:=go_size)only[go_sem,rB,rI,rK,rL,rN,rS,r6,hlt,hlt2,hg',r1,r2,hw.eq,hdt,hsl];unfold q5v;rw[dB];have main:=qz1 hw (O:=O) (Q:=Q) (e:=e) (qe:=fun x3 H=>qfx O z e0 zs qr (.sl b A.length S.length S.length e) x3 H) hb (k0:=i) (S:=S) (A:=A) (q:=q) ⟨h0,hlt⟩ hn (fun H cur hc hgc ht hl hp0 fm hx=>by
     unfold qfx;have s1:=q7v z b A.length S.length (iG S).length e hl;have s2:=zru z b A.length S.length (iG S).length e (by omega) (by omega);have hz:¬ S.length-(iG S).length=0:=by omega
     have hcl:qik zs H (.sl b (A.length+(iG S).length*z) (S.length-(iG S).length) (S.length-(iG S).length) e)=.ok .undef (H.put b (aB q (A++((iG S).flatMap f)++aV zs (S.length-(iG S).length)))):=by
      show(bif Nat.beq (S.length-(iG S).length) 0 then _ else storeAt H b (A.length+(iG S).length*z) (aV zs (S.length-(iG S).length)) .undef)=_;rw[beq_eq,qi hz,zh];have hrl:∀ n,(aV zs n).length=n*z:=fun n=>by
       induction n with
       |zero=>exact(lAL z).symm
       |succ n ih=>show(_++aV _ n).length=_;rw[lq,ih,hw.zl,Nat.succ_mul];omega
      have hsm:=Nat.sub_mul S.length (iG S).length z;have hml:=uz z (yw hl);have hcn:=qc9 hw.len cur;rw[hc]at hcn;have bZ8:=qc9 hw.len (iG S);have hsplit:(cur.flatMap f)=((iG S).flatMap f)++((cur.drop (iG S).length).flatMap f):=by
       rw[<-uA];congr 1
       conv=>lhs;rw[<-bg (iG S).length cur,ht]
      rw[qch H b _ _ _ q _ hgc (by rw[lq,lq,hrl,uo];omega)];congr 3;unfold bD;rw[hsplit,uh,<-qw,List.take_left' (by rw[lq];omega),hrl];rw[vk (by rw[lq,lq,qc9 hw.len,qc9 hw.len,xg,hc];omega),uh]
     simp(disch:=go_size)only[go_sem,rB,rI,rK,rL,rN,rS,r6,s1,hcl,s2];exact hr _ _ ⟨⟨S.length,_,rfl,by omega,by omega,dS _ _ _⟩,fm.put _ _ fun _=>rfl,hx⟩) bX 1 H0 S (lg _) (by omega) (by rw[dI];omega) rfl hg (fun _ _ _ _=>rfl) (by rw[hl1,hdd]) (by omega) (by omega) (Fm.refl _ _) rfl
    simp_all
   ·rw[qi hd]at hke;simp(disch:=go_size)only[go_sem,rB,rI,rK,rL,rN,rS,r6,hlt,hlt2,hg',r1,r2,hw.eq,hd];unfold zmo;simp(disch:=go_size)only[go_sem,rB,rI,rK,rL,rN,rS,r6];refine q9v hw hb hn hg hr hq k (i+1) (by omega) (by omega) (by omega) fun p hpi=>?_;by_cases he:p=i
    ·simp_all
    ·exact hp p (by omega)
  ·simp only[go_sem,hlt];refine hq ?_;have:=qw6 (lg S.length) fun p hpi=>hp p (by omega);rw[uj]at this;exact this
theorem zw6(hw:CpW z f e0 zs){O:Ev.Call}{H:Hp}{b q:Nat}{A:List AV}{S:List α}{e:Bool}(hb:b<H.nx)(hn:S.length<900000)(h0:0<S.length)(hg:H.get b=aB q (A++S.flatMap f++[])):Ok (zbw O z e0 zs (.sl b A.length S.length S.length e) H) fun w H'=>CpO f H b q A (iG S) w e H':=by
 unfold zbw;have same:iG S=S->CpO f H b q A (iG S) (.sl b A.length S.length S.length e) e H:=fun h=>by rw[h];exact⟨⟨S.length,[],rfl,lg _,h0,hg⟩,Fm.refl _ _,rfl⟩
 have k0:qju S 0=true:=rfl;by_cases h:S.length<2
 ·simp only[go_sem,h];refine Ok.ret (same ?_);have:=qw6 (S:=S) (lg S.length) fun p hp=>by
   obtain rfl:p=0:=by omega
   exact k0
  rw[uj]at this;exact this
 ·simp only[go_sem,h];unfold q5q zmq;rw[dB];refine q9v hw hb hn hg (fun w H' h=>Ok.ret h) (fun h=>?_) bX 1 (by omega) (by omega) (by rw[dI];omega) (fun p hp=>by
   obtain rfl:p=0:=by omega
   exact k0)
  exact Ok.ret (same h)
abbrev ceE(S:List Edge):List AV:=S.flatMap Edge.cells
theorem cells3(e:Edge):e.cells.length=3:=rfl
theorem q51(S:List Edge):(ceE S).length=S.length*3:=qc9 cells3 S
theorem ztk(neg:Bool)(x y:Edge):mF neg (dQ (eqFields [(p1,⟨qqf⟩,0),(p1,⟨qqf⟩,1),(p1,⟨qhw⟩,2)]) (.agg x.cells) (.agg y.cells))=.val (.bool (bif neg then !decide (x=y)else decide (x=y))):=by
 have e:dQ (eqFields [(p1,⟨qqf⟩,0),(p1,⟨qqf⟩,1),(p1,⟨qhw⟩,2)]) (.agg x.cells) (.agg y.cells)=some (decide (x=y)):=by
  show andThen (some (rD (.ofNat x.f) (.ofNat y.f))) (andThen (some (rD (.ofNat x.t) (.ofNat y.t))) (andThen (some (x.s==y.s)) (some true)))=_;obtain⟨a,b,c⟩:=x;obtain⟨d,e,f⟩:=y;simp only[qfc,q8q];by_cases h1:a=d
  ·by_cases h2:b=e
   ·cases c<;>cases f<;>simp[andThen,h1,h2]
   ·simp[andThen,h1,h2]
  ·simp[andThen,h1]
 rw[e];rfl
theorem aVx:CpW 3 Edge.cells zY zB:=⟨cells3,by decide,ztk,rfl⟩
theorem zcj(hC:aW C){k:Nat}(hk:1<=k){H:Hp}{b q:Nat}{A:List AV}{S:List Edge}{e:Bool}(hb:b<H.nx)(hn:S.length<900000)(h0:0<S.length)(hg:H.get b=aB q (A++ceE S++[])):Ok (C k (.f 116) [.sl b A.length S.length S.length e] H) fun w H'=>CpO Edge.cells H b q A (iG S) w e H':=by obtain⟨j,rfl⟩:=aS hk;rw[(hC j).zCb];exact zw6 aVx hb hn h0 hg
end Go.Di
end
section
namespace Go.Di
open Go.Ev
variable {C:Nat->Ev.Call}
structure bDa(c:Ev.Call):Prop where
 srt:∀(H:Hp) (v:AV) (es:List Edge),Gl 3 H v es.length (ceE es)->es.length<=1000000->Ok (c (.f 114) [v,.fn 113 [] []] H) fun r H'=>r=.aX []/\Gl 3 H' v es.length (ceE (sortE es))/\Fm (In v) H H'
abbrev qf5(C:Nat->Ev.Call):Prop:=∀ k,bDa (C (k+1))
theorem q99(hC:aW C){k:Nat}(hk:1<=k){H:Hp}{b o n m:Nat}{e:Bool}(hnm:n<=m):C k (.f 115) [.sl b o n m e] H=.ok (.sl b o n n true) H:=by
 obtain⟨j,rfl⟩:=aS hk;rw[(hC j).zCc];unfold zCc zzf;have e1:kM 3 (.sl b o n m e) none (some (iN n)) (some (iN n))=.val (.sl b o n n true):=by
  show(match bounds n m none (some (iN n)) (some (iN n))with|some bd=>iD b o 3 bd true|none=>R0.bad)=_;have:bounds n m none (some (iN n)) (some (iN n))=some ⟨0,n,n⟩:=by show(match(bif Nat.ble n m then some n else none)with|none=>none|some m'=>match(bif Nat.ble n m' then some n else none)with|none=>none|some h=>match(some 0:Option Nat)with|none=>none|some l=>some (Bd.mk l h m'))=_;rw[ble_eq,gp hnm];simp only[qy,ble_eq,gp (lg n)]
  rw[this];unfold iD;simp only[beq_eq];by_cases hn:n=0
  ·subst hn;rfl
  ·simp_all
 simp only[go_sem,e1]
theorem znp(hC:aW C){k:Nat}(hk:1<=k){H:Hp}:C k (.f 115) [.aA] H=.ok .aA H:=by obtain⟨j,rfl⟩:=aS hk;rw[(hC j).zCc];rfl
theorem za7(hC:aW C)(hS:qf5 C){k:Nat}(hk:2<=k){H:Hp}{v:AV}{es:List Edge}(hv:Gl 3 H v es.length (ceE es))(hn:es.length<900000):Ok (C k (.f 88) [v] H) fun w H'=>kP H' w (iG (sortE es))/\gW w=.val (iN ((iG (sortE es)).length))/\Fm (In v) H H'/\(w=.aA\/∃ b o n m e,w=.sl b o n m e)/\∀ c,In w c->In v c:=by
 obtain⟨j,rfl⟩:∃ j,k=j+1+1:=⟨k-2,by omega⟩;rw[(hC (j+1)).zBn];refine Ok.ve ((hS j).srt H v es hv (by omega)) ?_;rintro _ H1 ⟨rfl,g1,f1⟩;rcases g1.is with⟨rfl,h0⟩|⟨b,o,e,q,L,rfl,h1,h2,h3,h4,h5⟩
 ·have hes:es=[]:=ry.1 h0;subst hes;have hcp:C (j+1) (.f 116) [.aA] H1=.ok .aA H1:=by
   rw[(hC j).zCb];rfl
  have hcl:=znp hC (k:=j+1) (by omega) (H:=H1);simp only[go_sem,hcp,hcl];have hz:iG (sortE [])=[]:=by simp[iG,lK,sortE]
  rw[hz];exact Ok.ret ⟨⟨rfl,rfl,(fun b hb=>by obtain⟨_,_,_,_,h⟩:=hb;cases h),(fun i hi=>by simp at hi)⟩,rfl,f1,.inl rfl,fun _ h=>h⟩
 ·by_cases h0:0<es.length
  ·have hA:L=L.take o++ceE (sortE es)++[]:=by rw[<-h3,bg,uh]
   have hAl:(L.take o).length=o:=by rw[qo];omega
   have hsl:=qyg es;have hcp:=zcj hC (k:=j+1) (by omega) (H:=H1) (b:=b) (q:=q) (A:=L.take o) (S:=sortE es) (e:=e) h5 (by omega) (by omega) (by rw[<-hA];exact h1);rw[hAl,hsl]at hcp;refine Ok.ve hcp ?_;rintro w H2 hw;obtain⟨m,Z,rfl,hm,hm0,hg2⟩:=hw.is;have hcl:=q99 hC (k:=j+1) (by omega) (H:=H2) (b:=b) (o:=(L.take o).length) (e:=e) hm;simp only[go_sem,hcl];have hx:=hw.nx;refine Ok.ret ⟨⟨rfl,rfl,fun c hc=>?_,fun i hi=>⟨b,(L.take o).length+i*3,sV _ _ _ _ _ _ _ _ hi,by omega,?_⟩⟩,rfl,?_,.inr ⟨_,_,_,_,_,rfl⟩,fun c hc=>by obtain⟨_,_,_,_,hc⟩:=hc;injection hc with hc;subst hc;exact⟨_,_,_,_,rfl⟩⟩
   ·obtain⟨_,_,_,_,hc⟩:=hc;injection hc with hc;omega
   ·rw[hg2];exact qp0 cells3 q _ _ _ hi
   ·exact f1.then hw.fm fun c _ h=>by subst h;exact⟨_,_,_,_,rfl⟩
  ·have hes:es=[]:=ry.1 (by omega);subst hes;have hcp:C (j+1) (.f 116) [.sl b o 0 0 e] H1=.ok (.sl b o 0 0 e) H1:=by
    rw[(hC j).zCb];rfl
   have hcl:=q99 hC (k:=j+1) (by omega) (H:=H1) (b:=b) (o:=o) (n:=0) (m:=0) (e:=e) (lg _);simp only[go_sem,hcp,hcl];have hz:iG (sortE [])=[]:=by simp[iG,lK,sortE]
   rw[hz];exact Ok.ret ⟨⟨rfl,rfl,(fun c hc=>by obtain⟨_,_,_,_,h⟩:=hc;injection h with h;omega),(fun i hi=>by simp at hi)⟩,rfl,f1,.inr ⟨_,_,_,_,_,rfl⟩,fun c hc=>by obtain⟨_,_,_,_,hc⟩:=hc;injection hc with hc;subst hc;exact⟨_,_,_,_,rfl⟩⟩
structure NbI(H0 H:Hp)(nb mb:Nat)(ps:List (SS×SS)):Prop where
 n:H.get nb=aB 0 [.map mb]
 m:jE H mb ps
 o:H0.nx<=mb/\mb<nb/\nb<H.nx
 fm:Fm No H0 H
theorem qst{O:Ev.Call}{H0:Hp}{sv:AV}{nb mb pb:Nat}{X:List aN}(hX:bS H0 sv X)(hN:(aJ X).Nodup)(hP:vG X){s:Nat}(hs:s<X.length){Q:pL}{q:pH}(hq:∀ H,NbI H0 H nb mb ((dA X s++X[s].gs.map fun x=>(X[s].name,x)).map kq)->Ok (q H) Q):∀(k i:Nat) (H:Hp),i<=X[s].gs.length->X[s].gs.length-i<k->NbI H0 H nb mb ((dA X s++(X[s].gs.take i).map fun x=>(X[s].name,x)).map kq)->H.get pb=aB 0 [.str X[s].name.n X[s].name.a,X[s].rv]->nb<pb->pb<H.nx -> Ok (qma O q (.ptr nb 0) (.ptr pb 0) X[s].rv (iN (X[s].gs.length)) k (iN i) H) Q
 |0,i,_,_,h,_,_,_,_=>by omega
 |k+1,i,H,hi,hk,hI,hp,hpn,hpl=>by
  show Ok (qu2 O _ _ _ _ _ (qma O _ _ _ _ _ k) _ H) Q;unfold qu2;obtain⟨o1,o2,o3⟩:=hI.o;by_cases hlt:i<X[s].gs.length
  ·simp only[go_sem,hlt];unfold q64;have h1:=hX.fm hI.fm;have hsp:=h1.sp _ (lu hs);obtain⟨b1,o1',e1,e2,_,_,_,e6⟩:=hsp.at' i hlt;obtain⟨c0,c1,c2,c3,_,hrc⟩:=qfm (hsp.rel _ (lu hlt));rw[hrc]at e6;have aBJ:=(hP.r _ (lu hs)).1;obtain⟨H1,hH1⟩:∃ H1,H1=(aO H (aB 0 [.str 0 0,.aA,.int .u8 (.ofNat 0),.str 0 0,.str 0 0,.aA])).put H.nx (aB 0 [.str X[s].gs[i].r.name.n X[s].gs[i].r.name.a,X[s].gs[i].tv,c0,c1,c2,c3]):=⟨_,rfl⟩;have fp:Fm No H H1:=by rw[hH1];exact oJ
   have n1:H1.nx=H.nx+1:=by rw[hH1];rfl
   have k1:=(fp.keep o3).trans hI.n;have k2:=(fp.keep hpl).trans hp;have m1:jE H1 mb ((dA X s++(X[s].gs.take i).map fun x=>(X[s].name,x)).map kq):=hI.m.eq (fp.keep (by omega));obtain⟨kk,eu,mu⟩:=m1.bAp X[s].name X[s].gs[i].r.name (qwd hN hs hlt);have hlm:=m1.len;have hn0:=hI.n;rw[hH1,qc]at hlm eu;simp(disch:=go_size)only[go_sem,rB,rI,rK,rL,rN,rS,r6,e1,e6,hn0,hp,hlm,eu];rw[<-hH1];unfold q65;simp(disch:=omega)only[go_sem];refine qst hX hN hP hs hq k (i+1) (H1.put mb kk) (by omega) (by omega) ⟨?_,?_,⟨o1,o2,show nb<H1.nx by omega⟩,(hI.fm.trans fp).aF _ _ o1⟩ ?_ hpn (show pb<H1.nx by omega)
   ·rw[dG _ _ _ _ (by omega)];exact k1
   ·have hx:(dA X s++(X[s].gs.take (i+1)).map fun x=>(X[s].name,x)).map kq=(dA X s++(X[s].gs.take i).map fun x=>(X[s].name,x)).map kq++[(X[s].name,X[s].gs[i].r.name)]:=by
     have h1:((X[s].gs.take (i+1)).map fun x=>(X[s].name,x))=((X[s].gs.take i).map fun x=>(X[s].name,x))++[(X[s].name,X[s].gs[i])]:=by rw[ku hlt,ui];rfl
     rw[h1,<-qw,ui];rfl
    simp_all
   ·rw[dG _ _ _ _ (by omega)];exact k2
  ·simp only[go_sem,hlt];have he:i=X[s].gs.length:=by omega
   simp_all
theorem qsu{O:Ev.Call}{H0:Hp}{sv:AV}{nb mb:Nat}{X:List aN}(hX:bS H0 sv X)(hN:(aJ X).Nodup)(hP:vG X){Q:pL}{q:pH}(hq:∀ H,NbI H0 H nb mb (aJ X)->Ok (q H) Q):∀(k s:Nat) (H:Hp),s<=X.length->X.length-s<k->NbI H0 H nb mb ((dA X s).map kq) -> Ok (qi6 O q (.ptr nb 0) sv (iN (X.length)) k (iN s) H) Q
 |0,i,_,_,h,_=>by omega
 |k+1,s,H,hi,hk,hI=>by
  show Ok (qu3 O _ _ _ _ (qi6 O _ _ _ _ k) _ H) Q;unfold qu3;obtain⟨o1,o2,o3⟩:=hI.o;have hn:=hP.n;by_cases hlt:s<X.length
  ·simp only[go_sem,hlt];unfold q63;have h1:=hX.fm hI.fm;obtain⟨b1,o1',e1,e2,_,e3,_⟩:=h1.rs.at' s hlt;unfold pX SS.v at e3;have hl:=(h1.sp _ (lu hlt)).len;have aBJ:=(hP.r _ (lu hlt)).1;have fp:Fm No H ((aO H (aB 0 [.str 0 0,.aA])).put H.nx (aB 0 [.str X[s].name.n X[s].name.a,X[s].rv])):=by exact oJ
   simp(disch:=first|omega|exact ti rfl)only[go_sem,seval,e1,e3,hl];unfold q7a;rw[dB];refine qst hX hN hP hlt (pb:=H.nx) (fun H2 hI2=>?_) bX 0 _ (gq _) (by rw[dI];omega) ⟨(fp.keep o3).trans hI.n,?_,⟨o1,o2,by simp only[np,nq];omega⟩,hI.fm.trans fp⟩ (dS _ _ _) o3 (by simp only[np,nq];omega)
   ·unfold qu1;simp(disch:=omega)only[go_sem];refine qsu hX hN hP hq k (s+1) H2 (by omega) (by omega) ?_;have hx:dA X (s+1)=dA X s++X[s].gs.map fun x=>(X[s].name,x):=by
     unfold dA fD;rw[ku hlt,uA,uB]
    simp_all
   ·rw[dE,lA8,uh];exact hI.m.eq (fp.keep (by omega))
  ·simp only[go_sem,hlt];have he:s=X.length:=by omega
   refine hq H ?_;have:dA X X.length=fD X:=by unfold dA;rw[uj]
   rw[he,this,yA]at hI;exact hI
end Go.Di
end
