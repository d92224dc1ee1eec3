/-
 For FitsCheck: functions in direct style, their contracts, and the plain mathematics, part 5 of 9. No conditions beyond those that each theorem states.
-/
import Derived.Test.YtbfjjkjiokfdgaaGreatConD
set_option linter.unusedSimpArgs false
set_option linter.unusedVariables false
open Nat renaming reduceAdd->rB,reduceMul->rI,reduceSub->rK,reduceLeDiff->rL,reduceEqDiff->rN,reduceShiftRight->rS,reduceAnd->r6
section
namespace Go.Di
open Go.Ev
variable {C:Nat->Ev.Call}
structure eT(X:List aS):Prop where
 pr:uM X
 al:(aQ X).Nodup
 sp:(X.map aS.name).Nodup
 ty:∀ g∈X,∀x∈g.gs,x.r.types.Nodup/\∀ t∈x.r.types,t.sp∈X.map aS.name/\(t.rl=sE\/(t.sp,t.rl)∈aQ X)
 nd:∀ g∈X,∀x∈g.gs,∀y∈x.r.rule.nodes false,(y.k=2\/y.k=3->(g.name,y.rl)∈aQ X)/\(y.k=3->tH X g.name y.rl y.to≠[])
 us:∀ g∈X,∀x∈g.gs,((x.r.rule.nodes false).any (fun n=>decide (n.k=1))=true->x.r.types≠[])/\((x.r.rule.nodes false).any (fun n=>decide (n.k=1))=false->x.r.types≠[]->(g.gs.any fun z=>eP z.r.rule 3 x.r.name)=true)
theorem qh0{X:List aS}{a:SS}{x:aX}:(a,x)∈eO X↔∃ g∈X,x∈g.gs/\g.name=a:=by
 unfold eO;rw[List.mem_flatMap];constructor
 ·rintro ⟨g,hg,h⟩;rw[List.mem_map]at h;obtain⟨y,hy,e⟩:=h;injection e with e1 e2;subst e2;exact⟨g,hg,hy,e1⟩
 ·simp
theorem qik{X:List aS}{a b:SS}:(a,b)∈aQ X↔∃ g∈X,∃x∈g.gs,g.name=a/\x.r.name=b:=by
 rw[<-vZ,List.mem_map];constructor
 ·rintro ⟨⟨a',x⟩,h,e⟩;injection e with e1 e2;subst e1;obtain⟨g,hg,hx,e⟩:=qh0.1 h;exact⟨g,hg,x,hx,e,e2⟩
 ·rintro ⟨g,hg,x,hx,rfl,rfl⟩;exact⟨(g.name,x),qh0.2 ⟨g,hg,hx,rfl⟩,rfl⟩
theorem qm5{α β:Type}{f:α->β}:∀{l:List α},(l.map f).Nodup->∀{x y:α},x∈l->y∈l->f x=f y->x=y
 | [],_,_,_,h,_,_=>by cases h
 |a::l,hn,x,y,hx,hy,e=>by
  rw[List.map_cons,List.nodup_cons]at hn;rcases List.mem_cons.1 hx with h1|h1
  ·rcases List.mem_cons.1 hy with h2|h2
   ·rw[h1,h2]
   ·exact absurd (by rw[<-h1,e];exact List.mem_map_of_mem h2) hn.1
  ·rcases List.mem_cons.1 hy with h2|h2
   ·simp_all
   ·exact qm5 hn.2 h1 h2 e
theorem qne{α:Type}[DecidableEq α]{l:List α}(h:l.Nodup){i:Nat}(hi:i<l.length):(l.findIdx fun q=>decide (q=l[i]))=i:=by rw[List.findIdx_eq hi];refine⟨by simp,fun j hj=>?_⟩;have:=List.pairwise_iff_getElem.1 h j i (by omega) hi hj;simp_all
theorem qep{X:List aS}(hal:(aQ X).Nodup)(hsp:(X.map aS.name).Nodup){a b:SS}(h:(a,b)∈aQ X):∃ x,lZ X a b=some x/\(eO X)[cK X a b]? =some (a,x):=by
 obtain⟨g,hg,x,hx,rfl,rfl⟩:=qik.1 h;have h1:X.find? (fun p=>decide (p.name=g.name))=some g:=by
  cases hf:X.find? (fun p=>decide (p.name=g.name))with
  |none=>rw[List.find?_eq_none]at hf;exact absurd (hf g hg) (by simp)
  |some p=>
   have e:p.name=g.name:=by simpa using List.find?_some hf
   rw[qm5 hsp (List.mem_of_find?_eq_some hf) hg e]
 obtain⟨y,h2⟩:∃ y,g.gs.find? (fun z=>decide (z.r.name=x.r.name))=some y:=by
  cases hf:g.gs.find? (fun z=>decide (z.r.name=x.r.name))with
  |none=>rw[List.find?_eq_none]at hf;exact absurd (hf x hx) (by simp)
  |some y=>exact⟨y,rfl⟩
 have hfg:lZ X g.name x.r.name=some y:=by unfold lZ;rw[h1];exact h2
 have hy:y.r.name=x.r.name:=by simpa using List.find?_some h2
 refine⟨y,hfg,?_⟩;have hm:(g.name,y)∈eO X:=qh0.2 ⟨g,hg,List.mem_of_find?_eq_some h2,rfl⟩;obtain⟨n,hn,e⟩:=List.getElem_of_mem hm;have hln:(eO X).length=(aQ X).length:=by rw[<-vZ,List.length_map]
 have hk:(aQ X)[n]'(by omega)=(g.name,x.r.name):=by
  have e2:(aQ X)[n]? =some (kq (eO X)[n]):=by rw[<-vZ,List.getElem?_map,List.getElem?_eq_getElem hn];rfl
  rw[List.getElem?_eq_getElem (by omega)]at e2;injection e2 with e2;rw[e2,e];show(g.name,y.r.name)=_;rw[hy]
 have aUk:cK X g.name x.r.name=n:=by have:=qne hal (i:=n) (by omega);rw[hk]at this;exact this
 rw[aUk,List.getElem?_eq_getElem hn,e]
theorem qgf{X:List aS}(hal:(aQ X).Nodup)(hsp:(X.map aS.name).Nodup)(a b:SS):(lZ X a b).isSome=decide ((a,b)∈aQ X):=by
 by_cases h:(a,b)∈aQ X
 ·obtain⟨x,h1,_⟩:=qep hal hsp h;simp_all
 ·rw[decide_eq_false h];cases hf:lZ X a b with
  |none=>rfl
  |some x=>obtain⟨p,hp,hx,e1,e2⟩:=qk0 hf;exact absurd (qik.2 ⟨p,hp,x,hx,e1,e2⟩) h
theorem zm5(a b:Nat):qnm (.ptr a b) .cB=some false:=id rfl
theorem zm6:qnm .cB .cB=some true:=id rfl
theorem q68(n b:Bool):oL n (some b)=.val (.bool (bif n then !b else b)):=id rfl
attribute [go_sem] zm5 zm6 q68
theorem qgi(hC:aZ C){k:Nat}(hk:1<=k){H:Hp}{ib:Nat}{sv:AV}{X:List aS}(hI:vY H ib sv X)(hal:(aQ X).Nodup)(hsp:(X.map aS.name).Nodup){a b:SS}(h:(a,b)∈aQ X):∃q x,lZ X a b=some x/\C k (.f 111) [.ptr ib 0,.str a.n a.a,.str b.n b.a] H=.ok (.ptr q.1 q.2) H/\PtR H q x:=by
 obtain⟨j,rfl⟩:=aW hk;obtain⟨x,hf,hx⟩:=qep hal hsp h;obtain⟨mb,nb,av,iv,qs,h1,h2,h3,h4,h5,h6,h7,h8,h9,l1,l2⟩:=hI.ex;have hlt:=zqb h;have hln:(eO X).length=(aQ X).length:=by rw[<-vZ,List.length_map]
 have hq:cK X a b<qs.length:=by omega
 obtain⟨b1,o1,e1,e2,_,_,e4⟩:=h4.at' _ hq;have r0:dO (H.get b1) o1=.val (.ptr qs[cK X a b].1 qs[cK X a b].2):=e4 0 (by rw[q0o];omega);refine⟨qs[cK X a b],x,hf,?_,?_⟩
 ·rw[(hC j).zBx];unfold zBx zjz;have em:=h3.find (iN 0) a b h;have hnx:(List.findIdx (fun q=>decide (q=(a,b))) (aQ X))=cK X a b:=rfl;rw[hnx]at em;simp(disch:=first|omega|exact ti rfl|(simp only[np,nq];first|done|omega))only[go_sem,rB,rI,rK,rL,rN,rS,r6,h1,em];unfold q99;simp only[go_sem,h1,e1,r0]
 ·have:=h9 _ hq (by omega);simp_all
theorem zn4(hC:aZ C){k:Nat}(hk:1<=k){H:Hp}{ib:Nat}{sv:AV}{X:List aS}(hI:vY H ib sv X){a b:SS}(h:(a,b)∉aQ X):C k (.f 111) [.ptr ib 0,.str a.n a.a,.str b.n b.a] H=.ok .cB H:=by obtain⟨j,rfl⟩:=aW hk;obtain⟨mb,nb,av,iv,qs,h1,h2,h3,h4,h5,h6,h7,h8,h9,l1,l2⟩:=hI.ex;rw[(hC j).zBx];unfold zBx zjz;have em:=h3.miss (iN 0) a b h;simp(disch:=first|omega|exact ti rfl|(simp only[np,nq];first|done|omega))only[go_sem,rB,rI,rK,rL,rN,rS,r6,h1,em]
theorem qs5(hC:aZ C){j:Nat}(hj:1<=j){H0:Hp}{ib:Nat}{sv tv:AV}{X:List aS}(hI:vY H0 ib sv X)(hal:(aQ X).Nodup)(hsp:(X.map aS.name).Nodup){ts:List iP}(ht:Rs 2 tC H0 tv ts)(htl:ts.length<=1000)(to:SS){Q:pL}{q:pD}(hq:∀ w H,Ac 1 sC H0 H w (tgL X to ts)->Ok (q w H) Q):∀(k i:Nat) (w:AV) (H:Hp),i<=ts.length->ts.length-i<k->Ac 1 sC H0 H w (tgL X to (ts.take i)) -> Ok (quf (C j) q (.ptr ib 0) to.v tv (iN (ts.length)) k w (iN i) H) Q
 |0,i,_,_,_,h,_=>by omega
 |k+1,i,w,H,hi,hk,hw=>by
  show Ok (q98 (C j) _ _ _ _ _ (quf (C j) _ _ _ _ _ k) _ _ H) Q;unfold q98;by_cases hlt:i<ts.length
  ·simp only[go_sem,hlt];unfold q97;have ht1:=ht.fm hw.fm;obtain⟨b1,o1,e1,e2,_,e3,_⟩:=ht1.at' i hlt;unfold tC SS.v at e3;have hs:=zla X to hlt;have hll:=qz7 X to (ts.take i);rw[List.length_take]at hll;have skip:∀ H3,Fm No H H3->tgP X to ts[i]=false->Ok (qlq (C j) (quf (C j) q (.ptr ib 0) (.str to.n to.a) tv (iN (ts.length)) k) w (iN i) H3) Q:=fun H3 f3 h=>by
    unfold qlq;simp(disch:=first|omega|exact ti rfl|(simp only[np,nq];first|done|omega))only[go_sem,rB,rI,rK,rL,rN,rS,r6];refine qs5 hC hj hI hal hsp ht htl to hq k (i+1) w H3 (by omega) (by omega) ?_;rw[hs,h];simpa using hw.no f3
   have f2:Fm No H ((aT H (aD 0 [.str 0 0,.str 0 0])).put H.nx (aD 0 [.str ts[i].sp.n ts[i].sp.a,.str ts[i].rl.n ts[i].rl.a])):=by exact nH
   have hI2:=(hI.fm hw.fm).fm f2;unfold SS.v;unfold tgP at skip hs;by_cases h1:ts[i].rl.n=0/\ts[i].rl.a=0
   ·have h1':ts[i].rl=sE:=(qP _ _).2 h1;have h1t:=eq_true h1;rw[decide_eq_true h1',qgf hal hsp]at skip hs;by_cases hin:(ts[i].sp,to)∈aQ X
    ·obtain⟨qq,x,_,ec,_⟩:=qgi hC (k:=j) hj hI2 hal hsp hin;rw[decide_eq_true hin]at hs;simp(disch:=first|omega|exact ti rfl|(simp only[np,nq];first|done|omega))only[go_sem,seval,e1,e3,h1t,ec];refine Ok.ve ((hw.no (f2.trans (by(repeat(first|exact Fm.refl _ _|assumption|refine Fm.push ?_ _|refine Fm.oK ?_ (by(first|omega|(simp only[np,nq];omega)))|refine Fm.aG ?_ _ _ (by(first|omega|(simp only[np,nq];omega)))))))).add ts[i].sp 16 rfl (by omega) (by omega)) ?_;intro w4 H4 hw4;unfold qlq;simp(disch:=first|omega|exact ti rfl|(simp only[np,nq];first|done|omega))only[go_sem,rB,rI,rK,rL,rN,rS,r6];refine qs5 hC hj hI hal hsp ht htl to hq k (i+1) w4 H4 (by omega) (by omega) ?_;simp_all
    ·have ec:=zn4 hC (k:=j) hj hI2 hin;rw[decide_eq_false hin]at skip;simp(disch:=first|omega|exact ti rfl)only[go_sem,seval,e1,e3,h1t,ec];simp_all
   ·rw[decide_eq_false (fun h=>h1 ((qP _ _).1 h))]at skip;simp(disch:=first|omega|exact ti rfl)only[go_sem,seval,e1,e3,h1];simp_all
  ·simp only[go_sem,hlt];have he:i=ts.length:=by omega
   simp_all
theorem zn9(hC:aZ C){k:Nat}(hk:1<=k){n:Nat}{H:Hp}{v:AV}{l:List AV}(h:Gl 1 H v n l):∃w,C k (.f 143) [v] H=.ok w H/\Gl 1 H w n l/\(∀b,In w b->In v b):=by obtain⟨j,rfl⟩:=aW hk;obtain⟨w,e,h1,h2,h3⟩:=h.clip;refine⟨w,?_,h1,h3⟩;rw[(hC j).zCq];unfold zCq zr7;simp only[go_sem,h.dD,e]
theorem qny(hC:aZ C){k:Nat}(hk:2<=k){H:Hp}{ib:Nat}{sv:AV}{X:List aS}(hX:dH H sv X)(hS:vT X)(hI:vY H ib sv X)(hal:(aQ X).Nodup)(hsp:(X.map aS.name).Nodup)(a b to:SS)(hab:(a,b)∈aQ X):Ok (C k (.f 112) [.ptr ib 0,.str a.n a.a,.str b.n b.a,.str to.n to.a] H) fun r H'=>Ac 1 sC H H' r (tH X a b to):=by obtain⟨j,rfl⟩:=aW hk;rw[(hC j).zBy];unfold zBy zsm;obtain⟨q,x,hf,ec,hp⟩:=qgi hC (k:=j) (by omega) hI hal hsp hab;have rt:=hp.tv;obtain⟨p,hp1,hx,_,_⟩:=qk0 hf;have hty:=((hX.sp p hp1).rel x hx).ty;have htl:=hS.t p hp1 x hx;have hl:=hty.len;simp only[go_sem,ec,rt,hl];unfold zpf;rw[dK];refine qs5 hC (by omega) hI hal hsp hty (by omega) to (fun w H2 hw=>?_) cZ 0 .aA H (Nat.zero_le _) (by rw[dM];omega) (Ac.nil _ _ (Fm.refl _ _));unfold q17;obtain⟨w',e,g,hi⟩:=zn9 hC (k:=j) (by omega) hw.gl;simp only[go_sem,e];unfold tH;rw[hf];exact Ok.ret ⟨g,hw.fm,fun c hc=>hw.nw c (hi c hc)⟩
theorem qwu(n m i:Nat)(h:i<=m):bounds n m none (some (iN i)) none=some ⟨0,i,m⟩:=by show(match(bif Nat.ble i m then some i else none)with|none=>none|some h=>match(some 0:Option Nat)with|none=>none|some l=>some (Bd.mk l h m))=_;rw[ble_eq,decide_eq_true h];rfl
theorem Rs.pre{α:Type}{z:Nat}{f:α->List AV}{H:Hp}{v:AV}{l:List α}(h:Rs z f H v l)(hc:v=.aA\/∃ b o n m e,v=.sl b o n m e/\n<=m/\0<n){i:Nat}(hi:i<l.length):∃w,lC z v none (some (iN i)) none=.val w/\Rs z f H w (l.take i):=by
 have hl:=h.len;rcases hc with rfl|⟨b,o,n,m,e,rfl,hnm⟩
 ·exfalso;have:l.length=0:=by
   have h1:aF .aA=R0.val (iN 0):=rfl;injection hl with hl;injection hl with _ hl;injection hl with hl;omega
  omega
 ·have hn:n=l.length:=by
   have h1:aF (.sl b o n m e)=R0.val (iN n):=rfl;injection hl with hl;injection hl with _ hl;injection hl
  subst hn;have e1:lC z (.sl b o l.length m e) none (some (iN i)) none=gY b o z ⟨0,i,m⟩ e:=by show(match bounds l.length m none (some (iN i)) none with|some bd=>gY b o z bd e|none=>R0.bad)=_;rw[qwu _ _ _ (by omega)]
  have e2:gY b o z ⟨0,i,m⟩ e=.val (.sl b o i m e):=by unfold gY;simp only[beq_eq];rw[decide_eq_false (by omega),cond_false];simp
  refine⟨.sl b o i m e,e1.trans e2,?_,fun j hj=>?_⟩
  ·rw[List.length_take,Nat.min_eq_left (by omega)];rfl
  ·have hj':j<i:=by rw[List.length_take]at hj;omega
   obtain⟨b',o',i1,i2,i3,i4,i5⟩:=h.at' j (by omega);rw[sP _ _ _ _ _ _ _ _ (by omega)]at i1;injection i1 with i1;injection i1 with i1 i6;subst i1 i6;refine⟨b,_,sP _ _ _ _ _ _ _ _ hj',i2,⟨_,_,_,_,rfl⟩,?_,fun m hm=>?_⟩
   ·simp_all
   ·have:((l.take i)[j]'hj)=l[j]'(by omega):=List.getElem_take ..;simp only[this]at hm ⊢;exact i5 m hm
def kyT(t:iP):SS×SS:=(t.sp,t.rl)
theorem zu4{t u:iP}(h:kyT t=kyT u):t=u:=by injection h with h1 h2;cases t;simp_all
theorem q20{call:Ev.Call}{H:Hp}{tv:AV}{ts:List iP}(ht:Rs 2 tC H tv ts)(htl:ts.length<=1000){t:iP}{pb:Nat}(hp:H.get pb=aD 0 [.str t.sp.n t.sp.a,.str t.rl.n t.rl.a]){Q:pL}{q:pH}{qr:pD}(hq:t∉ts->Ok (q H) Q)(hr:t∈ts->∀ i:Nat,Ok (qr (iN i) H) Q):∀(k i:Nat),i<=ts.length->ts.length-i<k->t∉ts.take i->Ok (q1p call qr q tv (.ptr pb 0) (iN (ts.length)) k (iN i) H) Q
 |0,i,_,h,_=>by omega
 |k+1,i,hi,hk,hn=>by
  show Ok (q8p call _ _ _ _ _ (q1p call _ _ _ _ _ k) _ H) Q;unfold q8p;by_cases hlt:i<ts.length
  ·simp only[go_sem,hlt];unfold q8n;obtain⟨b1,o1,e1,e2,_,e3,_⟩:=ht.at' i hlt;unfold tC SS.v at e3;have ee:fI (eqFields [(p1,⟨bX⟩,0),(p1,⟨bX⟩,1)]) (.agg [.str t.sp.n t.sp.a,.str t.rl.n t.rl.a]) (.agg [.str ts[i].sp.n ts[i].sp.a,.str ts[i].rl.n ts[i].rl.a])=some (decide (kyT t=kyT ts[i])):=qj6 (kyT t) (kyT ts[i]);by_cases hne:kyT t=kyT ts[i]
   ·rw[decide_eq_true hne]at ee;simp only[go_sem,seval,hp,e1,e3,ee];exact hr (by rw[zu4 hne];exact List.getElem_mem hlt) i
   ·rw[decide_eq_false hne]at ee;simp only[go_sem,seval,hp,e1,e3,ee];unfold zom;simp(disch:=omega)only[go_sem];refine q20 ht htl hp hq hr k (i+1) (by omega) (by omega) fun h=>?_;rw[List.take_succ_eq_append_getElem hlt,List.mem_append,List.mem_singleton]at h;simp_all
  ·simp only[go_sem,hlt];exact hq (by rw[List.take_of_length_le (by omega)]at hn;exact hn)
theorem qj9(hC:aZ C){k:Nat}(hk:2<=k){H:Hp}{tv:AV}{ts:List iP}(ht:Rs 2 tC H tv ts)(htl:ts.length<=1000)(t:iP):Ok (C k (.f 65) [tv,.agg [.str t.sp.n t.sp.a,.str t.rl.n t.rl.a]] H) fun r H'=>r=.bool (decide (t∈ts))/\Fm No H H':=by
 obtain⟨j,rfl⟩:∃ j,k=j+1+1:=⟨k-2,by omega⟩;rw[(hC (j+1)).zDf];unfold zDf zrv;simp(disch:=first|omega|exact ti rfl|(simp only[np,nq];first|done|omega))only[go_sem,rB,rI,rK,rL,rN,rS,r6];rw[(hC j).zDm];unfold zDm zrq;have hl:=ht.len;simp only[go_sem,hl];have f:Fm No H (aT (aT H (aD 0 [.str t.sp.n t.sp.a,.str t.rl.n t.rl.a])) (aD 0 [.str t.sp.n t.sp.a,.str t.rl.n t.rl.a])):=by exact nM
 unfold zon;rw[dK];refine Ok.ve (R:=fun r H'=>((t∉ts/\r=.int .i64 (.negSucc 0))\/(t∈ts/\∃ i:Nat,r=iN i))/\Fm No H H') (q20 (ht.fm f) htl (t:=t) (pb:=H.nx+1) (by simp(disch:=first|omega|exact ti rfl|(simp only[np,nq];first|done|omega))only[go_sem]) (fun h=>?_) (fun h i=>Ok.ret ⟨.inr ⟨h,i,rfl⟩,f⟩) cZ 0 (Nat.zero_le _) (by rw[dM];omega) (by rw[List.take_zero];exact List.not_mem_nil)) ?_
 ·unfold q8o;exact Ok.ret ⟨.inl ⟨h,rfl⟩,f⟩
 ·rintro _ H2 ⟨⟨h,rfl⟩|⟨h,i,rfl⟩,f2⟩
  ·simp only[go_sem];exact Ok.ret ⟨by rw[decide_eq_false h],f2⟩
  ·simp only[go_sem];exact Ok.ret ⟨by rw[decide_eq_true h,decide_eq_true (Nat.zero_le i)],f2⟩
theorem qw4(hC:aZ C){k:Nat}(hk:2<=k){H:Hp}{tv:AV}{ts:List iP}(ht:Rs 2 tC H tv ts)(htl:ts.length<=1000){t:iP}(hn:t∉ts):Ok (C k (.f 65) [tv,.agg [.str t.sp.n t.sp.a,.str t.rl.n t.rl.a]] H) fun r H'=>r=.bool false/\Fm No H H':=
 (qj9 hC hk ht htl t).mono fun _ _ h=>by rw[decide_eq_false hn]at h;exact h
theorem q3u(hC:aZ C){j:Nat}(hj:2<=j){Hb:Hp}{ib:Nat}{sv:AV}{X:List aS}(hI:vY Hb ib sv X)(hV:eT X){pp:Nat×Nat}{x:aX}(hpx:PtR Hb pp x)(hxr:oQ Hb x)(htl:x.r.types.length<=8)(hnd:x.r.types.Nodup)(hty:∀ t∈x.r.types,t.sp∈X.map aS.name/\(t.rl=sE\/(t.sp,t.rl)∈aQ X)){Q:pL}{q:pH}{qr:pD}(hq:∀ H,Fm No Hb H->Ok (q H) Q):∀(k i:Nat) (H:Hp),i<=x.r.types.length->x.r.types.length-i<k->Fm No Hb H->Ok (qop (C j) qr q (.ptr ib 0) (.ptr pp.1 pp.2) x.tv (iN (x.r.types.length)) k (iN i) H) Q
 |0,i,_,_,h,_=>by omega
 |k+1,i,H,hi,hk,hf=>by
  show Ok (q85 (C j) _ _ _ _ _ _ (qop (C j) _ _ _ _ _ _ k) _ H) Q;unfold q85;by_cases hlt:i<x.r.types.length
  ·simp only[go_sem,hlt];rw[qoq];unfold qqy;have h1:=hxr.fm hf;obtain⟨b1,o1,e1,e2,_,e3,_⟩:=h1.ty.at' i hlt;unfold tC SS.v at e3;have hI1:=hI.fm hf;have ht:=hty _ (List.getElem_mem hlt);have fp:Fm No H ((aT H (aD 0 [.str 0 0,.str 0 0])).put H.nx (aD 0 [.str x.r.types[i].sp.n x.r.types[i].sp.a,.str x.r.types[i].rl.n x.r.types[i].rl.a])):=by exact nH
   have hI2:=hI1.fm fp;obtain⟨mb,nb,av,iv,qs,g1,g2,g3,_⟩:=hI2.ex;have em:pF ⟨bX,none⟩ (iN 0) false ⟨((aT H (aD 0 [.str 0 0,.str 0 0])).put H.nx (aD 0 [.str x.r.types[i].sp.n x.r.types[i].sp.a,.str x.r.types[i].rl.n x.r.types[i].rl.a])).t,H.nx+1⟩ (.map mb) (.str x.r.types[i].sp.n x.r.types[i].sp.a)=.val (iN 1):=g2.find _ _ ht.1;have aS3:=(hpx.fm hf).fm fp;have rt:=aS3.tv;have aL8:=h1.fm fp;obtain⟨w,ew,hw⟩:=aL8.ty.pre aL8.tc hlt;have tail:∀ H3,Fm No ((aT H (aD 0 [.str 0 0,.str 0 0])).put H.nx (aD 0 [.str x.r.types[i].sp.n x.r.types[i].sp.a,.str x.r.types[i].rl.n x.r.types[i].rl.a])) H3->Ok (C j (.f 65) [w,.agg [.str x.r.types[i].sp.n x.r.types[i].sp.a,.str x.r.types[i].rl.n x.r.types[i].rl.a]] H3) fun r H'=>r=.bool false/\Fm No H3 H':=fun H3 f3=>
    qw4 hC hj (hw.fm f3) (by rw[List.length_take];omega) (t:=x.r.types[i]) (qj4 hnd hlt)
   have fin:∀ H3,Fm No H H3->Ok (q82 (C j) (qop (C j) qr q (.ptr ib 0) (.ptr pp.1 pp.2) x.tv (iN (x.r.types.length)) k) (iN i) H3) Q:=fun H3 f3=>by rw[qub];unfold qyf;simp(disch:=omega)only[go_sem];exact q3u hC hj hI hV hpx hxr htl hnd hty hq k (i+1) H3 (by omega) (by omega) (hf.trans f3)
   by_cases hz:x.r.types[i].rl.n=0/\x.r.types[i].rl.a=0
   ·have hzt:=eq_true hz;simp(disch:=first|omega|exact ti rfl|(simp only[np,nq];first|done|omega))only[go_sem,rB,rI,rK,rL,rN,rS,r6,e1,e3,g1,em,hzt,rt,ew];refine Ok.kI (tail _ (Fm.refl _ _)) ?_;rintro _ H3 ⟨rfl,f3⟩;simp only[go_sem];exact fin H3 (fp.trans f3)
   ·have hin:(x.r.types[i].sp,x.r.types[i].rl)∈aQ X:=by
     rcases ht.2 with h|h
     ·exact absurd ((qP _ _).1 h) hz
     ·exact h
    obtain⟨qq,y,_,ec,_⟩:=qgi hC (k:=j) (by omega) hI2 hV.al hV.sp hin;have ec':C j (.f 111) [.ptr ib 0,.str x.r.types[i].sp.n x.r.types[i].sp.a,.str x.r.types[i].rl.n x.r.types[i].rl.a] ⟨((aT H (aD 0 [.str 0 0,.str 0 0])).put H.nx (aD 0 [.str x.r.types[i].sp.n x.r.types[i].sp.a,.str x.r.types[i].rl.n x.r.types[i].rl.a])).t,H.nx+1⟩=.ok (.ptr qq.1 qq.2) ((aT H (aD 0 [.str 0 0,.str 0 0])).put H.nx (aD 0 [.str x.r.types[i].sp.n x.r.types[i].sp.a,.str x.r.types[i].rl.n x.r.types[i].rl.a])):=ec;simp(disch:=first|omega|exact ti rfl|(simp only[np,nq];first|done|omega))only[go_sem,rB,rI,rK,rL,rN,rS,r6,e1,e3,g1,em,hz,ec',rt,ew];refine Ok.kI (tail _ (Fm.refl _ _)) ?_;rintro _ H3 ⟨rfl,f3⟩;simp only[go_sem];exact fin H3 (fp.trans f3)
  ·simp only[go_sem,hlt];exact hq H hf
theorem zhj(hC:aZ C){k:Nat}(hk:3<=k){H:Hp}{ib:Nat}{sv:AV}{X:List aS}(hI:vY H ib sv X)(hV:eT X){pp:Nat×Nat}{x:aX}(hpx:PtR H pp x)(hxr:oQ H x)(htl:x.r.types.length<=8)(hnd:x.r.types.Nodup)(hty:∀ t∈x.r.types,t.sp∈X.map aS.name/\(t.rl=sE\/(t.sp,t.rl)∈aQ X)):Ok (C k (.f 135) [.ptr ib 0,.ptr pp.1 pp.2] H) fun r H'=>r=iN 0/\Fm No H H':=by obtain⟨j,rfl⟩:=aW hk;rw[(hC j).zCy];unfold zCy zr1;have rt:=hpx.tv;have hl:=hxr.ty.len;simp only[go_sem,rt,hl];unfold zov;rw[dK];refine q3u hC (by omega) hI hV hpx hxr htl hnd hty (fun H2 f2=>?_) cZ 0 H (Nat.zero_le _) (by rw[dM];omega) (Fm.refl _ _);rw[quc];exact Ok.ret ⟨rfl,f2⟩
theorem zno(nm n a:Nat):lQ nm (.str n a)=.new (.ptr nm 0) (aD 0 [.str n a]):=id rfl
theorem znp(nm n a:Nat):lQ nm (.ptr n a)=.new (.ptr nm 0) (aD 0 [.ptr n a]):=id rfl
attribute [go_sem] zno znp
theorem qjc(hC:aZ C){j:Nat}(hj:2<=j){Hb:Hp}{ib:Nat}{sv nv:AV}{X:List aS}(hX:dH Hb sv X)(hI:vY Hb ib sv X)(hV:eT X)(s:SS){l:List (Nd×AV)}(hl:Rs 5 j5 Hb nv l)(hll:l.length<=1000)(hnd:∀ y∈l,(y.1.k=2\/y.1.k=3->(s,y.1.rl)∈aQ X)/\(y.1.k=3->tH X s y.1.rl y.1.to≠[])){Q:pL}{q:pD}{qr:AV->pD}(hq:∀ H,Fm No Hb H->Ok (q (.bool (l.any fun y=>decide (y.1.k=1))) H) Q):∀(k i:Nat) (u:Bool) (H:Hp),i<=l.length->l.length-i<k->Fm No Hb H->u=((l.take i).any fun y=>decide (y.1.k=1))->Ok (qt9 (C j) qr q (.ptr ib 0) (.str s.n s.a) nv (iN (l.length)) k (.bool u) (iN i) H) Q
 |0,i,_,_,_,h,_,_=>by omega
 |k+1,i,u,H,hi,hk,hf,hu=>by
  show Ok (q8y (C j) _ _ _ _ _ _ (qt9 (C j) _ _ _ _ _ _ k) _ _ H) Q;unfold q8y;by_cases hlt:i<l.length
  ·simp only[go_sem,hlt];unfold q8x;have h1:=hl.fm hf;obtain⟨b1,o1,e1,e2,_,e3,_⟩:=h1.at' i hlt;unfold j5 SS.v at e3;have hn:=hnd _ (List.getElem_mem hlt);have fp:Fm No H ((aT H (aD 0 [.int .u8 (.ofNat 0),.str 0 0,.str 0 0,.aA,.bool false])).put H.nx (aD 0 [.int .u8 (.ofNat l[i].1.k),.str l[i].1.rl.n l[i].1.rl.a,.str l[i].1.to.n l[i].1.to.a,l[i].2,.bool l[i].1.neg])):=by exact nH
   obtain⟨H1,hH1⟩:∃ H1,H1=(aT H (aD 0 [.int .u8 (.ofNat 0),.str 0 0,.str 0 0,.aA,.bool false])).put H.nx (aD 0 [.int .u8 (.ofNat l[i].1.k),.str l[i].1.rl.n l[i].1.rl.a,.str l[i].1.to.n l[i].1.to.a,l[i].2,.bool l[i].1.neg]):=⟨_,rfl⟩;rw[<-hH1]at fp;have pb:H1.get H.nx=aD 0 [.int .u8 (.ofNat l[i].1.k),.str l[i].1.rl.n l[i].1.rl.a,.str l[i].1.to.n l[i].1.to.a,l[i].2,.bool l[i].1.neg]:=by rw[hH1];exact eB _ _ _
   have n1:H.nx<H1.nx:=by rw[hH1];simp only[np,nq];omega
   have hI2:=(hI.fm hf).fm fp;have hs:((l.take (i+1)).any fun y=>decide (y.1.k=1))=(((l.take i).any fun y=>decide (y.1.k=1))||decide (l[i].1.k=1)):=by rw[List.take_succ_eq_append_getElem hlt,List.any_append];simp
   have fin:∀ H3,Fm No H1 H3->Ok (qyd (C j) (qt9 (C j) qr q (.ptr ib 0) (.str s.n s.a) nv (iN (l.length)) k) (.bool u) (.ptr H.nx 0) (iN i) H3) Q:=fun H3 f3=>by
    unfold qyd;have p3:=(f3.keep n1).trans pb;cases u with
    |true=>unfold q8w;simp(disch:=first|omega|exact ti rfl|(simp only[np,nq];first|done|omega))only[go_sem,rB,rI,rK,rL,rN,rS,r6];exact qjc hC hj hX hI hV s hl hll hnd hq k (i+1) true H3 (by omega) (by omega) (hf.trans (fp.trans f3)) (by rw[hs,<-hu];rfl)
    |false=>simp only[go_sem,p3];unfold q8w;simp(disch:=first|omega|exact ti rfl|(simp only[np,nq];first|done|omega))only[go_sem,rB,rI,rK,rL,rN,rS,r6];exact qjc hC hj hX hI hV s hl hll hnd hq k (i+1) _ H3 (by omega) (by omega) (hf.trans (fp.trans f3)) (by rw[hs,<-hu];rfl)
   by_cases q2:l[i].1.k=2
   ·have q2t:=eq_true q2;obtain⟨qq,y,_,ec,_⟩:=qgi hC (k:=j) (by omega) hI2 hV.al hV.sp (hn.1 (.inl q2));have q3:¬ l[i].1.k=3:=by omega
    rw[hH1]at ec;simp(disch:=first|omega|exact ti rfl|(simp only[np,nq];first|done|omega))only[go_sem,rB,rI,rK,rL,rN,rS,r6,e1,e3,q2t,q3,ec];rw[<-hH1];exact fin H1 (Fm.refl _ _)
   ·by_cases q3:l[i].1.k=3
    ·have q3t:=eq_true q3;have hin:=hn.1 (.inr q3);obtain⟨qq,y,_,ec,_⟩:=qgi hC (k:=j) (by omega) hI2 hV.al hV.sp hin;have ht:=qny hC (k:=j) (by omega) ((hX.fm hf).fm fp) hV.pr.sml hI2 hV.al hV.sp s l[i].1.rl l[i].1.to hin;rw[hH1]at ec;simp(disch:=first|omega|exact ti rfl|(simp only[np,nq];first|done|omega))only[go_sem,rB,rI,rK,rL,rN,rS,r6,e1,e3,q3t,q2,ec];rw[<-hH1];refine Ok.ve ht ?_;intro tv H2 ha;have hla:=ha.dD;have hne:¬(tH X s l[i].1.rl l[i].1.to).length=0:=fun h=>hn.2 q3 (List.length_eq_zero_iff.1 h);simp only[go_sem,hla,hne];exact fin H2 ha.fm
    ·simp(disch:=first|omega|exact ti rfl|(simp only[np,nq];first|done|omega))only[go_sem,rB,rI,rK,rL,rN,rS,r6,e1,e3,q2,q3];rw[<-hH1];exact fin H1 (Fm.refl _ _)
  ·simp only[go_sem,hlt];have he:i=l.length:=by omega
   rw[he,List.take_length]at hu;rw[hu];exact hq H hf
theorem zn3(hC:aZ C){k:Nat}(hk:3<=k){H:Hp}{ib:Nat}{sv nv:AV}{X:List aS}(hX:dH H sv X)(hI:vY H ib sv X)(hV:eT X)(s:SS){l:List (Nd×AV)}(hl:Rs 5 j5 H nv l)(hll:l.length<=1000)(hnd:∀ y∈l,(y.1.k=2\/y.1.k=3->(s,y.1.rl)∈aQ X)/\(y.1.k=3->tH X s y.1.rl y.1.to≠[])):Ok (C k (.f 137) [.ptr ib 0,.str s.n s.a,nv] H) fun r H'=>r=.bG [.bool (l.any fun y=>decide (y.1.k=1)),iN 0]/\Fm No H H':=by obtain⟨j,rfl⟩:=aW hk;rw[(hC j).zCz];unfold zCz zr0;have hln:=hl.len;simp only[go_sem,hln];unfold zot;rw[dK];refine qjc hC (by omega) hX hI hV s hl hll hnd (fun H2 f2=>?_) cZ 0 false H (Nat.zero_le _) (by rw[dM];omega) (Fm.refl _ _) rfl;exact Ok.ret ⟨rfl,f2⟩
theorem q36(hC:aZ C){j:Nat}(hj:1<=j){Hb:Hp}{nv:AV}{l:List (Nd×AV)}(hl:Rs 5 j5 Hb nv l)(hll:l.length<=1000){s:SS}{sb:Nat}(hs:Hb.get sb=aD 0 [.str s.n s.a])(hsl:sb<Hb.nx){Q:pL}{q:pH}{qr:pD}(hr:∀ i H,l.any (fun y=>fU 3 s y.1)=true->Fm No Hb H->Ok (qr (iN i) H) Q)(hq:∀ H,l.any (fun y=>fU 3 s y.1)=false->Fm No Hb H->Ok (q H) Q):∀(k i:Nat) (H:Hp),i<=l.length->l.length-i<k->Fm No Hb H->(l.take i).any (fun y=>fU 3 s y.1)=false->Ok (qt8 (C j) qr q nv (.fn 169 [] [.ptr sb 0]) (iN (l.length)) k (iN i) H) Q
 |0,i,_,_,h,_,_=>by omega
 |k+1,i,H,hi,hk,hf,hn=>by
  show Ok (q8i (C j) _ _ _ _ _ (qt8 (C j) _ _ _ _ _ k) _ H) Q;unfold q8i;obtain⟨m,rfl⟩:∃ m,j=m+1:=⟨j-1,by omega⟩;by_cases hlt:i<l.length
  ·simp only[go_sem,hlt];unfold zof;have h1:=hl.fm hf;obtain⟨b1,o1,e1,e2,_,e3,_⟩:=h1.at' i hlt;unfold j5 SS.v at e3;have hs1:=(hf.keep hsl).trans hs;have nx1:=hf.nx;simp only[go_sem,e1,e3];rw[(hC m).zDn];unfold zDn zrp;have fp:Fm No H (aT H (aD 0 [.int .u8 (.ofNat l[i].1.k),.str l[i].1.rl.n l[i].1.rl.a,.str l[i].1.to.n l[i].1.to.a,l[i].2,.bool l[i].1.neg])):=by exact jS
   have hst:(l.take (i+1)).any (fun y=>fU 3 s y.1)=fU 3 s l[i].1:=by rw[List.take_succ_eq_append_getElem hlt,List.any_append,hn];simp
   have skip:fU 3 s l[i].1=false->Ok (q8g (C (m+1)) (qt8 (C (m+1)) qr q nv (.fn 169 [] [.ptr sb 0]) (iN (l.length)) k) (iN i) (aT H (aD 0 [.int .u8 (.ofNat l[i].1.k),.str l[i].1.rl.n l[i].1.rl.a,.str l[i].1.to.n l[i].1.to.a,l[i].2,.bool l[i].1.neg]))) Q:=fun hh=>by unfold q8g;simp(disch:=first|omega|exact ti rfl|(simp only[np,nq];first|done|omega))only[go_sem,rB,rI,rK,rL,rN,rS,r6];exact q36 hC hj hl hll hs hsl hr hq k (i+1) _ (by omega) (by omega) (hf.trans fp) (by rw[hst,hh])
   by_cases q3:l[i].1.k=3
   ·have q3t:=eq_true q3;by_cases h2:l[i].1.rl.n=s.n/\l[i].1.rl.a=s.a
    ·have h2t:=eq_true h2;have hh:fU 3 s l[i].1=true:=by unfold fU;rw[decide_eq_true q3,decide_eq_true ((qP _ _).2 h2)];rfl
     simp(disch:=first|omega|exact ti rfl|(simp only[np,nq];first|done|omega))only[go_sem,rB,rI,rK,rL,rN,rS,r6,q3t,hs1,h2t];exact hr i _ (List.any_eq_true.2 ⟨_,List.getElem_mem hlt,hh⟩) (hf.trans fp)
    ·have hh:fU 3 s l[i].1=false:=by unfold fU;rw[decide_eq_false (fun h=>h2 ((qP _ _).1 h))];simp
     simp(disch:=first|omega|exact ti rfl|(simp only[np,nq];first|done|omega))only[go_sem,rB,rI,rK,rL,rN,rS,r6,q3t,hs1,h2];exact skip hh
   ·have hh:fU 3 s l[i].1=false:=by unfold fU;rw[decide_eq_false q3];simp
    simp(disch:=first|omega|exact ti rfl|(simp only[np,nq];first|done|omega))only[go_sem,rB,rI,rK,rL,rN,rS,r6,q3];exact skip hh
  ·simp only[go_sem,hlt];have he:i=l.length:=by omega
   rw[he,List.take_length]at hn;simp_all
theorem qw7(hC:aZ C){k:Nat}(hk:3<=k){H:Hp}{nv:AV}{l:List (Nd×AV)}(hl:Rs 5 j5 H nv l)(hll:l.length<=1000){s:SS}{sb:Nat}(hs:H.get sb=aD 0 [.str s.n s.a])(hsl:sb<H.nx):Ok (C k (.f 168) [nv,.fn 169 [] [.ptr sb 0]] H) fun r H'=>r=.bool (l.any fun y=>fU 3 s y.1)/\Fm No H H':=by
 obtain⟨j,rfl⟩:∃ j,k=j+1+1:=⟨k-2,by omega⟩;rw[(hC (j+1)).zDo];unfold zDo zro;rw[(hC j).zDs];unfold zDs zrl;have hln:=hl.len;simp only[go_sem,hln];unfold zog;rw[dK];refine Ok.ve (R:=fun r H'=>Fm No H H'/\((l.any (fun y=>fU 3 s y.1)=true/\∃ i,r=iN i)\/(l.any (fun y=>fU 3 s y.1)=false/\r=.int .i64 (.negSucc 0)))) (q36 hC (by omega) hl hll hs hsl (fun i H2 h f=>Ok.ret ⟨f,.inl ⟨h,i,rfl⟩⟩) (fun H2 h f=>?_) cZ 0 H (Nat.zero_le _) (by rw[dM];omega) (Fm.refl _ _) rfl) ?_
 ·unfold q8h;exact Ok.ret ⟨f,.inr ⟨h,rfl⟩⟩
 ·rintro r H2 ⟨f2,⟨h,i,rfl⟩|⟨h,rfl⟩⟩
  ·simp only[go_sem,Nat.zero_le];exact Ok.ret ⟨by rw[h],f2⟩
  ·simp only[go_sem];exact Ok.ret ⟨by rw[h],f2⟩
theorem qmn{H:Hp}{x:aX}(h:oQ H x):∃ c0 c1 c2 c3,x.cs=[c0,c1,c2,c3]/\gQ x=[.str x.r.name.n x.r.name.a,x.tv,c0,c1,c2,c3]:=by obtain⟨c0,c1,c2,c3,hcs⟩:=h.ru.four;exact⟨c0,c1,c2,c3,hcs,by unfold gQ;rw[hcs];rfl⟩
theorem zg8(hC:aZ C)(hN:l8 C){k:Nat}(hk:14<=k){H:Hp}{x:aX}(hx:oQ H x)(hr:x.r.rule.Rt){s:SS}{sb:Nat}(hs:H.get sb=aD 0 [.str s.n s.a])(hsl:sb<H.nx):Ok (C k (.f 167) [.agg (gQ x),.ptr sb 0] H) fun r H'=>r=.bool (eP x.r.rule 3 s)/\Fm No H H':=by
 obtain⟨j,rfl⟩:=aW hk;rw[(hC j).zDg];unfold zDg zru;obtain⟨c0,c1,c2,c3,hcs,hrc⟩:=qmn hx;rw[hrc];have f:Fm No H (aT H (aD 0 [.str x.r.name.n x.r.name.a,x.tv,c0,c1,c2,c3])):=by exact jS
 have lM:=hx.ru.fm f;rw[hcs]at lM;simp(disch:=omega)only[go_sem,seval];refine Ok.ve (qnz hC hN (k:=j) (by omega) lM hr) ?_;rintro _ H2 ⟨nv,l,rfl,ha,hl⟩;have hln:l.length<=32:=by have:=congrArg List.length hl;simp only[List.length_map,qb7]at this;have:=hr.sz;omega
 refine Ok.ve (qw7 hC (k:=j) (by omega) (ha.rs qhd) (by omega) (s:=s) ((ha.fm.keep (show sb<(aT H _).nx by simp only[np,nq];omega)).trans ((f.keep hsl).trans hs)) (Nat.lt_of_lt_of_le hsl (Nat.le_trans f.nx ha.fm.nx))) ?_;rintro _ H3 ⟨rfl,f3⟩;refine Ok.ret ⟨?_,f.trans (ha.fm.trans f3)⟩;unfold eP;rw[<-hl,List.any_map];rfl
theorem q3k(hC:aZ C)(hN:l8 C){j:Nat}(hj:14<=j){Hb:Hp}{g:aS}(hg:SpR Hb g)(hgl:g.gs.length<=16)(hr:∀ x∈g.gs,x.r.rule.Rt){s:SS}{sb:Nat}(hs:Hb.get sb=aD 0 [.str s.n s.a])(hsl:sb<Hb.nx){Q:pL}{q:pH}{qr:pD}(hr':∀ i H,g.gs.any (fun x=>eP x.r.rule 3 s)=true->Fm No Hb H->Ok (qr (iN i) H) Q)(hq:∀ H,g.gs.any (fun x=>eP x.r.rule 3 s)=false->Fm No Hb H->Ok (q H) Q):∀(k i:Nat) (H:Hp),i<=g.gs.length->g.gs.length-i<k->Fm No Hb H->(g.gs.take i).any (fun x=>eP x.r.rule 3 s)=false->Ok (q1o (C j) qr q g.rv (.fn 167 [] [.ptr sb 0]) (iN (g.gs.length)) k (iN i) H) Q
 |0,i,_,_,h,_,_=>by omega
 |k+1,i,H,hi,hk,hf,hn=>by
  show Ok (q8m (C j) _ _ _ _ _ (q1o (C j) _ _ _ _ _ k) _ H) Q;unfold q8m;by_cases hlt:i<g.gs.length
  ·simp only[go_sem,hlt];unfold zoj;have h1:=hg.fm hf;obtain⟨b,o,e1,_,_,_,_,e6⟩:=h1.at' i hlt;have hm:=List.getElem_mem hlt;simp only[go_sem,e1,e6];refine Ok.ve (zg8 hC hN hj (h1.rel _ hm) (hr _ hm) ((hf.keep hsl).trans hs) (Nat.lt_of_lt_of_le hsl hf.nx)) ?_;rintro _ H2 ⟨rfl,f2⟩;have hst:(g.gs.take (i+1)).any (fun x=>eP x.r.rule 3 s)=eP g.gs[i].r.rule 3 s:=by
    rw[List.take_succ_eq_append_getElem hlt,List.any_append,hn];simp
   cases hh:eP g.gs[i].r.rule 3 s with
   |true=>exact hr' i _ (List.any_eq_true.2 ⟨_,hm,hh⟩) (hf.trans f2)
   |false=>unfold zok;simp(disch:=first|omega|exact ti rfl|(simp only[np,nq];first|done|omega))only[go_sem,rB,rI,rK,rL,rN,rS,r6];exact q3k hC hN hj hg hgl hr hs hsl hr' hq k (i+1) _ (by omega) (by omega) (hf.trans f2) (by rw[hst,hh])
  ·simp only[go_sem,hlt];have he:i=g.gs.length:=by omega
   simp_all
theorem zhl(hC:aZ C)(hN:l8 C){k:Nat}(hk:17<=k){H:Hp}{g:aS}(hg:SpR H g)(hgl:g.gs.length<=16)(hr:∀ x∈g.gs,x.r.rule.Rt)(s:SS):Ok (C k (.f 139) [.agg [.str g.name.n g.name.a,g.rv],.str s.n s.a] H) fun r H'=>r=.bool (g.gs.any fun x=>eP x.r.rule 3 s)/\Fm No H H':=by
 obtain⟨j,rfl⟩:∃ j,k=j+1+1+1:=⟨k-3,by omega⟩;rw[(hC (j+1+1)).zDa];unfold zDa zrz;simp(disch:=first|omega|exact ti rfl|(simp only[np,nq];first|done|omega))only[go_sem,seval];have f:Fm No H (aT (aT H (aD 0 [.str g.name.n g.name.a,g.rv])) (aD 0 [.str s.n s.a])):=by exact nM
 rw[(hC (j+1)).zDh];unfold zDh zrt;rw[(hC j).zDp];unfold zDp zrn;have hln:=hg.len;simp only[go_sem,hln];unfold zol;rw[dK];refine Ok.ve (R:=fun r H'=>r=.bool (g.gs.any fun x=>eP x.r.rule 3 s)/\Fm No H H') (Ok.ve (R:=fun r H'=>Fm No H H'/\((g.gs.any (fun x=>eP x.r.rule 3 s)=true/\∃ i,r=iN i)\/(g.gs.any (fun x=>eP x.r.rule 3 s)=false/\r=.int .i64 (.negSucc 0)))) (q3k hC hN (j:=j) (by omega) (hg.fm f) hgl hr (s:=s) (sb:=H.nx+1) (by simp(disch:=first|omega|exact ti rfl|(simp only[np,nq];first|done|omega))only[go_sem,seval]) (by(first|omega|(simp only[np,nq];omega))) (fun i H2 h f2=>Ok.ret ⟨f.trans f2,.inl ⟨h,i,rfl⟩⟩) (fun H2 h f2=>?_) cZ 0 _ (Nat.zero_le _) (by rw[dM];omega) (Fm.refl _ _) rfl) ?_) ?_
 ·unfold q8l;exact Ok.ret ⟨f.trans f2,.inr ⟨h,rfl⟩⟩
 ·rintro r H2 ⟨f2,⟨h,i,rfl⟩|⟨h,rfl⟩⟩
  ·simp only[go_sem,Nat.zero_le];exact Ok.ret ⟨by rw[h],f2⟩
  ·simp only[go_sem];exact Ok.ret ⟨by rw[h],f2⟩
 ·rintro _ H2 ⟨rfl,f2⟩;exact Ok.ret ⟨rfl,f2⟩
structure RlI(H:Hp)(X:List aS)(g:aS)(x:aX)(sv:AV)(ib n A0 A1 AR A2:Nat)(q:Nat×Nat):Prop where
 yP:dH H sv X
 id:vY H ib sv X
 mem:g∈X/\x∈g.gs
 a0:H.get A0=aD 0 [.ptr ib 0]
 a1:H.get A1=aD 0 [.str g.name.n g.name.a,g.rv]
 ar:H.get AR=aD 0 [.ptr q.1 q.2]
 a2:H.get A2=aD 0 [iN n]
 lt:A0<H.nx/\A1<H.nx/\AR<H.nx/\A2<H.nx
 pt:PtR H q x
 nu:cK X g.name x.r.name=n
theorem RlI.fm{H H':Hp}{X:List aS}{g:aS}{x:aX}{sv:AV}{ib n A0 A1 AR A2:Nat}{q:Nat×Nat}(h:RlI H X g x sv ib n A0 A1 AR A2 q)(f:Fm No H H'):RlI H' X g x sv ib n A0 A1 AR A2 q:=by obtain⟨l0,l1,l2,l3⟩:=h.lt;have:=f.nx;exact⟨h.yP.fm f,h.id.fm f,h.mem,(f.keep l0).trans h.a0,(f.keep l1).trans h.a1,(f.keep l2).trans h.ar,(f.keep l3).trans h.a2,⟨by omega,by omega,by omega,by omega⟩,h.pt.fm f,h.nu⟩
theorem zt4(hC:aZ C){k:Nat}(hk:1<=k){H:Hp}{X:List aS}{g:aS}{x:aX}{sv:AV}{ib n A0 A1 AR A2:Nat}{q:Nat×Nat}(h:RlI H X g x sv ib n A0 A1 AR A2 q):C k (.f 133) [.ptr A0 0,.ptr A1 0,.ptr AR 0,.ptr A2 0] H=.ok (iN 0) H:=by obtain⟨j,rfl⟩:=aW hk;rw[(hC j).zCj];unfold zCj zsd;have a0:=h.a0;have a1:=h.a1;have ar:=h.ar;have a2:=h.a2;have r0:=h.pt.nm;obtain⟨mb,nb,av,iv,qs,g1,g2,g3,_⟩:=h.id.ex;have em:=g3.aKc (iN 0) g.name x.r.name (qik.2 ⟨g,h.mem.1,x,h.mem.2,rfl,rfl⟩);have hnx:(List.findIdx (fun q=>decide (q=(g.name,x.r.name))) (aQ X))=n:=h.nu;rw[hnx]at em;simp(disch:=first|omega|exact ti rfl|(simp only[np,nq];first|done|omega))only[go_sem,rB,rI,rK,rL,rN,rS,r6,a0,a1,ar,a2,r0,g1,em];rfl
theorem zt3(hC:aZ C){k:Nat}(hk:4<=k){H:Hp}{X:List aS}{g:aS}{x:aX}{sv:AV}{ib n A0 A1 AR A2:Nat}{q:Nat×Nat}(h:RlI H X g x sv ib n A0 A1 AR A2 q)(hV:eT X):Ok (C k (.f 134) [.ptr A0 0,.ptr AR 0] H) fun r H'=>r=iN 0/\Fm No H H':=by obtain⟨j,rfl⟩:=aW hk;rw[(hC j).zCk];unfold zCk zsc;have a0:=h.a0;have ar:=h.ar;simp only[go_sem,a0,ar];have ht:=hV.ty _ h.mem.1 _ h.mem.2;refine Ok.ve (zhj hC (k:=j) (by omega) h.id hV h.pt ((h.yP.sp _ h.mem.1).rel _ h.mem.2) (hV.pr.x _ h.mem.1 _ h.mem.2).1 ht.1 ht.2) ?_;rintro _ H2 ⟨rfl,f2⟩;exact Ok.ret ⟨rfl,f2⟩
theorem zt2(hC:aZ C){k:Nat}(hk:4<=k){H:Hp}{X:List aS}{g:aS}{x:aX}{sv nv:AV}{ib n A0 A1 AR A2 A20 A22:Nat}{q:Nat×Nat}(h:RlI H X g x sv ib n A0 A1 AR A2 q)(hV:eT X){l:List (Nd×AV)}(hl:Rs 5 j5 H nv l)(hln:l.map Prod.fst=x.r.rule.nodes false)(h20:H.get A20=aD 0 [nv]){u:Bool}(h22:H.get A22=aD 0 [.bool u])(hlt:A22<H.nx):Ok (C k (.f 136) [.ptr A0 0,.ptr A1 0,.ptr A20 0,.ptr A22 0] H) fun r H'=>r=iN 0/\∃ H1,Fm No H H1/\H'=H1.put A22 (aD 0 [.bool ((x.r.rule.nodes false).any fun y=>decide (y.k=1))]):=by
 obtain⟨j,rfl⟩:=aW hk;rw[(hC j).zCl];unfold zCl zsb;have a0:=h.a0;have a1:=h.a1;simp only[go_sem,a0,a1,h20];have hll:l.length<=32:=by have:=congrArg List.length hln;simp only[List.length_map,qb7]at this;have:=(hV.pr.x _ h.mem.1 _ h.mem.2).2.2.1.sz;omega
 refine Ok.ve (zn3 hC (k:=j) (by omega) h.yP h.id hV g.name hl (by omega) fun y hy=>?_) ?_
 ·exact hV.nd _ h.mem.1 _ h.mem.2 y.1 (by rw[<-hln];exact List.mem_map_of_mem hy)
 rintro _ H2 ⟨rfl,f2⟩;have aSW:=(f2.keep hlt).trans h22;simp only[go_sem,aSW];refine Ok.ret ⟨rfl,H2,f2,?_⟩;rw[<-hln,List.any_map];rfl
theorem zt1(hC:aZ C)(hN:l8 C){k:Nat}(hk:18<=k){H:Hp}{X:List aS}{g:aS}{x:aX}{sv:AV}{ib n A0 A1 AR A2 A22:Nat}{q:Nat×Nat}(h:RlI H X g x sv ib n A0 A1 AR A2 q)(hV:eT X)(h22:H.get A22=aD 0 [.bool ((x.r.rule.nodes false).any fun y=>decide (y.k=1))]):Ok (C k (.f 138) [.ptr A22 0,.ptr AR 0,.ptr A1 0] H) fun r H'=>r=iN 0/\Fm No H H':=by
 obtain⟨j,rfl⟩:=aW hk;rw[(hC j).zCm];unfold zCm zsa;have a1:=h.a1;have ar:=h.ar;have r0:=h.pt.nm;have rt:=h.pt.tv;have hsp:=h.yP.sp _ h.mem.1;have hl:=((hsp.rel _ h.mem.2).ty).len;have hu:=hV.us _ h.mem.1 _ h.mem.2;cases hb:(x.r.rule.nodes false).any fun y=>decide (y.k=1)with
 |true=>rw[hb]at h22;have hne:¬ x.r.types.length=0:=fun h0=>hu.1 hb (List.length_eq_zero_iff.1 h0);simp only[go_sem,h22,ar,rt,hl,hne];exact Ok.ret ⟨rfl,Fm.refl _ _⟩
 |false=>
  rw[hb]at h22;by_cases h0:0<x.r.types.length
  ·have hba:=hu.2 hb (fun h=>by rw[h]at h0;exact absurd h0 (by simp));simp(disch:=first|omega|exact ti rfl|(simp only[np,nq];first|done|omega))only[go_sem,rB,rI,rK,rL,rN,rS,r6,h22,ar,rt,hl,h0,a1,r0];refine Ok.kI (zhl hC hN (k:=j) (by omega) hsp (hV.pr.r _ h.mem.1).1 (fun y hy=>(hV.pr.x _ h.mem.1 y hy).2.2.1) x.r.name) ?_;rintro _ H2 ⟨rfl,f2⟩;rw[hba];simp only[go_sem];exact Ok.ret ⟨rfl,f2⟩
  ·simp only[go_sem,h22,ar,rt,hl,h0];exact Ok.ret ⟨rfl,Fm.refl _ _⟩
theorem sf2(call:Ev.Call)(qr:pD)(q:pH)(a b:AV)(n:Nat):q10 call qr q a b (n+1)=qln call qr q a b (q10 call qr q a b n):=rfl
theorem zgv(f:FuncId)(x y:List AV):xA (.fn f x y)=some [.fn f x y]:=id rfl
attribute [go_sem] zgv
theorem zy4(hC:aZ C){k:Nat}(hk:1<=k){H:Hp}{b:Nat}{f1 f2 f3 f4:FuncId}{c1 c2 c3 c4:List AV}(hb:H.get b=aD 0 [.fn f1 [] c1,.fn f2 [] c2,.fn f3 [] c3,.fn f4 [] c4]){R1' R2' R3' R4':Hp->Prop}(h1:Ok (C (k-1) (.f f1) c1 H) fun r H'=>r=iN 0/\R1' H')(g1:∀ H',R1' H'->H'.get b=H.get b)(h2:∀ H1,R1' H1->Ok (C (k-1) (.f f2) c2 H1) fun r H'=>r=iN 0/\R2' H')(g2:∀ H',R2' H'->H'.get b=H.get b)(h3:∀ H1,R2' H1->Ok (C (k-1) (.f f3) c3 H1) fun r H'=>r=iN 0/\R3' H')(g3:∀ H',R3' H'->H'.get b=H.get b)(h4:∀ H1,R3' H1->Ok (C (k-1) (.f f4) c4 H1) fun r H'=>r=iN 0/\R4' H'):Ok (C k (.f 132) [.sl b 0 4 4 true] H) fun r H'=>r=iN 0/\R4' H':=by obtain⟨j,rfl⟩:=aW hk;rw[(hC j).zCn];unfold zCn zr9;simp only[go_sem];unfold zo7;obtain⟨m,hm⟩:∃ m,cZ=m+5:=⟨999995,by rw[dM]⟩;rw[dK,hm,sf2];unfold qln;unfold qlm;simp(disch:=omega)only[go_sem,hb];refine Ok.ve h1 ?_;rintro _ H1 ⟨rfl,r1⟩;unfold que;rw[sf2];unfold qln;unfold qlm;have hb1:=(g1 _ r1).trans hb;simp(disch:=omega)only[go_sem,hb1];refine Ok.ve (h2 _ r1) ?_;rintro _ H2 ⟨rfl,r2⟩;unfold que;rw[sf2];unfold qln;unfold qlm;have hb2:=(g2 _ r2).trans hb;simp(disch:=omega)only[go_sem,hb2];refine Ok.ve (h3 _ r2) ?_;rintro _ H3 ⟨rfl,r3⟩;unfold que;rw[sf2];unfold qln;unfold qlm;have hb3:=(g3 _ r3).trans hb;simp(disch:=omega)only[go_sem,hb3];refine Ok.ve (h4 _ r3) ?_;rintro _ H4 ⟨rfl,r4⟩;unfold que;rw[sf2];unfold qln;exact Ok.ret ⟨rfl,r4⟩
theorem qw6(hC:aZ C)(hN:l8 C){k:Nat}(hk:20<=k){H:Hp}{X:List aS}{g:aS}{x:aX}{sv:AV}{ib n:Nat}(hX:dH H sv X)(hI:vY H ib sv X)(hV:eT X)(hn:(eO X)[n]? =some (g.name,x))(hm:g∈X/\x∈g.gs):Ok (C k (.f 109) [.ptr ib 0,.agg [.str g.name.n g.name.a,g.rv],iN n] H) fun r H'=>r=iN 0/\Fm No H H':=by
 obtain⟨j,rfl⟩:=aW hk;rw[(hC j).zBv];unfold zBv zso;obtain⟨mb,nb,av,iv,qs,g1,g2,g3,g4,g5,g6,g7,g8,g9,_⟩:=hI.ex;have hnl:n<(eO X).length:=by
  rcases Nat.lt_or_ge n (eO X).length with h|h
  ·exact h
  ·simp_all
 have hxx:(eO X)[n]=(g.name,x):=by simp_all
 have hq:=g9 n (by omega) hnl;rw[hxx]at hq;obtain⟨b1,o1,e1,e2,_,_,e4⟩:=g4.at' n (by omega);have r0:dO (H.get b1) o1=.val (.ptr (qs[n]'(by omega)).1 (qs[n]'(by omega)).2):=e4 0 (by rw[q0o];omega);have il:=hI.lt;simp(disch:=first|omega|exact ti rfl|(simp only[np,nq];first|done|omega))only[go_sem,seval,g1,e1,r0];have hP:=hV.pr.x _ hm.1 _ hm.2;generalize hHa:(((Hp.mk (aT (aT (aT H (aD 0 [.ptr ib 0])) (aD 0 [.str g.name.n g.name.a,g.rv])) (aD 0 [iN n])).t (H.nx+1+1+1+9)).put (H.nx+1+1+1+7) (aD 0 [.cB])).put (H.nx+1+1+1+7) (aD 0 [.ptr (qs[n]'(by omega)).1 (qs[n]'(by omega)).2]))=Ha;have fa:Fm No H Ha:=by rw[<-hHa];exact(((((Fm.refl No H).push _).push _).push _).oK (n:=H.nx+1+1+1+9) (by omega)).aG _ _ (by omega) |>.aG _ _ (by omega)
 have na:Ha.nx=H.nx+12:=by rw[<-hHa];rfl
 have hR:RlI Ha X g x sv ib n H.nx (H.nx+1) (H.nx+1+1+1+7) (H.nx+1+1) (qs[n]'(by omega)):=by
  refine⟨hX.fm fa,hI.fm fa,hm,?_,?_,?_,?_,⟨by omega,by omega,by omega,by omega⟩,hq.fm fa,?_⟩
  ·rw[<-hHa];simp(disch:=first|omega|exact ti rfl|(simp only[np,nq];first|done|omega))only[go_sem]
  ·rw[<-hHa];simp(disch:=first|omega|exact ti rfl|(simp only[np,nq];first|done|omega))only[go_sem]
  ·rw[<-hHa];exact eB _ _ _
  ·rw[<-hHa];simp(disch:=first|omega|exact ti rfl|(simp only[np,nq];first|done|omega))only[go_sem]
  ·obtain⟨y,_,hy⟩:=qep hV.al hV.sp (qik.2 ⟨g,hm.1,x,hm.2,rfl,rfl⟩);have hnd:=qne hV.al (i:=n) (by rw[<-vZ,List.length_map];exact hnl);have hk:(aQ X)[n]'(by rw[<-vZ,List.length_map];exact hnl)=(g.name,x.r.name):=by
    have e3:(aQ X)[n]? =some (kq (eO X)[n]):=by rw[<-vZ,List.getElem?_map,List.getElem?_eq_getElem hnl];rfl
    rw[List.getElem?_eq_getElem (by rw[<-vZ,List.length_map];exact hnl),hxx]at e3;exact Option.some.inj e3
   rw[hk]at hnd;exact hnd
 have ru:=(hq.fm fa).ru;obtain⟨c0,c1,c2,c3,hcs,_⟩:=qmn ((hX.sp _ hm.1).rel _ hm.2);have lM:=(((hX.sp _ hm.1).rel _ hm.2).ru).fm fa;simp only[go_sem,ru];refine Ok.ve (qnz hC hN (k:=j) (by omega) lM hP.2.2.1) ?_;rintro _ H2 ⟨nv,l,rfl,ha,hl⟩;have n2:=ha.fm.nx;obtain⟨Hf,hHf⟩:∃ Hf,Hf=aT ((aT ((aT H2 (aD 0 [.aA])).put H2.nx (aD 0 [nv])) (aD 0 [.bool false])).put (H2.nx+1) (aD 0 [.bool false])) (aD 0 [.fn 133 [] [.ptr H.nx 0,.ptr (H.nx+1) 0,.ptr (H.nx+1+1+1+7) 0,.ptr (H.nx+1+1) 0],.fn 134 [] [.ptr H.nx 0,.ptr (H.nx+1+1+1+7) 0],.fn 136 [] [.ptr H.nx 0,.ptr (H.nx+1) 0,.ptr H2.nx 0,.ptr (H2.nx+1) 0],.fn 138 [] [.ptr (H2.nx+1) 0,.ptr (H.nx+1+1+1+7) 0,.ptr (H.nx+1) 0]]):=⟨_,rfl⟩;have ff:Fm No H2 Hf:=by rw[hHf];repeat first|exact Fm.refl _ _|assumption|refine Fm.push ?_ _|refine Fm.aG ?_ _ _ (by omega)
 have nf:Hf.nx=H2.nx+3:=by rw[hHf];rfl
 have k20:Hf.get H2.nx=aD 0 [nv]:=by rw[hHf];simp(disch:=first|omega|exact ti rfl|(simp only[np,nq];first|done|omega))only[go_sem]
 have k22:Hf.get (H2.nx+1)=aD 0 [.bool false]:=by rw[hHf];simp(disch:=first|omega|exact ti rfl|(simp only[np,nq];first|done|omega))only[go_sem]
 have kfb:Hf.get (H2.nx+1+1)=aD 0 [.fn 133 [] [.ptr H.nx 0,.ptr (H.nx+1) 0,.ptr (H.nx+1+1+1+7) 0,.ptr (H.nx+1+1) 0],.fn 134 [] [.ptr H.nx 0,.ptr (H.nx+1+1+1+7) 0],.fn 136 [] [.ptr H.nx 0,.ptr (H.nx+1) 0,.ptr H2.nx 0,.ptr (H2.nx+1) 0],.fn 138 [] [.ptr (H2.nx+1) 0,.ptr (H.nx+1+1+1+7) 0,.ptr (H.nx+1) 0]]:=by rw[hHf];simp(disch:=first|omega|exact ti rfl|(simp only[np,nq];first|done|omega))only[go_sem]
 have faf:Fm No Ha Hf:=ha.fm.trans ff;have hRf:=hR.fm faf;have hlf:Rs 5 j5 Hf nv l:=(ha.rs qhd).fm ff;have main:Ok (C j (.f 132) [.sl (H2.nx+1+1) 0 4 4 true] Hf) fun r H'=>r=iN 0/\∃ Hm,Fm No Hf Hm/\Fm No (Hm.put (H2.nx+1) (aD 0 [.bool ((x.r.rule.nodes false).any fun y=>decide (y.k=1))])) H':=by
  refine zy4 hC (k:=j) (by omega) kfb (R1':=fun H'=>H'=Hf) (R2':=fun H'=>Fm No Hf H') (R3':=fun H'=>∃ Hm,Fm No Hf Hm/\H'=Hm.put (H2.nx+1) (aD 0 [.bool ((x.r.rule.nodes false).any fun y=>decide (y.k=1))])) ?_ ?_ ?_ ?_ ?_ ?_ ?_
  ·rw[zt4 hC (by omega) hRf];exact Ok.ret ⟨rfl,rfl⟩
  ·simp
  ·rintro _ rfl;exact zt3 hC (by omega) hRf hV
  ·intro H' f;exact f.keep (by omega)
  ·intro H1 f1;exact zt2 hC (by omega) (hRf.fm f1) hV (hlf.fm f1) hl ((f1.keep (by omega)).trans k20) ((f1.keep (by omega)).trans k22) (by have:=f1.nx;omega) |>.mono fun r H' ⟨e,Hm,f,h⟩=>⟨e,Hm,f1.trans f,h⟩
  ·rintro _ ⟨Hm,fm,rfl⟩;rw[dW _ _ _ _ (by omega)];exact fm.keep (by omega)
  ·rintro _ ⟨Hm,fm,rfl⟩;have hRm:RlI (Hm.put (H2.nx+1) (aD 0 [.bool ((x.r.rule.nodes false).any fun y=>decide (y.k=1))])) X g x sv ib n H.nx (H.nx+1) (H.nx+1+1+1+7) (H.nx+1+1) (qs[n]'(by omega)):=hR.fm ((faf.trans fm).aG _ _ (by omega));exact(zt1 hC hN (by omega) hRm hV (eB _ _ _)).mono fun r H' ⟨e,f⟩=>⟨e,Hm,fm,f⟩
 have done:∀ r H',r=AV.int .i64 (.ofNat 0)/\(∃Hm,Fm No Hf Hm/\Fm No (Hm.put (H2.nx+1) (aD 0 [.bool ((x.r.rule.nodes false).any fun y=>decide (y.k=1))])) H')->Ok (.ok r H') fun r H'=>r=iN 0/\Fm No H H':=fun r H' ⟨e,Hm,f,f'⟩=>
  Ok.ret ⟨e,(((fa.trans faf).trans f).aG (H2.nx+1) _ (by omega)).trans f'⟩
 rcases ha.gl.is with⟨h,_⟩|⟨_,_,_,_,_,h,_⟩
 ·subst h;simp(disch:=first|omega|exact ti rfl)only[go_sem,seval];rw[<-hHf];exact Ok.ve main done
 ·subst h;simp(disch:=first|omega|exact ti rfl)only[go_sem,seval];rw[<-hHf];exact Ok.ve main done
theorem zl7{X:List aS}{s i:Nat}(hs:s<X.length)(hi:i<X[s].gs.length):(eO X)[(dA X s).length+i]? =some (X[s].name,X[s].gs[i]):=by obtain⟨Z,h⟩:=zee hs hi;rw[h,List.getElem?_append_right (by simp;omega)];simp[Nat.min_eq_left (Nat.le_of_lt hi)]
theorem qqf(hC:aZ C)(hN:l8 C){j:Nat}(hj:20<=j){sv:AV}{X:List aS}{ib pb:Nat}{Hb:Hp}(hX:dH Hb sv X)(hI:vY Hb ib sv X)(hV:eT X){s:Nat}(hs:s<X.length)(hp:Hb.get pb=aD 0 [.str X[s].name.n X[s].name.a,X[s].rv])(hpl:pb<Hb.nx){Q:pL}{q:pD}{qr:pD}(hq:∀ H,Fm No Hb H->Ok (q (iN (((dA X s).length+X[s].gs.length))) H) Q):∀(k i:Nat) (H:Hp),i<=X[s].gs.length->X[s].gs.length-i<k->Fm No Hb H->Ok (qre (C j) qr q (.ptr ib 0) (.ptr pb 0) (iN (X[s].gs.length)) k (iN (((dA X s).length+i))) (iN i) H) Q
 |0,i,_,_,h,_=>by omega
 |k+1,i,H,hi,hk,hf=>by
  show Ok (qy8 (C j) _ _ _ _ _ (qre (C j) _ _ _ _ _ k) _ _ H) Q;unfold qy8;have jK:=hV.pr.len;have aLb:=q3v X s;by_cases hlt:i<X[s].gs.length
  ·have h16:=(hV.pr.r _ (List.getElem_mem hs)).1;simp only[go_sem,hlt];unfold za4;have hp1:=(hf.keep hpl).trans hp;simp only[go_sem,hp1];refine Ok.ve (qw6 hC hN hj (hX.fm hf) (hI.fm hf) hV (zl7 hs hlt) ⟨List.getElem_mem hs,List.getElem_mem hlt⟩) ?_;rintro _ H2 ⟨rfl,f2⟩;unfold za5;unfold za6;simp(disch:=first|omega|exact ti rfl|(simp only[np,nq];first|done|omega))only[go_sem,rB,rI,rK,rL,rN,rS,r6];exact qqf hC hN hj hX hI hV hs hp hpl hq k (i+1) H2 (by omega) (by omega) (hf.trans f2)
  ·simp only[go_sem,hlt];have he:i=X[s].gs.length:=by omega
   simp_all
theorem qwo(hC:aZ C)(hN:l8 C){j:Nat}(hj:20<=j){sv:AV}{X:List aS}{ib:Nat}{Hb:Hp}(hX:dH Hb sv X)(hI:vY Hb ib sv X)(hV:eT X){Q:pL}{q:pH}{qr:pD}(hq:∀ H,Fm No Hb H->Ok (q H) Q):∀(k s:Nat) (H:Hp),s<=X.length->X.length-s<k->Fm No Hb H->Ok (quh (C j) qr q (.ptr ib 0) sv (iN (X.length)) k (iN ((dA X s).length)) (iN s) H) Q
 |0,i,_,_,h,_=>by omega
 |k+1,s,H,hi,hk,hf=>by
  show Ok (za7 (C j) _ _ _ _ _ (quh (C j) _ _ _ _ _ k) _ _ H) Q;unfold za7;have hn:=hV.pr.n;by_cases hlt:s<X.length
  ·simp only[go_sem,hlt];unfold za3;have h1:=hX.fm hf;obtain⟨b1,o1,e1,e2,_,e3,_⟩:=h1.rs.at' s hlt;unfold tK SS.v at e3;have hsp:=h1.sp _ (List.getElem_mem hlt);have hl:=hsp.len;have h16:=(hV.pr.r _ (List.getElem_mem hlt)).1;simp(disch:=first|omega|exact ti rfl)only[go_sem,seval,e1,e3,hl];have fp:Fm No H ((aT H (aD 0 [.str 0 0,.aA])).put H.nx (aD 0 [.str X[s].name.n X[s].name.a,X[s].rv])):=by exact nH
   unfold za8;rw[dK];refine qqf hC hN hj (h1.fm fp) ((hI.fm hf).fm fp) hV hlt (pb:=H.nx) (eB _ _ _) (by(first|omega|(simp only[np,nq];omega))) (fun H3 f3=>?_) cZ 0 _ (Nat.zero_le _) (by rw[dM];omega) (Fm.refl _ _);unfold qy7;simp(disch:=first|omega|exact ti rfl|(simp only[np,nq];first|done|omega))only[go_sem,rB,rI,rK,rL,rN,rS,r6];have hx:(dA X s).length+X[s].gs.length=(dA X (s+1)).length:=by unfold dA eO;rw[List.take_succ_eq_append_getElem hlt,List.flatMap_append,List.flatMap_singleton,List.length_append,List.length_map]
   rw[hx];exact qwo hC hN hj hX hI hV hq k (s+1) H3 (by omega) (by omega) ((hf.trans fp).trans f3)
  ·simp only[go_sem,hlt];exact hq H hf
theorem qw5(hC:aZ C)(hN:l8 C){k:Nat}(hk:21<=k){H:Hp}{sv:AV}{X:List aS}(hX:dH H sv X)(hV:eT X):Ok (C k (.f 84) [.agg [sv]] H) fun r H'=>r=iN 0/\Fm No H H':=by
 obtain⟨j,rfl⟩:=aW hk;rw[(hC j).zBj];unfold zBj zsy;simp(disch:=omega)only[go_sem,seval];have f:Fm No H (aT H (aD 0 [sv])):=by exact jS
 refine Ok.ve (zhk hC hN (k:=j) (by omega) (hX.fm f) hV.pr) ?_;rintro _ H1 ⟨rfl,f1⟩;unfold za1;have n1:=f1.nx;simp only[np]at n1;have k1:H1.get H.nx=aD 0 [sv]:=(f1.keep (by simp only[np,nq];omega)).trans (mP _ _);simp only[go_sem,seval,k1];have hX1:=(hX.fm f).fm f1;refine Ok.ve (zqo hC (k:=j) (by omega) hX1 hV.pr hV.al hV.sp) ?_;rintro _ H2 ⟨ib,rfl,hI,f2⟩;have k2:=(f2.keep (by omega)).trans k1;have hX2:=hX1.fm f2;obtain⟨mb,nb,av,iv,qs,g1,g2,_⟩:=hI.ex;have hlm:=g2.len;have hls:=hX2.rs.len;have hn:=hV.pr.n;simp only[go_sem,g1,hlm,k2,hls,Nat.lt_irrefl];unfold za2;simp only[go_sem,k2,hls];unfold zpj;rw[dK];have h0:(0:Nat)=(dA X 0).length:=by unfold dA eO;simp
 have main:=qwo hC hN (j:=j) (by omega) hX2 hI hV (Q:=fun r H'=>r=iN 0/\Fm No H H') (q:=fun H=>q19 (C j) H) (qr:=fun x2 H=>.ok x2 H) (fun H3 f3=>by exact Ok.ret ⟨rfl,((f.trans f1).trans f2).trans f3⟩) cZ 0 H2 (Nat.zero_le _) (by rw[dM];omega) (Fm.refl _ _);trivial
theorem q1h(hC:aZ C)(hN:l8 C){k:Nat}(hk:22<=k){H:Hp}{sv:AV}{X:List aS}(hX:dH H sv X)(hV:eT X)(a b to:SS)(hab:(a,b)∈aQ X)(hne:tH X a b to≠[]):Ok (C k (.f 87) [.agg [sv],.str a.n a.a,.str b.n b.a,.str to.n to.a] H) fun r H'=>∃ tv,r=.bG [tv,iN 0]/\Ac 1 sC H H' tv (tH X a b to):=by
 obtain⟨j,rfl⟩:=aW hk;rw[(hC j).zBm];unfold zBm zsv;simp(disch:=omega)only[go_sem,seval];have f:Fm No H (aT H (aD 0 [sv])):=by exact jS
 refine Ok.ve (qw5 hC hN (k:=j) (by omega) (hX.fm f) hV) ?_;rintro _ H1 ⟨rfl,f1⟩;unfold za0;have n1:=f1.nx;have k1:H1.get H.nx=aD 0 [sv]:=(f1.keep (by simp only[np,nq];omega)).trans (mP _ _);simp only[go_sem,k1];have hX1:=(hX.fm f).fm f1;refine Ok.ve (zqo hC (k:=j) (by omega) hX1 hV.pr hV.al hV.sp) ?_;rintro _ H2 ⟨ib,rfl,hI,f2⟩;obtain⟨q,x,_,ec,_⟩:=qgi hC (k:=j) (by omega) hI hV.al hV.sp hab;simp only[go_sem,ec];refine Ok.ve (qny hC (k:=j) (by omega) (hX1.fm f2) hV.pr.sml hI hV.al hV.sp a b to hab) ?_;intro tv H3 ha;have hl:=ha.dD;have h0:¬(tH X a b to).length=0:=fun h=>hne (List.length_eq_zero_iff.1 h);simp only[go_sem,hl,h0];exact Ok.ret ⟨tv,rfl,ha.trans ((f.trans f1).trans f2)⟩
theorem zff(p q:SS×SS):fI (fun xs ys=>xX p1 ⟨bX⟩ 1 xs ys 2 0) (kyP p) (kyP q)=some (decide (p=q)):=q05 p q
theorem iZ.aDK{H:Hp}{b:Nat}{ps:List (SS×SS)}(h:iZ H b ps)(z:AV)(x y:SS)(hp:(x,y)∈ps):pF ⟨fI fun xs ys=>xX p1 ⟨bX⟩ 1 xs ys 2 0,some 2⟩ z false H (.map b) (.agg [.str x.n x.a,.str y.n y.a])=.val (iN ((ps.findIdx fun q=>decide (q=(x,y))))):=by have:=h.look (s:=some 2) zff (fun _=>rfl) z false (x,y);rw[if_pos hp]at this;exact this
theorem iZ.aQM{H:Hp}{b:Nat}{ps:List (SS×SS)}(h:iZ H b ps)(x y:SS)(hp:(x,y)∉ps):∃k,mI ⟨fI fun xs ys=>xX p1 ⟨bX⟩ 1 xs ys 2 0,some 2⟩ H (.map b) (.agg [.str x.n x.a,.str y.n y.a]) (iN (ps.length))=.ok .undef (H.put b k)/\iZ (H.put b k) b (ps++[(x,y)]):=
 h.upd (s:=some 2) zff (fun _=>rfl) hp
structure pY(Hb:Hp)(iW:AV)(H:Hp)(gb N:Nat)(ev:AV)(es:List Edge):Prop where
 blk:H.get gb=aD 0 [iN N,ev]
 lt:gb<Hb.nx
 gl:Gl 3 H ev es.length (es.flatMap Edge.cells)
 fm:Fm (fun c=>c=gb\/In iW c) Hb H
 nw:∀ c,In ev c->In iW c\/Hb.nx<=c
 nin:∀ c,In ev c->gb<c
theorem pY.no{Hb H H':Hp}{iW ev:AV}{gb N:Nat}{es:List Edge}(h:pY Hb iW H gb N ev es)(f:Fm No H H'):pY Hb iW H' gb N ev es:=
 ⟨(f.keep (Nat.lt_of_lt_of_le h.lt h.fm.nx)).trans h.blk,h.lt,h.gl.no f,h.fm.then f fun _ _ h=>absurd h id,h.nw,h.nin⟩
theorem pY.base{Hb H H':Hp}{iW ev:AV}{gb N:Nat}{es:List Edge}(h:pY Hb iW H gb N ev es)(f:Fm No H H'):pY H' ev H' gb N ev es:=
 ⟨(f.keep (Nat.lt_of_lt_of_le h.lt h.fm.nx)).trans h.blk,Nat.lt_of_lt_of_le h.lt (Nat.le_trans h.fm.nx f.nx),h.gl.no f,Fm.refl _ _,fun _ h=>.inl h,h.nin⟩
theorem pY.comp{Hb H H1 H2:Hp}{iW ev ev2:AV}{gb N:Nat}{es es2:List Edge}(h:pY Hb iW H gb N ev es)(f:Fm No H H1)(h2:pY H1 ev H2 gb N ev2 es2):pY Hb iW H2 gb N ev2 es2:=
 ⟨h2.blk,h.lt,h2.gl,(h.fm.then f fun _ _ h=>absurd h id).then h2.fm fun c hc hs=>by
  rcases hs with hs|hs
  ·omega
  ·rcases h.nw c hs with h|h
   ·exact .inr h
   ·omega,fun c hc=>by
  have n1:=h.fm.nx;have n2:=f.nx;rcases h2.nw c hc with h'|h'
  ·exact h.nw c h'
  ·exact .inr (by omega),h2.nin⟩
structure ToR(X:List aS)(g:aS)(x:aX)(y:Nd×AV)(nb mb pb rb yb:Nat)(H:Hp):Prop where
 n:H.get nb=aD 0 [.map mb]
 m:iZ H mb (aQ X)
 p:H.get pb=aD 0 [.str g.name.n g.name.a,g.rv]
 r:∃ c1 c2 c3 c4 c5,H.get rb=aD 0 [.str x.r.name.n x.r.name.a,c1,c2,c3,c4,c5]
 y:H.get yb=aD 0 (j5 y)
theorem ztp(hC:aZ C){k:Nat}(hk:1<=k){Hb H:Hp}{iW ev:AV}{gb N:Nat}{es:List Edge}(hG:pY Hb iW H gb N ev es)(hes:es.length<=1000000){X:List aS}{g:aS}{x:aX}{y:Nd×AV}{nb mb pb rb yb:Nat}(hR:ToR X g x y nb mb pb rb yb H)(hself:(g.name,x.r.name)∈aQ X){a b:SS}(hab:(a,b)∈aQ X)(jK:(aQ X).length<=256):Ok (C k (.f 86) [.str a.n a.a,.str b.n b.a,.ptr gb 0,.ptr nb 0,.ptr pb 0,.ptr rb 0,.ptr yb 0] H) fun _ H'=>∃ ev',pY Hb iW H' gb N ev' (es++[⟨cK X g.name x.r.name,cK X a b,y.1.neg⟩]):=by
 obtain⟨j,rfl⟩:=aW hk;rw[(hC j).zBl];unfold zBl zsw;have e0:=hG.blk;have hn:=hR.n;have hp:=hR.p;obtain⟨c1,c2,c3,c4,c5,hr⟩:=hR.r;have hy:=hR.y;have m1:=hR.m.aDK (iN 0) g.name x.r.name hself;have m2:=hR.m.aDK (iN 0) a b hab;have i1:(List.findIdx (fun q=>decide (q=(g.name,x.r.name))) (aQ X))=cK X g.name x.r.name:=rfl;have i2:(List.findIdx (fun q=>decide (q=(a,b))) (aQ X))=cK X a b:=rfl;have m1':pF ⟨fI fun xs ys=>xX p1 ⟨bX⟩ 1 xs ys 2 0,some 2⟩ (iN 0) false ⟨H.t,H.nx+21⟩ (.map mb) (.agg [.str g.name.n g.name.a,.str x.r.name.n x.r.name.a])=.val (iN ((cK X g.name x.r.name))):=m1;have m2':pF ⟨fI fun xs ys=>xX p1 ⟨bX⟩ 1 xs ys 2 0,some 2⟩ (iN 0) false ⟨H.t,H.nx+21⟩ (.map mb) (.agg [.str a.n a.a,.str b.n b.a])=.val (iN ((cK X a b))):=m2;unfold j5 SS.v at hy;simp(disch:=first|omega|exact ti rfl|(simp only[np,nq];first|done|omega))only[go_sem,rB,rI,rK,rL,rN,rS,r6,e0,hn,hp,hr,hy,m1',m2'];have hbl:=Nat.lt_of_lt_of_le hG.lt hG.fm.nx;have fp:Fm No H ((Hp.mk H.t (H.nx+21)).put (H.nx+17) (aD 0 [iN ((cK X g.name x.r.name)),iN ((cK X a b)),.bool y.1.neg])):=by(repeat(first|exact Fm.refl _ _|assumption|refine Fm.push ?_ _|refine Fm.oK ?_ (by(first|omega|(simp only[np,nq];omega)))|refine Fm.aG ?_ _ _ (by(first|omega|(simp only[np,nq];omega)))))
 obtain⟨H2,e2,g2,_,f2,n2⟩:=(hG.gl.no fp).append (k:=1) (w:=24) (x:=Edge.cells ⟨cK X g.name x.r.name,cK X a b,y.1.neg⟩) (by omega) rfl (by omega) (by omega);simp only[nq]at e2 g2 n2;refine Ok.yF e2 ?_;have nig:¬ In ev gb:=fun h=>by have:=hG.nin gb h;omega
 have k2:H2.get gb=aD 0 [iN N,ev]:=(f2.get gb (show gb<H.nx+21 by omega) nig).trans ((fp.keep hbl).trans e0);simp only[go_sem,seval,k2];have hnb:=hG.fm.nx;refine Ok.ret ⟨.sl (H.nx+21) 0 (es.length+1) (es.length+1) false,eB _ _ _,hG.lt,?_,?_,?_,?_⟩
 ·rw[List.length_append,List.flatMap_append,List.flatMap_singleton];refine g2.keep (Nat.le_refl _) fun c hc _=>?_;obtain⟨_,_,_,_,hc⟩:=hc;injection hc with hc;rw[dW _ _ _ _ (by omega)]
 ·refine((hG.fm.then fp fun _ _ h=>absurd h id).then f2 fun c hc h=>?_).put _ _ fun _=>.inl rfl;rcases hG.nw c h with h|h
  ·exact .inr h
  ·omega
 ·rintro c ⟨_,_,_,_,hc⟩;injection hc with hc;omega
 ·rintro c ⟨_,_,_,_,hc⟩;injection hc with hc;omega
def eE(X:List aS)(n:Nat)(neg:Bool)(p:SS×SS):Edge:=⟨n,cK X p.1 p.2,neg⟩
def toF(gb nb pb rb yb:Nat):AV:=.fn 86 [] [.ptr gb 0,.ptr nb 0,.ptr pb 0,.ptr rb 0,.ptr yb 0]
theorem qz4(l:List iP):(tyT l).length<=l.length:=by unfold tyT;rw[List.length_map];exact List.length_filter_le _ _
theorem qto(hC:aZ C){j:Nat}(hj:1<=j){Hb:Hp}{iW tv:AV}{gb N nb mb pb rb yb:Nat}{X:List aS}{g:aS}{x:aX}{y:Nd×AV}(hR:∀ H,Fm (fun c=>c=gb\/In iW c) Hb H->ToR X g x y nb mb pb rb yb H)(hT:∀ H,Fm (fun c=>c=gb\/In iW c) Hb H->Rs 2 tC H tv x.r.types)(htl:x.r.types.length<=8)(hself:(g.name,x.r.name)∈aQ X)(jK:(aQ X).length<=256)(hin:∀ p∈tyT x.r.types,p∈aQ X){E:List Edge}(hE:E.length<=900000){Q:pL}{q:pH}(hq:∀ H ev,pY Hb iW H gb N ev (E++(tyT x.r.types).map (eE X (cK X g.name x.r.name) y.1.neg))->Ok (q H) Q):∀(k i:Nat) (H:Hp) (ev:AV),i<=x.r.types.length->x.r.types.length-i<k->pY Hb iW H gb N ev (E++(tyT (x.r.types.take i)).map (eE X (cK X g.name x.r.name) y.1.neg)) -> Ok (qrs (C j) q (toF gb nb pb rb yb) tv (iN (x.r.types.length)) k (iN i) H) Q
 |0,i,_,_,_,h,_=>by omega
 |k+1,i,H,ev,hi,hk,hG=>by
  show Ok (qzo (C j) _ _ _ _ (qrs (C j) _ _ _ _ k) _ H) Q;unfold qzo;by_cases hlt:i<x.r.types.length
  ·simp only[go_sem,hlt];unfold zbt;obtain⟨b1,o1,e1,e2,_,e3,_⟩:=(hT H hG.fm).at' i hlt;unfold tC SS.v at e3;have hs:=zk7 hlt;have fp:Fm No H ((aT H (aD 0 [.str 0 0,.str 0 0])).put H.nx (aD 0 [.str x.r.types[i].sp.n x.r.types[i].sp.a,.str x.r.types[i].rl.n x.r.types[i].rl.a])):=by exact nH
   have hll:=qz4 (x.r.types.take i);rw[List.length_take]at hll;by_cases hz:x.r.types[i].rl.n=0/\x.r.types[i].rl.a=0
   ·have hzt:=eq_true hz;rw[if_pos ((qP _ _).2 hz),List.append_nil]at hs;simp(disch:=first|omega|exact ti rfl)only[go_sem,seval,e1,e3,hzt];unfold qrt;simp(disch:=first|omega|exact ti rfl|(simp only[np,nq];first|done|omega))only[go_sem,rB,rI,rK,rL,rN,rS,r6];exact qto hC hj hR hT htl hself jK hin hE hq k (i+1) _ ev (by omega) (by omega) (by rw[hs];exact hG.no fp)
   ·have hz':¬ x.r.types[i].rl=sE:=fun h=>hz ((qP _ _).1 h);rw[if_neg hz']at hs;have hpm:(x.r.types[i].sp,x.r.types[i].rl)∈aQ X:=hin _ (by
     unfold tyT;rw[List.mem_map];exact⟨x.r.types[i],by rw[List.mem_filter];exact⟨List.getElem_mem hlt,by simpa using hz'⟩,rfl⟩)
    simp(disch:=first|omega|exact ti rfl)only[go_sem,seval,e1,e3,hz];refine Ok.ve (ztp hC hj (hG.no fp) (by rw[List.length_append,List.length_map];omega) (hR _ (hG.no fp).fm) hself hpm jK) ?_;rintro _ H3 ⟨ev3,hG3⟩;unfold qrt;simp(disch:=first|omega|exact ti rfl|(simp only[np,nq];first|done|omega))only[go_sem,rB,rI,rK,rL,rN,rS,r6];refine qto hC hj hR hT htl hself jK hin hE hq k (i+1) _ ev3 (by omega) (by omega) ?_;rw[hs,List.map_append,<-List.append_assoc];exact hG3
  ·simp only[go_sem,hlt];have he:i=x.r.types.length:=by omega
   rw[he,List.take_length]at hG;exact hq H ev hG
theorem q4b(hC:aZ C){j:Nat}(hj:1<=j){Hb:Hp}{iW tv:AV}{gb N nb mb pb rb yb:Nat}{X:List aS}{g:aS}{x:aX}{y:Nd×AV}(hR:∀ H,Fm (fun c=>c=gb\/In iW c) Hb H->ToR X g x y nb mb pb rb yb H){ts:List SS}(hT:∀ H,Fm (fun c=>c=gb\/In iW c) Hb H->Rs 1 sC H tv ts)(htl:ts.length<=100)(hself:(g.name,x.r.name)∈aQ X)(jK:(aQ X).length<=256)(hin:∀ s∈ts,(s,y.1.to)∈aQ X){E:List Edge}(hE:E.length<=900000){Q:pL}{q:pH}(hq:∀ H ev,pY Hb iW H gb N ev (E++(ts.map fun s=>(s,y.1.to)).map (eE X (cK X g.name x.r.name) y.1.neg))->Ok (q H) Q):∀(k i:Nat) (H:Hp) (ev:AV),i<=ts.length->ts.length-i<k->pY Hb iW H gb N ev (E++((ts.take i).map fun s=>(s,y.1.to)).map (eE X (cK X g.name x.r.name) y.1.neg)) -> Ok (qrr (C j) q (.ptr yb 0) (toF gb nb pb rb yb) tv (iN (ts.length)) k (iN i) H) Q
 |0,i,_,_,_,h,_=>by omega
 |k+1,i,H,ev,hi,hk,hG=>by
  show Ok (qzn (C j) _ _ _ _ _ (qrr (C j) _ _ _ _ _ k) _ H) Q;unfold qzn;by_cases hlt:i<ts.length
  ·simp only[go_sem,hlt];unfold q2l;obtain⟨b1,o1,e1,e2,e3⟩:=(hT H hG.fm).at1 (g:=SS.v) (fun _=>rfl) hlt;have r:=hR H hG.fm;have hy:=r.y;simp only[go_sem,e1,e3,hy];refine Ok.ve (ztp hC hj hG (by rw[List.length_append,List.length_map,List.length_map,List.length_take];omega) r hself (hin ts[i] (List.getElem_mem hlt)) jK) ?_;rintro _ H3 ⟨ev3,hG3⟩;unfold zbs;simp(disch:=first|omega|exact ti rfl|(simp only[np,nq];first|done|omega))only[go_sem,rB,rI,rK,rL,rN,rS,r6];refine q4b hC hj hR hT htl hself jK hin hE hq k (i+1) _ ev3 (by omega) (by omega) ?_;rw[List.take_succ_eq_append_getElem hlt,List.map_append,List.map_append,<-List.append_assoc];exact hG3
  ·simp only[go_sem,hlt];have he:i=ts.length:=by omega
   rw[he,List.take_length]at hG;exact hq H ev hG
def yB(X:List aS)(g:aS)(x:aX)(y:Nd):List Edge:=(y8 X g.name x y).map (eE X (cK X g.name x.r.name) y.neg)
structure NdR(X:List aS)(g:aS)(x:aX)(sv nv:AV)(l:List (Nd×AV))(xb nb mb pb rb:Nat)(H:Hp):Prop where
 yP:dH H sv X
 x1:H.get xb=aD 0 [sv]
 n:H.get nb=aD 0 [.map mb]
 m:iZ H mb (aQ X)
 p:H.get pb=aD 0 [.str g.name.n g.name.a,g.rv]
 r:∃ c2 c3 c4 c5,H.get rb=aD 0 [.str x.r.name.n x.r.name.a,x.tv,c2,c3,c4,c5]
 nd:Rs 5 j5 H nv l
theorem zuu{X:List aS}(hS:vT X){a:SS}{x:aX}(hx:x.r.types.length<=100)(y:Nd):(y8 X a x y).length<=100:=by
 unfold y8;split
 ·have:=qz4 x.r.types;omega
 split
 ·simp
 split
 ·rw[List.length_map];exact quw hS _ _ _
 ·simp
theorem zuv{X:List aS}(hS:vT X){g:aS}{x:aX}(hx:x.r.types.length<=100)(y:Nd):(yB X g x y).length<=100:=by unfold yB;rw[List.length_map];exact zuu hS hx y
theorem q4f(hC:aZ C)(hN:l8 C){j:Nat}(hj:22<=j){Hb:Hp}{iW sv nv:AV}{gb N xb nb mb pb rb:Nat}{X:List aS}(hV:eT X){g:aS}{x:aX}(hm:g∈X/\x∈g.gs){l:List (Nd×AV)}(hR:∀ H,Fm (fun c=>c=gb\/In iW c) Hb H->NdR X g x sv nv l xb nb mb pb rb H)(hlt':xb<Hb.nx/\nb<Hb.nx/\mb<Hb.nx/\pb<Hb.nx/\rb<Hb.nx)(hll:l.length<=32)(hln:l.map Prod.fst=x.r.rule.nodes false)(hin:∀ y∈l,∀p∈y8 X g.name x y.1,p∈aQ X){E:List Edge}(hE:E.length<=800000){Q:pL}{q:pH}(hq:∀ H ev,pY Hb iW H gb N ev (E++l.flatMap fun y=>yB X g x y.1)->Ok (q H) Q):∀(k i:Nat) (H:Hp) (ev:AV),i<=l.length->l.length-i<k->pY Hb iW H gb N ev (E++(l.take i).flatMap fun y=>yB X g x y.1) -> Ok (qiy (C j) q (.ptr xb 0) (.ptr nb 0) (.ptr gb 0) (.ptr pb 0) (.ptr rb 0) nv (iN (l.length)) k (iN i) H) Q
 |0,i,_,_,_,h,_=>by omega
 |k+1,i,H,ev,hi,hk,hG=>by
  show Ok (qzp (C j) _ _ _ _ _ _ _ _ (qiy (C j) _ _ _ _ _ _ _ _ k) _ H) Q;unfold qzp;obtain⟨t1,t2,t3,t4,t5⟩:=hlt';by_cases hlt:i<l.length
  ·simp only[go_sem,hlt];unfold q2k;have r:=hR H hG.fm;obtain⟨b1,o1,e1,e2,_,e3,_⟩:=r.nd.at' i hlt;unfold j5 SS.v at e3;have hSm:=hV.pr.sml;have htx:=(hV.pr.x _ hm.1 _ hm.2).1;have hself:(g.name,x.r.name)∈aQ X:=qik.2 ⟨g,hm.1,x,hm.2,rfl,rfl⟩;have jK:(aQ X).length<=256:=by have:=hV.pr.len;rw[<-vZ,List.length_map];exact this
   have fp:Fm No H ((aT H (aD 0 [.int .u8 (.ofNat 0),.str 0 0,.str 0 0,.aA,.bool false])).put H.nx (aD 0 [.int .u8 (.ofNat l[i].1.k),.str l[i].1.rl.n l[i].1.rl.a,.str l[i].1.to.n l[i].1.to.a,l[i].2,.bool l[i].1.neg])):=by exact nH
   obtain⟨H1,hH1⟩:∃ H1,H1=(aT H (aD 0 [.int .u8 (.ofNat 0),.str 0 0,.str 0 0,.aA,.bool false])).put H.nx (aD 0 [.int .u8 (.ofNat l[i].1.k),.str l[i].1.rl.n l[i].1.rl.a,.str l[i].1.to.n l[i].1.to.a,l[i].2,.bool l[i].1.neg]):=⟨_,rfl⟩;rw[<-hH1]at fp;have kb:H1.get H.nx=aD 0 (j5 l[i]):=by rw[hH1];exact eB _ _ _
   have n1:H1.nx=H.nx+1:=by rw[hH1];rfl
   have hG1:=hG.no fp;have nx0:=hG.fm.nx;have hEl:(E++(l.take i).flatMap fun y=>yB X g x y.1).length<=900000:=by
    have h1:=qb9 (fun y:Nd×AV=>yB X g x y.1) 100 (l.take i) fun y _=>zuv hSm (by omega) _;rw[List.length_append];have h2:(l.take i).length<=32:=by rw[List.length_take];omega
    omega
   have next:∀ H' ev',pY Hb iW H' gb N ev' ((E++(l.take i).flatMap fun y=>yB X g x y.1)++yB X g x l[i].1)->Ok (qg1 (C j) (qiy (C j) q (.ptr xb 0) (.ptr nb 0) (.ptr gb 0) (.ptr pb 0) (.ptr rb 0) nv (iN (l.length)) k) (iN i) H') Q:=fun H' ev' h=>by unfold qg1;simp(disch:=first|omega|exact ti rfl|(simp only[np,nq];first|done|omega))only[go_sem,rB,rI,rK,rL,rN,rS,r6];refine q4f hC hN hj hV hm hR ⟨t1,t2,t3,t4,t5⟩ hll hln hin hE hq k (i+1) H' ev' (by omega) (by omega) ?_;rw[List.take_succ_eq_append_getElem hlt,List.flatMap_append,List.flatMap_singleton,<-List.append_assoc];exact h
   have nR:∀ c,In ev c->c<H.nx:=fun c hc=>hG.gl.lt hc;have gbl:=hG.lt;have hTo:∀ H2,Fm No H1 H2->∀ H',Fm (fun c=>c=gb\/In ev c) H2 H'->ToR X g x l[i] nb mb pb rb H.nx H':=fun H2 f2 H' f'=>by
    have ft:Fm (fun c=>c=gb\/In iW c) Hb H':=((hG1.fm).then f2 fun _ _ h=>absurd h id).then f' fun c hc hs=>by
     rcases hs with hs|hs
     ·omega
     ·rcases hG.nw c hs with h|h
      ·exact .inr h
      ·omega
    have r':=hR H' ft;refine⟨r'.n,r'.m,r'.p,?_,?_⟩
    ·obtain⟨c2,c3,c4,c5,h⟩:=r'.r;exact⟨_,_,_,_,_,h⟩
    ·have:=f2.nx;refine(f'.get H.nx (by omega) fun hs=>?_).trans ((f2.keep (by omega)).trans kb);rcases hs with hs|hs
     ·omega
     ·have:=nR _ hs;omega
   have r1:=hR H1 hG1.fm;have rZ:=hin _ (List.getElem_mem hlt);have hnf:yB X g x l[i].1=(y8 X g.name x l[i].1).map (eE X (cK X g.name x.r.name) l[i].1.neg):=rfl;unfold y8 at rZ hnf;by_cases q1:l[i].1.k=1
   ·have q1t:=eq_true q1;rw[if_pos q1]at rZ hnf;obtain⟨c2,c3,c4,c5,hrb⟩:=r.r;have rr:=(fp.keep (show rb<H.nx by omega)).trans hrb;rw[hH1]at rr;have hty:=((r.yP.sp _ hm.1).rel _ hm.2).ty;have hl:=hty.len;simp(disch:=first|omega|exact ti rfl|(simp only[np,nq];first|done|omega))only[go_sem,rB,rI,rK,rL,rN,rS,r6,e1,e3,q1t,rr,hl];unfold zbv;rw[dK,<-hH1];have hGb:=hG1.base (Fm.refl No H1);refine qto hC (by omega) (N:=N) (Hb:=H1) (iW:=ev) (y:=l[i]) (hTo H1 (Fm.refl _ _)) (fun H' f'=>?_) htx hself jK rZ hEl (fun H' ev' h=>?_) cZ 0 H1 ev (Nat.zero_le _) (by rw[dM];omega) ?_
    ·have ft:Fm (fun c=>c=gb\/In iW c) Hb H':=(hG1.fm).then f' fun c hc hs=>by
      rcases hs with hs|hs
      ·omega
      ·rcases hG.nw c hs with h|h
       ·exact .inr h
       ·omega
     exact(((hR H' ft).yP.sp _ hm.1).rel _ hm.2).ty
    ·refine next H' ev' ?_
     rw[hnf];exact hG1.comp (Fm.refl _ _) h
    ·rw[List.take_zero];simpa [tyT] using hGb
   ·rw[if_neg q1]at rZ hnf;by_cases q2:l[i].1.k=2
    ·have q2t:=eq_true q2;rw[if_pos q2]at rZ hnf;have rp:=(fp.keep (show pb<H.nx by omega)).trans r.p;rw[hH1]at rp;simp(disch:=first|omega|exact ti rfl|(simp only[np,nq];first|done|omega))only[go_sem,rB,rI,rK,rL,rN,rS,r6,e1,e3,q1,q2t,rp];rw[<-hH1];have hGb:=hG1.base (Fm.refl No H1);refine Ok.ve (ztp hC (by omega) hGb (by omega) (hTo H1 (Fm.refl _ _) H1 (Fm.refl _ _)) hself (rZ _ List.mem_cons_self) jK) ?_;rintro _ H3 ⟨ev3,hG3⟩;refine next H3 ev3 ?_
     rw[hnf];exact hG1.comp (Fm.refl _ _) hG3
    ·rw[if_neg q2]at rZ hnf;by_cases q3:l[i].1.k=3
     ·have q3t:=eq_true q3;rw[if_pos q3]at rZ hnf;have rp:=(fp.keep (show pb<H.nx by omega)).trans r.p;have rx:=(fp.keep (show xb<H.nx by omega)).trans r.x1;rw[hH1]at rp rx;simp(disch:=first|omega|exact ti rfl|(simp only[np,nq];first|done|omega))only[go_sem,rB,rI,rK,rL,rN,rS,r6,e1,e3,q1,q2,q3t,rp,rx];rw[<-hH1];have hnd:=hV.nd _ hm.1 _ hm.2 l[i].1 (by rw[<-hln];exact List.mem_map_of_mem (List.getElem_mem hlt));refine Ok.ve (q1h hC hN (k:=j) (by omega) r1.yP hV g.name l[i].1.rl l[i].1.to (hnd.1 (.inr q3)) (hnd.2 q3)) ?_;rintro _ H2 ⟨tv,rfl,ha⟩;have hl:=ha.dD;simp only[go_sem,hl];unfold zbu;rw[dK];have hGb:=hG1.base ha.fm;have htl:=quw hSm g.name l[i].1.rl l[i].1.to;refine q4b hC (by omega) (N:=N) (Hb:=H2) (iW:=ev) (y:=l[i]) (hTo H2 ha.fm) (fun H' f'=>(ha.rs qve).iM f' fun c hc hs=>?_) htl hself jK (fun s hs=>rZ _ (List.mem_map_of_mem hs)) hEl (fun H' ev' h=>?_) cZ 0 H2 ev (Nat.zero_le _) (by rw[dM];omega) ?_
      ·have:=ha.nw c hc;rcases hs with hs|hs
       ·omega
       ·have:=nR c hs;omega
      ·refine next H' ev' ?_
       rw[hnf];exact hG1.comp ha.fm h
      ·simp_all
     ·rw[if_neg q3]at hnf;simp(disch:=first|omega|exact ti rfl|(simp only[np,nq];first|done|omega))only[go_sem,rB,rI,rK,rL,rN,rS,r6,e1,e3,q1,q2,q3];rw[<-hH1];refine next H1 ev ?_
      simp_all
  ·simp only[go_sem,hlt];have he:i=l.length:=by omega
   rw[he,List.take_length]at hG;exact hq H ev hG
theorem eT.tg{X:List aS}(hV:eT X){a b to s:SS}(h:s∈tH X a b to):(s,to)∈aQ X:=by
 unfold tH at h;cases hf:lZ X a b with
 |none=>rw[hf]at h;cases h
 |some x=>rw[hf]at h;unfold tgL at h;rw[List.mem_map]at h;obtain⟨t,ht,rfl⟩:=h;rw[List.mem_filter]at ht;have h2:=ht.2;unfold tgP at h2;rw[Bool.and_eq_true,qgf hV.al hV.sp]at h2;simp_all
theorem eT.ndt{X:List aS}(hV:eT X){g:aS}{x:aX}(hm:g∈X/\x∈g.gs){y:Nd}(hy:y∈x.r.rule.nodes false):∀ p∈y8 X g.name x y,p∈aQ X:=by
 intro p hp;unfold y8 at hp;have hnd:=hV.nd _ hm.1 _ hm.2 y hy;split at hp
 ·unfold tyT at hp;rw[List.mem_map]at hp;obtain⟨t,ht,rfl⟩:=hp;rw[List.mem_filter]at ht;rcases((hV.ty _ hm.1 _ hm.2).2 t ht.1).2 with h|h
  ·simp[h]at ht
  ·exact h
 split at hp
 ·simp_all
 split at hp
 ·rw[List.mem_map]at hp;obtain⟨s,hs,rfl⟩:=hp;exact hV.tg hs
 ·cases hp
theorem q5f{X:List aS}(hP:uM X)(a b to:SS):(tH X a b to).length<=8:=by
 unfold tH;cases h:lZ X a b with
 |none=>simp
 |some g=>refine Nat.le_trans (qz7 X to _) ?_;obtain⟨p,hp,hx,_,_⟩:=qk0 h;exact(hP.x p hp g hx).1
theorem zmi{X:List aS}(hP:uM X){g:aS}{x:aX}(hx:x.r.types.length<=8)(y:Nd):(yB X g x y).length<=8:=by
 unfold yB y8;rw[List.length_map];split
 ·have:=qz4 x.r.types;omega
 split
 ·simp
 split
 ·rw[List.length_map];exact q5f hP _ _ _
 ·simp
def relE(X:List aS)(g:aS)(x:aX):List Edge:=(x.r.rule.nodes false).flatMap (yB X g x)
theorem q3n{X:List aS}(hP:uM X){g:aS}{x:aX}(hm:g∈X/\x∈g.gs):(relE X g x).length<=256:=by unfold relE;have h1:=qb9 (yB X g x) 8 (x.r.rule.nodes false) fun y _=>zmi hP (hP.x _ hm.1 _ hm.2).1 y;have h2:=qb7 x.r.rule false;have h3:=(hP.x _ hm.1 _ hm.2).2.2.1.sz;omega
def vO(X:List aS)(l:List aS):List Edge:=l.flatMap fun g=>g.gs.flatMap (relE X g)
structure RlR(X:List aS)(sv:AV)(xb nb mb:Nat)(H:Hp):Prop where
 yP:dH H sv X
 x1:H.get xb=aD 0 [sv]
 n:H.get nb=aD 0 [.map mb]
 m:iZ H mb (aQ X)
theorem q4d(hC:aZ C)(hN:l8 C){j:Nat}(hj:22<=j){Hb:Hp}{iW sv:AV}{gb N xb nb mb pb:Nat}{X:List aS}(hV:eT X){g:aS}(hm:g∈X)(hR:∀ H,Fm (fun c=>c=gb\/In iW c) Hb H->RlR X sv xb nb mb H/\H.get pb=aD 0 [.str g.name.n g.name.a,g.rv])(hlt':xb<Hb.nx/\nb<Hb.nx/\mb<Hb.nx/\pb<Hb.nx){E:List Edge}(hE:E.length<=100000){Q:pL}{q:pH}(hq:∀ H ev,pY Hb iW H gb N ev (E++g.gs.flatMap (relE X g))->Ok (q H) Q):∀(k i:Nat) (H:Hp) (ev:AV),i<=g.gs.length->g.gs.length-i<k->pY Hb iW H gb N ev (E++(g.gs.take i).flatMap (relE X g)) -> Ok (qly (C j) q (.ptr xb 0) (.ptr nb 0) (.ptr gb 0) (.ptr pb 0) g.rv (iN (g.gs.length)) k (iN i) H) Q
 |0,i,_,_,_,h,_=>by omega
 |k+1,i,H,ev,hi,hk,hG=>by
  show Ok (qzq (C j) _ _ _ _ _ _ _ (qly (C j) _ _ _ _ _ _ _ k) _ H) Q;unfold qzq;obtain⟨t1,t2,t3,t4⟩:=hlt';by_cases hlt:i<g.gs.length
  ·simp only[go_sem,hlt];unfold q2j;obtain⟨r,rp⟩:=hR H hG.fm;have hsp:=r.yP.sp _ hm;obtain⟨b1,o1,e1,e2,_,_,_,e6⟩:=hsp.at' i hlt;have hx:=List.getElem_mem hlt;have hrr:=hsp.rel _ hx;obtain⟨c0,c1,c2,c3,hcs,hrc⟩:=qmn hrr;have hpr:=hV.pr.x _ hm _ hx;rw[hrc]at e6;have h16:=(hV.pr.r _ hm).1;obtain⟨H1,hH1⟩:∃ H1,H1=(aT H (aD 0 [.str 0 0,.aA,.int .u8 (.ofNat 0),.str 0 0,.str 0 0,.aA])).put H.nx (aD 0 [.str g.gs[i].r.name.n g.gs[i].r.name.a,g.gs[i].tv,c0,c1,c2,c3]):=⟨_,rfl⟩;have fp:Fm No H H1:=by rw[hH1];exact nH
   have kb:H1.get H.nx=aD 0 [.str g.gs[i].r.name.n g.gs[i].r.name.a,g.gs[i].tv,c0,c1,c2,c3]:=by rw[hH1];exact eB _ _ _
   have n1:H1.nx=H.nx+1:=by rw[hH1];rfl
   have lM:=hrr.ru.fm fp;rw[hcs]at lM;have call:=qnz hC hN (k:=j) (by omega) lM hpr.2.2.1;simp(disch:=first|omega|exact ti rfl|(simp only[np,nq];first|done|omega))only[go_sem,rB,rI,rK,rL,rN,rS,r6,e1,e6];rw[<-hH1];refine Ok.ve call ?_;rintro _ H2 ⟨nv,l,rfl,ha,hl⟩;have hla:=ha.dD;simp only[go_sem,hla];unfold zbw;rw[dK];have f2:=ha.fm;have n2:=f2.nx;have nx0:=hG.fm.nx;have gbl:=hG.lt;have nR:∀ c,In ev c->c<H.nx:=fun c hc=>hG.gl.lt hc;have hln:l.length<=32:=by have:=congrArg List.length hl;simp only[List.length_map,qb7]at this;have:=hpr.2.2.1.sz;omega
   have hEl:(E++(g.gs.take i).flatMap (relE X g)).length<=800000:=by
    have h1:=qb9 (relE X g) 256 (g.gs.take i) fun x hx=>q3n hV.pr ⟨hm,List.mem_of_mem_take hx⟩;rw[List.length_append];have h2:(g.gs.take i).length<=16:=by rw[List.length_take];omega
    omega
   have hG2:=hG.base (fp.trans f2);refine q4f hC hN hj (N:=N) (Hb:=H2) (iW:=ev) (sv:=sv) (mb:=mb) hV (x:=g.gs[i]) ⟨hm,hx⟩ (l:=l) (fun H' f'=>?_) ⟨by omega,by omega,by omega,by omega,by omega⟩ hln hl (fun y hy=>hV.ndt ⟨hm,hx⟩ (by rw[<-hl];exact List.mem_map_of_mem hy)) hEl (fun H' ev' h=>?_) cZ 0 H2 ev (Nat.zero_le _) (by rw[dM];omega) (by simpa using hG2)
   ·have ft:Fm (fun c=>c=gb\/In iW c) Hb H':=(hG.fm.then (fp.trans f2) fun _ _ h=>absurd h id).then f' fun c hc hs=>by
     rcases hs with hs|hs
     ·exact .inl hs
     ·rcases hG.nw c hs with h|h
      ·exact .inr h
      ·omega
    obtain⟨r',rp'⟩:=hR H' ft;refine⟨r'.yP,r'.x1,r'.n,r'.m,rp',⟨c0,c1,c2,c3,?_⟩,(ha.rs qhd).iM f' fun c hc hs=>?_⟩
    ·refine(f'.get H.nx (by omega) fun hs=>?_).trans ((f2.keep (by omega)).trans kb);rcases hs with hs|hs
     ·omega
     ·have:=nR _ hs;omega
    ·have:=ha.nw c hc;rcases hs with hs|hs
     ·omega
     ·have:=nR c hs;omega
   ·unfold qzm;simp(disch:=first|omega|exact ti rfl|(simp only[np,nq];first|done|omega))only[go_sem,rB,rI,rK,rL,rN,rS,r6];refine q4d hC hN hj hV hm hR ⟨t1,t2,t3,t4⟩ hE hq k (i+1) H' ev' (by omega) (by omega) ?_;have hre:relE X g g.gs[i]=l.flatMap fun y=>yB X g g.gs[i] y.1:=by
     unfold relE;rw[<-hl,List.flatMap_map]
    rw[List.take_succ_eq_append_getElem hlt,List.flatMap_append,List.flatMap_singleton,<-List.append_assoc,hre];exact hG.comp (fp.trans f2) h
  ·simp only[go_sem,hlt];have he:i=g.gs.length:=by omega
   rw[he,List.take_length]at hG;exact hq H ev hG
theorem q4e{X:List aS}(hP:uM X)(i:Nat):(vO X (X.take i)).length<=65536:=by
 unfold vO;have h1:=qb9 (fun g:aS=>g.gs.flatMap (relE X g)) 4096 (X.take i) fun g hg=>by have hgx:=List.mem_of_mem_take hg;have h2:=qb9 (relE X g) 256 g.gs fun x hx=>q3n hP ⟨hgx,hx⟩;have:=(hP.r g hgx).1;omega
 have h2:(X.take i).length<=16:=by rw[List.length_take];have:=hP.n;omega
 omega
theorem q4c(hC:aZ C)(hN:l8 C){j:Nat}(hj:22<=j){Hb:Hp}{iW sv:AV}{gb N xb nb mb:Nat}{X:List aS}(hV:eT X)(hR:∀ H,Fm (fun c=>c=gb\/In iW c) Hb H->RlR X sv xb nb mb H)(hlt':xb<Hb.nx/\nb<Hb.nx/\mb<Hb.nx){Q:pL}{q:pH}(hq:∀ H ev,pY Hb iW H gb N ev (vO X X)->Ok (q H) Q):∀(k s:Nat) (H:Hp) (ev:AV),s<=X.length->X.length-s<k->pY Hb iW H gb N ev (vO X (X.take s)) -> Ok (qiz (C j) q (.ptr xb 0) (.ptr nb 0) (.ptr gb 0) sv (iN (X.length)) k (iN s) H) Q
 |0,i,_,_,_,h,_=>by omega
 |k+1,s,H,ev,hi,hk,hG=>by
  show Ok (qzr (C j) _ _ _ _ _ _ (qiz (C j) _ _ _ _ _ _ k) _ H) Q;unfold qzr;obtain⟨t1,t2,t3⟩:=hlt';have hn:=hV.pr.n;by_cases hlt:s<X.length
  ·simp only[go_sem,hlt];unfold q2i;have r:=hR H hG.fm;obtain⟨b1,o1,e1,e2,_,e3,_⟩:=r.yP.rs.at' s hlt;unfold tK SS.v at e3;have hm:=List.getElem_mem hlt;have hl:=(r.yP.sp _ hm).len;have h16:=(hV.pr.r _ hm).1;obtain⟨H1,hH1⟩:∃ H1,H1=(aT H (aD 0 [.str 0 0,.aA])).put H.nx (aD 0 [.str X[s].name.n X[s].name.a,X[s].rv]):=⟨_,rfl⟩;have fp:Fm No H H1:=by rw[hH1];exact nH
   have kb:H1.get H.nx=aD 0 [.str X[s].name.n X[s].name.a,X[s].rv]:=by rw[hH1];exact eB _ _ _
   have n1:H1.nx=H.nx+1:=by rw[hH1];rfl
   simp(disch:=first|omega|exact ti rfl)only[go_sem,seval,e1,e3,hl];rw[<-hH1];unfold zbx;rw[dK];have nx0:=hG.fm.nx;have gbl:=hG.lt;have nR:∀ c,In ev c->c<H.nx:=fun c hc=>hG.gl.lt hc;have hG1:=hG.base fp;refine q4d hC hN hj (N:=N) (Hb:=H1) (iW:=ev) (sv:=sv) (mb:=mb) hV hm (fun H' f'=>?_) ⟨by omega,by omega,by omega,by omega⟩ (E:=vO X (X.take s)) (by have:=q4e hV.pr s;omega) (fun H' ev' h=>?_) cZ 0 H1 ev (Nat.zero_le _) (by rw[dM];omega) (by simpa using hG1)
   ·have ft:Fm (fun c=>c=gb\/In iW c) Hb H':=(hG.fm.then fp fun _ _ h=>absurd h id).then f' fun c hc hs=>by
     rcases hs with hs|hs
     ·omega
     ·rcases hG.nw c hs with h|h
      ·exact .inr h
      ·omega
    refine⟨hR H' ft,(f'.get H.nx (by omega) fun hs=>?_).trans kb⟩;rcases hs with hs|hs
    ·omega
    ·have:=nR _ hs;omega
   ·unfold qru;simp(disch:=first|omega|exact ti rfl|(simp only[np,nq];first|done|omega))only[go_sem,rB,rI,rK,rL,rN,rS,r6];refine q4c hC hN hj hV hR ⟨t1,t2,t3⟩ hq k (s+1) H' ev' (by omega) (by omega) ?_;unfold vO at h ⊢;rw[List.take_succ_eq_append_getElem hlt,List.flatMap_append,List.flatMap_singleton];exact hG.comp fp h
  ·simp only[go_sem,hlt];have he:s=X.length:=by omega
   rw[he,List.take_length]at hG;exact hq H ev hG
end Go.Di
end
section
namespace Go.Di
open Go.Ev
def kT(n:Nat)(e:T3):Nat:=(e.f*n+e.t)*2+e.s
theorem zf8{n:Nat}{ms:List Nat}{i k:Nat}{e:T3}(h:e∈ent n ms i k):e.f=i/\e.t=k/\e.s<2/\0<ms.getD (i*n+k) 0:=by
 rcases List.mem_append.1 h with h|h
 ·split at h
  ·rw[List.mem_singleton]at h;subst h;refine⟨rfl,rfl,Nat.zero_lt_two,?_⟩;omega
  ·cases h
 ·split at h
  ·rename_i h1;rw[List.mem_singleton]at h;subst h;exact⟨rfl,rfl,Nat.one_lt_two,by omega⟩
  ·cases h
theorem zzb(n:Nat)(ms:List Nat)(i k:Nat):(ent n ms i k).Pairwise (fun a b=>kT n a<kT n b):=by unfold ent;split<;>split<;>simp[kT]
theorem q4t{n:Nat}{ms:List Nat}{i:Nat}{e:T3}:∀{k:Nat},e∈eR n ms i k->e.f=i/\e.t<k/\e.s<2/\0<ms.getD (i*n+e.t) 0
 |0,h=>by cases h
 |k+1,h=>by
  rcases List.mem_append.1 h with h|h
  ·obtain⟨h1,h2,h3,h4⟩:=q4t h;omega
  ·obtain⟨h1,h2,h3,h4⟩:=zf8 h;simp_all
theorem zzh(n:Nat)(ms:List Nat)(i:Nat):∀ k,(eR n ms i k).Pairwise (fun a b=>kT n a<kT n b)
 |0=>List.Pairwise.nil
 |k+1=>by refine List.pairwise_append.2 ⟨zzh n ms i k,zzb n ms i k,fun a ha b hb=>?_⟩;obtain⟨a1,a2,a3,_⟩:=q4t ha;obtain⟨b1,b2,b3,_⟩:=zf8 hb;unfold kT;rw[a1,b1,b2];omega
theorem qwm{n:Nat}{ms:List Nat}{e:T3}:∀{i:Nat},e∈eM n ms i->e.f<i/\e.t<n/\e.s<2/\0<ms.getD (e.f*n+e.t) 0
 |0,h=>by cases h
 |i+1,h=>by
  rcases List.mem_append.1 h with h|h
  ·obtain⟨h1,h2,h3,h4⟩:=qwm h;omega
  ·obtain⟨h1,h2,h3,h4⟩:=q4t h;simp_all
theorem zzi(n:Nat)(ms:List Nat):∀ i,(eM n ms i).Pairwise (fun a b=>kT n a<kT n b)
 |0=>List.Pairwise.nil
 |i+1=>by refine List.pairwise_append.2 ⟨zzi n ms i,zzh n ms i n,fun a ha b hb=>?_⟩;obtain⟨a1,a2,a3,_⟩:=qwm ha;obtain⟨b1,b2,b3,_⟩:=q4t hb;have h1:(a.f+1)*n<=i*n:=Nat.mul_le_mul_right n a1;rw[Nat.add_mul,Nat.one_mul]at h1;unfold kT;rw[b1];omega
theorem zgs{a b:Int}(h:a<b):iJ a b= -1:=by unfold iJ;rw[if_pos h]
theorem q1a(a:Int):iJ a a=0:=by unfold iJ;rw[if_neg (Int.lt_irrefl a),if_neg (Int.lt_irrefl a)]
theorem zyt{n:Nat}{a b:T3}(ha:a.t<n)(hb:b.t<n)(sa:a.s<2)(sb:b.s<2)(h:kT n a<kT n b):qR (toE a) (toE b)<0:=by
 unfold kT at h;rcases Nat.lt_trichotomy a.f b.f with hf|hf|hf
 ·show orI [iJ (.ofNat a.f) (.ofNat b.f),_,_]<0;rw[zgs (by simp only[Int.ofNat_eq_natCast];omega)];exact Int.negSucc_lt_zero 0
 ·have hft:a.f*n=b.f*n:=by rw[hf]
  rcases Nat.lt_trichotomy a.t b.t with ht|ht|ht
  ·show orI [iJ (.ofNat a.f) (.ofNat b.f),iJ (.ofNat a.t) (.ofNat b.t),_]<0;rw[hf,q1a,zgs (a:=.ofNat a.t) (by simp only[Int.ofNat_eq_natCast];omega)];exact Int.negSucc_lt_zero 0
  ·have hs:a.s=0/\b.s=1:=by omega
   show orI [iJ (.ofNat a.f) (.ofNat b.f),iJ (.ofNat a.t) (.ofNat b.t),iJ (sgn (decide (a.s=1))) (sgn (decide (b.s=1)))]<0;rw[hf,ht,q1a,q1a,hs.1,hs.2];decide
  ·omega
 ·have h1:(b.f+1)*n<=a.f*n:=Nat.mul_le_mul_right n hf;rw[Nat.add_mul,Nat.one_mul]at h1;omega
theorem q4q(n:Nat)(ms:List Nat):qdu n (qeh n ms):=by
 refine⟨fun e he=>?_,fun i hi=>?_⟩
 ·obtain⟨x,hx,rfl⟩:=List.mem_map.1 he;obtain⟨h1,h2,_⟩:=qwm hx;exact⟨h1,h2⟩
 ·unfold qeh at hi ⊢;rw[List.length_map]at hi;rw[List.getElem_map,List.getElem_map];have hp:=zzi n ms n;have:=List.pairwise_iff_getElem.1 hp i (i+1) (by omega) hi (Nat.lt_succ_self i);obtain⟨_,a2,a3,_⟩:=qwm (List.getElem_mem (show i<(eM n ms n).length by omega));obtain⟨_,b2,b3,_⟩:=qwm (List.getElem_mem hi);exact zyt a2 b2 a3 b3 this
theorem zu7{n i j i' j':Nat}(hj:j<n)(hj':j'<n)(h:i*n+j=i'*n+j'):i=i'/\j=j':=by
 have h1:(i*n+j) / n=i:=by rw[Nat.mul_comm,Nat.mul_add_div (by omega),Nat.div_eq_of_lt hj,Nat.add_zero]
 have h2:(i'*n+j') / n=i':=by rw[Nat.mul_comm,Nat.mul_add_div (by omega),Nat.div_eq_of_lt hj',Nat.add_zero]
 simp_all
def ltE(x y:Edge):Bool:=decide (qR x y<0)
theorem qnh(cs:List Nat)(a c v:Nat)(hc:c<cs.length):(cs.set a v).getD c 0=if a=c then v else cs.getD c 0:=by
 rw[List.getD_eq_getElem?_getD,List.getD_eq_getElem?_getD,List.getElem?_set];by_cases h:a=c
 ·simp_all
 ·simp_all
theorem zl4(n:Nat)(ms:List Nat)(f t:Nat)(s:Bool):(oZ n ms f t s).length=ms.length:=by
 unfold oZ;generalize (if s=true then 2 else 1)=d;by_cases hd:ms.getD (f*n+t) 0 / d%2=0
 ·simp_all
 ·rw[if_neg hd]
theorem zl5{n:Nat}{ms:List Nat}(hl:ms.length=n*n){f t:Nat}(s:Bool){i k:Nat}(hi:i<n)(hk:k<n)(ht:t<n)(h3:ms.getD (i*n+k) 0<=3):(oZ n ms f t s).getD (i*n+k) 0<=3/\((oZ n ms f t s).getD (i*n+k) 0%2=1↔ms.getD (i*n+k) 0%2=1\/(f=i/\t=k/\s=false))/\(1<(oZ n ms f t s).getD (i*n+k) 0↔1<ms.getD (i*n+k) 0\/(f=i/\t=k/\s=true)):=by
 have hx:=zyu hi hk;by_cases e:f=i/\t=k
 ·obtain⟨rfl,rfl⟩:=e;unfold oZ;generalize hv:ms.getD (f*n+t) 0=v at *;cases s
  ·simp only[Bool.false_eq_true,if_false];by_cases h:v / 1%2=0
   ·rw[if_pos h,qnh _ _ _ _ (by omega),if_pos rfl];refine⟨by omega,?_,?_⟩
    ·simp;omega
    ·simp;omega
   ·simp_all
  ·simp only[if_true];by_cases h:v / 2%2=0
   ·rw[if_pos h,qnh _ _ _ _ (by omega),if_pos rfl];refine⟨by omega,?_,?_⟩
    ·simp
    ·simp
   ·rw[if_neg h,hv];refine⟨by omega,?_,?_⟩
    ·simp
    ·simp;omega
 ·have:(oZ n ms f t s).getD (i*n+k) 0=ms.getD (i*n+k) 0:=by
   unfold oZ;generalize (if s=true then 2 else 1)=d;by_cases hd:ms.getD (f*n+t) 0 / d%2=0
   ·rw[if_pos hd,qnh _ _ _ _ (by omega),if_neg fun h=>e (zu7 ht hk h)]
   ·rw[if_neg hd]
  omega
theorem qmr{n i k:Nat}(hi:i<n)(hk:k<n):∀(ts:List T3) (ms:List Nat),ms.length=n*n->(∀e∈ts,e.f<n/\e.t<n)->ms.getD (i*n+k) 0<=3 -> ((qs4 n ms ts).getD (i*n+k) 0%2=1↔ms.getD (i*n+k) 0%2=1\/∃ e∈ts,e.f=i/\e.t=k/\decide (e.s=1)=false)/\(1<(qs4 n ms ts).getD (i*n+k) 0↔1<ms.getD (i*n+k) 0\/∃ e∈ts,e.f=i/\e.t=k/\decide (e.s=1)=true)
 | [],ms,_,_,_=>by simp[qs4]
 |e::l,ms,hl,hT,h3=>by obtain⟨a1,a2,a3⟩:=zl5 hl (f:=e.f) (t:=e.t) (decide (e.s=1)) hi hk (hT e List.mem_cons_self).2 h3;obtain⟨b1,b2⟩:=qmr hi hk l (oZ n ms e.f e.t (decide (e.s=1))) (by rw[zl4,hl]) (fun x hx=>hT x (List.mem_cons_of_mem _ hx)) a1;show((qs4 n (oZ n ms e.f e.t (decide (e.s=1))) l).getD _ 0%2=1↔_)/\_;rw[b1,a2];show _/\(1<(qs4 n (oZ n ms e.f e.t (decide (e.s=1))) l).getD _ 0↔_);rw[b2,a3];simp only[List.mem_cons,exists_eq_or_imp,or_assoc,and_self]
def bn(b:Bool):Nat:=if b then 1 else 0
theorem zzu{a b:Bool}(h:bn a=bn b):a=b:=by cases a<;>cases b<;>first|rfl|(simp[bn]at h)
theorem zp3(b:Bool):sgn b=(bn b:Int):=by cases b<;>rfl
def nJ(x y:Edge):Prop:=x.f<y.f\/(x.f=y.f/\(x.t<y.t\/(x.t=y.t/\bn x.s<bn y.s)))
theorem zey(x y:Edge):ltE x y=true↔nJ x y:=by unfold ltE qR nJ;rw[zp3,zp3];simp only[orI,iJ,Int.ofNat_eq_natCast,decide_eq_true_eq];omega
theorem q0u(x y:Edge):ltE x y=false↔¬ nJ x y:=by rw[<-zey];cases ltE x y<;>simp
theorem nJ.tri{x y:Edge}(h1:¬ nJ x y)(h2:¬ nJ y x):x=y:=by
 unfold nJ at h1 h2;obtain⟨a,b,c⟩:=x;obtain⟨d,e,f⟩:=y;simp only at h1 h2;have e1:a=d:=by omega
 have e2:b=e:=by omega
 have e3:bn c=bn f:=by omega
 subst e1;subst e2;rw[zzu e3]
theorem nJ.irr(x:Edge):¬ nJ x x:=by unfold nJ;omega
theorem nJ.trans{x y z:Edge}:nJ x y->nJ y z->nJ x z:=by unfold nJ;omega
abbrev Asc(l:List Edge):Prop:=l.Pairwise nJ
theorem Asc.nodup{l:List Edge}(h:Asc l):l.Nodup:=List.Pairwise.imp (fun{a b} (h:nJ a b) (e:a=b)=>nJ.irr b (e▸h)) h
theorem Asc.uniq:∀{l l':List Edge},Asc l->Asc l'->l.Perm l'->l=l'
 | [],l',_,_,hp=>by rw[List.nil_perm.1 hp]
 |x::l,[],_,_,hp=>by have:=hp.length_eq;simp at this
 |x::l,y::l',h,h',hp=>by
  have h:=List.pairwise_cons.1 h;have h':=List.pairwise_cons.1 h';have exy:x=y:=by
   have hx:x∈y::l':=hp.mem_iff.1 (List.mem_cons.2 (Or.inl rfl));have hy:y∈x::l:=hp.mem_iff.2 (List.mem_cons.2 (Or.inl rfl));rcases List.mem_cons.1 hx with e|hx
   ·exact e
   ·rcases List.mem_cons.1 hy with e|hy
    ·exact e.symm
    ·exact absurd ((h.1 y hy).trans (h'.1 x hx)) (nJ.irr _)
  subst exy;rw[Asc.uniq h.2 h'.2 ((List.perm_cons x).1 hp)]
theorem qt2{x y:Edge}:qR x y<0↔nJ x y:=by rw[<-zey];unfold ltE;simp
theorem qdu.asc{n:Nat}{es:List Edge}(h:qdu n es):Asc es:=by
 refine List.pairwise_iff_getElem.2 ?_;intro i j hi hj hij;obtain⟨k,rfl⟩:∃ k,j=i+1+k:=⟨j-i-1,by omega⟩;clear hij
 induction k with
 |zero=>exact qt2.1 (h.ord i hj)
 |succ k ih=>exact(ih (by omega)).trans (qt2.1 (h.ord (i+1+k) (by omega)))
theorem Asc.ok{n:Nat}{es:List Edge}(h:Asc es)(hr:∀ e∈es,e.f<n/\e.t<n):qdu n es:=
 ⟨hr,fun i hi=>qt2.2 (List.pairwise_iff_getElem.1 h i (i+1) (by omega) hi (by omega))⟩
def aFf(n:Nat)(ms:List Nat)(f t:Nat)(s:Bool):Prop:=if s then 1<ms.getD (f*n+t) 0 else ms.getD (f*n+t) 0%2=1
theorem qnn{n:Nat}{ms:List Nat}{i k:Nat}{e:T3}:e∈ent n ms i k↔e.f=i/\e.t=k/\((e.s=0/\ms.getD (i*n+k) 0%2=1)\/(e.s=1/\1<ms.getD (i*n+k) 0)):=by
 obtain⟨f,t,s⟩:=e;unfold ent;rw[List.mem_append];constructor
 ·rintro (h|h)
  ·simp_all
  ·simp_all
 ·rintro ⟨rfl,rfl,⟨h1,h2⟩|⟨h1,h2⟩⟩
  ·simp_all
  ·simp_all
theorem zqi{n:Nat}{ms:List Nat}{i:Nat}{e:T3}:∀{k:Nat},e∈eR n ms i k↔e.t<k/\e∈ent n ms i e.t
 |0=>by constructor;(intro h;cases h);(intro h;omega)
 |k+1=>by
  show e∈eR n ms i k++ent n ms i k↔_;rw[List.mem_append,zqi];constructor
  ·rintro (⟨h1,h2⟩|h)
   ·exact⟨by omega,h2⟩
   ·have h':=(qnn.1 h).2.1;simp_all
  ·rintro ⟨h1,h2⟩;by_cases h:e.t<k
   ·simp_all
   ·have:e.t=k:=by omega
    simp_all
theorem q4u{n:Nat}{ms:List Nat}{e:T3}:∀{m:Nat},e∈eM n ms m↔e.f<m/\e.t<n/\e∈ent n ms e.f e.t
 |0=>by constructor;(intro h;cases h);(intro h;omega)
 |m+1=>by
  show e∈eM n ms m++eR n ms m n↔_;rw[List.mem_append,q4u,zqi];constructor
  ·rintro (⟨h1,h2,h3⟩|⟨h1,h2⟩)
   ·exact⟨by omega,h2,h3⟩
   ·have h':=(qnn.1 h2).1;simp_all
  ·rintro ⟨h1,h2,h3⟩;by_cases h:e.f<m
   ·simp_all
   ·have:e.f=m:=by omega
    simp_all
theorem q07{n:Nat}{ms:List Nat}{e:Edge}:e∈qeh n ms↔e.f<n/\e.t<n/\aFf n ms e.f e.t e.s:=by
 unfold qeh aFf;rw[List.mem_map];constructor
 ·rintro ⟨t,ht,rfl⟩;obtain⟨h1,h2,h3⟩:=q4u.1 ht;refine⟨h1,h2,?_⟩;rcases(qnn.1 h3).2.2 with⟨h4,h5⟩|⟨h4,h5⟩
  ·show(if decide (t.s=1)=true then _ else _);rw[h4,if_neg (by decide)];exact h5
  ·show(if decide (t.s=1)=true then _ else _);rw[h4,if_pos (by decide)];exact h5
 ·rintro ⟨h1,h2,h3⟩;obtain⟨f,t,s⟩:=e;cases s
  ·exact⟨⟨f,t,0⟩,q4u.2 ⟨h1,h2,qnn.2 ⟨rfl,rfl,.inl ⟨rfl,by simpa using h3⟩⟩⟩,rfl⟩
  ·exact⟨⟨f,t,1⟩,q4u.2 ⟨h1,h2,qnn.2 ⟨rfl,rfl,.inr ⟨rfl,by simpa using h3⟩⟩⟩,rfl⟩
theorem q6o{n:Nat}{ts:List T3}(hT:∀ e∈ts,e.f<n/\e.t<n){e:Edge}:e∈qeh n (qs4 n (List.replicate (n*n) 0) ts)↔e∈ts.map toE:=by
 rw[q07,List.mem_map];have h0:∀ x,(List.replicate (n*n) 0).getD x 0=0:=fun x=>by rw[List.getD_eq_getElem?_getD,List.getElem?_replicate];split<;>rfl
 constructor
 ·rintro ⟨h1,h2,h3⟩;obtain⟨g1,g2⟩:=qmr h1 h2 ts _ (List.length_replicate) hT (by rw[h0];omega);rw[h0]at g1 g2;unfold aFf at h3;obtain⟨f,t,s⟩:=e;cases s
  ·simp only[Bool.false_eq_true,if_false]at h3;rw[g1]at h3;rcases h3 with h3|⟨x,hx,a,b,c⟩
   ·omega
   ·exact⟨x,hx,by unfold toE;rw[a,b,c]⟩
  ·simp only[if_true]at h3;rw[g2]at h3;rcases h3 with h3|⟨x,hx,a,b,c⟩
   ·omega
   ·exact⟨x,hx,by unfold toE;rw[a,b,c]⟩
 ·rintro ⟨x,hx,rfl⟩;obtain⟨h1,h2⟩:=hT x hx;obtain⟨g1,g2⟩:=qmr (i:=x.f) (k:=x.t) h1 h2 ts _ (List.length_replicate) hT (by rw[h0];omega);refine⟨h1,h2,?_⟩;show if decide (x.s=1)=true then _ else _
  cases hs:decide (x.s=1)
  ·rw[if_neg (by simp)];exact g1.2 (.inr ⟨x,hx,rfl,rfl,hs⟩)
  ·rw[if_pos rfl];exact g2.2 (.inr ⟨x,hx,rfl,rfl,hs⟩)
def zP(S:List Edge)(i:Nat):Bool:=decide (i=0)|| !decide (S[i]? =S[i-1]?)
def lY(S:List Edge)(m:Nat):List Edge:=(List.range m).filterMap fun i=>if zP S i then S[i]? else none
def jH(S:List Edge):List Edge:=lY S S.length
theorem qtx(S:List Edge){m:Nat}(h:m<S.length):lY S (m+1)=lY S m++if zP S m then[S[m]]else[]:=by unfold lY;rw[List.range_succ,List.filterMap_append];congr 1;rw[List.filterMap_cons,List.filterMap_nil,List.getElem?_eq_getElem h];cases zP S m<;>rfl
theorem zgm{S:List Edge}{x:Edge}:x∈jH S↔x∈S:=by
 unfold jH lY;rw[List.mem_filterMap];constructor
 ·rintro ⟨i,hi,h⟩;split at h
  ·exact List.mem_of_getElem? h
  ·cases h
 ·intro hx;have hlt:S.findIdx (fun y=>decide (y=x))<S.length:=by rw[List.findIdx_lt_length];exact⟨x,hx,by simp⟩
  have hp:=List.findIdx_getElem (w:=hlt);refine⟨S.findIdx fun y=>decide (y=x),List.mem_range.2 hlt,?_⟩;have he:S[S.findIdx fun y=>decide (y=x)]=x:=by simpa using hp
  have hk:zP S (S.findIdx fun y=>decide (y=x))=true:=by
   unfold zP;rw[Bool.or_eq_true];by_cases h0:(S.findIdx fun y=>decide (y=x))=0
   ·simp_all
   ·right;rw[Bool.not_eq_true',decide_eq_false_iff_not];intro h;have hn:=List.not_of_lt_findIdx (xs:=S) (p:=fun y=>decide (y=x)) (i:=(S.findIdx fun y=>decide (y=x))-1) (by omega);rw[List.getElem?_eq_getElem hlt,List.getElem?_eq_getElem (by omega),he]at h;injection h with h;rw[<-h]at hn;simp at hn
  simp_all
theorem zvt{S:List Edge}(hS:S.Pairwise fun x y=>¬ nJ y x):Asc (jH S):=by
 unfold jH lY;show List.Pairwise nJ _;rw[List.pairwise_filterMap];refine List.Pairwise.imp_of_mem ?_ List.pairwise_lt_range;intro i j hi hj hij x hx y hy;have hjl:j<S.length:=List.mem_range.1 hj;have hil:i<S.length:=List.mem_range.1 hi;split at hy
 ·rename_i hk;split at hx
  ·rw[List.getElem?_eq_getElem hil]at hx;rw[List.getElem?_eq_getElem hjl]at hy;injection hx with hx;injection hy with hy;subst hx hy;have hp:=List.pairwise_iff_getElem.1 hS;have h1:=hp i j hil hjl hij;by_cases hlt:nJ S[i] S[j]
   ·exact hlt
   ·exfalso;have e:=nJ.tri hlt h1;have h2:=hp (j-1) j (by omega) hjl (by omega);have h3:¬ nJ S[j-1] S[j]:=by
     rw[<-e];by_cases he:i=j-1
     ·simp_all
     ·exact hp i (j-1) hil (by omega) (by omega)
    have e2:=nJ.tri h3 h2;unfold zP at hk;rw[Bool.or_eq_true,Bool.not_eq_true',decide_eq_false_iff_not,List.getElem?_eq_getElem hjl,List.getElem?_eq_getElem (by omega),e2]at hk;rcases hk with hk|hk
    ·simp at hk;omega
    ·exact hk rfl
  ·cases hx
 ·cases hy
theorem Asc.ext{l l':List Edge}(h:Asc l)(h':Asc l')(hm:∀ x,x∈l↔x∈l'):l=l':=
 Asc.uniq h h' ((List.perm_ext_iff_of_nodup h.nodup h'.nodup).2 hm)
def sortE(S:List Edge):List Edge:=S.mergeSort fun x y=> !ltE y x
theorem zlj(S:List Edge):(sortE S).Pairwise fun x y=>¬ nJ y x:=by
 have h:=List.pairwise_mergeSort (le:=fun x y=> !ltE y x) (fun a b c=>by
  simp only[Bool.not_eq_true',q0u];unfold nJ;omega) (fun a b=>by
  simp only[Bool.or_eq_true,Bool.not_eq_true',q0u];unfold nJ;omega) S
 refine List.Pairwise.imp ?_ h;intro a b h;rwa [Bool.not_eq_true',q0u]at h
theorem qu3{S:List Edge}{x:Edge}:x∈sortE S↔x∈S:=(List.mergeSort_perm _ _).mem_iff
theorem qu4(S:List Edge):(sortE S).length=S.length:=List.length_mergeSort _
theorem q0n{n:Nat}{ts:List T3}(hT:∀ e∈ts,e.f<n/\e.t<n):qeh n (qs4 n (List.replicate (n*n) 0) ts)=jH (sortE (ts.map toE)):=
 Asc.ext (q4q n _).asc (zvt (zlj _)) fun x=>by rw[q6o hT,zgm,qu3]
end Go.Di
end
section
namespace Go.Di
open Go.Ev
variable {C:Nat->Ev.Call}
abbrev lN(S:List Edge):List AV:=S.flatMap Edge.cells
theorem cells3(e:Edge):e.cells.length=3:=rfl
theorem qe7(S:List Edge):(lN S).length=S.length*3:=by
 induction S with
 |nil=>rfl
 |cons a S ih=>unfold lN at *;rw[List.flatMap_cons,List.length_append,ih,cells3,List.length_cons];omega
theorem qwq(q:Nat)(A Z:List AV)(S:List Edge){i:Nat}(h:i<S.length):gN (aD q (A++lN S++Z)) (A.length+i*3) 3=some S[i].cells:=by have hl:=qe7 S;rw[qb5,if_pos (by simp only[List.length_append];omega),List.append_assoc,<-List.drop_drop,List.drop_left' rfl,List.drop_append_of_le_length (by omega),List.take_append_of_le_length (by rw[List.length_drop];omega),qhh cells3 S i h]
theorem zv3(A Z:List AV)(e:Edge):∀(S:List Edge) (i:Nat),i<S.length->bJ (A++lN S++Z) (A.length+i*3) e.cells=A++lN (S.set i e)++Z:=by
 have core:∀(S:List Edge) (i:Nat),i<S.length->bJ (lN S++Z) (i*3) e.cells=lN (S.set i e)++Z:=by
  intro S
  induction S with
  |nil=>intro i h;simp at h
  |cons a S ih=>
   intro i h;cases i with
   |zero=>simp[bJ,lN,Edge.cells]
   |succ i=>have:=ih i (by simpa using h);unfold lN at *;rw[List.set_cons_succ,List.flatMap_cons,List.flatMap_cons,List.append_assoc,List.append_assoc,<-this];unfold bJ;rw[show(i+1)*3=a.cells.length+i*3 by rw[cells3];omega,List.take_length_add_append,List.append_assoc,List.append_assoc,List.append_assoc,Nat.add_assoc,List.drop_length_add_append]
 intro S i h;rw[List.append_assoc,List.append_assoc,<-core S i h];unfold bJ;rw[List.take_length_add_append,Nat.add_assoc,List.drop_length_add_append];simp
theorem qk3(neg:Bool)(x y:Edge):oL neg (fI (eqFields [(p1,⟨qkc⟩,0),(p1,⟨qkc⟩,1),(p1,⟨qfw⟩,2)]) (.agg x.cells) (.agg y.cells))=.val (.bool (bif neg then !decide (x=y)else decide (x=y))):=by
 have e:fI (eqFields [(p1,⟨qkc⟩,0),(p1,⟨qkc⟩,1),(p1,⟨qfw⟩,2)]) (.agg x.cells) (.agg y.cells)=some (decide (x=y)):=by
  show andThen (some (qB (.ofNat x.f) (.ofNat y.f))) (andThen (some (qB (.ofNat x.t) (.ofNat y.t))) (andThen (some (x.s==y.s)) (some true)))=_;obtain⟨a,b,c⟩:=x;obtain⟨d,e,f⟩:=y;simp only[zO,q33];by_cases h1:a=d
  ·by_cases h2:b=e
   ·cases c<;>cases f<;>simp[andThen,h1,h2]
   ·simp[andThen,h1,h2]
  ·simp[andThen,h1]
 rw[e];rfl
theorem zg4(n m i:Nat)(h:i<=n)(h2:n<=m):bounds n m (some (iN i)) none none=some ⟨i,n,m⟩:=by show(match(bif Nat.ble i n then some i else none)with|none=>none|some l=>some (Bd.mk l n m))=_;rw[ble_eq,decide_eq_true h];rfl
theorem q28(b o n i:Nat)(e:Bool)(h:i<n):lC 3 (.sl b o n n e) (some (iN i)) none none=.val (.sl b (o+i*3) (n-i) (n-i) e):=by show(match bounds n n (some (iN i)) none none with|some bd=>gY b o 3 bd e|none=>R0.bad)=_;rw[zg4 _ _ _ (by omega) (Nat.le_refl _)];unfold gY;simp only[beq_eq];rw[decide_eq_false (by omega)];rfl
theorem zlk(b o n i:Nat)(e:Bool)(h:i<=n)(h0:0<n):lC 3 (.sl b o n n e) none (some (iN i)) none=.val (.sl b o i n e):=by show(match bounds n n none (some (iN i)) none with|some bd=>gY b o 3 bd e|none=>R0.bad)=_;rw[qwu _ _ _ h];unfold gY;simp only[beq_eq];rw[decide_eq_false (by omega),cond_false];rfl
structure CpO(H:Hp)(b q:Nat)(A:List AV)(l:List Edge)(w:AV)(e:Bool)(H':Hp):Prop where
 is:∃ m Z,w=.sl b A.length l.length m e/\l.length<=m/\0<m/\H'.get b=aD q (A++lN l++Z)
 fm:Fm (· =b) H H'
 nx:H'.nx=H.nx
theorem qwn{call:Ev.Call}{H0:Hp}{b q k0:Nat}{A:List AV}{S:List Edge}{e:Bool}(hb:b<H0.nx)(hk0:0<k0/\k0<S.length)(hn:S.length<900000){Q:pL}{qe:pD}(hq:∀ H cur,cur.length=S.length->H.get b=aD q (A++lN cur++[])->cur.take (jH S).length=jH S->(jH S).length<S.length->0<(jH S).length->Fm (· =b) H0 H->H.nx=H0.nx->Ok (qe (iN ((jH S).length)) H) Q):∀(k k2:Nat) (H:Hp) (cur:List Edge),1<=k2->k0+k2<=S.length->S.length-(k0+k2)<k->cur.length=S.length->H.get b=aD q (A++lN cur++[])->(∀p (h:p<S.length) (h':p<cur.length),k0+k2-1<=p->cur[p]=S[p]) -> cur.take (lY S (k0+k2)).length=lY S (k0+k2)->(lY S (k0+k2)).length<k0+k2->0<(lY S (k0+k2)).length->Fm (· =b) H0 H->H.nx=H0.nx -> Ok (qlp call qe (.sl b A.length S.length S.length e) (.sl b (A.length+k0*3) (S.length-k0) (S.length-k0) e) k (iN ((lY S (k0+k2)).length)) (iN k2) H) Q
 |0,k2,_,_,_,_,h,_,_,_,_,_,_,_,_=>by omega
 |k+1,k2,H,cur,h1,h2,h3,hc,hg,hp,ht,hl,h0,hf,hx=>by
  show Ok (qyt call _ _ _ (qlp call _ _ _ k) _ _ H) Q;unfold qyt;obtain⟨k01,k02⟩:=hk0;by_cases hlt:k0+k2<S.length
  ·have hlt':k2<S.length-k0:=by omega
   have hlt2:k2-1<S.length-k0:=by omega
   unfold q94;have r1:=qwq q A [] cur (i:=k0+k2) (by omega);have r2:=qwq q A [] cur (i:=k0+k2-1) (by omega);rw[hp (k0+k2) hlt (by omega) (by omega)]at r1;rw[hp (k0+k2-1) (by omega) (by omega) (by omega)]at r2;rw[show A.length+(k0+k2)*3=A.length+k0*3+k2*3 by omega]at r1;rw[show A.length+(k0+k2-1)*3=A.length+k0*3+(k2-1)*3 by omega]at r2;rw[List.append_nil]at r1 r2;have hg':H.get b=aD q (A++lN cur):=by rw[hg,List.append_nil]
   have hsucc:=qtx S hlt;have next:∀(H':Hp) (cur':List Edge) (i':Nat),i'=(lY S (k0+k2+1)).length->cur'.length=S.length->H'.get b=aD q (A++lN cur'++[])->(∀p (h:p<S.length) (h':p<cur'.length),k0+(k2+1)-1<=p->cur'[p]=S[p]) ->
     cur'.take (lY S (k0+(k2+1))).length=lY S (k0+(k2+1))->(lY S (k0+(k2+1))).length<k0+(k2+1)->0<(lY S (k0+(k2+1))).length->Fm (· =b) H0 H'->H'.nx=H0.nx ->
     Ok (qq8 call (qlp call qe (.sl b A.length S.length S.length e) (.sl b (A.length+k0*3) (S.length-k0) (S.length-k0) e) k) (iN i') (iN k2) H') Q:=fun H' cur' i' hi' a1 a2 a3 a4 a5 a6 a7 a8=>by
    subst hi';unfold qq8;simp(disch:=first|omega|exact ti rfl|(simp only[np,nq];first|done|omega))only[go_sem,rB,rI,rK,rL,rN,rS,r6];exact qwn hb ⟨k01,k02⟩ hn hq k (k2+1) H' cur' (by omega) (by omega) (by omega) a1 a2 a3 a4 a5 a6 a7 a8
   have hke:zP S (k0+k2)= !decide (S[k0+k2]=S[k0+k2-1]):=by unfold zP;rw[decide_eq_false (show ¬k0+k2=0 by omega),Bool.false_or,List.getElem?_eq_getElem hlt,List.getElem?_eq_getElem (by omega)];simp
   by_cases hd:S[k0+k2]=S[k0+k2-1]
   ·have hdt:=eq_true hd;rw[hke,decide_eq_true hd]at hsucc;rw[show lY S (k0+k2)++(if(!true)=true then[S[k0+k2]]else[])=lY S (k0+k2)by simp]at hsucc;simp(disch:=first|omega|exact ti rfl|(simp only[np,nq];first|done|omega))only[go_sem,rB,rI,rK,rL,rN,rS,r6,hlt',hlt2,hg',r1,r2,qk3,hdt];exact next H cur _ (by rw[hsucc]) hc hg (fun p a b c=>hp p a b (by omega)) (by rw[<-Nat.add_assoc,hsucc];exact ht) (by rw[<-Nat.add_assoc,hsucc];omega) (by rw[<-Nat.add_assoc,hsucc];exact h0) hf hx
   ·rw[hke,decide_eq_false hd]at hsucc;rw[show lY S (k0+k2)++(if(!false)=true then[S[k0+k2]]else[])=lY S (k0+k2)++[S[k0+k2]]by simp]at hsucc;have hil:(lY S (k0+k2)).length<S.length:=by omega
    have hle:=eq_true (show A.length+(lY S (k0+k2)).length*3+S[k0+k2].cells.length<=(A++lN cur).length by have:=qe7 cur;rw[List.length_append,cells3];omega);have hset:=zv3 A [] S[k0+k2] cur (lY S (k0+k2)).length (by omega);rw[List.append_nil,List.append_nil]at hset;have hc3:S[k0+k2].cells.length=3:=rfl;simp(disch:=first|omega|exact ti rfl|(simp only[np,nq];first|done|omega))only[go_sem,rB,rI,rK,rL,rN,rS,r6,hlt',hlt2,hg',r1,r2,qk3,hd,hil,q21,hc3];rw[hc3]at hle;simp(disch:=first|omega|exact ti rfl|(simp only[np,nq];first|done|omega))only[go_sem,rB,rI,rK,rL,rN,rS,r6,hle,hset];have hcl:(cur.set (lY S (k0+k2)).length S[k0+k2]).length=S.length:=by rw[List.length_set,hc]
    have hl1:(lY S (k0+k2+1)).length=(lY S (k0+k2)).length+1:=by rw[hsucc];simp
    refine next _ (cur.set (lY S (k0+k2)).length S[k0+k2]) _ hl1.symm hcl ?_ (fun p a b c=>?_) ?_ ?_ ?_ (hf.put _ _ fun _=>rfl) hx
    ·rw[List.append_nil];exact eB _ _ _
    ·rw[List.getElem_set_ne (by omega)];exact hp p a (by omega) (by omega)
    ·rw[<-Nat.add_assoc,hl1,hsucc];rw[List.take_succ_eq_append_getElem (by omega),List.take_set_of_le (Nat.le_refl _),ht,List.getElem_set_self]
    ·rw[<-Nat.add_assoc,hl1];omega
    ·rw[<-Nat.add_assoc,hl1];omega
  ·have he:k0+k2=S.length:=by omega
   have hlt':¬ k2<S.length-k0:=by omega
   simp only[go_sem,hlt'];rw[he]at ht hl h0 ⊢;exact hq H cur hc hg ht hl h0 hf hx
theorem qty{S:List Edge}:∀{m:Nat},m<=S.length->(∀i,i<m->zP S i=true)->lY S m=S.take m
 |0,_,_=>rfl
 |m+1,h,hk=>by rw[qtx S h,qty (by omega) fun i hi=>hk i (by omega),hk m (by omega),List.take_succ_eq_append_getElem h];rfl
theorem q4x{call:Ev.Call}{H0:Hp}{b q:Nat}{A:List AV}{S:List Edge}{e:Bool}(hb:b<H0.nx)(hn:S.length<900000)(hg:H0.get b=aD q (A++lN S++[])){Q:pL}{qe:pH}{qr:pD}(hr:∀ w H,CpO H0 b q A (jH S) w e H->Ok (qr w H) Q)(hq:jH S=S->Ok (qe H0) Q):∀(k i:Nat),0<i->i<=S.length->S.length-i<k->(∀p,p<i->zP S p=true)->Ok (q15 call qr qe (.sl b A.length S.length S.length e) k (iN i) H0) Q
 |0,i,_,_,h,_=>by omega
 |k+1,i,h0,hi,hk,hp=>by
  show Ok (q95 call _ _ _ (q15 call _ _ _ k) _ H0) Q;unfold q95;by_cases hlt:i<S.length
  ·have hlt2:i-1<S.length:=by omega
   unfold q93;have r1:=qwq q A [] S hlt;have r2:=qwq q A [] S hlt2;rw[List.append_nil]at r1 r2;have hg':H0.get b=aD q (A++lN S):=by rw[hg,List.append_nil]
   have hke:zP S i= !decide (S[i]=S[i-1]):=by unfold zP;rw[decide_eq_false (show ¬i=0 by omega),Bool.false_or,List.getElem?_eq_getElem hlt,List.getElem?_eq_getElem hlt2];simp
   by_cases hd:S[i]=S[i-1]
   ·have hdt:=eq_true hd;have hsl:=q28 b A.length S.length i e hlt;rw[decide_eq_true hd]at hke;have hsucc:=qtx S hlt;rw[hke]at hsucc;have hall:=qty (Nat.le_of_lt hlt) hp;have hdd:lY S (i+1)=S.take i:=by rw[hsucc,hall];simp
    have hl1:(lY S (i+1)).length=i:=by rw[hdd,List.length_take];omega
    simp(disch:=first|omega|exact ti rfl|(simp only[np,nq];first|done|omega))only[go_sem,rB,rI,rK,rL,rN,rS,r6,hlt,hlt2,hg',r1,r2,qk3,hdt,hsl];unfold q96;rw[dK];have main:=qwn (call:=call) (Q:=Q) (e:=e) (qe:=fun x3 H=>qq9 call qr (.sl b A.length S.length S.length e) x3 H) hb (k0:=i) (S:=S) (A:=A) (q:=q) ⟨h0,hlt⟩ hn (fun H cur hc hgc ht hl hp0 f hx=>by
     unfold qq9;have s1:=q28 b A.length S.length (jH S).length e hl;have s2:=zlk b A.length S.length (jH S).length e (by omega) (by omega);have hz:¬ S.length-(jH S).length=0:=by omega
     have hcl:qhj [iN 0,iN 0,.bool false] H (.sl b (A.length+(jH S).length*3) (S.length-(jH S).length) (S.length-(jH S).length) e)=.ok .undef (H.put b (aD q (A++lN (jH S)++bC [iN 0,iN 0,.bool false] (S.length-(jH S).length)))):=by
      show(bif Nat.beq (S.length-(jH S).length) 0 then _ else storeAt H b (A.length+(jH S).length*3) (bC [iN 0,iN 0,.bool false] (S.length-(jH S).length)) .undef)=_;rw[beq_eq,decide_eq_false hz,cond_false];have hrl:∀ n,(bC [AV.int .i64 (.ofNat 0),iN 0,.bool false] n).length=n*3:=fun n=>by
       induction n with
       |zero=>rfl
       |succ n ih=>show(_++bC _ n).length=_;rw[List.length_append,ih];simp;omega
      have hcn:=qe7 cur;have bTC:=qe7 (jH S);have hsplit:lN cur=lN (jH S)++lN (cur.drop (jH S).length):=by
       rw[<-List.flatMap_append];congr 1
       conv=>lhs;rw[<-List.take_append_drop (jH S).length cur,ht]
      rw[qcm H b _ _ _ q _ hgc (by rw[List.length_append,List.length_append,hrl,List.length_nil];omega)];congr 3;unfold bJ;rw[hsplit,List.append_nil,<-List.append_assoc,List.take_left' (by rw[List.length_append];omega),hrl];rw[List.drop_eq_nil_of_le (by rw[List.length_append,List.length_append,qe7,qe7,List.length_drop];omega),List.append_nil]
     simp(disch:=first|omega|exact ti rfl|(simp only[np,nq];first|done|omega))only[go_sem,rB,rI,rK,rL,rN,rS,r6,s1,hcl,s2];exact hr _ _ ⟨⟨S.length,_,rfl,by omega,by omega,eB _ _ _⟩,f.put _ _ fun _=>rfl,hx⟩) cZ 1 H0 S (Nat.le_refl _) (by omega) (by rw[dM];omega) rfl hg (fun _ _ _ _=>rfl) (by rw[hl1,hdd]) (by omega) (by omega) (Fm.refl _ _) rfl
    simp_all
   ·rw[decide_eq_false hd]at hke;simp(disch:=first|omega|exact ti rfl|(simp only[np,nq];first|done|omega))only[go_sem,rB,rI,rK,rL,rN,rS,r6,hlt,hlt2,hg',r1,r2,qk3,hd];unfold zpc;simp(disch:=first|omega|exact ti rfl|(simp only[np,nq];first|done|omega))only[go_sem,rB,rI,rK,rL,rN,rS,r6];refine q4x hb hn hg hr hq k (i+1) (by omega) (by omega) (by omega) fun p hpi=>?_;by_cases he:p=i
    ·simp_all
    ·exact hp p (by omega)
  ·simp only[go_sem,hlt];refine hq ?_;have:=qty (Nat.le_refl S.length) fun p hpi=>hp p (by omega);rw[List.take_length]at this;exact this
theorem q7g(hC:aZ C){k:Nat}(hk:1<=k){H:Hp}{b q:Nat}{A:List AV}{S:List Edge}{e:Bool}(hb:b<H.nx)(hn:S.length<900000)(h0:0<S.length)(hg:H.get b=aD q (A++lN S++[])):Ok (C k (.f 116) [.sl b A.length S.length S.length e] H) fun w H'=>CpO H b q A (jH S) w e H':=by
 obtain⟨j,rfl⟩:=aW hk;rw[(hC j).zCb];unfold zCb zsk;have same:jH S=S->CpO H b q A (jH S) (.sl b A.length S.length S.length e) e H:=fun h=>by rw[h];exact⟨⟨S.length,[],rfl,Nat.le_refl _,h0,hg⟩,Fm.refl _ _,rfl⟩
 have k0:zP S 0=true:=rfl;by_cases h:S.length<2
 ·simp only[go_sem,h];refine Ok.ret (same ?_);have:=qty (S:=S) (Nat.le_refl S.length) fun p hp=>by
   obtain rfl:p=0:=by omega
   exact k0
  rw[List.take_length]at this;exact this
 ·simp only[go_sem,h];unfold q92 zpe;rw[dK];refine q4x hb hn hg (fun w H' h=>Ok.ret h) (fun h=>?_) cZ 1 (by omega) (by omega) (by rw[dM];omega) (fun p hp=>by
   obtain rfl:p=0:=by omega
   exact k0)
  exact Ok.ret (same h)
structure aXr(c:Ev.Call):Prop where
 srt:∀(H:Hp) (v:AV) (es:List Edge),Gl 3 H v es.length (lN es)->es.length<=1000000->Ok (c (.f 114) [v,.fn 113 [] []] H) fun r H'=>r=.bG []/\Gl 3 H' v es.length (lN (sortE es))/\Fm (In v) H H'
abbrev qim(C:Nat->Ev.Call):Prop:=∀ k,aXr (C (k+1))
theorem q48(hC:aZ C){k:Nat}(hk:1<=k){H:Hp}{b o n m:Nat}{e:Bool}(hnm:n<=m):C k (.f 115) [.sl b o n m e] H=.ok (.sl b o n n true) H:=by
 obtain⟨j,rfl⟩:=aW hk;rw[(hC j).zCc];unfold zCc zsj;have e1:lC 3 (.sl b o n m e) none (some (iN n)) (some (iN n))=.val (.sl b o n n true):=by
  show(match bounds n m none (some (iN n)) (some (iN n))with|some bd=>gY b o 3 bd true|none=>R0.bad)=_;have:bounds n m none (some (iN n)) (some (iN n))=some ⟨0,n,n⟩:=by show(match(bif Nat.ble n m then some n else none)with|none=>none|some m'=>match(bif Nat.ble n m' then some n else none)with|none=>none|some h=>match(some 0:Option Nat)with|none=>none|some l=>some (Bd.mk l h m'))=_;rw[ble_eq,decide_eq_true hnm];simp only[cond_true,ble_eq,decide_eq_true (Nat.le_refl n)]
  rw[this];unfold gY;simp only[beq_eq];by_cases hn:n=0
  ·subst hn;rfl
  ·simp_all
 simp only[go_sem,e1]
theorem zhr(hC:aZ C){k:Nat}(hk:1<=k){H:Hp}:C k (.f 115) [.aA] H=.ok .aA H:=by obtain⟨j,rfl⟩:=aW hk;rw[(hC j).zCc];rfl
theorem q55(hC:aZ C)(hS:qim C){k:Nat}(hk:2<=k){H:Hp}{v:AV}{es:List Edge}(hv:Gl 3 H v es.length (lN es))(hn:es.length<900000):Ok (C k (.f 88) [v] H) fun w H'=>jX H' w (jH (sortE es))/\gZ w=.val (iN ((jH (sortE es)).length))/\Fm (In v) H H'/\(w=.aA\/∃ b o n m e,w=.sl b o n m e)/\∀ c,In w c->In v c:=by
 obtain⟨j,rfl⟩:∃ j,k=j+1+1:=⟨k-2,by omega⟩;rw[(hC (j+1)).zBn];refine Ok.ve ((hS j).srt H v es hv (by omega)) ?_;rintro _ H1 ⟨rfl,g1,f1⟩;rcases g1.is with⟨rfl,h0⟩|⟨b,o,e,q,L,rfl,h1,h2,h3,h4,h5⟩
 ·have hes:es=[]:=List.length_eq_zero_iff.1 h0;subst hes;have hcp:C (j+1) (.f 116) [.aA] H1=.ok .aA H1:=by
   rw[(hC j).zCb];rfl
  have hcl:=zhr hC (k:=j+1) (by omega) (H:=H1);simp only[go_sem,hcp,hcl];have hz:jH (sortE [])=[]:=by simp[jH,lY,sortE]
  rw[hz];exact Ok.ret ⟨⟨rfl,rfl,(fun b hb=>by obtain⟨_,_,_,_,h⟩:=hb;cases h),(fun i hi=>by simp at hi)⟩,rfl,f1,.inl rfl,fun _ h=>h⟩
 ·by_cases h0:0<es.length
  ·have hA:L=L.take o++lN (sortE es)++[]:=by rw[<-h3,List.take_append_drop,List.append_nil]
   have hAl:(L.take o).length=o:=by rw[List.length_take];omega
   have hsl:=qu4 es;have hcp:=q7g hC (k:=j+1) (by omega) (H:=H1) (b:=b) (q:=q) (A:=L.take o) (S:=sortE es) (e:=e) h5 (by omega) (by omega) (by rw[<-hA];exact h1);rw[hAl,hsl]at hcp;refine Ok.ve hcp ?_;rintro w H2 hw;obtain⟨m,Z,rfl,hm,hm0,hg2⟩:=hw.is;have hcl:=q48 hC (k:=j+1) (by omega) (H:=H2) (b:=b) (o:=(L.take o).length) (e:=e) hm;simp only[go_sem,hcl];have hx:=hw.nx;refine Ok.ret ⟨⟨rfl,rfl,fun c hc=>?_,fun i hi=>⟨b,(L.take o).length+i*3,sP _ _ _ _ _ _ _ _ hi,by omega,?_⟩⟩,rfl,?_,.inr ⟨_,_,_,_,_,rfl⟩,fun c hc=>by obtain⟨_,_,_,_,hc⟩:=hc;injection hc with hc;subst hc;exact⟨_,_,_,_,rfl⟩⟩
   ·obtain⟨_,_,_,_,hc⟩:=hc;injection hc with hc;omega
   ·rw[hg2];exact qwq q _ _ _ hi
   ·exact f1.then hw.fm fun c _ h=>by subst h;exact⟨_,_,_,_,rfl⟩
  ·have hes:es=[]:=List.length_eq_zero_iff.1 (by omega);subst hes;have hcp:C (j+1) (.f 116) [.sl b o 0 0 e] H1=.ok (.sl b o 0 0 e) H1:=by
    rw[(hC j).zCb];rfl
   have hcl:=q48 hC (k:=j+1) (by omega) (H:=H1) (b:=b) (o:=o) (n:=0) (m:=0) (e:=e) (Nat.le_refl _);simp only[go_sem,hcp,hcl];have hz:jH (sortE [])=[]:=by simp[jH,lY,sortE]
   rw[hz];exact Ok.ret ⟨⟨rfl,rfl,(fun c hc=>by obtain⟨_,_,_,_,h⟩:=hc;injection h with h;omega),(fun i hi=>by simp at hi)⟩,rfl,f1,.inr ⟨_,_,_,_,_,rfl⟩,fun c hc=>by obtain⟨_,_,_,_,hc⟩:=hc;injection hc with hc;subst hc;exact⟨_,_,_,_,rfl⟩⟩
structure NbI(H0 H:Hp)(nb mb:Nat)(ps:List (SS×SS)):Prop where
 n:H.get nb=aD 0 [.map mb]
 m:iZ H mb ps
 o:H0.nx<=mb/\mb<nb/\nb<H.nx
 fm:Fm No H0 H
theorem qp1{call:Ev.Call}{H0:Hp}{sv:AV}{nb mb pb:Nat}{X:List aS}(hX:dH H0 sv X)(hN:(aQ X).Nodup)(hP:uM X){s:Nat}(hs:s<X.length){Q:pL}{q:pH}(hq:∀ H,NbI H0 H nb mb ((dA X s++X[s].gs.map fun x=>(X[s].name,x)).map kq)->Ok (q H) Q):∀(k i:Nat) (H:Hp),i<=X[s].gs.length->X[s].gs.length-i<k->NbI H0 H nb mb ((dA X s++(X[s].gs.take i).map fun x=>(X[s].name,x)).map kq)->H.get pb=aD 0 [.str X[s].name.n X[s].name.a,X[s].rv]->nb<pb->pb<H.nx -> Ok (qkj call q (.ptr nb 0) (.ptr pb 0) X[s].rv (iN (X[s].gs.length)) k (iN i) H) Q
 |0,i,_,_,h,_,_,_,_=>by omega
 |k+1,i,H,hi,hk,hI,hp,hpn,hpl=>by
  show Ok (qrw call _ _ _ _ _ (qkj call _ _ _ _ _ k) _ H) Q;unfold qrw;obtain⟨o1,o2,o3⟩:=hI.o;by_cases hlt:i<X[s].gs.length
  ·simp only[go_sem,hlt];unfold q2g;have h1:=hX.fm hI.fm;have hsp:=h1.sp _ (List.getElem_mem hs);obtain⟨b1,o1',e1,e2,_,_,_,e6⟩:=hsp.at' i hlt;obtain⟨c0,c1,c2,c3,_,hrc⟩:=qmn (hsp.rel _ (List.getElem_mem hlt));rw[hrc]at e6;have aFo:=(hP.r _ (List.getElem_mem hs)).1;obtain⟨H1,hH1⟩:∃ H1,H1=(aT H (aD 0 [.str 0 0,.aA,.int .u8 (.ofNat 0),.str 0 0,.str 0 0,.aA])).put H.nx (aD 0 [.str X[s].gs[i].r.name.n X[s].gs[i].r.name.a,X[s].gs[i].tv,c0,c1,c2,c3]):=⟨_,rfl⟩;have fp:Fm No H H1:=by rw[hH1];exact nH
   have n1:H1.nx=H.nx+1:=by rw[hH1];rfl
   have k1:=(fp.keep o3).trans hI.n;have k2:=(fp.keep hpl).trans hp;have m1:iZ H1 mb ((dA X s++(X[s].gs.take i).map fun x=>(X[s].name,x)).map kq):=hI.m.eq (fp.keep (by omega));obtain⟨kk,eu,mu⟩:=m1.aQM X[s].name X[s].gs[i].r.name (qs6 hN hs hlt);have hlm:=m1.len;have hn0:=hI.n;rw[hH1,List.length_map]at hlm eu;simp(disch:=first|omega|exact ti rfl|(simp only[np,nq];first|done|omega))only[go_sem,rB,rI,rK,rL,rN,rS,r6,e1,e6,hn0,hp,hlm,eu];rw[<-hH1];unfold q2h;simp(disch:=first|omega|exact ti rfl|(simp only[np,nq];first|done|omega))only[go_sem,rB,rI,rK,rL,rN,rS,r6];refine qp1 hX hN hP hs hq k (i+1) (H1.put mb kk) (by omega) (by omega) ⟨?_,?_,⟨o1,o2,show nb<H1.nx by omega⟩,(hI.fm.trans fp).aG _ _ o1⟩ ?_ hpn (show pb<H1.nx by omega)
   ·rw[dW _ _ _ _ (by omega)];exact k1
   ·have hx:(dA X s++(X[s].gs.take (i+1)).map fun x=>(X[s].name,x)).map kq=(dA X s++(X[s].gs.take i).map fun x=>(X[s].name,x)).map kq++[(X[s].name,X[s].gs[i].r.name)]:=by
     have h1:((X[s].gs.take (i+1)).map fun x=>(X[s].name,x))=((X[s].gs.take i).map fun x=>(X[s].name,x))++[(X[s].name,X[s].gs[i])]:=by rw[List.take_succ_eq_append_getElem hlt,List.map_append];rfl
     rw[h1,<-List.append_assoc,List.map_append];rfl
    simp_all
   ·rw[dW _ _ _ _ (by omega)];exact k2
  ·simp only[go_sem,hlt];have he:i=X[s].gs.length:=by omega
   simp_all
theorem qp2{call:Ev.Call}{H0:Hp}{sv:AV}{nb mb:Nat}{X:List aS}(hX:dH H0 sv X)(hN:(aQ X).Nodup)(hP:uM X){Q:pL}{q:pH}(hq:∀ H,NbI H0 H nb mb (aQ X)->Ok (q H) Q):∀(k s:Nat) (H:Hp),s<=X.length->X.length-s<k->NbI H0 H nb mb ((dA X s).map kq) -> Ok (qhp call q (.ptr nb 0) sv (iN (X.length)) k (iN s) H) Q
 |0,i,_,_,h,_=>by omega
 |k+1,s,H,hi,hk,hI=>by
  show Ok (qrx call _ _ _ _ (qhp call _ _ _ _ k) _ H) Q;unfold qrx;obtain⟨o1,o2,o3⟩:=hI.o;have hn:=hP.n;by_cases hlt:s<X.length
  ·simp only[go_sem,hlt];unfold q2f;have h1:=hX.fm hI.fm;obtain⟨b1,o1',e1,e2,_,e3,_⟩:=h1.rs.at' s hlt;unfold tK SS.v at e3;have hl:=(h1.sp _ (List.getElem_mem hlt)).len;have aFo:=(hP.r _ (List.getElem_mem hlt)).1;have fp:Fm No H ((aT H (aD 0 [.str 0 0,.aA])).put H.nx (aD 0 [.str X[s].name.n X[s].name.a,X[s].rv])):=by exact nH
   simp(disch:=first|omega|exact ti rfl)only[go_sem,seval,e1,e3,hl];unfold q2m;rw[dK];refine qp1 hX hN hP hlt (pb:=H.nx) (fun H2 hI2=>?_) cZ 0 _ (Nat.zero_le _) (by rw[dM];omega) ⟨(fp.keep o3).trans hI.n,?_,⟨o1,o2,by(first|omega|(simp only[np,nq];omega))⟩,hI.fm.trans fp⟩ (eB _ _ _) o3 (by(first|omega|(simp only[np,nq];omega)))
   ·unfold qrv;simp(disch:=first|omega|exact ti rfl|(simp only[np,nq];first|done|omega))only[go_sem,rB,rI,rK,rL,rN,rS,r6];refine qp2 hX hN hP hq k (s+1) H2 (by omega) (by omega) ?_;have hx:dA X (s+1)=dA X s++X[s].gs.map fun x=>(X[s].name,x):=by
     unfold dA eO;rw[List.take_succ_eq_append_getElem hlt,List.flatMap_append,List.flatMap_singleton]
    simp_all
   ·rw[List.take_zero,List.map_nil,List.append_nil];exact hI.m.eq (fp.keep (by omega))
  ·simp only[go_sem,hlt];have he:s=X.length:=by omega
   refine hq H ?_;have:dA X X.length=eO X:=by unfold dA;rw[List.take_length]
   rw[he,this,vZ]at hI;exact hI
end Go.Di
end
