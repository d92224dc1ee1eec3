/-
 For FitsObjects: functions in direct style, their contracts, and the plain mathematics, part 5 of 9. No conditions beyond those that each theorem states.
-/
import Derived.Test.YtbfjjkjiokfdgaaGreatConD
set_option linter.unusedSimpArgs false
set_option linter.unusedVariables false
open Nat renaming reduceAdd->rB,reduceMul->rI,reduceSub->rK,reduceLeDiff->rL,reduceEqDiff->rN,reduceShiftRight->rS,reduceAnd->r6
section
namespace Go.Di
open Go.Ev
variable {C:Nat->Ev.Call}
variable {H H' Hb:Hp} {X:List aR} {b i ib k n sb z:Nat} {g:aR} {l:List AV} {sv:AV}
structure gQ(X:List aR):Prop where
 pr:wF X
 al:(aN X).Nodup
 sp:(X.map aR.name).Nodup
 ty:∀ g∈X,∀x∈g.gs,x.r.types.Nodup/\∀ t∈x.r.types,t.sp∈X.map aR.name/\(t.rl=sE\/(t.sp,t.rl)∈aN X)
 nd:∀ g∈X,∀x∈g.gs,∀y∈x.r.rule.nodes false,(y.k=2\/y.k=3->(g.name,y.rl)∈aN X)/\(y.k=3->tX X g.name y.rl y.to≠[])
 us:∀ g∈X,∀x∈g.gs,((x.r.rule.nodes false).any (fun n=>decide (n.k=1))=true->x.r.types≠[])/\((x.r.rule.nodes false).any (fun n=>decide (n.k=1))=false->x.r.types≠[]->(g.gs.any fun z=>eP z.r.rule 3 x.r.name)=true)
theorem qh3{a:SS}{x:bB}:(a,x)∈gT X↔∃ g∈X,x∈g.gs/\g.name=a:=by
 unfold gT;rw[List.mem_flatMap];constructor
 ·rintro ⟨g,hg,h⟩;rw[List.mem_map]at h;obtain⟨y,hy,e⟩:=h;injection e with e1 e2;subst e2;exact⟨g,hg,hy,e1⟩
 ·simp
theorem qim{a b:SS}:(a,b)∈aN X↔∃ g∈X,∃x∈g.gs,g.name=a/\x.r.name=b:=by
 rw[<-yZ,List.mem_map];constructor
 ·rintro ⟨⟨a',x⟩,h,e⟩;injection e with e1 e2;subst e1;obtain⟨g,hg,hx,e⟩:=qh3.1 h;exact⟨g,hg,x,hx,e,e2⟩
 ·rintro ⟨g,hg,x,hx,rfl,rfl⟩;exact⟨(g.name,x),qh3.2 ⟨g,hg,hx,rfl⟩,rfl⟩
theorem qmx{α β:Type}{f:α->β}:∀{l:List α},(l.map f).Nodup->∀{x y:α},x∈l->y∈l->f x=f y->x=y
 | [],_,_,_,h,_,_=>by cases h
 |a::l,hn,x,y,hx,hy,e=>by
  rw[List.map_cons,List.nodup_cons]at hn;rcases List.mem_cons.1 hx with h1|h1
  ·rcases List.mem_cons.1 hy with h2|h2
   ·rw[h1,h2]
   ·exact absurd (by rw[<-h1,e];exact List.mem_map_of_mem h2) hn.1
  ·rcases List.mem_cons.1 hy with h2|h2
   ·simp_all
   ·exact qmx hn.2 h1 h2 e
theorem qm5{α:Type}[DecidableEq α]{l:List α}(h:l.Nodup)(hi:i<l.length):(l.findIdx fun q=>decide (q=l[i]))=i:=by rw[List.findIdx_eq hi];refine⟨by simp,fun j hj=>?_⟩;have:=List.pairwise_iff_getElem.1 h j i (by omega) hi hj;simp_all
theorem qfz(hal:(aN X).Nodup)(hsp:(X.map aR.name).Nodup){a b:SS}(h:(a,b)∈aN X):∃ x,oJ X a b=some x/\(gT X)[cB X a b]? =some (a,x):=by
 obtain⟨g,hg,x,hx,rfl,rfl⟩:=qim.1 h;have h1:X.find? (fun p=>decide (p.name=g.name))=some g:=by
  cases hf:X.find? (fun p=>decide (p.name=g.name))with
  |none=>rw[List.find?_eq_none]at hf;exact absurd (hf g hg) (by simp)
  |some p=>
   have e:p.name=g.name:=by simpa using List.find?_some hf
   rw[qmx hsp (List.mem_of_find?_eq_some hf) hg e]
 obtain⟨y,h2⟩:∃ y,g.gs.find? (fun z=>decide (z.r.name=x.r.name))=some y:=by
  cases hf:g.gs.find? (fun z=>decide (z.r.name=x.r.name))with
  |none=>rw[List.find?_eq_none]at hf;exact absurd (hf x hx) (by simp)
  |some y=>exact⟨y,rfl⟩
 have hfg:oJ X g.name x.r.name=some y:=by unfold oJ;rw[h1];exact h2
 have hy:y.r.name=x.r.name:=by simpa using List.find?_some h2
 refine⟨y,hfg,?_⟩;have hm:(g.name,y)∈gT X:=qh3.2 ⟨g,hg,List.mem_of_find?_eq_some h2,rfl⟩;obtain⟨n,hn,e⟩:=List.getElem_of_mem hm;have hln:(gT X).length=(aN X).length:=by rw[<-yZ,List.length_map]
 have hk:(aN X)[n]'(by omega)=(g.name,x.r.name):=by
  have e2:(aN X)[n]? =some (kq (gT X)[n]):=by rw[<-yZ,List.getElem?_map,List.getElem?_eq_getElem hn];rfl
  rw[List.getElem?_eq_getElem (by omega)]at e2;injection e2 with e2;rw[e2,e];show(g.name,y.r.name)=_;rw[hy]
 have aQM:cB X g.name x.r.name=n:=by have:=qm5 hal (i:=n) (by omega);rw[hk]at this;exact this
 rw[aQM,List.getElem?_eq_getElem hn,e]
theorem qjl(hal:(aN X).Nodup)(hsp:(X.map aR.name).Nodup)(a b:SS):(oJ X a b).isSome=decide ((a,b)∈aN X):=by
 by_cases h:(a,b)∈aN X
 ·obtain⟨x,h1,_⟩:=qfz hal hsp h;simp_all
 ·rw[decide_eq_false h];cases hf:oJ X a b with
  |none=>rfl
  |some x=>obtain⟨p,hp,hx,e1,e2⟩:=qk1 hf;exact absurd (qim.2 ⟨p,hp,x,hx,e1,e2⟩) h
theorem zot(a b:Nat):qnd (.ptr a b) .bX=some false:=id rfl
theorem zou:qnd .bX .bX=some true:=id rfl
theorem q75(n b:Bool):mQ n (some b)=.val (.bool (bif n then !b else b)):=id rfl
attribute [go_sem] zot zou q75
theorem qgn(hC:bA C)(hk:1<=k)(hI:vU H ib sv X)(hal:(aN X).Nodup)(hsp:(X.map aR.name).Nodup){a b:SS}(h:(a,b)∈aN X):∃q x,oJ X a b=some x/\C k (.f 111) [.ptr ib 0,.str a.n a.a,.str b.n b.a] H=.ok (.ptr q.1 q.2) H/\PtR H q x:=by
 obtain⟨j,rfl⟩:=aX hk;obtain⟨x,hf,hx⟩:=qfz hal hsp h;obtain⟨mb,nb,av,iv,qs,h1,h2,h3,h4,h5,h6,h7,h8,h9,l1,l2⟩:=hI.ex;have hlt:=zr1 h;have hln:(gT X).length=(aN X).length:=by rw[<-yZ,List.length_map]
 have hq:cB X a b<qs.length:=by omega
 obtain⟨b1,o1,e1,e2,_,_,e4⟩:=h4.at' _ hq;have r0:dI (H.get b1) o1=.val (.ptr qs[cB X a b].1 qs[cB X a b].2):=e4 0 (by rw[q0y];omega);refine⟨qs[cB X a b],x,hf,?_,?_⟩
 ·rw[(hC j).zBx];unfold zBx zlj;have em:=h3.find (iN 0) a b h;have hnx:(List.findIdx (fun q=>decide (q=(a,b))) (aN X))=cB X a b:=rfl;rw[hnx]at em;simp(disch:=first|omega|exact ti rfl|simp only[np,nq];first|done|omega)only[go_sem,rB,rI,rK,rL,rN,rS,r6,h1,em];unfold zbk;simp only[go_sem,h1,e1,r0]
 ·have:=h9 _ hq (by omega);simp_all
theorem zps(hC:bA C)(hk:1<=k)(hI:vU H ib sv X){a b:SS}(h:(a,b)∉aN X):C k (.f 111) [.ptr ib 0,.str a.n a.a,.str b.n b.a] H=.ok .bX H:=by obtain⟨j,rfl⟩:=aX hk;obtain⟨mb,nb,av,iv,qs,h1,h2,h3,h4,h5,h6,h7,h8,h9,l1,l2⟩:=hI.ex;rw[(hC j).zBx];unfold zBx zlj;have em:=h3.miss (iN 0) a b h;simp(disch:=first|omega|exact ti rfl|simp only[np,nq];first|done|omega)only[go_sem,rB,rI,rK,rL,rN,rS,r6,h1,em]
theorem qta(hC:bA C){j:Nat}(hj:1<=j){H0:Hp}{ib:Nat}{sv tv:AV}{X:List aR}(hI:vU H0 ib sv X)(hal:(aN X).Nodup)(hsp:(X.map aR.name).Nodup){ts:List jS}(ht:Rs 2 tC H0 tv ts)(htl:ts.length<=1000)(to:SS){Q:pL}{q:pD}(hq:∀ w H,Ac 1 sC H0 H w (tgL X to ts)->Ok (q w H) Q):∀(k i:Nat) (w:AV) (H:Hp),i<=ts.length->ts.length-i<k->Ac 1 sC H0 H w (tgL X to (ts.take i)) -> Ok (qun (C j) q (.ptr ib 0) to.v tv (iN (ts.length)) k w (iN i) H) Q
 |0,i,_,_,_,h,_=>by omega
 |k+1,i,w,H,hi,hk,hw=>by
  show Ok (zbj (C j) _ _ _ _ _ (qun (C j) _ _ _ _ _ k) _ _ H) Q;unfold zbj;by_cases hlt:i<ts.length
  ·simp only[go_sem,hlt];unfold zbi;have ht1:=ht.fm hw.fm;obtain⟨b1,o1,e1,e2,_,e3,_⟩:=ht1.at' i hlt;unfold tC SS.v at e3;have hs:=zmu X to hlt;have hll:=q0d X to (ts.take i);rw[List.length_take]at hll;have skip:∀ H3,Fm No H H3->tgP X to ts[i]=false->Ok (qlj (C j) (qun (C j) q (.ptr ib 0) (.str to.n to.a) tv (iN (ts.length)) k) w (iN i) H3) Q:=fun H3 f3 h=>by
    unfold qlj;simp(disch:=first|omega|exact ti rfl|simp only[np,nq];first|done|omega)only[go_sem,rB,rI,rK,rL,rN,rS,r6];refine qta hC hj hI hal hsp ht htl to hq k (i+1) w H3 (by omega) (by omega) ?_;rw[hs,h];simpa using hw.no f3
   have f2:Fm No H ((aS H (aB 0 [.str 0 0,.str 0 0])).put H.nx (aB 0 [.str ts[i].sp.n ts[i].sp.a,.str ts[i].rl.n ts[i].rl.a])):=by exact mO
   have hI2:=(hI.fm hw.fm).fm f2;unfold SS.v;unfold tgP at skip hs;by_cases h1:ts[i].rl.n=0/\ts[i].rl.a=0
   ·have h1':ts[i].rl=sE:=(tO _ _).2 h1;have h1t:=eq_true h1;rw[decide_eq_true h1',qjl hal hsp]at skip hs;by_cases hin:(ts[i].sp,to)∈aN X
    ·obtain⟨qq,x,_,ec,_⟩:=qgn hC (k:=j) hj hI2 hal hsp hin;rw[decide_eq_true hin]at hs;simp(disch:=first|omega|exact ti rfl|simp only[np,nq];first|done|omega)only[go_sem,seval,e1,e3,h1t,ec];refine Ok.ve ((hw.no (f2.trans (by(repeat(first|exact Fm.refl _ _|assumption|refine Fm.push ?_ _|refine Fm.oV ?_ (by first|omega|simp only[np,nq];omega)|refine Fm.aG ?_ _ _ (by first|omega|simp only[np,nq];omega)))))).add ts[i].sp 16 rfl (by omega) (by omega)) ?_;intro w4 H4 hw4;unfold qlj;simp(disch:=first|omega|exact ti rfl|simp only[np,nq];first|done|omega)only[go_sem,rB,rI,rK,rL,rN,rS,r6];refine qta hC hj hI hal hsp ht htl to hq k (i+1) w4 H4 (by omega) (by omega) ?_;simp_all
    ·have ec:=zps hC (k:=j) hj hI2 hin;rw[decide_eq_false hin]at skip;simp(disch:=first|omega|exact ti rfl)only[go_sem,seval,e1,e3,h1t,ec];simp_all
   ·rw[decide_eq_false (fun h=>h1 ((tO _ _).1 h))]at skip;simp(disch:=first|omega|exact ti rfl)only[go_sem,seval,e1,e3,h1];simp_all
  ·simp only[go_sem,hlt];have he:i=ts.length:=by omega
   simp_all
theorem zpw(hC:bA C)(hk:1<=k){v:AV}(h:Gl 1 H v n l):∃w,C k (.f 143) [v] H=.ok w H/\Gl 1 H w n l/\(∀b,In w b->In v b):=by obtain⟨j,rfl⟩:=aX hk;obtain⟨w,e,h1,h2,h3⟩:=h.clip;refine⟨w,?_,h1,h3⟩;rw[(hC j).zCq];unfold zCq zt1;simp only[go_sem,h.dA,e]
theorem qnr(hC:bA C)(hk:2<=k)(hX:dK H sv X)(hS:wI X)(hI:vU H ib sv X)(hal:(aN X).Nodup)(hsp:(X.map aR.name).Nodup)(a b to:SS)(hab:(a,b)∈aN X):Ok (C k (.f 112) [.ptr ib 0,.str a.n a.a,.str b.n b.a,.str to.n to.a] H) fun r H'=>Ac 1 sC H H' r (tX X a b to):=by obtain⟨j,rfl⟩:=aX hk;rw[(hC j).zBy];unfold zBy zui;obtain⟨q,x,hf,ec,hp⟩:=qgn hC (k:=j) (by omega) hI hal hsp hab;have rt:=hp.tv;obtain⟨p,hp1,hx,_,_⟩:=qk1 hf;have hty:=((hX.sp p hp1).rel x hx).ty;have htl:=hS.t p hp1 x hx;have hl:=hty.len;simp only[go_sem,ec,rt,hl];unfold zqy;rw[dH];refine qta hC (by omega) hI hal hsp hty (by omega) to (fun w H2 hw=>?_) cK 0 .aA H (Nat.zero_le _) (by rw[dM];omega) (Ac.nil _ _ (Fm.refl _ _));unfold q2u;obtain⟨w',e,g,hi⟩:=zpw hC (k:=j) (by omega) hw.gl;simp only[go_sem,e];unfold tX;rw[hf];exact Ok.ret ⟨g,hw.fm,fun c hc=>hw.nw c (hi c hc)⟩
theorem qw5(n m i:Nat)(h:i<=m):bounds n m none (some (iN i)) none=some ⟨0,i,m⟩:=by show(match(bif Nat.ble i m then some i else none)with|none=>none|some h=>match(some 0:Option Nat)with|none=>none|some l=>some (Bd.mk l h m))=_;rw[ble_eq,decide_eq_true h];rfl
theorem Rs.pre{α:Type}{f:α->List AV}{v:AV}{l:List α}(h:Rs z f H v l)(hc:v=.aA\/∃ b o n m e,v=.sl b o n m e/\n<=m/\0<n)(hi:i<l.length):∃w,jX z v none (some (iN i)) none=.val w/\Rs z f H w (l.take i):=by
 have hl:=h.len;rcases hc with rfl|⟨b,o,n,m,e,rfl,hnm⟩
 ·exfalso;have:l.length=0:=by
   have h1:aF .aA=R0.val (iN 0):=rfl;injection hl with hl;injection hl with _ hl;injection hl with hl;omega
  omega
 ·have hn:n=l.length:=by
   have h1:aF (.sl b o n m e)=R0.val (iN n):=rfl;injection hl with hl;injection hl with _ hl;injection hl
  subst hn;have e1:jX z (.sl b o l.length m e) none (some (iN i)) none=gZ b o z ⟨0,i,m⟩ e:=by show(match bounds l.length m none (some (iN i)) none with|some bd=>gZ b o z bd e|none=>R0.bad)=_;rw[qw5 _ _ _ (by omega)]
  have e2:gZ b o z ⟨0,i,m⟩ e=.val (.sl b o i m e):=by unfold gZ;simp only[beq_eq];rw[decide_eq_false (by omega),cond_false];simp
  refine⟨.sl b o i m e,e1.trans e2,?_,fun j hj=>?_⟩
  ·rw[List.length_take,Nat.min_eq_left (by omega)];rfl
  ·have hj':j<i:=by rw[List.length_take]at hj;omega
   obtain⟨b',o',i1,i2,i3,i4,i5⟩:=h.at' j (by omega);rw[sP _ _ _ _ _ _ _ _ (by omega)]at i1;injection i1 with i1;injection i1 with i1 i6;subst i1 i6;refine⟨b,_,sP _ _ _ _ _ _ _ _ hj',i2,⟨_,_,_,_,rfl⟩,?_,fun m hm=>?_⟩
   ·simp_all
   ·have:((l.take i)[j]'hj)=l[j]'(by omega):=List.getElem_take ..;simp only[this]at hm ⊢;exact i5 m hm
def kyT(t:jS):SS×SS:=(t.sp,t.rl)
theorem zw7{t u:jS}(h:kyT t=kyT u):t=u:=by injection h with h1 h2;cases t;simp_all
theorem q3n{call:Ev.Call}{H:Hp}{tv:AV}{ts:List jS}(ht:Rs 2 tC H tv ts)(htl:ts.length<=1000){t:jS}{pb:Nat}(hp:H.get pb=aB 0 [.str t.sp.n t.sp.a,.str t.rl.n t.rl.a]){Q:pL}{q:pH}{qr:pD}(hq:t∉ts->Ok (q H) Q)(hr:t∈ts->∀ i:Nat,Ok (qr (iN i) H) Q):∀(k i:Nat),i<=ts.length->ts.length-i<k->t∉ts.take i->Ok (q2f call qr q tv (.ptr pb 0) (iN (ts.length)) k (iN i) H) Q
 |0,i,_,h,_=>by omega
 |k+1,i,hi,hk,hn=>by
  show Ok (q95 call _ _ _ _ _ (q2f call _ _ _ _ _ k) _ H) Q;unfold q95;by_cases hlt:i<ts.length
  ·simp only[go_sem,hlt];unfold q93;obtain⟨b1,o1,e1,e2,_,e3,_⟩:=ht.at' i hlt;unfold tC SS.v at e3;have ee:gW (eqFields [(p1,⟨bZ⟩,0),(p1,⟨bZ⟩,1)]) (.agg [.str t.sp.n t.sp.a,.str t.rl.n t.rl.a]) (.agg [.str ts[i].sp.n ts[i].sp.a,.str ts[i].rl.n ts[i].rl.a])=some (decide (kyT t=kyT ts[i])):=qwg (kyT t) (kyT ts[i]);by_cases hne:kyT t=kyT ts[i]
   ·rw[decide_eq_true hne]at ee;simp only[go_sem,seval,hp,e1,e3,ee];exact hr (by rw[zw7 hne];exact List.getElem_mem hlt) i
   ·rw[decide_eq_false hne]at ee;simp only[go_sem,seval,hp,e1,e3,ee];unfold zp8;simp(disch:=omega)only[go_sem];refine q3n ht htl hp hq hr k (i+1) (by omega) (by omega) fun h=>?_;rw[List.take_succ_eq_append_getElem hlt,List.mem_append,List.mem_singleton]at h;simp_all
  ·simp only[go_sem,hlt];exact hq (by rw[List.take_of_length_le (by omega)]at hn;exact hn)
theorem qxe(hC:bA C)(hk:2<=k){tv:AV}{ts:List jS}(ht:Rs 2 tC H tv ts)(htl:ts.length<=1000)(t:jS):Ok (C k (.f 65) [tv,.agg [.str t.sp.n t.sp.a,.str t.rl.n t.rl.a]] H) fun r H'=>r=.bool (decide (t∈ts))/\Fm No H H':=by
 obtain⟨j,rfl⟩:∃ j,k=j+1+1:=⟨k-2,by omega⟩;rw[(hC (j+1)).zDf];unfold zDf ztp;simp(disch:=first|omega|exact ti rfl|simp only[np,nq];first|done|omega)only[go_sem,rB,rI,rK,rL,rN,rS,r6];rw[(hC j).zDm];unfold zDm ztk;have hl:=ht.len;simp only[go_sem,hl];have f:Fm No H (aS (aS H (aB 0 [.str t.sp.n t.sp.a,.str t.rl.n t.rl.a])) (aB 0 [.str t.sp.n t.sp.a,.str t.rl.n t.rl.a])):=by exact qD
 unfold zp9;rw[dH];refine Ok.ve (R:=fun r H'=>((t∉ts/\r=.int .i64 (.negSucc 0))\/(t∈ts/\∃ i:Nat,r=iN i))/\Fm No H H') (q3n (ht.fm f) htl (t:=t) (pb:=H.nx+1) (by simp(disch:=first|omega|exact ti rfl|simp only[np,nq];first|done|omega)only[go_sem]) (fun h=>?_) (fun h i=>Ok.ret ⟨.inr ⟨h,i,rfl⟩,f⟩) cK 0 (Nat.zero_le _) (by rw[dM];omega) (by rw[List.take_zero];exact List.not_mem_nil)) ?_
 ·unfold q94;exact Ok.ret ⟨.inl ⟨h,rfl⟩,f⟩
 ·rintro _ H2 ⟨⟨h,rfl⟩|⟨h,i,rfl⟩,f2⟩
  ·simp only[go_sem];exact Ok.ret ⟨by rw[decide_eq_false h],f2⟩
  ·simp only[go_sem];exact Ok.ret ⟨by rw[decide_eq_true h,decide_eq_true (Nat.zero_le i)],f2⟩
theorem qxf(hC:bA C)(hk:2<=k){tv:AV}{ts:List jS}(ht:Rs 2 tC H tv ts)(htl:ts.length<=1000){t:jS}(hn:t∉ts):Ok (C k (.f 65) [tv,.agg [.str t.sp.n t.sp.a,.str t.rl.n t.rl.a]] H) fun r H'=>r=.bool false/\Fm No H H':=
 (qxe hC hk ht htl t).mono fun _ _ h=>by rw[decide_eq_false hn]at h;exact h
theorem q4m(hC:bA C){j:Nat}(hj:2<=j){Hb:Hp}{ib:Nat}{sv:AV}{X:List aR}(hI:vU Hb ib sv X)(hV:gQ X){pp:Nat×Nat}{x:bB}(hpx:PtR Hb pp x)(hxr:oW Hb x)(htl:x.r.types.length<=8)(hnd:x.r.types.Nodup)(hty:∀ t∈x.r.types,t.sp∈X.map aR.name/\(t.rl=sE\/(t.sp,t.rl)∈aN X)){Q:pL}{q:pH}{qr:pD}(hq:∀ H,Fm No Hb H->Ok (q H) Q):∀(k i:Nat) (H:Hp),i<=x.r.types.length->x.r.types.length-i<k->Fm No Hb H->Ok (qox (C j) qr q (.ptr ib 0) (.ptr pp.1 pp.2) x.tv (iN (x.r.types.length)) k (iN i) H) Q
 |0,i,_,_,h,_=>by omega
 |k+1,i,H,hi,hk,hf=>by
  show Ok (zal (C j) _ _ _ _ _ _ (qox (C j) _ _ _ _ _ _ k) _ H) Q;unfold zal;by_cases hlt:i<x.r.types.length
  ·simp only[go_sem,hlt];rw[qoy];unfold qq2;have h1:=hxr.fm hf;obtain⟨b1,o1,e1,e2,_,e3,_⟩:=h1.ty.at' i hlt;unfold tC SS.v at e3;have hI1:=hI.fm hf;have ht:=hty _ (List.getElem_mem hlt);have fp:Fm No H ((aS H (aB 0 [.str 0 0,.str 0 0])).put H.nx (aB 0 [.str x.r.types[i].sp.n x.r.types[i].sp.a,.str x.r.types[i].rl.n x.r.types[i].rl.a])):=by exact mO
   have hI2:=hI1.fm fp;obtain⟨mb,nb,av,iv,qs,g1,g2,g3,_⟩:=hI2.ex;have em:qT ⟨bZ,none⟩ (iN 0) false ⟨((aS H (aB 0 [.str 0 0,.str 0 0])).put H.nx (aB 0 [.str x.r.types[i].sp.n x.r.types[i].sp.a,.str x.r.types[i].rl.n x.r.types[i].rl.a])).t,H.nx+1⟩ (.map mb) (.str x.r.types[i].sp.n x.r.types[i].sp.a)=.val (iN 1):=g2.find _ _ ht.1;have bA3:=(hpx.fm hf).fm fp;have rt:=bA3.tv;have aJy:=h1.fm fp;obtain⟨w,ew,hw⟩:=aJy.ty.pre aJy.tc hlt;have tail:∀ H3,Fm No ((aS H (aB 0 [.str 0 0,.str 0 0])).put H.nx (aB 0 [.str x.r.types[i].sp.n x.r.types[i].sp.a,.str x.r.types[i].rl.n x.r.types[i].rl.a])) H3->Ok (C j (.f 65) [w,.agg [.str x.r.types[i].sp.n x.r.types[i].sp.a,.str x.r.types[i].rl.n x.r.types[i].rl.a]] H3) fun r H'=>r=.bool false/\Fm No H3 H':=fun H3 f3=>
    qxf hC hj (hw.fm f3) (by rw[List.length_take];omega) (t:=x.r.types[i]) (qj8 hnd hlt)
   have fin:∀ H3,Fm No H H3->Ok (zai (C j) (qox (C j) qr q (.ptr ib 0) (.ptr pp.1 pp.2) x.tv (iN (x.r.types.length)) k) (iN i) H3) Q:=fun H3 f3=>by rw[quj];unfold qyl;simp(disch:=omega)only[go_sem];exact q4m hC hj hI hV hpx hxr htl hnd hty hq k (i+1) H3 (by omega) (by omega) (hf.trans f3)
   by_cases hz:x.r.types[i].rl.n=0/\x.r.types[i].rl.a=0
   ·have hzt:=eq_true hz;simp(disch:=first|omega|exact ti rfl|simp only[np,nq];first|done|omega)only[go_sem,rB,rI,rK,rL,rN,rS,r6,e1,e3,g1,em,hzt,rt,ew];refine Ok.mY (tail _ (Fm.refl _ _)) ?_;rintro _ H3 ⟨rfl,f3⟩;simp only[go_sem];exact fin H3 (fp.trans f3)
   ·have hin:(x.r.types[i].sp,x.r.types[i].rl)∈aN X:=by
     rcases ht.2 with h|h
     ·exact absurd ((tO _ _).1 h) hz
     ·exact h
    obtain⟨qq,y,_,ec,_⟩:=qgn hC (k:=j) (by omega) hI2 hV.al hV.sp hin;have ec':C j (.f 111) [.ptr ib 0,.str x.r.types[i].sp.n x.r.types[i].sp.a,.str x.r.types[i].rl.n x.r.types[i].rl.a] ⟨((aS H (aB 0 [.str 0 0,.str 0 0])).put H.nx (aB 0 [.str x.r.types[i].sp.n x.r.types[i].sp.a,.str x.r.types[i].rl.n x.r.types[i].rl.a])).t,H.nx+1⟩=.ok (.ptr qq.1 qq.2) ((aS H (aB 0 [.str 0 0,.str 0 0])).put H.nx (aB 0 [.str x.r.types[i].sp.n x.r.types[i].sp.a,.str x.r.types[i].rl.n x.r.types[i].rl.a])):=ec;simp(disch:=first|omega|exact ti rfl|simp only[np,nq];first|done|omega)only[go_sem,rB,rI,rK,rL,rN,rS,r6,e1,e3,g1,em,hz,ec',rt,ew];refine Ok.mY (tail _ (Fm.refl _ _)) ?_;rintro _ H3 ⟨rfl,f3⟩;simp only[go_sem];exact fin H3 (fp.trans f3)
  ·simp only[go_sem,hlt];exact hq H hf
theorem ziz(hC:bA C)(hk:3<=k)(hI:vU H ib sv X)(hV:gQ X){pp:Nat×Nat}{x:bB}(hpx:PtR H pp x)(hxr:oW H x)(htl:x.r.types.length<=8)(hnd:x.r.types.Nodup)(hty:∀ t∈x.r.types,t.sp∈X.map aR.name/\(t.rl=sE\/(t.sp,t.rl)∈aN X)):Ok (C k (.f 135) [.ptr ib 0,.ptr pp.1 pp.2] H) fun r H'=>r=iN 0/\Fm No H H':=by obtain⟨j,rfl⟩:=aX hk;rw[(hC j).zCy];unfold zCy ztv;have rt:=hpx.tv;have hl:=hxr.ty.len;simp only[go_sem,rt,hl];unfold zqh;rw[dH];refine q4m hC (by omega) hI hV hpx hxr htl hnd hty (fun H2 f2=>?_) cK 0 H (Nat.zero_le _) (by rw[dM];omega) (Fm.refl _ _);rw[quk];exact Ok.ret ⟨rfl,f2⟩
theorem zpc(nm n a:Nat):iY nm (.str n a)=.new (.ptr nm 0) (aB 0 [.str n a]):=id rfl
theorem zpd(nm n a:Nat):iY nm (.ptr n a)=.new (.ptr nm 0) (aB 0 [.ptr n a]):=id rfl
attribute [go_sem] zpc zpd
theorem qjd(hC:bA C){j:Nat}(hj:2<=j){Hb:Hp}{ib:Nat}{sv nv:AV}{X:List aR}(hX:dK Hb sv X)(hI:vU Hb ib sv X)(hV:gQ X)(s:SS){l:List (Nd×AV)}(hl:Rs 5 kE Hb nv l)(hll:l.length<=1000)(hnd:∀ y∈l,(y.1.k=2\/y.1.k=3->(s,y.1.rl)∈aN X)/\(y.1.k=3->tX X s y.1.rl y.1.to≠[])){Q:pL}{q:pD}{qr:AV->pD}(hq:∀ H,Fm No Hb H->Ok (q (.bool (l.any fun y=>decide (y.1.k=1))) H) Q):∀(k i:Nat) (u:Bool) (H:Hp),i<=l.length->l.length-i<k->Fm No Hb H->u=((l.take i).any fun y=>decide (y.1.k=1))->Ok (quh (C j) qr q (.ptr ib 0) (.str s.n s.a) nv (iN (l.length)) k (.bool u) (iN i) H) Q
 |0,i,_,_,_,h,_,_=>by omega
 |k+1,i,u,H,hi,hk,hf,hu=>by
  show Ok (zad (C j) _ _ _ _ _ _ (quh (C j) _ _ _ _ _ _ k) _ _ H) Q;unfold zad;by_cases hlt:i<l.length
  ·simp only[go_sem,hlt];unfold zac;have h1:=hl.fm hf;obtain⟨b1,o1,e1,e2,_,e3,_⟩:=h1.at' i hlt;unfold kE SS.v at e3;have hn:=hnd _ (List.getElem_mem hlt);have fp:Fm No H ((aS H (aB 0 [.int .u8 (.ofNat 0),.str 0 0,.str 0 0,.aA,.bool false])).put H.nx (aB 0 [.int .u8 (.ofNat l[i].1.k),.str l[i].1.rl.n l[i].1.rl.a,.str l[i].1.to.n l[i].1.to.a,l[i].2,.bool l[i].1.neg])):=by exact mO
   obtain⟨H1,hH1⟩:∃ H1,H1=(aS H (aB 0 [.int .u8 (.ofNat 0),.str 0 0,.str 0 0,.aA,.bool false])).put H.nx (aB 0 [.int .u8 (.ofNat l[i].1.k),.str l[i].1.rl.n l[i].1.rl.a,.str l[i].1.to.n l[i].1.to.a,l[i].2,.bool l[i].1.neg]):=⟨_,rfl⟩;rw[<-hH1]at fp;have pb:H1.get H.nx=aB 0 [.int .u8 (.ofNat l[i].1.k),.str l[i].1.rl.n l[i].1.rl.a,.str l[i].1.to.n l[i].1.to.a,l[i].2,.bool l[i].1.neg]:=by rw[hH1];exact eD _ _ _
   have n1:H.nx<H1.nx:=by rw[hH1];simp only[np,nq];omega
   have hI2:=(hI.fm hf).fm fp;have hs:((l.take (i+1)).any fun y=>decide (y.1.k=1))=(((l.take i).any fun y=>decide (y.1.k=1))||decide (l[i].1.k=1)):=by rw[List.take_succ_eq_append_getElem hlt,List.any_append];simp
   have fin:∀ H3,Fm No H1 H3->Ok (qyj (C j) (quh (C j) qr q (.ptr ib 0) (.str s.n s.a) nv (iN (l.length)) k) (.bool u) (.ptr H.nx 0) (iN i) H3) Q:=fun H3 f3=>by
    unfold qyj;have p3:=(f3.keep n1).trans pb;cases u with
    |true=>unfold zab;simp(disch:=first|omega|exact ti rfl|simp only[np,nq];first|done|omega)only[go_sem,rB,rI,rK,rL,rN,rS,r6];exact qjd hC hj hX hI hV s hl hll hnd hq k (i+1) true H3 (by omega) (by omega) (hf.trans (fp.trans f3)) (by rw[hs,<-hu];rfl)
    |false=>simp only[go_sem,p3];unfold zab;simp(disch:=first|omega|exact ti rfl|simp only[np,nq];first|done|omega)only[go_sem,rB,rI,rK,rL,rN,rS,r6];exact qjd hC hj hX hI hV s hl hll hnd hq k (i+1) _ H3 (by omega) (by omega) (hf.trans (fp.trans f3)) (by rw[hs,<-hu];rfl)
   by_cases q2:l[i].1.k=2
   ·have q2t:=eq_true q2;obtain⟨qq,y,_,ec,_⟩:=qgn hC (k:=j) (by omega) hI2 hV.al hV.sp (hn.1 (.inl q2));have q3:¬ l[i].1.k=3:=by omega
    rw[hH1]at ec;simp(disch:=first|omega|exact ti rfl|simp only[np,nq];first|done|omega)only[go_sem,rB,rI,rK,rL,rN,rS,r6,e1,e3,q2t,q3,ec];rw[<-hH1];exact fin H1 (Fm.refl _ _)
   ·by_cases q3:l[i].1.k=3
    ·have q3t:=eq_true q3;have hin:=hn.1 (.inr q3);obtain⟨qq,y,_,ec,_⟩:=qgn hC (k:=j) (by omega) hI2 hV.al hV.sp hin;have ht:=qnr hC (k:=j) (by omega) ((hX.fm hf).fm fp) hV.pr.sml hI2 hV.al hV.sp s l[i].1.rl l[i].1.to hin;rw[hH1]at ec;simp(disch:=first|omega|exact ti rfl|simp only[np,nq];first|done|omega)only[go_sem,rB,rI,rK,rL,rN,rS,r6,e1,e3,q3t,q2,ec];rw[<-hH1];refine Ok.ve ht ?_;intro tv H2 ha;have hla:=ha.dA;have hne:¬(tX X s l[i].1.rl l[i].1.to).length=0:=fun h=>hn.2 q3 (List.length_eq_zero_iff.1 h);simp only[go_sem,hla,hne];exact fin H2 ha.fm
    ·simp(disch:=first|omega|exact ti rfl|simp only[np,nq];first|done|omega)only[go_sem,rB,rI,rK,rL,rN,rS,r6,e1,e3,q2,q3];rw[<-hH1];exact fin H1 (Fm.refl _ _)
  ·simp only[go_sem,hlt];have he:i=l.length:=by omega
   rw[he,List.take_length]at hu;rw[hu];exact hq H hf
theorem zpr(hC:bA C)(hk:3<=k){sv nv:AV}(hX:dK H sv X)(hI:vU H ib sv X)(hV:gQ X)(s:SS){l:List (Nd×AV)}(hl:Rs 5 kE H nv l)(hll:l.length<=1000)(hnd:∀ y∈l,(y.1.k=2\/y.1.k=3->(s,y.1.rl)∈aN X)/\(y.1.k=3->tX X s y.1.rl y.1.to≠[])):Ok (C k (.f 137) [.ptr ib 0,.str s.n s.a,nv] H) fun r H'=>r=.aY [.bool (l.any fun y=>decide (y.1.k=1)),iN 0]/\Fm No H H':=by obtain⟨j,rfl⟩:=aX hk;rw[(hC j).zCz];unfold zCz ztu;have hln:=hl.len;simp only[go_sem,hln];unfold zqf;rw[dH];refine qjd hC (by omega) hX hI hV s hl hll hnd (fun H2 f2=>?_) cK 0 false H (Nat.zero_le _) (by rw[dM];omega) (Fm.refl _ _) rfl;exact Ok.ret ⟨rfl,f2⟩
theorem q40(hC:bA C){j:Nat}(hj:1<=j){Hb:Hp}{nv:AV}{l:List (Nd×AV)}(hl:Rs 5 kE Hb nv l)(hll:l.length<=1000){s:SS}{sb:Nat}(hs:Hb.get sb=aB 0 [.str s.n s.a])(hsl:sb<Hb.nx){Q:pL}{q:pH}{qr:pD}(hr:∀ i H,l.any (fun y=>gP 3 s y.1)=true->Fm No Hb H->Ok (qr (iN i) H) Q)(hq:∀ H,l.any (fun y=>gP 3 s y.1)=false->Fm No Hb H->Ok (q H) Q):∀(k i:Nat) (H:Hp),i<=l.length->l.length-i<k->Fm No Hb H->(l.take i).any (fun y=>gP 3 s y.1)=false->Ok (qug (C j) qr q nv (.fn 169 [] [.ptr sb 0]) (iN (l.length)) k (iN i) H) Q
 |0,i,_,_,h,_,_=>by omega
 |k+1,i,H,hi,hk,hf,hn=>by
  show Ok (q9y (C j) _ _ _ _ _ (qug (C j) _ _ _ _ _ k) _ H) Q;unfold q9y;obtain⟨m,rfl⟩:∃ m,j=m+1:=⟨j-1,by omega⟩;by_cases hlt:i<l.length
  ·simp only[go_sem,hlt];unfold zp1;have h1:=hl.fm hf;obtain⟨b1,o1,e1,e2,_,e3,_⟩:=h1.at' i hlt;unfold kE SS.v at e3;have hs1:=(hf.keep hsl).trans hs;have nx1:=hf.nx;simp only[go_sem,e1,e3];rw[(hC m).zDn];unfold zDn ztj;have fp:Fm No H (aS H (aB 0 [.int .u8 (.ofNat l[i].1.k),.str l[i].1.rl.n l[i].1.rl.a,.str l[i].1.to.n l[i].1.to.a,l[i].2,.bool l[i].1.neg])):=by exact lT
   have hst:(l.take (i+1)).any (fun y=>gP 3 s y.1)=gP 3 s l[i].1:=by rw[List.take_succ_eq_append_getElem hlt,List.any_append,hn];simp
   have skip:gP 3 s l[i].1=false->Ok (q9w (C (m+1)) (qug (C (m+1)) qr q nv (.fn 169 [] [.ptr sb 0]) (iN (l.length)) k) (iN i) (aS H (aB 0 [.int .u8 (.ofNat l[i].1.k),.str l[i].1.rl.n l[i].1.rl.a,.str l[i].1.to.n l[i].1.to.a,l[i].2,.bool l[i].1.neg]))) Q:=fun hh=>by unfold q9w;simp(disch:=first|omega|exact ti rfl|simp only[np,nq];first|done|omega)only[go_sem,rB,rI,rK,rL,rN,rS,r6];exact q40 hC hj hl hll hs hsl hr hq k (i+1) _ (by omega) (by omega) (hf.trans fp) (by rw[hst,hh])
   by_cases q3:l[i].1.k=3
   ·have q3t:=eq_true q3;by_cases h2:l[i].1.rl.n=s.n/\l[i].1.rl.a=s.a
    ·have h2t:=eq_true h2;have hh:gP 3 s l[i].1=true:=by unfold gP;rw[decide_eq_true q3,decide_eq_true ((tO _ _).2 h2)];rfl
     simp(disch:=first|omega|exact ti rfl|simp only[np,nq];first|done|omega)only[go_sem,rB,rI,rK,rL,rN,rS,r6,q3t,hs1,h2t];exact hr i _ (List.any_eq_true.2 ⟨_,List.getElem_mem hlt,hh⟩) (hf.trans fp)
    ·have hh:gP 3 s l[i].1=false:=by unfold gP;rw[decide_eq_false (fun h=>h2 ((tO _ _).1 h))];simp
     simp(disch:=first|omega|exact ti rfl|simp only[np,nq];first|done|omega)only[go_sem,rB,rI,rK,rL,rN,rS,r6,q3t,hs1,h2];exact skip hh
   ·have hh:gP 3 s l[i].1=false:=by unfold gP;rw[decide_eq_false q3];simp
    simp(disch:=first|omega|exact ti rfl|simp only[np,nq];first|done|omega)only[go_sem,rB,rI,rK,rL,rN,rS,r6,q3];exact skip hh
  ·simp only[go_sem,hlt];have he:i=l.length:=by omega
   rw[he,List.take_length]at hn;simp_all
theorem qxi(hC:bA C)(hk:3<=k){nv:AV}{l:List (Nd×AV)}(hl:Rs 5 kE H nv l)(hll:l.length<=1000){s:SS}(hs:H.get sb=aB 0 [.str s.n s.a])(hsl:sb<H.nx):Ok (C k (.f 168) [nv,.fn 169 [] [.ptr sb 0]] H) fun r H'=>r=.bool (l.any fun y=>gP 3 s y.1)/\Fm No H H':=by
 obtain⟨j,rfl⟩:∃ j,k=j+1+1:=⟨k-2,by omega⟩;rw[(hC (j+1)).zDo];unfold zDo zti;rw[(hC j).zDs];unfold zDs ztf;have hln:=hl.len;simp only[go_sem,hln];unfold zp2;rw[dH];refine Ok.ve (R:=fun r H'=>Fm No H H'/\((l.any (fun y=>gP 3 s y.1)=true/\∃ i,r=iN i)\/(l.any (fun y=>gP 3 s y.1)=false/\r=.int .i64 (.negSucc 0)))) (q40 hC (by omega) hl hll hs hsl (fun i H2 h f=>Ok.ret ⟨f,.inl ⟨h,i,rfl⟩⟩) (fun H2 h f=>?_) cK 0 H (Nat.zero_le _) (by rw[dM];omega) (Fm.refl _ _) rfl) ?_
 ·unfold q9x;exact Ok.ret ⟨f,.inr ⟨h,rfl⟩⟩
 ·rintro r H2 ⟨f2,⟨h,i,rfl⟩|⟨h,rfl⟩⟩
  ·simp only[go_sem,Nat.zero_le];exact Ok.ret ⟨by rw[h],f2⟩
  ·simp only[go_sem];exact Ok.ret ⟨by rw[h],f2⟩
theorem qmh{x:bB}(h:oW H x):∃ c0 c1 c2 c3,x.cs=[c0,c1,c2,c3]/\iI x=[.str x.r.name.n x.r.name.a,x.tv,c0,c1,c2,c3]:=by obtain⟨c0,c1,c2,c3,hcs⟩:=h.ru.four;exact⟨c0,c1,c2,c3,hcs,by unfold iI;rw[hcs];rfl⟩
theorem zio(hC:bA C)(hN:qbv C)(hk:14<=k){x:bB}(hx:oW H x)(hr:x.r.rule.Rt){s:SS}(hs:H.get sb=aB 0 [.str s.n s.a])(hsl:sb<H.nx):Ok (C k (.f 167) [.agg (iI x),.ptr sb 0] H) fun r H'=>r=.bool (eP x.r.rule 3 s)/\Fm No H H':=by
 obtain⟨j,rfl⟩:=aX hk;rw[(hC j).zDg];unfold zDg zto;obtain⟨c0,c1,c2,c3,hcs,hrc⟩:=qmh hx;rw[hrc];have f:Fm No H (aS H (aB 0 [.str x.r.name.n x.r.name.a,x.tv,c0,c1,c2,c3])):=by exact lT
 have lK:=hx.ru.fm f;rw[hcs]at lK;simp(disch:=omega)only[go_sem,seval];refine Ok.ve (qns hC hN (k:=j) (by omega) lK hr) ?_;rintro _ H2 ⟨nv,l,rfl,ha,hl⟩;have hln:l.length<=32:=by have:=congrArg List.length hl;simp only[List.length_map,qb7]at this;have:=hr.sz;omega
 refine Ok.ve (qxi hC (k:=j) (by omega) (ha.rs qhg) (by omega) (s:=s) ((ha.fm.keep (show sb<(aS H _).nx by simp only[np,nq];omega)).trans ((f.keep hsl).trans hs)) (Nat.lt_of_lt_of_le hsl (Nat.le_trans f.nx ha.fm.nx))) ?_;rintro _ H3 ⟨rfl,f3⟩;refine Ok.ret ⟨?_,f.trans (ha.fm.trans f3)⟩;unfold eP;rw[<-hl,List.any_map];rfl
theorem q4e(hC:bA C)(hN:qbv C){j:Nat}(hj:14<=j){Hb:Hp}{g:aR}(hg:SpR Hb g)(hgl:g.gs.length<=16)(hr:∀ x∈g.gs,x.r.rule.Rt){s:SS}{sb:Nat}(hs:Hb.get sb=aB 0 [.str s.n s.a])(hsl:sb<Hb.nx){Q:pL}{q:pH}{qr:pD}(hr':∀ i H,g.gs.any (fun x=>eP x.r.rule 3 s)=true->Fm No Hb H->Ok (qr (iN i) H) Q)(hq:∀ H,g.gs.any (fun x=>eP x.r.rule 3 s)=false->Fm No Hb H->Ok (q H) Q):∀(k i:Nat) (H:Hp),i<=g.gs.length->g.gs.length-i<k->Fm No Hb H->(g.gs.take i).any (fun x=>eP x.r.rule 3 s)=false->Ok (q2d (C j) qr q g.rv (.fn 167 [] [.ptr sb 0]) (iN (g.gs.length)) k (iN i) H) Q
 |0,i,_,_,h,_,_=>by omega
 |k+1,i,H,hi,hk,hf,hn=>by
  show Ok (q92 (C j) _ _ _ _ _ (q2d (C j) _ _ _ _ _ k) _ H) Q;unfold q92;by_cases hlt:i<g.gs.length
  ·simp only[go_sem,hlt];unfold zp5;have h1:=hg.fm hf;obtain⟨b,o,e1,_,_,_,_,e6⟩:=h1.at' i hlt;have hm:=List.getElem_mem hlt;simp only[go_sem,e1,e6];refine Ok.ve (zio hC hN hj (h1.rel _ hm) (hr _ hm) ((hf.keep hsl).trans hs) (Nat.lt_of_lt_of_le hsl hf.nx)) ?_;rintro _ H2 ⟨rfl,f2⟩;have hst:(g.gs.take (i+1)).any (fun x=>eP x.r.rule 3 s)=eP g.gs[i].r.rule 3 s:=by
    rw[List.take_succ_eq_append_getElem hlt,List.any_append,hn];simp
   cases hh:eP g.gs[i].r.rule 3 s with
   |true=>exact hr' i _ (List.any_eq_true.2 ⟨_,hm,hh⟩) (hf.trans f2)
   |false=>unfold zp6;simp(disch:=first|omega|exact ti rfl|simp only[np,nq];first|done|omega)only[go_sem,rB,rI,rK,rL,rN,rS,r6];exact q4e hC hN hj hg hgl hr hs hsl hr' hq k (i+1) _ (by omega) (by omega) (hf.trans f2) (by rw[hst,hh])
  ·simp only[go_sem,hlt];have he:i=g.gs.length:=by omega
   simp_all
theorem zi1(hC:bA C)(hN:qbv C)(hk:17<=k)(hg:SpR H g)(hgl:g.gs.length<=16)(hr:∀ x∈g.gs,x.r.rule.Rt)(s:SS):Ok (C k (.f 139) [.agg [.str g.name.n g.name.a,g.rv],.str s.n s.a] H) fun r H'=>r=.bool (g.gs.any fun x=>eP x.r.rule 3 s)/\Fm No H H':=by
 obtain⟨j,rfl⟩:∃ j,k=j+1+1+1:=⟨k-3,by omega⟩;rw[(hC (j+1+1)).zDa];unfold zDa ztt;simp(disch:=first|omega|exact ti rfl|simp only[np,nq];first|done|omega)only[go_sem,seval];have f:Fm No H (aS (aS H (aB 0 [.str g.name.n g.name.a,g.rv])) (aB 0 [.str s.n s.a])):=by exact qD
 rw[(hC (j+1)).zDh];unfold zDh ztn;rw[(hC j).zDp];unfold zDp zth;have hln:=hg.len;simp only[go_sem,hln];unfold zp7;rw[dH];refine Ok.ve (R:=fun r H'=>r=.bool (g.gs.any fun x=>eP x.r.rule 3 s)/\Fm No H H') (Ok.ve (R:=fun r H'=>Fm No H H'/\((g.gs.any (fun x=>eP x.r.rule 3 s)=true/\∃ i,r=iN i)\/(g.gs.any (fun x=>eP x.r.rule 3 s)=false/\r=.int .i64 (.negSucc 0)))) (q4e hC hN (j:=j) (by omega) (hg.fm f) hgl hr (s:=s) (sb:=H.nx+1) (by simp(disch:=first|omega|exact ti rfl|simp only[np,nq];first|done|omega)only[go_sem,seval]) (by first|omega|simp only[np,nq];omega) (fun i H2 h f2=>Ok.ret ⟨f.trans f2,.inl ⟨h,i,rfl⟩⟩) (fun H2 h f2=>?_) cK 0 _ (Nat.zero_le _) (by rw[dM];omega) (Fm.refl _ _) rfl) ?_) ?_
 ·unfold q91;exact Ok.ret ⟨f.trans f2,.inr ⟨h,rfl⟩⟩
 ·rintro r H2 ⟨f2,⟨h,i,rfl⟩|⟨h,rfl⟩⟩
  ·simp only[go_sem,Nat.zero_le];exact Ok.ret ⟨by rw[h],f2⟩
  ·simp only[go_sem];exact Ok.ret ⟨by rw[h],f2⟩
 ·rintro _ H2 ⟨rfl,f2⟩;exact Ok.ret ⟨rfl,f2⟩
structure RlI(H:Hp)(X:List aR)(g:aR)(x:bB)(sv:AV)(ib n A0 A1 AR A2:Nat)(q:Nat×Nat):Prop where
 zA:dK H sv X
 id:vU H ib sv X
 mem:g∈X/\x∈g.gs
 a0:H.get A0=aB 0 [.ptr ib 0]
 a1:H.get A1=aB 0 [.str g.name.n g.name.a,g.rv]
 ar:H.get AR=aB 0 [.ptr q.1 q.2]
 a2:H.get A2=aB 0 [iN n]
 lt:A0<H.nx/\A1<H.nx/\AR<H.nx/\A2<H.nx
 pt:PtR H q x
 nu:cB X g.name x.r.name=n
theorem RlI.fm{x:bB}{ib n A0 A1 AR A2:Nat}{q:Nat×Nat}(h:RlI H X g x sv ib n A0 A1 AR A2 q)(f:Fm No H H'):RlI H' X g x sv ib n A0 A1 AR A2 q:=by obtain⟨l0,l1,l2,l3⟩:=h.lt;have:=f.nx;exact⟨h.zA.fm f,h.id.fm f,h.mem,(f.keep l0).trans h.a0,(f.keep l1).trans h.a1,(f.keep l2).trans h.ar,(f.keep l3).trans h.a2,⟨by omega,by omega,by omega,by omega⟩,h.pt.fm f,h.nu⟩
theorem zv8(hC:bA C)(hk:1<=k){x:bB}{ib n A0 A1 AR A2:Nat}{q:Nat×Nat}(h:RlI H X g x sv ib n A0 A1 AR A2 q):C k (.f 133) [.ptr A0 0,.ptr A1 0,.ptr AR 0,.ptr A2 0] H=.ok (iN 0) H:=by obtain⟨j,rfl⟩:=aX hk;rw[(hC j).zCj];unfold zCj zt7;have a0:=h.a0;have a1:=h.a1;have ar:=h.ar;have a2:=h.a2;have r0:=h.pt.nm;obtain⟨mb,nb,av,iv,qs,g1,g2,g3,_⟩:=h.id.ex;have em:=g3.aNb (iN 0) g.name x.r.name (qim.2 ⟨g,h.mem.1,x,h.mem.2,rfl,rfl⟩);have hnx:(List.findIdx (fun q=>decide (q=(g.name,x.r.name))) (aN X))=n:=h.nu;rw[hnx]at em;simp(disch:=first|omega|exact ti rfl|simp only[np,nq];first|done|omega)only[go_sem,rB,rI,rK,rL,rN,rS,r6,a0,a1,ar,a2,r0,g1,em];rfl
theorem zv7(hC:bA C)(hk:4<=k){x:bB}{ib n A0 A1 AR A2:Nat}{q:Nat×Nat}(h:RlI H X g x sv ib n A0 A1 AR A2 q)(hV:gQ X):Ok (C k (.f 134) [.ptr A0 0,.ptr AR 0] H) fun r H'=>r=iN 0/\Fm No H H':=by obtain⟨j,rfl⟩:=aX hk;rw[(hC j).zCk];unfold zCk zt6;have a0:=h.a0;have ar:=h.ar;simp only[go_sem,a0,ar];have ht:=hV.ty _ h.mem.1 _ h.mem.2;refine Ok.ve (ziz hC (k:=j) (by omega) h.id hV h.pt ((h.zA.sp _ h.mem.1).rel _ h.mem.2) (hV.pr.x _ h.mem.1 _ h.mem.2).1 ht.1 ht.2) ?_;rintro _ H2 ⟨rfl,f2⟩;exact Ok.ret ⟨rfl,f2⟩
theorem zv6(hC:bA C)(hk:4<=k){x:bB}{sv nv:AV}{ib n A0 A1 AR A2 A20 A22:Nat}{q:Nat×Nat}(h:RlI H X g x sv ib n A0 A1 AR A2 q)(hV:gQ X){l:List (Nd×AV)}(hl:Rs 5 kE H nv l)(hln:l.map Prod.fst=x.r.rule.nodes false)(h20:H.get A20=aB 0 [nv]){u:Bool}(h22:H.get A22=aB 0 [.bool u])(hlt:A22<H.nx):Ok (C k (.f 136) [.ptr A0 0,.ptr A1 0,.ptr A20 0,.ptr A22 0] H) fun r H'=>r=iN 0/\∃ H1,Fm No H H1/\H'=H1.put A22 (aB 0 [.bool ((x.r.rule.nodes false).any fun y=>decide (y.k=1))]):=by
 obtain⟨j,rfl⟩:=aX hk;rw[(hC j).zCl];unfold zCl zt5;have a0:=h.a0;have a1:=h.a1;simp only[go_sem,a0,a1,h20];have hll:l.length<=32:=by have:=congrArg List.length hln;simp only[List.length_map,qb7]at this;have:=(hV.pr.x _ h.mem.1 _ h.mem.2).2.2.1.sz;omega
 refine Ok.ve (zpr hC (k:=j) (by omega) h.zA h.id hV g.name hl (by omega) fun y hy=>?_) ?_
 ·exact hV.nd _ h.mem.1 _ h.mem.2 y.1 (by rw[<-hln];exact List.mem_map_of_mem hy)
 rintro _ H2 ⟨rfl,f2⟩;have aUk:=(f2.keep hlt).trans h22;simp only[go_sem,aUk];refine Ok.ret ⟨rfl,H2,f2,?_⟩;rw[<-hln,List.any_map];rfl
theorem zv5(hC:bA C)(hN:qbv C)(hk:18<=k){x:bB}{ib n A0 A1 AR A2 A22:Nat}{q:Nat×Nat}(h:RlI H X g x sv ib n A0 A1 AR A2 q)(hV:gQ X)(h22:H.get A22=aB 0 [.bool ((x.r.rule.nodes false).any fun y=>decide (y.k=1))]):Ok (C k (.f 138) [.ptr A22 0,.ptr AR 0,.ptr A1 0] H) fun r H'=>r=iN 0/\Fm No H H':=by
 obtain⟨j,rfl⟩:=aX hk;rw[(hC j).zCm];unfold zCm zt4;have a1:=h.a1;have ar:=h.ar;have r0:=h.pt.nm;have rt:=h.pt.tv;have hsp:=h.zA.sp _ h.mem.1;have hl:=((hsp.rel _ h.mem.2).ty).len;have hu:=hV.us _ h.mem.1 _ h.mem.2;cases hb:(x.r.rule.nodes false).any fun y=>decide (y.k=1)with
 |true=>rw[hb]at h22;have hne:¬ x.r.types.length=0:=fun h0=>hu.1 hb (List.length_eq_zero_iff.1 h0);simp only[go_sem,h22,ar,rt,hl,hne];exact Ok.ret ⟨rfl,Fm.refl _ _⟩
 |false=>
  rw[hb]at h22;by_cases h0:0<x.r.types.length
  ·have hba:=hu.2 hb (fun h=>by rw[h]at h0;exact absurd h0 (by simp));simp(disch:=first|omega|exact ti rfl|simp only[np,nq];first|done|omega)only[go_sem,rB,rI,rK,rL,rN,rS,r6,h22,ar,rt,hl,h0,a1,r0];refine Ok.mY (zi1 hC hN (k:=j) (by omega) hsp (hV.pr.r _ h.mem.1).1 (fun y hy=>(hV.pr.x _ h.mem.1 y hy).2.2.1) x.r.name) ?_;rintro _ H2 ⟨rfl,f2⟩;rw[hba];simp only[go_sem];exact Ok.ret ⟨rfl,f2⟩
  ·simp only[go_sem,h22,ar,rt,hl,h0];exact Ok.ret ⟨rfl,Fm.refl _ _⟩
theorem sf2(call:Ev.Call)(qr:pD)(q:pH)(a b:AV)(n:Nat):q2n call qr q a b (n+1)=qlh call qr q a b (q2n call qr q a b n):=rfl
theorem zia(f:FuncId)(x y:List AV):xP (.fn f x y)=some [.fn f x y]:=id rfl
attribute [go_sem] zia
theorem z1b(hC:bA C)(hk:1<=k){f1 f2 f3 f4:FuncId}{c1 c2 c3 c4:List AV}(hb:H.get b=aB 0 [.fn f1 [] c1,.fn f2 [] c2,.fn f3 [] c3,.fn f4 [] c4]){R1' R2' R3' R4':Hp->Prop}(h1:Ok (C (k-1) (.f f1) c1 H) fun r H'=>r=iN 0/\R1' H')(g1:∀ H',R1' H'->H'.get b=H.get b)(h2:∀ H1,R1' H1->Ok (C (k-1) (.f f2) c2 H1) fun r H'=>r=iN 0/\R2' H')(g2:∀ H',R2' H'->H'.get b=H.get b)(h3:∀ H1,R2' H1->Ok (C (k-1) (.f f3) c3 H1) fun r H'=>r=iN 0/\R3' H')(g3:∀ H',R3' H'->H'.get b=H.get b)(h4:∀ H1,R3' H1->Ok (C (k-1) (.f f4) c4 H1) fun r H'=>r=iN 0/\R4' H'):Ok (C k (.f 132) [.sl b 0 4 4 true] H) fun r H'=>r=iN 0/\R4' H':=by obtain⟨j,rfl⟩:=aX hk;rw[(hC j).zCn];unfold zCn zt3;simp only[go_sem];unfold zqt;obtain⟨m,hm⟩:∃ m,cK=m+5:=⟨999995,by rw[dM]⟩;rw[dH,hm,sf2];unfold qlh;unfold qlg;simp(disch:=omega)only[go_sem,hb];refine Ok.ve h1 ?_;rintro _ H1 ⟨rfl,r1⟩;unfold qum;rw[sf2];unfold qlh;unfold qlg;have hb1:=(g1 _ r1).trans hb;simp(disch:=omega)only[go_sem,hb1];refine Ok.ve (h2 _ r1) ?_;rintro _ H2 ⟨rfl,r2⟩;unfold qum;rw[sf2];unfold qlh;unfold qlg;have hb2:=(g2 _ r2).trans hb;simp(disch:=omega)only[go_sem,hb2];refine Ok.ve (h3 _ r2) ?_;rintro _ H3 ⟨rfl,r3⟩;unfold qum;rw[sf2];unfold qlh;unfold qlg;have hb3:=(g3 _ r3).trans hb;simp(disch:=omega)only[go_sem,hb3];refine Ok.ve (h4 _ r3) ?_;rintro _ H4 ⟨rfl,r4⟩;unfold qum;rw[sf2];unfold qlh;exact Ok.ret ⟨rfl,r4⟩
theorem qxh(hC:bA C)(hN:qbv C)(hk:20<=k){x:bB}(hX:dK H sv X)(hI:vU H ib sv X)(hV:gQ X)(hn:(gT X)[n]? =some (g.name,x))(hm:g∈X/\x∈g.gs):Ok (C k (.f 109) [.ptr ib 0,.agg [.str g.name.n g.name.a,g.rv],iN n] H) fun r H'=>r=iN 0/\Fm No H H':=by
 obtain⟨j,rfl⟩:=aX hk;rw[(hC j).zBv];unfold zBv zuk;obtain⟨mb,nb,av,iv,qs,g1,g2,g3,g4,g5,g6,g7,g8,g9,_⟩:=hI.ex;have hnl:n<(gT X).length:=by
  rcases Nat.lt_or_ge n (gT X).length with h|h
  ·exact h
  ·simp_all
 have hxx:(gT X)[n]=(g.name,x):=by simp_all
 have hq:=g9 n (by omega) hnl;rw[hxx]at hq;obtain⟨b1,o1,e1,e2,_,_,e4⟩:=g4.at' n (by omega);have r0:dI (H.get b1) o1=.val (.ptr (qs[n]'(by omega)).1 (qs[n]'(by omega)).2):=e4 0 (by rw[q0y];omega);have il:=hI.lt;simp(disch:=first|omega|exact ti rfl|simp only[np,nq];first|done|omega)only[go_sem,seval,g1,e1,r0];have hP:=hV.pr.x _ hm.1 _ hm.2;generalize hHa:(((Hp.mk (aS (aS (aS H (aB 0 [.ptr ib 0])) (aB 0 [.str g.name.n g.name.a,g.rv])) (aB 0 [iN n])).t (H.nx+1+1+1+9)).put (H.nx+1+1+1+7) (aB 0 [.bX])).put (H.nx+1+1+1+7) (aB 0 [.ptr (qs[n]'(by omega)).1 (qs[n]'(by omega)).2]))=Ha;have fa:Fm No H Ha:=by rw[<-hHa];exact(((((Fm.refl No H).push _).push _).push _).oV (n:=H.nx+1+1+1+9) (by omega)).aG _ _ (by omega) |>.aG _ _ (by omega)
 have na:Ha.nx=H.nx+12:=by rw[<-hHa];rfl
 have hR:RlI Ha X g x sv ib n H.nx (H.nx+1) (H.nx+1+1+1+7) (H.nx+1+1) (qs[n]'(by omega)):=by
  refine⟨hX.fm fa,hI.fm fa,hm,?_,?_,?_,?_,⟨by omega,by omega,by omega,by omega⟩,hq.fm fa,?_⟩
  ·rw[<-hHa];simp(disch:=first|omega|exact ti rfl|simp only[np,nq];first|done|omega)only[go_sem]
  ·rw[<-hHa];simp(disch:=first|omega|exact ti rfl|simp only[np,nq];first|done|omega)only[go_sem]
  ·rw[<-hHa];exact eD _ _ _
  ·rw[<-hHa];simp(disch:=first|omega|exact ti rfl|simp only[np,nq];first|done|omega)only[go_sem]
  ·obtain⟨y,_,hy⟩:=qfz hV.al hV.sp (qim.2 ⟨g,hm.1,x,hm.2,rfl,rfl⟩);have hnd:=qm5 hV.al (i:=n) (by rw[<-yZ,List.length_map];exact hnl);have hk:(aN X)[n]'(by rw[<-yZ,List.length_map];exact hnl)=(g.name,x.r.name):=by
    have e3:(aN X)[n]? =some (kq (gT X)[n]):=by rw[<-yZ,List.getElem?_map,List.getElem?_eq_getElem hnl];rfl
    rw[List.getElem?_eq_getElem (by rw[<-yZ,List.length_map];exact hnl),hxx]at e3;exact Option.some.inj e3
   rw[hk]at hnd;exact hnd
 have ru:=(hq.fm fa).ru;obtain⟨c0,c1,c2,c3,hcs,_⟩:=qmh ((hX.sp _ hm.1).rel _ hm.2);have lK:=(((hX.sp _ hm.1).rel _ hm.2).ru).fm fa;simp only[go_sem,ru];refine Ok.ve (qns hC hN (k:=j) (by omega) lK hP.2.2.1) ?_;rintro _ H2 ⟨nv,l,rfl,ha,hl⟩;have n2:=ha.fm.nx;obtain⟨Hf,hHf⟩:∃ Hf,Hf=aS ((aS ((aS H2 (aB 0 [.aA])).put H2.nx (aB 0 [nv])) (aB 0 [.bool false])).put (H2.nx+1) (aB 0 [.bool false])) (aB 0 [.fn 133 [] [.ptr H.nx 0,.ptr (H.nx+1) 0,.ptr (H.nx+1+1+1+7) 0,.ptr (H.nx+1+1) 0],.fn 134 [] [.ptr H.nx 0,.ptr (H.nx+1+1+1+7) 0],.fn 136 [] [.ptr H.nx 0,.ptr (H.nx+1) 0,.ptr H2.nx 0,.ptr (H2.nx+1) 0],.fn 138 [] [.ptr (H2.nx+1) 0,.ptr (H.nx+1+1+1+7) 0,.ptr (H.nx+1) 0]]):=⟨_,rfl⟩;have ff:Fm No H2 Hf:=by rw[hHf];repeat first|exact Fm.refl _ _|assumption|refine Fm.push ?_ _|refine Fm.aG ?_ _ _ (by omega)
 have nf:Hf.nx=H2.nx+3:=by rw[hHf];rfl
 have k20:Hf.get H2.nx=aB 0 [nv]:=by rw[hHf];simp(disch:=first|omega|exact ti rfl|simp only[np,nq];first|done|omega)only[go_sem]
 have k22:Hf.get (H2.nx+1)=aB 0 [.bool false]:=by rw[hHf];simp(disch:=first|omega|exact ti rfl|simp only[np,nq];first|done|omega)only[go_sem]
 have kfb:Hf.get (H2.nx+1+1)=aB 0 [.fn 133 [] [.ptr H.nx 0,.ptr (H.nx+1) 0,.ptr (H.nx+1+1+1+7) 0,.ptr (H.nx+1+1) 0],.fn 134 [] [.ptr H.nx 0,.ptr (H.nx+1+1+1+7) 0],.fn 136 [] [.ptr H.nx 0,.ptr (H.nx+1) 0,.ptr H2.nx 0,.ptr (H2.nx+1) 0],.fn 138 [] [.ptr (H2.nx+1) 0,.ptr (H.nx+1+1+1+7) 0,.ptr (H.nx+1) 0]]:=by rw[hHf];simp(disch:=first|omega|exact ti rfl|simp only[np,nq];first|done|omega)only[go_sem]
 have faf:Fm No Ha Hf:=ha.fm.trans ff;have hRf:=hR.fm faf;have hlf:Rs 5 kE Hf nv l:=(ha.rs qhg).fm ff;have main:Ok (C j (.f 132) [.sl (H2.nx+1+1) 0 4 4 true] Hf) fun r H'=>r=iN 0/\∃ Hm,Fm No Hf Hm/\Fm No (Hm.put (H2.nx+1) (aB 0 [.bool ((x.r.rule.nodes false).any fun y=>decide (y.k=1))])) H':=by
  refine z1b hC (k:=j) (by omega) kfb (R1':=fun H'=>H'=Hf) (R2':=fun H'=>Fm No Hf H') (R3':=fun H'=>∃ Hm,Fm No Hf Hm/\H'=Hm.put (H2.nx+1) (aB 0 [.bool ((x.r.rule.nodes false).any fun y=>decide (y.k=1))])) ?_ ?_ ?_ ?_ ?_ ?_ ?_
  ·rw[zv8 hC (by omega) hRf];exact Ok.ret ⟨rfl,rfl⟩
  ·simp
  ·rintro _ rfl;exact zv7 hC (by omega) hRf hV
  ·intro H' f;exact f.keep (by omega)
  ·intro H1 f1;exact zv6 hC (by omega) (hRf.fm f1) hV (hlf.fm f1) hl ((f1.keep (by omega)).trans k20) ((f1.keep (by omega)).trans k22) (by have:=f1.nx;omega) |>.mono fun r H' ⟨e,Hm,f,h⟩=>⟨e,Hm,f1.trans f,h⟩
  ·rintro _ ⟨Hm,fm,rfl⟩;rw[dJ _ _ _ _ (by omega)];exact fm.keep (by omega)
  ·rintro _ ⟨Hm,fm,rfl⟩;have hRm:RlI (Hm.put (H2.nx+1) (aB 0 [.bool ((x.r.rule.nodes false).any fun y=>decide (y.k=1))])) X g x sv ib n H.nx (H.nx+1) (H.nx+1+1+1+7) (H.nx+1+1) (qs[n]'(by omega)):=hR.fm ((faf.trans fm).aG _ _ (by omega));exact(zv5 hC hN (by omega) hRm hV (eD _ _ _)).mono fun r H' ⟨e,f⟩=>⟨e,Hm,fm,f⟩
 have done:∀ r H',r=AV.int .i64 (.ofNat 0)/\(∃Hm,Fm No Hf Hm/\Fm No (Hm.put (H2.nx+1) (aB 0 [.bool ((x.r.rule.nodes false).any fun y=>decide (y.k=1))])) H')->Ok (.ok r H') fun r H'=>r=iN 0/\Fm No H H':=fun r H' ⟨e,Hm,f,f'⟩=>
  Ok.ret ⟨e,(((fa.trans faf).trans f).aG (H2.nx+1) _ (by omega)).trans f'⟩
 rcases ha.gl.is with⟨h,_⟩|⟨_,_,_,_,_,h,_⟩
 ·subst h;simp(disch:=first|omega|exact ti rfl)only[go_sem,seval];rw[<-hHf];exact Ok.ve main done
 ·subst h;simp(disch:=first|omega|exact ti rfl)only[go_sem,seval];rw[<-hHf];exact Ok.ve main done
theorem znq{s i:Nat}(hs:s<X.length)(hi:i<X[s].gs.length):(gT X)[(dW X s).length+i]? =some (X[s].name,X[s].gs[i]):=by obtain⟨Z,h⟩:=zfq hs hi;rw[h,List.getElem?_append_right (by simp;omega)];simp[Nat.min_eq_left (Nat.le_of_lt hi)]
theorem qqm(hC:bA C)(hN:qbv C){j:Nat}(hj:20<=j){sv:AV}{X:List aR}{ib pb:Nat}{Hb:Hp}(hX:dK Hb sv X)(hI:vU Hb ib sv X)(hV:gQ X){s:Nat}(hs:s<X.length)(hp:Hb.get pb=aB 0 [.str X[s].name.n X[s].name.a,X[s].rv])(hpl:pb<Hb.nx){Q:pL}{q:pD}{qr:pD}(hq:∀ H,Fm No Hb H->Ok (q (iN (((dW X s).length+X[s].gs.length))) H) Q):∀(k i:Nat) (H:Hp),i<=X[s].gs.length->X[s].gs.length-i<k->Fm No Hb H->Ok (qrg (C j) qr q (.ptr ib 0) (.ptr pb 0) (iN (X[s].gs.length)) k (iN (((dW X s).length+i))) (iN i) H) Q
 |0,i,_,_,h,_=>by omega
 |k+1,i,H,hi,hk,hf=>by
  show Ok (qzd (C j) _ _ _ _ _ (qrg (C j) _ _ _ _ _ k) _ _ H) Q;unfold qzd;have jO:=hV.pr.len;have aM9:=q4o X s;by_cases hlt:i<X[s].gs.length
  ·have h16:=(hV.pr.r _ (List.getElem_mem hs)).1;simp only[go_sem,hlt];unfold zcd;have hp1:=(hf.keep hpl).trans hp;simp only[go_sem,hp1];refine Ok.ve (qxh hC hN hj (hX.fm hf) (hI.fm hf) hV (znq hs hlt) ⟨List.getElem_mem hs,List.getElem_mem hlt⟩) ?_;rintro _ H2 ⟨rfl,f2⟩;unfold zce;unfold zcf;simp(disch:=first|omega|exact ti rfl|simp only[np,nq];first|done|omega)only[go_sem,rB,rI,rK,rL,rN,rS,r6];exact qqm hC hN hj hX hI hV hs hp hpl hq k (i+1) H2 (by omega) (by omega) (hf.trans f2)
  ·simp only[go_sem,hlt];have he:i=X[s].gs.length:=by omega
   simp_all
theorem qwz(hC:bA C)(hN:qbv C){j:Nat}(hj:20<=j){sv:AV}{X:List aR}{ib:Nat}{Hb:Hp}(hX:dK Hb sv X)(hI:vU Hb ib sv X)(hV:gQ X){Q:pL}{q:pH}{qr:pD}(hq:∀ H,Fm No Hb H->Ok (q H) Q):∀(k s:Nat) (H:Hp),s<=X.length->X.length-s<k->Fm No Hb H->Ok (quq (C j) qr q (.ptr ib 0) sv (iN (X.length)) k (iN ((dW X s).length)) (iN s) H) Q
 |0,i,_,_,h,_=>by omega
 |k+1,s,H,hi,hk,hf=>by
  show Ok (zcg (C j) _ _ _ _ _ (quq (C j) _ _ _ _ _ k) _ _ H) Q;unfold zcg;have hn:=hV.pr.n;by_cases hlt:s<X.length
  ·simp only[go_sem,hlt];unfold zcc;have h1:=hX.fm hf;obtain⟨b1,o1,e1,e2,_,e3,_⟩:=h1.rs.at' s hlt;unfold vP SS.v at e3;have hsp:=h1.sp _ (List.getElem_mem hlt);have hl:=hsp.len;have h16:=(hV.pr.r _ (List.getElem_mem hlt)).1;simp(disch:=first|omega|exact ti rfl)only[go_sem,seval,e1,e3,hl];have fp:Fm No H ((aS H (aB 0 [.str 0 0,.aA])).put H.nx (aB 0 [.str X[s].name.n X[s].name.a,X[s].rv])):=by exact mO
   unfold zch;rw[dH];refine qqm hC hN hj (h1.fm fp) ((hI.fm hf).fm fp) hV hlt (pb:=H.nx) (eD _ _ _) (by first|omega|simp only[np,nq];omega) (fun H3 f3=>?_) cK 0 _ (Nat.zero_le _) (by rw[dM];omega) (Fm.refl _ _);unfold qzc;simp(disch:=first|omega|exact ti rfl|simp only[np,nq];first|done|omega)only[go_sem,rB,rI,rK,rL,rN,rS,r6];have hx:(dW X s).length+X[s].gs.length=(dW X (s+1)).length:=by unfold dW gT;rw[List.take_succ_eq_append_getElem hlt,List.flatMap_append,List.flatMap_singleton,List.length_append,List.length_map]
   rw[hx];exact qwz hC hN hj hX hI hV hq k (s+1) H3 (by omega) (by omega) ((hf.trans fp).trans f3)
  ·simp only[go_sem,hlt];exact hq H hf
theorem qxg(hC:bA C)(hN:qbv C)(hk:21<=k)(hX:dK H sv X)(hV:gQ X):Ok (C k (.f 84) [.agg [sv]] H) fun r H'=>r=iN 0/\Fm No H H':=by
 obtain⟨j,rfl⟩:=aX hk;rw[(hC j).zBj];unfold zBj zuv;simp(disch:=omega)only[go_sem,seval];have f:Fm No H (aS H (aB 0 [sv])):=by exact lT
 refine Ok.ve (zi0 hC hN (k:=j) (by omega) (hX.fm f) hV.pr) ?_;rintro _ H1 ⟨rfl,f1⟩;unfold zca;have n1:=f1.nx;simp only[np]at n1;have k1:H1.get H.nx=aB 0 [sv]:=(f1.keep (by simp only[np,nq];omega)).trans (lI _ _);simp only[go_sem,seval,k1];have hX1:=(hX.fm f).fm f1;refine Ok.ve (zsg hC (k:=j) (by omega) hX1 hV.pr hV.al hV.sp) ?_;rintro _ H2 ⟨ib,rfl,hI,f2⟩;have k2:=(f2.keep (by omega)).trans k1;have hX2:=hX1.fm f2;obtain⟨mb,nb,av,iv,qs,g1,g2,_⟩:=hI.ex;have hlm:=g2.len;have hls:=hX2.rs.len;have hn:=hV.pr.n;simp only[go_sem,g1,hlm,k2,hls,Nat.lt_irrefl];unfold zcb;simp only[go_sem,k2,hls];unfold zq2;rw[dH];have h0:(0:Nat)=(dW X 0).length:=by unfold dW gT;simp
 have main:=qwz hC hN (j:=j) (by omega) hX2 hI hV (Q:=fun r H'=>r=iN 0/\Fm No H H') (q:=fun H=>q2w (C j) H) (qr:=fun x2 H=>.ok x2 H) (fun H3 f3=>by exact Ok.ret ⟨rfl,((f.trans f1).trans f2).trans f3⟩) cK 0 H2 (Nat.zero_le _) (by rw[dM];omega) (Fm.refl _ _);trivial
theorem q13(hC:bA C)(hN:qbv C)(hk:22<=k)(hX:dK H sv X)(hV:gQ X)(a b to:SS)(hab:(a,b)∈aN X)(hne:tX X a b to≠[]):Ok (C k (.f 87) [.agg [sv],.str a.n a.a,.str b.n b.a,.str to.n to.a] H) fun r H'=>∃ tv,r=.aY [tv,iN 0]/\Ac 1 sC H H' tv (tX X a b to):=by
 obtain⟨j,rfl⟩:=aX hk;rw[(hC j).zBm];unfold zBm zus;simp(disch:=omega)only[go_sem,seval];have f:Fm No H (aS H (aB 0 [sv])):=by exact lT
 refine Ok.ve (qxg hC hN (k:=j) (by omega) (hX.fm f) hV) ?_;rintro _ H1 ⟨rfl,f1⟩;unfold zb9;have n1:=f1.nx;have k1:H1.get H.nx=aB 0 [sv]:=(f1.keep (by simp only[np,nq];omega)).trans (lI _ _);simp only[go_sem,k1];have hX1:=(hX.fm f).fm f1;refine Ok.ve (zsg hC (k:=j) (by omega) hX1 hV.pr hV.al hV.sp) ?_;rintro _ H2 ⟨ib,rfl,hI,f2⟩;obtain⟨q,x,_,ec,_⟩:=qgn hC (k:=j) (by omega) hI hV.al hV.sp hab;simp only[go_sem,ec];refine Ok.ve (qnr hC (k:=j) (by omega) (hX1.fm f2) hV.pr.sml hI hV.al hV.sp a b to hab) ?_;intro tv H3 ha;have hl:=ha.dA;have h0:¬(tX X a b to).length=0:=fun h=>hne (List.length_eq_zero_iff.1 h);simp only[go_sem,hl,h0];exact Ok.ret ⟨tv,rfl,ha.trans ((f.trans f1).trans f2)⟩
theorem zgs(p q:SS×SS):gW (fun xs ys=>yF p1 ⟨bZ⟩ 1 xs ys 2 0) (kyP p) (kyP q)=some (decide (p=q)):=qt1 p q
theorem jC.aEt{ps:List (SS×SS)}(h:jC H b ps)(z:AV)(x y:SS)(hp:(x,y)∈ps):qT ⟨gW fun xs ys=>yF p1 ⟨bZ⟩ 1 xs ys 2 0,some 2⟩ z false H (.map b) (.agg [.str x.n x.a,.str y.n y.a])=.val (iN ((ps.findIdx fun q=>decide (q=(x,y))))):=by have:=h.look (s:=some 2) zgs (fun _=>rfl) z false (x,y);rw[if_pos hp]at this;exact this
theorem jC.aXe{ps:List (SS×SS)}(h:jC H b ps)(x y:SS)(hp:(x,y)∉ps):∃k,pR ⟨gW fun xs ys=>yF p1 ⟨bZ⟩ 1 xs ys 2 0,some 2⟩ H (.map b) (.agg [.str x.n x.a,.str y.n y.a]) (iN (ps.length))=.ok .undef (H.put b k)/\jC (H.put b k) b (ps++[(x,y)]):=
 h.upd (s:=some 2) zgs (fun _=>rfl) hp
structure pQ(Hb:Hp)(iZ:AV)(H:Hp)(gb N:Nat)(ev:AV)(es:List Edge):Prop where
 blk:H.get gb=aB 0 [iN N,ev]
 lt:gb<Hb.nx
 gl:Gl 3 H ev es.length (es.flatMap Edge.cells)
 fm:Fm (fun c=>c=gb\/In iZ c) Hb H
 nw:∀ c,In ev c->In iZ c\/Hb.nx<=c
 nin:∀ c,In ev c->gb<c
theorem pQ.no{iZ ev:AV}{gb N:Nat}{es:List Edge}(h:pQ Hb iZ H gb N ev es)(f:Fm No H H'):pQ Hb iZ H' gb N ev es:=
 ⟨(f.keep (Nat.lt_of_lt_of_le h.lt h.fm.nx)).trans h.blk,h.lt,h.gl.no f,h.fm.then f fun _ _ h=>absurd h id,h.nw,h.nin⟩
theorem pQ.base{iZ ev:AV}{gb N:Nat}{es:List Edge}(h:pQ Hb iZ H gb N ev es)(f:Fm No H H'):pQ H' ev H' gb N ev es:=
 ⟨(f.keep (Nat.lt_of_lt_of_le h.lt h.fm.nx)).trans h.blk,Nat.lt_of_lt_of_le h.lt (Nat.le_trans h.fm.nx f.nx),h.gl.no f,Fm.refl _ _,fun _ h=>.inl h,h.nin⟩
theorem pQ.comp{Hb H H1 H2:Hp}{iZ ev ev2:AV}{gb N:Nat}{es es2:List Edge}(h:pQ Hb iZ H gb N ev es)(f:Fm No H H1)(h2:pQ H1 ev H2 gb N ev2 es2):pQ Hb iZ H2 gb N ev2 es2:=
 ⟨h2.blk,h.lt,h2.gl,(h.fm.then f fun _ _ h=>absurd h id).then h2.fm fun c hc hs=>by
  rcases hs with hs|hs
  ·omega
  ·rcases h.nw c hs with h|h
   ·exact .inr h
   ·omega,fun c hc=>by
  have n1:=h.fm.nx;have n2:=f.nx;rcases h2.nw c hc with h'|h'
  ·exact h.nw c h'
  ·exact .inr (by omega),h2.nin⟩
structure ToR(X:List aR)(g:aR)(x:bB)(y:Nd×AV)(nb mb pb rb yb:Nat)(H:Hp):Prop where
 n:H.get nb=aB 0 [.map mb]
 m:jC H mb (aN X)
 p:H.get pb=aB 0 [.str g.name.n g.name.a,g.rv]
 r:∃ c1 c2 c3 c4 c5,H.get rb=aB 0 [.str x.r.name.n x.r.name.a,c1,c2,c3,c4,c5]
 y:H.get yb=aB 0 (kE y)
theorem zvn(hC:bA C)(hk:1<=k){iZ ev:AV}{gb N:Nat}{es:List Edge}(hG:pQ Hb iZ H gb N ev es)(hes:es.length<=1000000){x:bB}{y:Nd×AV}{nb mb pb rb yb:Nat}(hR:ToR X g x y nb mb pb rb yb H)(hself:(g.name,x.r.name)∈aN X){a b:SS}(hab:(a,b)∈aN X)(jO:(aN X).length<=256):Ok (C k (.f 86) [.str a.n a.a,.str b.n b.a,.ptr gb 0,.ptr nb 0,.ptr pb 0,.ptr rb 0,.ptr yb 0] H) fun _ H'=>∃ ev',pQ Hb iZ H' gb N ev' (es++[⟨cB X g.name x.r.name,cB X a b,y.1.neg⟩]):=by
 obtain⟨j,rfl⟩:=aX hk;rw[(hC j).zBl];unfold zBl zut;have e0:=hG.blk;have hn:=hR.n;have hp:=hR.p;obtain⟨c1,c2,c3,c4,c5,hr⟩:=hR.r;have hy:=hR.y;have m1:=hR.m.aEt (iN 0) g.name x.r.name hself;have m2:=hR.m.aEt (iN 0) a b hab;have i1:(List.findIdx (fun q=>decide (q=(g.name,x.r.name))) (aN X))=cB X g.name x.r.name:=rfl;have i2:(List.findIdx (fun q=>decide (q=(a,b))) (aN X))=cB X a b:=rfl;have m1':qT ⟨gW fun xs ys=>yF p1 ⟨bZ⟩ 1 xs ys 2 0,some 2⟩ (iN 0) false ⟨H.t,H.nx+21⟩ (.map mb) (.agg [.str g.name.n g.name.a,.str x.r.name.n x.r.name.a])=.val (iN ((cB X g.name x.r.name))):=m1;have m2':qT ⟨gW fun xs ys=>yF p1 ⟨bZ⟩ 1 xs ys 2 0,some 2⟩ (iN 0) false ⟨H.t,H.nx+21⟩ (.map mb) (.agg [.str a.n a.a,.str b.n b.a])=.val (iN ((cB X a b))):=m2;unfold kE SS.v at hy;simp(disch:=first|omega|exact ti rfl|simp only[np,nq];first|done|omega)only[go_sem,rB,rI,rK,rL,rN,rS,r6,e0,hn,hp,hr,hy,m1',m2'];have hbl:=Nat.lt_of_lt_of_le hG.lt hG.fm.nx;have fp:Fm No H ((Hp.mk H.t (H.nx+21)).put (H.nx+17) (aB 0 [iN ((cB X g.name x.r.name)),iN ((cB X a b)),.bool y.1.neg])):=by(repeat(first|exact Fm.refl _ _|assumption|refine Fm.push ?_ _|refine Fm.oV ?_ (by first|omega|simp only[np,nq];omega)|refine Fm.aG ?_ _ _ (by first|omega|simp only[np,nq];omega)))
 obtain⟨H2,e2,g2,_,f2,n2⟩:=(hG.gl.no fp).append (k:=1) (w:=24) (x:=Edge.cells ⟨cB X g.name x.r.name,cB X a b,y.1.neg⟩) (by omega) rfl (by omega) (by omega);simp only[nq]at e2 g2 n2;refine Ok.y7 e2 ?_;have nig:¬ In ev gb:=fun h=>by have:=hG.nin gb h;omega
 have k2:H2.get gb=aB 0 [iN N,ev]:=(f2.get gb (show gb<H.nx+21 by omega) nig).trans ((fp.keep hbl).trans e0);simp only[go_sem,seval,k2];have hnb:=hG.fm.nx;refine Ok.ret ⟨.sl (H.nx+21) 0 (es.length+1) (es.length+1) false,eD _ _ _,hG.lt,?_,?_,?_,?_⟩
 ·rw[List.length_append,List.flatMap_append,List.flatMap_singleton];refine g2.keep (Nat.le_refl _) fun c hc _=>?_;obtain⟨_,_,_,_,hc⟩:=hc;injection hc with hc;rw[dJ _ _ _ _ (by omega)]
 ·refine((hG.fm.then fp fun _ _ h=>absurd h id).then f2 fun c hc h=>?_).put _ _ fun _=>.inl rfl;rcases hG.nw c h with h|h
  ·exact .inr h
  ·omega
 ·rintro c ⟨_,_,_,_,hc⟩;injection hc with hc;omega
 ·rintro c ⟨_,_,_,_,hc⟩;injection hc with hc;omega
def eE(X:List aR)(n:Nat)(neg:Bool)(p:SS×SS):Edge:=⟨n,cB X p.1 p.2,neg⟩
def toF(gb nb pb rb yb:Nat):AV:=.fn 86 [] [.ptr gb 0,.ptr nb 0,.ptr pb 0,.ptr rb 0,.ptr yb 0]
theorem q0a(l:List jS):(tyT l).length<=l.length:=by unfold tyT;rw[List.length_map];exact List.length_filter_le _ _
theorem qtt(hC:bA C){j:Nat}(hj:1<=j){Hb:Hp}{iZ tv:AV}{gb N nb mb pb rb yb:Nat}{X:List aR}{g:aR}{x:bB}{y:Nd×AV}(hR:∀ H,Fm (fun c=>c=gb\/In iZ c) Hb H->ToR X g x y nb mb pb rb yb H)(hT:∀ H,Fm (fun c=>c=gb\/In iZ c) Hb H->Rs 2 tC H tv x.r.types)(htl:x.r.types.length<=8)(hself:(g.name,x.r.name)∈aN X)(jO:(aN X).length<=256)(hin:∀ p∈tyT x.r.types,p∈aN X){E:List Edge}(hE:E.length<=900000){Q:pL}{q:pH}(hq:∀ H ev,pQ Hb iZ H gb N ev (E++(tyT x.r.types).map (eE X (cB X g.name x.r.name) y.1.neg))->Ok (q H) Q):∀(k i:Nat) (H:Hp) (ev:AV),i<=x.r.types.length->x.r.types.length-i<k->pQ Hb iZ H gb N ev (E++(tyT (x.r.types.take i)).map (eE X (cB X g.name x.r.name) y.1.neg)) -> Ok (qru (C j) q (toF gb nb pb rb yb) tv (iN (x.r.types.length)) k (iN i) H) Q
 |0,i,_,_,_,h,_=>by omega
 |k+1,i,H,ev,hi,hk,hG=>by
  show Ok (qzt (C j) _ _ _ _ (qru (C j) _ _ _ _ k) _ H) Q;unfold qzt;by_cases hlt:i<x.r.types.length
  ·simp only[go_sem,hlt];unfold zc2;obtain⟨b1,o1,e1,e2,_,e3,_⟩:=(hT H hG.fm).at' i hlt;unfold tC SS.v at e3;have hs:=zmr hlt;have fp:Fm No H ((aS H (aB 0 [.str 0 0,.str 0 0])).put H.nx (aB 0 [.str x.r.types[i].sp.n x.r.types[i].sp.a,.str x.r.types[i].rl.n x.r.types[i].rl.a])):=by exact mO
   have hll:=q0a (x.r.types.take i);rw[List.length_take]at hll;by_cases hz:x.r.types[i].rl.n=0/\x.r.types[i].rl.a=0
   ·have hzt:=eq_true hz;rw[if_pos ((tO _ _).2 hz),List.append_nil]at hs;simp(disch:=first|omega|exact ti rfl)only[go_sem,seval,e1,e3,hzt];unfold qrv;simp(disch:=first|omega|exact ti rfl|simp only[np,nq];first|done|omega)only[go_sem,rB,rI,rK,rL,rN,rS,r6];exact qtt hC hj hR hT htl hself jO hin hE hq k (i+1) _ ev (by omega) (by omega) (by rw[hs];exact hG.no fp)
   ·have hz':¬ x.r.types[i].rl=sE:=fun h=>hz ((tO _ _).1 h);rw[if_neg hz']at hs;have hpm:(x.r.types[i].sp,x.r.types[i].rl)∈aN X:=hin _ (by
     unfold tyT;rw[List.mem_map];exact⟨x.r.types[i],by rw[List.mem_filter];exact⟨List.getElem_mem hlt,by simpa using hz'⟩,rfl⟩)
    simp(disch:=first|omega|exact ti rfl)only[go_sem,seval,e1,e3,hz];refine Ok.ve (zvn hC hj (hG.no fp) (by rw[List.length_append,List.length_map];omega) (hR _ (hG.no fp).fm) hself hpm jO) ?_;rintro _ H3 ⟨ev3,hG3⟩;unfold qrv;simp(disch:=first|omega|exact ti rfl|simp only[np,nq];first|done|omega)only[go_sem,rB,rI,rK,rL,rN,rS,r6];refine qtt hC hj hR hT htl hself jO hin hE hq k (i+1) _ ev3 (by omega) (by omega) ?_;rw[hs,List.map_append,<-List.append_assoc];exact hG3
  ·simp only[go_sem,hlt];have he:i=x.r.types.length:=by omega
   rw[he,List.take_length]at hG;exact hq H ev hG
theorem q46(hC:bA C){j:Nat}(hj:1<=j){Hb:Hp}{iZ tv:AV}{gb N nb mb pb rb yb:Nat}{X:List aR}{g:aR}{x:bB}{y:Nd×AV}(hR:∀ H,Fm (fun c=>c=gb\/In iZ c) Hb H->ToR X g x y nb mb pb rb yb H){ts:List SS}(hT:∀ H,Fm (fun c=>c=gb\/In iZ c) Hb H->Rs 1 sC H tv ts)(htl:ts.length<=100)(hself:(g.name,x.r.name)∈aN X)(jO:(aN X).length<=256)(hin:∀ s∈ts,(s,y.1.to)∈aN X){E:List Edge}(hE:E.length<=900000){Q:pL}{q:pH}(hq:∀ H ev,pQ Hb iZ H gb N ev (E++(ts.map fun s=>(s,y.1.to)).map (eE X (cB X g.name x.r.name) y.1.neg))->Ok (q H) Q):∀(k i:Nat) (H:Hp) (ev:AV),i<=ts.length->ts.length-i<k->pQ Hb iZ H gb N ev (E++((ts.take i).map fun s=>(s,y.1.to)).map (eE X (cB X g.name x.r.name) y.1.neg)) -> Ok (qrt (C j) q (.ptr yb 0) (toF gb nb pb rb yb) tv (iN (ts.length)) k (iN i) H) Q
 |0,i,_,_,_,h,_=>by omega
 |k+1,i,H,ev,hi,hk,hG=>by
  show Ok (qzs (C j) _ _ _ _ _ (qrt (C j) _ _ _ _ _ k) _ H) Q;unfold qzs;by_cases hlt:i<ts.length
  ·simp only[go_sem,hlt];unfold q3a;obtain⟨b1,o1,e1,e2,e3⟩:=(hT H hG.fm).at1 (g:=SS.v) (fun _=>rfl) hlt;have r:=hR H hG.fm;have hy:=r.y;simp only[go_sem,e1,e3,hy];refine Ok.ve (zvn hC hj hG (by rw[List.length_append,List.length_map,List.length_map,List.length_take];omega) r hself (hin ts[i] (List.getElem_mem hlt)) jO) ?_;rintro _ H3 ⟨ev3,hG3⟩;unfold zc1;simp(disch:=first|omega|exact ti rfl|simp only[np,nq];first|done|omega)only[go_sem,rB,rI,rK,rL,rN,rS,r6];refine q46 hC hj hR hT htl hself jO hin hE hq k (i+1) _ ev3 (by omega) (by omega) ?_;rw[List.take_succ_eq_append_getElem hlt,List.map_append,List.map_append,<-List.append_assoc];exact hG3
  ·simp only[go_sem,hlt];have he:i=ts.length:=by omega
   rw[he,List.take_length]at hG;exact hq H ev hG
def yP(X:List aR)(g:aR)(x:bB)(y:Nd):List Edge:=(ndT X g.name x y).map (eE X (cB X g.name x.r.name) y.neg)
structure NdR(X:List aR)(g:aR)(x:bB)(sv nv:AV)(l:List (Nd×AV))(xb nb mb pb rb:Nat)(H:Hp):Prop where
 zA:dK H sv X
 x1:H.get xb=aB 0 [sv]
 n:H.get nb=aB 0 [.map mb]
 m:jC H mb (aN X)
 p:H.get pb=aB 0 [.str g.name.n g.name.a,g.rv]
 r:∃ c2 c3 c4 c5,H.get rb=aB 0 [.str x.r.name.n x.r.name.a,x.tv,c2,c3,c4,c5]
 nd:Rs 5 kE H nv l
theorem zww(hS:wI X){a:SS}{x:bB}(hx:x.r.types.length<=100)(y:Nd):(ndT X a x y).length<=100:=by
 unfold ndT;split
 ·have:=q0a x.r.types;omega
 split
 ·simp
 split
 ·rw[List.length_map];exact qu6 hS _ _ _
 ·simp
theorem zwx(hS:wI X){x:bB}(hx:x.r.types.length<=100)(y:Nd):(yP X g x y).length<=100:=by unfold yP;rw[List.length_map];exact zww hS hx y
theorem q5b(hC:bA C)(hN:qbv C){j:Nat}(hj:22<=j){Hb:Hp}{iZ sv nv:AV}{gb N xb nb mb pb rb:Nat}{X:List aR}(hV:gQ X){g:aR}{x:bB}(hm:g∈X/\x∈g.gs){l:List (Nd×AV)}(hR:∀ H,Fm (fun c=>c=gb\/In iZ c) Hb H->NdR X g x sv nv l xb nb mb pb rb H)(hlt':xb<Hb.nx/\nb<Hb.nx/\mb<Hb.nx/\pb<Hb.nx/\rb<Hb.nx)(hll:l.length<=32)(hln:l.map Prod.fst=x.r.rule.nodes false)(hin:∀ y∈l,∀p∈ndT X g.name x y.1,p∈aN X){E:List Edge}(hE:E.length<=800000){Q:pL}{q:pH}(hq:∀ H ev,pQ Hb iZ H gb N ev (E++l.flatMap fun y=>yP X g x y.1)->Ok (q H) Q):∀(k i:Nat) (H:Hp) (ev:AV),i<=l.length->l.length-i<k->pQ Hb iZ H gb N ev (E++(l.take i).flatMap fun y=>yP X g x y.1) -> Ok (qiz (C j) q (.ptr xb 0) (.ptr nb 0) (.ptr gb 0) (.ptr pb 0) (.ptr rb 0) nv (iN (l.length)) k (iN i) H) Q
 |0,i,_,_,_,h,_=>by omega
 |k+1,i,H,ev,hi,hk,hG=>by
  show Ok (qzu (C j) _ _ _ _ _ _ _ _ (qiz (C j) _ _ _ _ _ _ _ _ k) _ H) Q;unfold qzu;obtain⟨t1,t2,t3,t4,t5⟩:=hlt';by_cases hlt:i<l.length
  ·simp only[go_sem,hlt];unfold q29;have r:=hR H hG.fm;obtain⟨b1,o1,e1,e2,_,e3,_⟩:=r.nd.at' i hlt;unfold kE SS.v at e3;have hSm:=hV.pr.sml;have htx:=(hV.pr.x _ hm.1 _ hm.2).1;have hself:(g.name,x.r.name)∈aN X:=qim.2 ⟨g,hm.1,x,hm.2,rfl,rfl⟩;have jO:(aN X).length<=256:=by have:=hV.pr.len;rw[<-yZ,List.length_map];exact this
   have fp:Fm No H ((aS H (aB 0 [.int .u8 (.ofNat 0),.str 0 0,.str 0 0,.aA,.bool false])).put H.nx (aB 0 [.int .u8 (.ofNat l[i].1.k),.str l[i].1.rl.n l[i].1.rl.a,.str l[i].1.to.n l[i].1.to.a,l[i].2,.bool l[i].1.neg])):=by exact mO
   obtain⟨H1,hH1⟩:∃ H1,H1=(aS H (aB 0 [.int .u8 (.ofNat 0),.str 0 0,.str 0 0,.aA,.bool false])).put H.nx (aB 0 [.int .u8 (.ofNat l[i].1.k),.str l[i].1.rl.n l[i].1.rl.a,.str l[i].1.to.n l[i].1.to.a,l[i].2,.bool l[i].1.neg]):=⟨_,rfl⟩;rw[<-hH1]at fp;have kb:H1.get H.nx=aB 0 (kE l[i]):=by rw[hH1];exact eD _ _ _
   have n1:H1.nx=H.nx+1:=by rw[hH1];rfl
   have hG1:=hG.no fp;have nx0:=hG.fm.nx;have hEl:(E++(l.take i).flatMap fun y=>yP X g x y.1).length<=900000:=by
    have h1:=qb8 (fun y:Nd×AV=>yP X g x y.1) 100 (l.take i) fun y _=>zwx hSm (by omega) _;rw[List.length_append];have h2:(l.take i).length<=32:=by rw[List.length_take];omega
    omega
   have next:∀ H' ev',pQ Hb iZ H' gb N ev' ((E++(l.take i).flatMap fun y=>yP X g x y.1)++yP X g x l[i].1)->Ok (qg5 (C j) (qiz (C j) q (.ptr xb 0) (.ptr nb 0) (.ptr gb 0) (.ptr pb 0) (.ptr rb 0) nv (iN (l.length)) k) (iN i) H') Q:=fun H' ev' h=>by unfold qg5;simp(disch:=first|omega|exact ti rfl|simp only[np,nq];first|done|omega)only[go_sem,rB,rI,rK,rL,rN,rS,r6];refine q5b hC hN hj hV hm hR ⟨t1,t2,t3,t4,t5⟩ hll hln hin hE hq k (i+1) H' ev' (by omega) (by omega) ?_;rw[List.take_succ_eq_append_getElem hlt,List.flatMap_append,List.flatMap_singleton,<-List.append_assoc];exact h
   have oG:∀ c,In ev c->c<H.nx:=fun c hc=>hG.gl.lt hc;have gbl:=hG.lt;have hTo:∀ H2,Fm No H1 H2->∀ H',Fm (fun c=>c=gb\/In ev c) H2 H'->ToR X g x l[i] nb mb pb rb H.nx H':=fun H2 f2 H' f'=>by
    have ft:Fm (fun c=>c=gb\/In iZ c) Hb H':=((hG1.fm).then f2 fun _ _ h=>absurd h id).then f' fun c hc hs=>by
     rcases hs with hs|hs
     ·omega
     ·rcases hG.nw c hs with h|h
      ·exact .inr h
      ·omega
    have r':=hR H' ft;refine⟨r'.n,r'.m,r'.p,?_,?_⟩
    ·obtain⟨c2,c3,c4,c5,h⟩:=r'.r;exact⟨_,_,_,_,_,h⟩
    ·have:=f2.nx;refine(f'.get H.nx (by omega) fun hs=>?_).trans ((f2.keep (by omega)).trans kb);rcases hs with hs|hs
     ·omega
     ·have:=oG _ hs;omega
   have r1:=hR H1 hG1.fm;have tH:=hin _ (List.getElem_mem hlt);have hnf:yP X g x l[i].1=(ndT X g.name x l[i].1).map (eE X (cB X g.name x.r.name) l[i].1.neg):=rfl;unfold ndT at tH hnf;by_cases q1:l[i].1.k=1
   ·have q1t:=eq_true q1;rw[if_pos q1]at tH hnf;obtain⟨c2,c3,c4,c5,hrb⟩:=r.r;have rr:=(fp.keep (show rb<H.nx by omega)).trans hrb;rw[hH1]at rr;have hty:=((r.zA.sp _ hm.1).rel _ hm.2).ty;have hl:=hty.len;simp(disch:=first|omega|exact ti rfl|simp only[np,nq];first|done|omega)only[go_sem,rB,rI,rK,rL,rN,rS,r6,e1,e3,q1t,rr,hl];unfold zc4;rw[dH,<-hH1];have hGb:=hG1.base (Fm.refl No H1);refine qtt hC (by omega) (N:=N) (Hb:=H1) (iZ:=ev) (y:=l[i]) (hTo H1 (Fm.refl _ _)) (fun H' f'=>?_) htx hself jO tH hEl (fun H' ev' h=>?_) cK 0 H1 ev (Nat.zero_le _) (by rw[dM];omega) ?_
    ·have ft:Fm (fun c=>c=gb\/In iZ c) Hb H':=(hG1.fm).then f' fun c hc hs=>by
      rcases hs with hs|hs
      ·omega
      ·rcases hG.nw c hs with h|h
       ·exact .inr h
       ·omega
     exact(((hR H' ft).zA.sp _ hm.1).rel _ hm.2).ty
    ·refine next H' ev' ?_
     rw[hnf];exact hG1.comp (Fm.refl _ _) h
    ·rw[List.take_zero];simpa [tyT] using hGb
   ·rw[if_neg q1]at tH hnf;by_cases q2:l[i].1.k=2
    ·have q2t:=eq_true q2;rw[if_pos q2]at tH hnf;have rp:=(fp.keep (show pb<H.nx by omega)).trans r.p;rw[hH1]at rp;simp(disch:=first|omega|exact ti rfl|simp only[np,nq];first|done|omega)only[go_sem,rB,rI,rK,rL,rN,rS,r6,e1,e3,q1,q2t,rp];rw[<-hH1];have hGb:=hG1.base (Fm.refl No H1);refine Ok.ve (zvn hC (by omega) hGb (by omega) (hTo H1 (Fm.refl _ _) H1 (Fm.refl _ _)) hself (tH _ List.mem_cons_self) jO) ?_;rintro _ H3 ⟨ev3,hG3⟩;refine next H3 ev3 ?_
     rw[hnf];exact hG1.comp (Fm.refl _ _) hG3
    ·rw[if_neg q2]at tH hnf;by_cases q3:l[i].1.k=3
     ·have q3t:=eq_true q3;rw[if_pos q3]at tH hnf;have rp:=(fp.keep (show pb<H.nx by omega)).trans r.p;have rx:=(fp.keep (show xb<H.nx by omega)).trans r.x1;rw[hH1]at rp rx;simp(disch:=first|omega|exact ti rfl|simp only[np,nq];first|done|omega)only[go_sem,rB,rI,rK,rL,rN,rS,r6,e1,e3,q1,q2,q3t,rp,rx];rw[<-hH1];have hnd:=hV.nd _ hm.1 _ hm.2 l[i].1 (by rw[<-hln];exact List.mem_map_of_mem (List.getElem_mem hlt));refine Ok.ve (q13 hC hN (k:=j) (by omega) r1.zA hV g.name l[i].1.rl l[i].1.to (hnd.1 (.inr q3)) (hnd.2 q3)) ?_;rintro _ H2 ⟨tv,rfl,ha⟩;have hl:=ha.dA;simp only[go_sem,hl];unfold zc3;rw[dH];have hGb:=hG1.base ha.fm;have htl:=qu6 hSm g.name l[i].1.rl l[i].1.to;refine q46 hC (by omega) (N:=N) (Hb:=H2) (iZ:=ev) (y:=l[i]) (hTo H2 ha.fm) (fun H' f'=>(ha.rs zrt).iQ f' fun c hc hs=>?_) htl hself jO (fun s hs=>tH _ (List.mem_map_of_mem hs)) hEl (fun H' ev' h=>?_) cK 0 H2 ev (Nat.zero_le _) (by rw[dM];omega) ?_
      ·have:=ha.nw c hc;rcases hs with hs|hs
       ·omega
       ·have:=oG c hs;omega
      ·refine next H' ev' ?_
       rw[hnf];exact hG1.comp ha.fm h
      ·simp_all
     ·rw[if_neg q3]at hnf;simp(disch:=first|omega|exact ti rfl|simp only[np,nq];first|done|omega)only[go_sem,rB,rI,rK,rL,rN,rS,r6,e1,e3,q1,q2,q3];rw[<-hH1];refine next H1 ev ?_
      simp_all
  ·simp only[go_sem,hlt];have he:i=l.length:=by omega
   rw[he,List.take_length]at hG;exact hq H ev hG
theorem gQ.tg(hV:gQ X){a b to s:SS}(h:s∈tX X a b to):(s,to)∈aN X:=by
 unfold tX at h;cases hf:oJ X a b with
 |none=>rw[hf]at h;cases h
 |some x=>rw[hf]at h;unfold tgL at h;rw[List.mem_map]at h;obtain⟨t,ht,rfl⟩:=h;rw[List.mem_filter]at ht;have h2:=ht.2;unfold tgP at h2;rw[Bool.and_eq_true,qjl hV.al hV.sp]at h2;simp_all
theorem gQ.ndt(hV:gQ X){x:bB}(hm:g∈X/\x∈g.gs){y:Nd}(hy:y∈x.r.rule.nodes false):∀ p∈ndT X g.name x y,p∈aN X:=by
 intro p hp;unfold ndT at hp;have hnd:=hV.nd _ hm.1 _ hm.2 y hy;split at hp
 ·unfold tyT at hp;rw[List.mem_map]at hp;obtain⟨t,ht,rfl⟩:=hp;rw[List.mem_filter]at ht;rcases((hV.ty _ hm.1 _ hm.2).2 t ht.1).2 with h|h
  ·simp[h]at ht
  ·exact h
 split at hp
 ·simp_all
 split at hp
 ·rw[List.mem_map]at hp;obtain⟨s,hs,rfl⟩:=hp;exact hV.tg hs
 ·cases hp
theorem q6e(hP:wF X)(a b to:SS):(tX X a b to).length<=8:=by
 unfold tX;cases h:oJ X a b with
 |none=>simp
 |some g=>refine Nat.le_trans (q0d X to _) ?_;obtain⟨p,hp,hx,_,_⟩:=qk1 h;exact(hP.x p hp g hx).1
theorem zn2(hP:wF X){x:bB}(hx:x.r.types.length<=8)(y:Nd):(yP X g x y).length<=8:=by
 unfold yP ndT;rw[List.length_map];split
 ·have:=q0a x.r.types;omega
 split
 ·simp
 split
 ·rw[List.length_map];exact q6e hP _ _ _
 ·simp
def relE(X:List aR)(g:aR)(x:bB):List Edge:=(x.r.rule.nodes false).flatMap (yP X g x)
theorem q4h(hP:wF X){x:bB}(hm:g∈X/\x∈g.gs):(relE X g x).length<=256:=by unfold relE;have h1:=qb8 (yP X g x) 8 (x.r.rule.nodes false) fun y _=>zn2 hP (hP.x _ hm.1 _ hm.2).1 y;have h2:=qb7 x.r.rule false;have h3:=(hP.x _ hm.1 _ hm.2).2.2.1.sz;omega
def wN(X:List aR)(l:List aR):List Edge:=l.flatMap fun g=>g.gs.flatMap (relE X g)
structure RlR(X:List aR)(sv:AV)(xb nb mb:Nat)(H:Hp):Prop where
 zA:dK H sv X
 x1:H.get xb=aB 0 [sv]
 n:H.get nb=aB 0 [.map mb]
 m:jC H mb (aN X)
theorem q48(hC:bA C)(hN:qbv C){j:Nat}(hj:22<=j){Hb:Hp}{iZ sv:AV}{gb N xb nb mb pb:Nat}{X:List aR}(hV:gQ X){g:aR}(hm:g∈X)(hR:∀ H,Fm (fun c=>c=gb\/In iZ c) Hb H->RlR X sv xb nb mb H/\H.get pb=aB 0 [.str g.name.n g.name.a,g.rv])(hlt':xb<Hb.nx/\nb<Hb.nx/\mb<Hb.nx/\pb<Hb.nx){E:List Edge}(hE:E.length<=100000){Q:pL}{q:pH}(hq:∀ H ev,pQ Hb iZ H gb N ev (E++g.gs.flatMap (relE X g))->Ok (q H) Q):∀(k i:Nat) (H:Hp) (ev:AV),i<=g.gs.length->g.gs.length-i<k->pQ Hb iZ H gb N ev (E++(g.gs.take i).flatMap (relE X g)) -> Ok (qlr (C j) q (.ptr xb 0) (.ptr nb 0) (.ptr gb 0) (.ptr pb 0) g.rv (iN (g.gs.length)) k (iN i) H) Q
 |0,i,_,_,_,h,_=>by omega
 |k+1,i,H,ev,hi,hk,hG=>by
  show Ok (qzv (C j) _ _ _ _ _ _ _ (qlr (C j) _ _ _ _ _ _ _ k) _ H) Q;unfold qzv;obtain⟨t1,t2,t3,t4⟩:=hlt';by_cases hlt:i<g.gs.length
  ·simp only[go_sem,hlt];unfold q28;obtain⟨r,rp⟩:=hR H hG.fm;have hsp:=r.zA.sp _ hm;obtain⟨b1,o1,e1,e2,_,_,_,e6⟩:=hsp.at' i hlt;have hx:=List.getElem_mem hlt;have hrr:=hsp.rel _ hx;obtain⟨c0,c1,c2,c3,hcs,hrc⟩:=qmh hrr;have hpr:=hV.pr.x _ hm _ hx;rw[hrc]at e6;have h16:=(hV.pr.r _ hm).1;obtain⟨H1,hH1⟩:∃ H1,H1=(aS H (aB 0 [.str 0 0,.aA,.int .u8 (.ofNat 0),.str 0 0,.str 0 0,.aA])).put H.nx (aB 0 [.str g.gs[i].r.name.n g.gs[i].r.name.a,g.gs[i].tv,c0,c1,c2,c3]):=⟨_,rfl⟩;have fp:Fm No H H1:=by rw[hH1];exact mO
   have kb:H1.get H.nx=aB 0 [.str g.gs[i].r.name.n g.gs[i].r.name.a,g.gs[i].tv,c0,c1,c2,c3]:=by rw[hH1];exact eD _ _ _
   have n1:H1.nx=H.nx+1:=by rw[hH1];rfl
   have lK:=hrr.ru.fm fp;rw[hcs]at lK;have call:=qns hC hN (k:=j) (by omega) lK hpr.2.2.1;simp(disch:=first|omega|exact ti rfl|simp only[np,nq];first|done|omega)only[go_sem,rB,rI,rK,rL,rN,rS,r6,e1,e6];rw[<-hH1];refine Ok.ve call ?_;rintro _ H2 ⟨nv,l,rfl,ha,hl⟩;have hla:=ha.dA;simp only[go_sem,hla];unfold zc5;rw[dH];have f2:=ha.fm;have n2:=f2.nx;have nx0:=hG.fm.nx;have gbl:=hG.lt;have oG:∀ c,In ev c->c<H.nx:=fun c hc=>hG.gl.lt hc;have hln:l.length<=32:=by have:=congrArg List.length hl;simp only[List.length_map,qb7]at this;have:=hpr.2.2.1.sz;omega
   have hEl:(E++(g.gs.take i).flatMap (relE X g)).length<=800000:=by
    have h1:=qb8 (relE X g) 256 (g.gs.take i) fun x hx=>q4h hV.pr ⟨hm,List.mem_of_mem_take hx⟩;rw[List.length_append];have h2:(g.gs.take i).length<=16:=by rw[List.length_take];omega
    omega
   have hG2:=hG.base (fp.trans f2);refine q5b hC hN hj (N:=N) (Hb:=H2) (iZ:=ev) (sv:=sv) (mb:=mb) hV (x:=g.gs[i]) ⟨hm,hx⟩ (l:=l) (fun H' f'=>?_) ⟨by omega,by omega,by omega,by omega,by omega⟩ hln hl (fun y hy=>hV.ndt ⟨hm,hx⟩ (by rw[<-hl];exact List.mem_map_of_mem hy)) hEl (fun H' ev' h=>?_) cK 0 H2 ev (Nat.zero_le _) (by rw[dM];omega) (by simpa using hG2)
   ·have ft:Fm (fun c=>c=gb\/In iZ c) Hb H':=(hG.fm.then (fp.trans f2) fun _ _ h=>absurd h id).then f' fun c hc hs=>by
     rcases hs with hs|hs
     ·exact .inl hs
     ·rcases hG.nw c hs with h|h
      ·exact .inr h
      ·omega
    obtain⟨r',rp'⟩:=hR H' ft;refine⟨r'.zA,r'.x1,r'.n,r'.m,rp',⟨c0,c1,c2,c3,?_⟩,(ha.rs qhg).iQ f' fun c hc hs=>?_⟩
    ·refine(f'.get H.nx (by omega) fun hs=>?_).trans ((f2.keep (by omega)).trans kb);rcases hs with hs|hs
     ·omega
     ·have:=oG _ hs;omega
    ·have:=ha.nw c hc;rcases hs with hs|hs
     ·omega
     ·have:=oG c hs;omega
   ·unfold qzr;simp(disch:=first|omega|exact ti rfl|simp only[np,nq];first|done|omega)only[go_sem,rB,rI,rK,rL,rN,rS,r6];refine q48 hC hN hj hV hm hR ⟨t1,t2,t3,t4⟩ hE hq k (i+1) H' ev' (by omega) (by omega) ?_;have hre:relE X g g.gs[i]=l.flatMap fun y=>yP X g g.gs[i] y.1:=by
     unfold relE;rw[<-hl,List.flatMap_map]
    rw[List.take_succ_eq_append_getElem hlt,List.flatMap_append,List.flatMap_singleton,<-List.append_assoc,hre];exact hG.comp (fp.trans f2) h
  ·simp only[go_sem,hlt];have he:i=g.gs.length:=by omega
   rw[he,List.take_length]at hG;exact hq H ev hG
theorem q49(hP:wF X)(i:Nat):(wN X (X.take i)).length<=65536:=by
 unfold wN;have h1:=qb8 (fun g:aR=>g.gs.flatMap (relE X g)) 4096 (X.take i) fun g hg=>by have hgx:=List.mem_of_mem_take hg;have h2:=qb8 (relE X g) 256 g.gs fun x hx=>q4h hP ⟨hgx,hx⟩;have:=(hP.r g hgx).1;omega
 have h2:(X.take i).length<=16:=by rw[List.length_take];have:=hP.n;omega
 omega
theorem q47(hC:bA C)(hN:qbv C){j:Nat}(hj:22<=j){Hb:Hp}{iZ sv:AV}{gb N xb nb mb:Nat}{X:List aR}(hV:gQ X)(hR:∀ H,Fm (fun c=>c=gb\/In iZ c) Hb H->RlR X sv xb nb mb H)(hlt':xb<Hb.nx/\nb<Hb.nx/\mb<Hb.nx){Q:pL}{q:pH}(hq:∀ H ev,pQ Hb iZ H gb N ev (wN X X)->Ok (q H) Q):∀(k s:Nat) (H:Hp) (ev:AV),s<=X.length->X.length-s<k->pQ Hb iZ H gb N ev (wN X (X.take s)) -> Ok (qi0 (C j) q (.ptr xb 0) (.ptr nb 0) (.ptr gb 0) sv (iN (X.length)) k (iN s) H) Q
 |0,i,_,_,_,h,_=>by omega
 |k+1,s,H,ev,hi,hk,hG=>by
  show Ok (qzw (C j) _ _ _ _ _ _ (qi0 (C j) _ _ _ _ _ _ k) _ H) Q;unfold qzw;obtain⟨t1,t2,t3⟩:=hlt';have hn:=hV.pr.n;by_cases hlt:s<X.length
  ·simp only[go_sem,hlt];unfold q27;have r:=hR H hG.fm;obtain⟨b1,o1,e1,e2,_,e3,_⟩:=r.zA.rs.at' s hlt;unfold vP SS.v at e3;have hm:=List.getElem_mem hlt;have hl:=(r.zA.sp _ hm).len;have h16:=(hV.pr.r _ hm).1;obtain⟨H1,hH1⟩:∃ H1,H1=(aS H (aB 0 [.str 0 0,.aA])).put H.nx (aB 0 [.str X[s].name.n X[s].name.a,X[s].rv]):=⟨_,rfl⟩;have fp:Fm No H H1:=by rw[hH1];exact mO
   have kb:H1.get H.nx=aB 0 [.str X[s].name.n X[s].name.a,X[s].rv]:=by rw[hH1];exact eD _ _ _
   have n1:H1.nx=H.nx+1:=by rw[hH1];rfl
   simp(disch:=first|omega|exact ti rfl)only[go_sem,seval,e1,e3,hl];rw[<-hH1];unfold zc6;rw[dH];have nx0:=hG.fm.nx;have gbl:=hG.lt;have oG:∀ c,In ev c->c<H.nx:=fun c hc=>hG.gl.lt hc;have hG1:=hG.base fp;refine q48 hC hN hj (N:=N) (Hb:=H1) (iZ:=ev) (sv:=sv) (mb:=mb) hV hm (fun H' f'=>?_) ⟨by omega,by omega,by omega,by omega⟩ (E:=wN X (X.take s)) (by have:=q49 hV.pr s;omega) (fun H' ev' h=>?_) cK 0 H1 ev (Nat.zero_le _) (by rw[dM];omega) (by simpa using hG1)
   ·have ft:Fm (fun c=>c=gb\/In iZ c) Hb H':=(hG.fm.then fp fun _ _ h=>absurd h id).then f' fun c hc hs=>by
     rcases hs with hs|hs
     ·omega
     ·rcases hG.nw c hs with h|h
      ·exact .inr h
      ·omega
    refine⟨hR H' ft,(f'.get H.nx (by omega) fun hs=>?_).trans kb⟩;rcases hs with hs|hs
    ·omega
    ·have:=oG _ hs;omega
   ·unfold qrw;simp(disch:=first|omega|exact ti rfl|simp only[np,nq];first|done|omega)only[go_sem,rB,rI,rK,rL,rN,rS,r6];refine q47 hC hN hj hV hR ⟨t1,t2,t3⟩ hq k (s+1) H' ev' (by omega) (by omega) ?_;unfold wN at h ⊢;rw[List.take_succ_eq_append_getElem hlt,List.flatMap_append,List.flatMap_singleton];exact hG.comp fp h
  ·simp only[go_sem,hlt];have he:s=X.length:=by omega
   rw[he,List.take_length]at hG;exact hq H ev hG
end Go.Di
end
section
namespace Go.Di
open Go.Ev
variable {i k m n:Nat} {ms:List Nat}
def kT(n:Nat)(e:T3):Nat:=(e.f*n+e.t)*2+e.s
theorem zhl{e:T3}(h:e∈ent n ms i k):e.f=i/\e.t=k/\e.s<2/\0<ms.getD (i*n+k) 0:=by
 rcases List.mem_append.1 h with h|h
 ·split at h
  ·rw[List.mem_singleton]at h;subst h;refine⟨rfl,rfl,Nat.zero_lt_two,?_⟩;omega
  ·cases h
 ·split at h
  ·rename_i h1;rw[List.mem_singleton]at h;subst h;exact⟨rfl,rfl,Nat.one_lt_two,by omega⟩
  ·cases h
theorem z1k(n:Nat)(ms:List Nat)(i k:Nat):(ent n ms i k).Pairwise (fun a b=>kT n a<kT n b):=by unfold ent;split<;>split<;>simp[kT]
theorem q5s{n:Nat}{ms:List Nat}{i:Nat}{e:T3}:∀{k:Nat},e∈eR n ms i k->e.f=i/\e.t<k/\e.s<2/\0<ms.getD (i*n+e.t) 0
 |0,h=>by cases h
 |k+1,h=>by
  rcases List.mem_append.1 h with h|h
  ·obtain⟨h1,h2,h3,h4⟩:=q5s h;omega
  ·obtain⟨h1,h2,h3,h4⟩:=zhl h;simp_all
theorem z1q(n:Nat)(ms:List Nat)(i:Nat):∀ k,(eR n ms i k).Pairwise (fun a b=>kT n a<kT n b)
 |0=>List.Pairwise.nil
 |k+1=>by refine List.pairwise_append.2 ⟨z1q n ms i k,z1k n ms i k,fun a ha b hb=>?_⟩;obtain⟨a1,a2,a3,_⟩:=q5s ha;obtain⟨b1,b2,b3,_⟩:=zhl hb;unfold kT;rw[a1,b1,b2];omega
theorem qwx{n:Nat}{ms:List Nat}{e:T3}:∀{i:Nat},e∈eM n ms i->e.f<i/\e.t<n/\e.s<2/\0<ms.getD (e.f*n+e.t) 0
 |0,h=>by cases h
 |i+1,h=>by
  rcases List.mem_append.1 h with h|h
  ·obtain⟨h1,h2,h3,h4⟩:=qwx h;omega
  ·obtain⟨h1,h2,h3,h4⟩:=q5s h;simp_all
theorem z1r(n:Nat)(ms:List Nat):∀ i,(eM n ms i).Pairwise (fun a b=>kT n a<kT n b)
 |0=>List.Pairwise.nil
 |i+1=>by refine List.pairwise_append.2 ⟨z1r n ms i,z1q n ms i n,fun a ha b hb=>?_⟩;obtain⟨a1,a2,a3,_⟩:=qwx ha;obtain⟨b1,b2,b3,_⟩:=q5s hb;have h1:(a.f+1)*n<=i*n:=Nat.mul_le_mul_right n a1;rw[Nat.add_mul,Nat.one_mul]at h1;unfold kT;rw[b1];omega
theorem zh7{a b:Int}(h:a<b):iO a b= -1:=by unfold iO;rw[if_pos h]
theorem q1u(a:Int):iO a a=0:=by unfold iO;rw[if_neg (Int.lt_irrefl a),if_neg (Int.lt_irrefl a)]
theorem z0z{a b:T3}(ha:a.t<n)(hb:b.t<n)(sa:a.s<2)(sb:b.s<2)(h:kT n a<kT n b):qY (toE a) (toE b)<0:=by
 unfold kT at h;rcases Nat.lt_trichotomy a.f b.f with hf|hf|hf
 ·show orI [iO (.ofNat a.f) (.ofNat b.f),_,_]<0;rw[zh7 (by simp only[Int.ofNat_eq_natCast];omega)];exact Int.negSucc_lt_zero 0
 ·have hft:a.f*n=b.f*n:=by rw[hf]
  rcases Nat.lt_trichotomy a.t b.t with ht|ht|ht
  ·show orI [iO (.ofNat a.f) (.ofNat b.f),iO (.ofNat a.t) (.ofNat b.t),_]<0;rw[hf,q1u,zh7 (a:=.ofNat a.t) (by simp only[Int.ofNat_eq_natCast];omega)];exact Int.negSucc_lt_zero 0
  ·have hs:a.s=0/\b.s=1:=by omega
   show orI [iO (.ofNat a.f) (.ofNat b.f),iO (.ofNat a.t) (.ofNat b.t),iO (sgn (decide (a.s=1))) (sgn (decide (b.s=1)))]<0;rw[hf,ht,q1u,q1u,hs.1,hs.2];decide
  ·omega
 ·have h1:(b.f+1)*n<=a.f*n:=Nat.mul_le_mul_right n hf;rw[Nat.add_mul,Nat.one_mul]at h1;omega
theorem q5p(n:Nat)(ms:List Nat):qdw n (qeg n ms):=by
 refine⟨fun e he=>?_,fun i hi=>?_⟩
 ·obtain⟨x,hx,rfl⟩:=List.mem_map.1 he;obtain⟨h1,h2,_⟩:=qwx hx;exact⟨h1,h2⟩
 ·unfold qeg at hi ⊢;rw[List.length_map]at hi;rw[List.getElem_map,List.getElem_map];have hp:=z1r n ms n;have:=List.pairwise_iff_getElem.1 hp i (i+1) (by omega) hi (Nat.lt_succ_self i);obtain⟨_,a2,a3,_⟩:=qwx (List.getElem_mem (show i<(eM n ms n).length by omega));obtain⟨_,b2,b3,_⟩:=qwx (List.getElem_mem hi);exact z0z a2 b2 a3 b3 this
theorem zxa{n i j i' j':Nat}(hj:j<n)(hj':j'<n)(h:i*n+j=i'*n+j'):i=i'/\j=j':=by
 have h1:(i*n+j) / n=i:=by rw[Nat.mul_comm,Nat.mul_add_div (by omega),Nat.div_eq_of_lt hj,Nat.add_zero]
 have h2:(i'*n+j') / n=i':=by rw[Nat.mul_comm,Nat.mul_add_div (by omega),Nat.div_eq_of_lt hj',Nat.add_zero]
 simp_all
def ltE(x y:Edge):Bool:=decide (qY x y<0)
theorem qm8(cs:List Nat)(a c v:Nat)(hc:c<cs.length):(cs.set a v).getD c 0=if a=c then v else cs.getD c 0:=by
 rw[List.getD_eq_getElem?_getD,List.getD_eq_getElem?_getD,List.getElem?_set];by_cases h:a=c
 ·simp_all
 ·simp_all
theorem znn(n:Nat)(ms:List Nat)(f t:Nat)(s:Bool):(oP n ms f t s).length=ms.length:=by
 unfold oP;generalize (if s=true then 2 else 1)=d;by_cases hd:ms.getD (f*n+t) 0 / d%2=0
 ·simp_all
 ·rw[if_neg hd]
theorem zno(hl:ms.length=n*n){f t:Nat}(s:Bool)(hi:i<n)(hk:k<n)(ht:t<n)(h3:ms.getD (i*n+k) 0<=3):(oP n ms f t s).getD (i*n+k) 0<=3/\((oP n ms f t s).getD (i*n+k) 0%2=1↔ms.getD (i*n+k) 0%2=1\/(f=i/\t=k/\s=false))/\(1<(oP n ms f t s).getD (i*n+k) 0↔1<ms.getD (i*n+k) 0\/(f=i/\t=k/\s=true)):=by
 have hx:=z00 hi hk;by_cases e:f=i/\t=k
 ·obtain⟨rfl,rfl⟩:=e;unfold oP;generalize hv:ms.getD (f*n+t) 0=v at *;cases s
  ·simp only[Bool.false_eq_true,if_false];by_cases h:v / 1%2=0
   ·rw[if_pos h,qm8 _ _ _ _ (by omega),if_pos rfl];refine⟨by omega,?_,?_⟩
    ·simp;omega
    ·simp;omega
   ·simp_all
  ·simp only[if_true];by_cases h:v / 2%2=0
   ·rw[if_pos h,qm8 _ _ _ _ (by omega),if_pos rfl];refine⟨by omega,?_,?_⟩
    ·simp
    ·simp
   ·rw[if_neg h,hv];refine⟨by omega,?_,?_⟩
    ·simp
    ·simp;omega
 ·have:(oP n ms f t s).getD (i*n+k) 0=ms.getD (i*n+k) 0:=by
   unfold oP;generalize (if s=true then 2 else 1)=d;by_cases hd:ms.getD (f*n+t) 0 / d%2=0
   ·rw[if_pos hd,qm8 _ _ _ _ (by omega),if_neg fun h=>e (zxa ht hk h)]
   ·rw[if_neg hd]
  omega
theorem qmj{n i k:Nat}(hi:i<n)(hk:k<n):∀(ts:List T3) (ms:List Nat),ms.length=n*n->(∀e∈ts,e.f<n/\e.t<n)->ms.getD (i*n+k) 0<=3 -> ((qs7 n ms ts).getD (i*n+k) 0%2=1↔ms.getD (i*n+k) 0%2=1\/∃ e∈ts,e.f=i/\e.t=k/\decide (e.s=1)=false)/\(1<(qs7 n ms ts).getD (i*n+k) 0↔1<ms.getD (i*n+k) 0\/∃ e∈ts,e.f=i/\e.t=k/\decide (e.s=1)=true)
 | [],ms,_,_,_=>by simp[qs7]
 |e::l,ms,hl,hT,h3=>by obtain⟨a1,a2,a3⟩:=zno hl (f:=e.f) (t:=e.t) (decide (e.s=1)) hi hk (hT e List.mem_cons_self).2 h3;obtain⟨b1,b2⟩:=qmj hi hk l (oP n ms e.f e.t (decide (e.s=1))) (by rw[znn,hl]) (fun x hx=>hT x (List.mem_cons_of_mem _ hx)) a1;show((qs7 n (oP n ms e.f e.t (decide (e.s=1))) l).getD _ 0%2=1↔_)/\_;rw[b1,a2];show _/\(1<(qs7 n (oP n ms e.f e.t (decide (e.s=1))) l).getD _ 0↔_);rw[b2,a3];simp only[List.mem_cons,exists_eq_or_imp,or_assoc,and_self]
def bn(b:Bool):Nat:=if b then 1 else 0
theorem z14{a b:Bool}(h:bn a=bn b):a=b:=by cases a<;>cases b<;>first|rfl|(simp[bn]at h)
theorem zrr(b:Bool):sgn b=(bn b:Int):=by cases b<;>rfl
def nR(x y:Edge):Prop:=x.f<y.f\/(x.f=y.f/\(x.t<y.t\/(x.t=y.t/\bn x.s<bn y.s)))
theorem zge(x y:Edge):ltE x y=true↔nR x y:=by unfold ltE qY nR;rw[zrr,zrr];simp only[orI,iO,Int.ofNat_eq_natCast,decide_eq_true_eq];omega
theorem q07(x y:Edge):ltE x y=false↔¬ nR x y:=by rw[<-zge];cases ltE x y<;>simp
theorem nR.tri{x y:Edge}(h1:¬ nR x y)(h2:¬ nR y x):x=y:=by
 unfold nR at h1 h2;obtain⟨a,b,c⟩:=x;obtain⟨d,e,f⟩:=y;simp only at h1 h2;have e1:a=d:=by omega
 have e2:b=e:=by omega
 have e3:bn c=bn f:=by omega
 subst e1;subst e2;rw[z14 e3]
theorem nR.irr(x:Edge):¬ nR x x:=by unfold nR;omega
theorem nR.trans{x y z:Edge}:nR x y->nR y z->nR x z:=by unfold nR;omega
abbrev Asc(l:List Edge):Prop:=l.Pairwise nR
theorem Asc.nodup{l:List Edge}(h:Asc l):l.Nodup:=List.Pairwise.imp (fun{a b} (h:nR a b) (e:a=b)=>nR.irr b (e▸h)) h
theorem Asc.uniq:∀{l l':List Edge},Asc l->Asc l'->l.Perm l'->l=l'
 | [],l',_,_,hp=>by rw[List.nil_perm.1 hp]
 |x::l,[],_,_,hp=>by have:=hp.length_eq;simp at this
 |x::l,y::l',h,h',hp=>by
  have h:=List.pairwise_cons.1 h;have h':=List.pairwise_cons.1 h';have exy:x=y:=by
   have hx:x∈y::l':=hp.mem_iff.1 (List.mem_cons.2 (Or.inl rfl));have hy:y∈x::l:=hp.mem_iff.2 (List.mem_cons.2 (Or.inl rfl));rcases List.mem_cons.1 hx with e|hx
   ·exact e
   ·rcases List.mem_cons.1 hy with e|hy
    ·exact e.symm
    ·exact absurd ((h.1 y hy).trans (h'.1 x hx)) (nR.irr _)
  subst exy;rw[Asc.uniq h.2 h'.2 ((List.perm_cons x).1 hp)]
theorem qua{x y:Edge}:qY x y<0↔nR x y:=by rw[<-zge];unfold ltE;simp
theorem qdw.asc{es:List Edge}(h:qdw n es):Asc es:=by
 refine List.pairwise_iff_getElem.2 ?_;intro i j hi hj hij;obtain⟨k,rfl⟩:∃ k,j=i+1+k:=⟨j-i-1,by omega⟩;clear hij
 induction k with
 |zero=>exact qua.1 (h.ord i hj)
 |succ k ih=>exact(ih (by omega)).trans (qua.1 (h.ord (i+1+k) (by omega)))
theorem Asc.ok{es:List Edge}(h:Asc es)(hr:∀ e∈es,e.f<n/\e.t<n):qdw n es:=
 ⟨hr,fun i hi=>qua.2 (List.pairwise_iff_getElem.1 h i (i+1) (by omega) hi (by omega))⟩
def aFN(n:Nat)(ms:List Nat)(f t:Nat)(s:Bool):Prop:=if s then 1<ms.getD (f*n+t) 0 else ms.getD (f*n+t) 0%2=1
theorem qne{e:T3}:e∈ent n ms i k↔e.f=i/\e.t=k/\((e.s=0/\ms.getD (i*n+k) 0%2=1)\/(e.s=1/\1<ms.getD (i*n+k) 0)):=by
 obtain⟨f,t,s⟩:=e;unfold ent;rw[List.mem_append];constructor
 ·rintro (h|h)
  ·simp_all
  ·simp_all
 ·rintro ⟨rfl,rfl,⟨h1,h2⟩|⟨h1,h2⟩⟩
  ·simp_all
  ·simp_all
theorem zr9{n:Nat}{ms:List Nat}{i:Nat}{e:T3}:∀{k:Nat},e∈eR n ms i k↔e.t<k/\e∈ent n ms i e.t
 |0=>by constructor;(intro h;cases h);(intro h;omega)
 |k+1=>by
  show e∈eR n ms i k++ent n ms i k↔_;rw[List.mem_append,zr9];constructor
  ·rintro (⟨h1,h2⟩|h)
   ·exact⟨by omega,h2⟩
   ·have h':=(qne.1 h).2.1;simp_all
  ·rintro ⟨h1,h2⟩;by_cases h:e.t<k
   ·simp_all
   ·have:e.t=k:=by omega
    simp_all
theorem q5t{n:Nat}{ms:List Nat}{e:T3}:∀{m:Nat},e∈eM n ms m↔e.f<m/\e.t<n/\e∈ent n ms e.f e.t
 |0=>by constructor;(intro h;cases h);(intro h;omega)
 |m+1=>by
  show e∈eM n ms m++eR n ms m n↔_;rw[List.mem_append,q5t,zr9];constructor
  ·rintro (⟨h1,h2,h3⟩|⟨h1,h2⟩)
   ·exact⟨by omega,h2,h3⟩
   ·have h':=(qne.1 h2).1;simp_all
  ·rintro ⟨h1,h2,h3⟩;by_cases h:e.f<m
   ·simp_all
   ·have:e.f=m:=by omega
    simp_all
theorem q1j{e:Edge}:e∈qeg n ms↔e.f<n/\e.t<n/\aFN n ms e.f e.t e.s:=by
 unfold qeg aFN;rw[List.mem_map];constructor
 ·rintro ⟨t,ht,rfl⟩;obtain⟨h1,h2,h3⟩:=q5t.1 ht;refine⟨h1,h2,?_⟩;rcases(qne.1 h3).2.2 with⟨h4,h5⟩|⟨h4,h5⟩
  ·show(if decide (t.s=1)=true then _ else _);rw[h4,if_neg (by decide)];exact h5
  ·show(if decide (t.s=1)=true then _ else _);rw[h4,if_pos (by decide)];exact h5
 ·rintro ⟨h1,h2,h3⟩;obtain⟨f,t,s⟩:=e;cases s
  ·exact⟨⟨f,t,0⟩,q5t.2 ⟨h1,h2,qne.2 ⟨rfl,rfl,.inl ⟨rfl,by simpa using h3⟩⟩⟩,rfl⟩
  ·exact⟨⟨f,t,1⟩,q5t.2 ⟨h1,h2,qne.2 ⟨rfl,rfl,.inr ⟨rfl,by simpa using h3⟩⟩⟩,rfl⟩
theorem q7m{ts:List T3}(hT:∀ e∈ts,e.f<n/\e.t<n){e:Edge}:e∈qeg n (qs7 n (List.replicate (n*n) 0) ts)↔e∈ts.map toE:=by
 rw[q1j,List.mem_map];have h0:∀ x,(List.replicate (n*n) 0).getD x 0=0:=fun x=>by rw[List.getD_eq_getElem?_getD,List.getElem?_replicate];split<;>rfl
 constructor
 ·rintro ⟨h1,h2,h3⟩;obtain⟨g1,g2⟩:=qmj h1 h2 ts _ (List.length_replicate) hT (by rw[h0];omega);rw[h0]at g1 g2;unfold aFN at h3;obtain⟨f,t,s⟩:=e;cases s
  ·simp only[Bool.false_eq_true,if_false]at h3;rw[g1]at h3;rcases h3 with h3|⟨x,hx,a,b,c⟩
   ·omega
   ·exact⟨x,hx,by unfold toE;rw[a,b,c]⟩
  ·simp only[if_true]at h3;rw[g2]at h3;rcases h3 with h3|⟨x,hx,a,b,c⟩
   ·omega
   ·exact⟨x,hx,by unfold toE;rw[a,b,c]⟩
 ·rintro ⟨x,hx,rfl⟩;obtain⟨h1,h2⟩:=hT x hx;obtain⟨g1,g2⟩:=qmj (i:=x.f) (k:=x.t) h1 h2 ts _ (List.length_replicate) hT (by rw[h0];omega);refine⟨h1,h2,?_⟩;show if decide (x.s=1)=true then _ else _
  cases hs:decide (x.s=1)
  ·rw[if_neg (by simp)];exact g1.2 (.inr ⟨x,hx,rfl,rfl,hs⟩)
  ·rw[if_pos rfl];exact g2.2 (.inr ⟨x,hx,rfl,rfl,hs⟩)
def yL{α:Type}[DecidableEq α](S:List α)(i:Nat):Bool:=decide (i=0)|| !decide (S[i]? =S[i-1]?)
def kK{α:Type}[DecidableEq α](S:List α)(m:Nat):List α:=(List.range m).filterMap fun i=>if yL S i then S[i]? else none
def iE{α:Type}[DecidableEq α](S:List α):List α:=kK S S.length
theorem qt4{α:Type}[DecidableEq α](S:List α)(h:m<S.length):kK S (m+1)=kK S m++if yL S m then[S[m]]else[]:=by unfold kK;rw[List.range_succ,List.filterMap_append];congr 1;rw[List.filterMap_cons,List.filterMap_nil,List.getElem?_eq_getElem h];cases yL S m<;>rfl
theorem q1k{α:Type}[DecidableEq α]{S:List α}{x:α}:x∈iE S↔x∈S:=by
 unfold iE kK;rw[List.mem_filterMap];constructor
 ·rintro ⟨i,hi,h⟩;split at h
  ·exact List.mem_of_getElem? h
  ·cases h
 ·intro hx;have hlt:S.findIdx (fun y=>decide (y=x))<S.length:=by rw[List.findIdx_lt_length];exact⟨x,hx,by simp⟩
  have hp:=List.findIdx_getElem (w:=hlt);refine⟨S.findIdx fun y=>decide (y=x),List.mem_range.2 hlt,?_⟩;have he:S[S.findIdx fun y=>decide (y=x)]=x:=by simpa using hp
  have hk:yL S (S.findIdx fun y=>decide (y=x))=true:=by
   unfold yL;rw[Bool.or_eq_true];by_cases h0:(S.findIdx fun y=>decide (y=x))=0
   ·simp_all
   ·right;rw[Bool.not_eq_true',decide_eq_false_iff_not];intro h;have hn:=List.not_of_lt_findIdx (xs:=S) (p:=fun y=>decide (y=x)) (i:=(S.findIdx fun y=>decide (y=x))-1) (by omega);rw[List.getElem?_eq_getElem hlt,List.getElem?_eq_getElem (by omega),he]at h;injection h with h;rw[<-h]at hn;simp at hn
  simp_all
theorem zhy{α:Type}[DecidableEq α]{R:α->α->Prop}{S:List α}(irr:∀ x∈S,¬R x x)(tri:∀ x∈S,∀y∈S,¬R x y->¬ R y x->x=y)(hS:S.Pairwise fun x y=>¬ R y x):(iE S).Pairwise R:=by
 unfold iE kK;rw[List.pairwise_filterMap];refine List.Pairwise.imp_of_mem ?_ List.pairwise_lt_range;intro i j hi hj hij x hx y hy;have hjl:j<S.length:=List.mem_range.1 hj;have hil:i<S.length:=List.mem_range.1 hi;split at hy
 ·rename_i hk;split at hx
  ·rw[List.getElem?_eq_getElem hil]at hx;rw[List.getElem?_eq_getElem hjl]at hy;injection hx with hx;injection hy with hy;subst hx hy;have hp:=List.pairwise_iff_getElem.1 hS;have h1:=hp i j hil hjl hij;by_cases hlt:R S[i] S[j]
   ·exact hlt
   ·exfalso;have e:=tri _ (List.getElem_mem hil) _ (List.getElem_mem hjl) hlt h1;have h2:=hp (j-1) j (by omega) hjl (by omega);have h3:¬ R S[j-1] S[j]:=by
     rw[<-e];by_cases he:i=j-1
     ·simp_all
     ·exact hp i (j-1) hil (by omega) (by omega)
    have e2:=tri _ (List.getElem_mem (by omega)) _ (List.getElem_mem hjl) h3 h2;unfold yL at hk;rw[Bool.or_eq_true,Bool.not_eq_true',decide_eq_false_iff_not,List.getElem?_eq_getElem hjl,List.getElem?_eq_getElem (by omega),e2]at hk;rcases hk with hk|hk
    ·simp at hk;omega
    ·exact hk rfl
  ·cases hx
 ·cases hy
theorem zxv{S:List Edge}(hS:S.Pairwise fun x y=>¬ nR y x):Asc (iE S):=zhy (R:=nR) (fun x _=>nR.irr x) (fun _ _ _ _=>nR.tri) hS
theorem Asc.ext{l l':List Edge}(h:Asc l)(h':Asc l')(hm:∀ x,x∈l↔x∈l'):l=l':=
 Asc.uniq h h' ((List.perm_ext_iff_of_nodup h.nodup h'.nodup).2 hm)
def sortE(S:List Edge):List Edge:=S.mergeSort fun x y=> !ltE y x
theorem zm3(S:List Edge):(sortE S).Pairwise fun x y=>¬ nR y x:=by
 have h:=List.pairwise_mergeSort (le:=fun x y=> !ltE y x) (fun a b c=>by
  simp only[Bool.not_eq_true',q07];unfold nR;omega) (fun a b=>by
  simp only[Bool.or_eq_true,Bool.not_eq_true',q07];unfold nR;omega) S
 refine List.Pairwise.imp ?_ h;intro a b h;rwa [Bool.not_eq_true',q07]at h
theorem qve{S:List Edge}{x:Edge}:x∈sortE S↔x∈S:=(List.mergeSort_perm _ _).mem_iff
theorem qvf(S:List Edge):(sortE S).length=S.length:=List.length_mergeSort _
theorem q0w{ts:List T3}(hT:∀ e∈ts,e.f<n/\e.t<n):qeg n (qs7 n (List.replicate (n*n) 0) ts)=iE (sortE (ts.map toE)):=
 Asc.ext (q5p n _).asc (zxv (zm3 _)) fun x=>by rw[q7m hT,q1k,qve]
end Go.Di
end
section
namespace Go.Di
open Go.Ev
variable {C:Nat->Ev.Call}
structure CpW{α:Type}[DecidableEq α](z:Nat)(f:α->List AV)(e0:AV->AV->Option Bool)(zs:List AV):Prop where
 len:∀ x,(f x).length=z
 pos:0<z
 eq:∀(neg:Bool) (x y:α),mQ neg (e0 (.agg (f x)) (.agg (f y)))=.val (.bool (bif neg then !decide (x=y)else decide (x=y)))
 zl:zs.length=z
theorem qcv{α:Type}{z:Nat}{f:α->List AV}(hf:∀ x,(f x).length=z):∀ l:List α,(l.flatMap f).length=l.length*z
 | []=>by simp
 |a::l=>by rw[List.flatMap_cons,List.length_append,qcv hf l,hf,List.length_cons,Nat.add_mul];omega
variable {α:Type} [DecidableEq α] {z:Nat} {f:α->List AV} {e0:AV->AV->Option Bool} {zs:List AV}
theorem zga{i n:Nat}(z:Nat)(h:i<n):i*z+z<=n*z:=by have:=Nat.mul_le_mul_right z h;rwa [Nat.succ_mul]at this
omit [DecidableEq α] in
theorem qnn(hf:∀ x,(f x).length=z)(q:Nat)(A Z:List AV)(S:List α){i:Nat}(h:i<S.length):fU (aB q (A++S.flatMap f++Z)) (A.length+i*z) z=some (f S[i]):=by have hl:=qcv hf S;have hm:=zga z h;rw[qb2,if_pos (by simp only[List.length_append];omega),List.append_assoc,<-List.drop_drop,List.drop_left' rfl,List.drop_append_of_le_length (by omega),List.take_append_of_le_length (by rw[List.length_drop];omega),qhj hf S i h]
omit [DecidableEq α] in
theorem zx5(hf:∀ x,(f x).length=z)(A Z:List AV)(e:α):∀(S:List α) (i:Nat),i<S.length->bH (A++S.flatMap f++Z) (A.length+i*z) (f e)=A++(S.set i e).flatMap f++Z:=by
 have core:∀(S:List α) (i:Nat),i<S.length->bH (S.flatMap f++Z) (i*z) (f e)=(S.set i e).flatMap f++Z:=by
  intro S
  induction S with
  |nil=>intro i h;simp at h
  |cons a S ih=>
   intro i h;have ha:=hf a;have he:=hf e;cases i with
   |zero=>unfold bH;rw[Nat.zero_mul,List.take_zero,List.nil_append,Nat.zero_add,he,List.set_cons_zero,List.flatMap_cons,List.flatMap_cons,List.append_assoc,List.append_assoc,List.drop_left' ha]
   |succ i=>have:=ih i (by simpa using h);rw[List.set_cons_succ,List.flatMap_cons,List.flatMap_cons,List.append_assoc,List.append_assoc,<-this];unfold bH;rw[show(i+1)*z=(f a).length+i*z by rw[ha,Nat.succ_mul];omega,List.take_length_add_append,List.append_assoc,List.append_assoc,List.append_assoc,Nat.add_assoc,List.drop_length_add_append]
 intro S i h;rw[List.append_assoc,List.append_assoc,<-core S i h];unfold bH;rw[List.take_length_add_append,Nat.add_assoc,List.drop_length_add_append];simp
theorem zij(n m i:Nat)(h:i<=n)(h2:n<=m):bounds n m (some (iN i)) none none=some ⟨i,n,m⟩:=by show(match(bif Nat.ble i n then some i else none)with|none=>none|some l=>some (Bd.mk l n m))=_;rw[ble_eq,decide_eq_true h];rfl
theorem q3y(z b o n i:Nat)(e:Bool)(h:i<n):jX z (.sl b o n n e) (some (iN i)) none none=.val (.sl b (o+i*z) (n-i) (n-i) e):=by show(match bounds n n (some (iN i)) none none with|some bd=>gZ b o z bd e|none=>R0.bad)=_;rw[zij _ _ _ (by omega) (Nat.le_refl _)];unfold gZ;simp only[beq_eq];rw[decide_eq_false (by omega)];rfl
theorem zm4(z b o n i:Nat)(e:Bool)(h:i<=n)(h0:0<n):jX z (.sl b o n n e) none (some (iN i)) none=.val (.sl b o i n e):=by show(match bounds n n none (some (iN i)) none with|some bd=>gZ b o z bd e|none=>R0.bad)=_;rw[qw5 _ _ _ h];unfold gZ;simp only[beq_eq];rw[decide_eq_false (by omega),cond_false];simp
structure CpO{α:Type}(f:α->List AV)(H:Hp)(b q:Nat)(A:List AV)(l:List α)(w:AV)(e:Bool)(H':Hp):Prop where
 is:∃ m Z,w=.sl b A.length l.length m e/\l.length<=m/\0<m/\H'.get b=aB q (A++(l.flatMap f)++Z)
 fm:Fm (· =b) H H'
 nx:H'.nx=H.nx
theorem qwy(hw:CpW z f e0 zs){call:Ev.Call}{H0:Hp}{b q k0:Nat}{A:List AV}{S:List α}{e:Bool}(hb:b<H0.nx)(hk0:0<k0/\k0<S.length)(hn:S.length<900000){Q:pL}{qe:pD}(hq:∀ H (cur:List α),cur.length=S.length->H.get b=aB q (A++(cur.flatMap f)++[])->cur.take (iE S).length=iE S->(iE S).length<S.length->0<(iE S).length->Fm (· =b) H0 H->H.nx=H0.nx->Ok (qe (iN ((iE S).length)) H) Q):∀(k k2:Nat) (H:Hp) (cur:List α),1<=k2->k0+k2<=S.length->S.length-(k0+k2)<k->cur.length=S.length->H.get b=aB q (A++(cur.flatMap f)++[])->(∀p (h:p<S.length) (h':p<cur.length),k0+k2-1<=p->cur[p]=S[p]) -> cur.take (kK S (k0+k2)).length=kK S (k0+k2)->(kK S (k0+k2)).length<k0+k2->0<(kK S (k0+k2)).length->Fm (· =b) H0 H->H.nx=H0.nx -> Ok (qf2 call z e0 zs qe (.sl b A.length S.length S.length e) (.sl b (A.length+k0*z) (S.length-k0) (S.length-k0) e) k (iN ((kK S (k0+k2)).length)) (iN k2) H) Q
 |0,k2,_,_,_,_,h,_,_,_,_,_,_,_,_=>by omega
 |k+1,k2,H,cur,h1,h2,h3,hc,hg,hp,ht,hl,h0,hf,hx=>by
  show Ok (q1o call z e0 zs _ _ _ (qf2 call z e0 zs _ _ _ k) _ _ H) Q;unfold q1o;obtain⟨k01,k02⟩:=hk0;by_cases hlt:k0+k2<S.length
  ·have hlt':k2<S.length-k0:=by omega
   have hlt2:k2-1<S.length-k0:=by omega
   simp only[go_sem,hlt'];unfold q1n;have r1:=qnn hw.len q A [] cur (i:=k0+k2) (by omega);have r2:=qnn hw.len q A [] cur (i:=k0+k2-1) (by omega);rw[hp (k0+k2) hlt (by omega) (by omega)]at r1;rw[hp (k0+k2-1) (by omega) (by omega) (by omega)]at r2;rw[show A.length+(k0+k2)*z=A.length+k0*z+k2*z by rw[Nat.add_mul,Nat.add_assoc]]at r1;rw[show A.length+(k0+k2-1)*z=A.length+k0*z+(k2-1)*z by rw[show k0+k2-1=k0+(k2-1)by omega,Nat.add_mul,Nat.add_assoc]]at r2;rw[List.append_nil]at r1 r2;have hg':H.get b=aB q (A++(cur.flatMap f)):=by rw[hg,List.append_nil]
   have hsucc:=qt4 S hlt;have next:∀(H':Hp) (cur':List α) (i':Nat),i'=(kK S (k0+k2+1)).length->cur'.length=S.length->H'.get b=aB q (A++(cur'.flatMap f)++[])->(∀p (h:p<S.length) (h':p<cur'.length),k0+(k2+1)-1<=p->cur'[p]=S[p]) ->
     cur'.take (kK S (k0+(k2+1))).length=kK S (k0+(k2+1))->(kK S (k0+(k2+1))).length<k0+(k2+1)->0<(kK S (k0+(k2+1))).length->Fm (· =b) H0 H'->H'.nx=H0.nx ->
     Ok (qni call z e0 zs (qf2 call z e0 zs qe (.sl b A.length S.length S.length e) (.sl b (A.length+k0*z) (S.length-k0) (S.length-k0) e) k) (iN i') (iN k2) H') Q:=fun H' cur' i' hi' a1 a2 a3 a4 a5 a6 a7 a8=>by
    subst hi';unfold qni;simp(disch:=omega)only[go_sem];exact qwy hw hb ⟨k01,k02⟩ hn hq k (k2+1) H' cur' (by omega) (by omega) (by omega) a1 a2 a3 a4 a5 a6 a7 a8
   have hke:yL S (k0+k2)= !decide (S[k0+k2]=S[k0+k2-1]):=by unfold yL;rw[decide_eq_false (show ¬k0+k2=0 by omega),Bool.false_or,List.getElem?_eq_getElem hlt,List.getElem?_eq_getElem (by omega)];congr 1;exact decide_eq_decide.2 ⟨fun h=>Option.some.inj h,fun h=>by rw[h]⟩
   by_cases hd:S[k0+k2]=S[k0+k2-1]
   ·have hdt:=eq_true hd;rw[hke,decide_eq_true hd]at hsucc;rw[show kK S (k0+k2)++(if(!true)=true then[S[k0+k2]]else[])=kK S (k0+k2)by simp]at hsucc;simp(disch:=omega)only[go_sem,hlt',hlt2,hg',r1,r2,hw.eq,hdt];exact next H cur _ (by rw[hsucc]) hc hg (fun p a b c=>hp p a b (by omega)) (by rw[<-Nat.add_assoc,hsucc];exact ht) (by rw[<-Nat.add_assoc,hsucc];omega) (by rw[<-Nat.add_assoc,hsucc];exact h0) hf hx
   ·rw[hke,decide_eq_false hd]at hsucc;rw[show kK S (k0+k2)++(if(!false)=true then[S[k0+k2]]else[])=kK S (k0+k2)++[S[k0+k2]]by simp]at hsucc;have hil:(kK S (k0+k2)).length<S.length:=by omega
    have hle:=eq_true (show A.length+(kK S (k0+k2)).length*z+(f S[k0+k2]).length<=(A++(cur.flatMap f)).length by have h1:=qcv hw.len cur;have h2:=zga z (show(kK S (k0+k2)).length<cur.length by omega);rw[List.length_append,hw.len];omega);have hset:=zx5 hw.len A [] S[k0+k2] cur (kK S (k0+k2)).length (by omega);rw[List.append_nil,List.append_nil]at hset;have hc3:(f S[k0+k2]).length=z:=hw.len _;simp(disch:=omega)only[go_sem,hlt',hlt2,hg',r1,r2,hw.eq,hd,hil,q3q,hc3];rw[hc3]at hle;simp only[go_sem,hle,hset];have hcl:(cur.set (kK S (k0+k2)).length S[k0+k2]).length=S.length:=by rw[List.length_set,hc]
    have hl1:(kK S (k0+k2+1)).length=(kK S (k0+k2)).length+1:=by rw[hsucc];simp
    refine next _ (cur.set (kK S (k0+k2)).length S[k0+k2]) _ hl1.symm hcl ?_ (fun p a b c=>?_) ?_ ?_ ?_ (hf.put _ _ fun _=>rfl) hx
    ·rw[List.append_nil];exact eD _ _ _
    ·rw[List.getElem_set_ne (by omega)];exact hp p a (by omega) (by omega)
    ·rw[<-Nat.add_assoc,hl1,hsucc];have hlc:(kK S (k0+k2)).length<cur.length:=by omega
     rw[List.take_succ_eq_append_getElem (by omega),List.take_set_of_le (Nat.le_refl _),ht,List.getElem_set_self]
    ·rw[<-Nat.add_assoc,hl1];omega
    ·rw[<-Nat.add_assoc,hl1];omega
  ·have he:k0+k2=S.length:=by omega
   have hlt':¬ k2<S.length-k0:=by omega
   simp only[go_sem,hlt'];rw[he]at ht hl h0 ⊢;exact hq H cur hc hg ht hl h0 hf hx
end Go.Di
end
section
namespace Go.Di
open Go.Ev
variable {C:Nat->Ev.Call}
variable {α:Type} [DecidableEq α] {z:Nat} {f:α->List AV} {e0:AV->AV->Option Bool} {zs:List AV}
theorem qt5{α:Type}[DecidableEq α]{S:List α}:∀{m:Nat},m<=S.length->(∀i,i<m->yL S i=true)->kK S m=S.take m
 |0,_,_=>rfl
 |m+1,h,hk=>by rw[qt4 S h,qt5 (by omega) fun i hi=>hk i (by omega),hk m (by omega),List.take_succ_eq_append_getElem h];rfl
theorem q5w(hw:CpW z f e0 zs){call:Ev.Call}{H0:Hp}{b q:Nat}{A:List AV}{S:List α}{e:Bool}(hb:b<H0.nx)(hn:S.length<900000)(hg:H0.get b=aB q (A++(S.flatMap f)++[])){Q:pL}{qe:pH}{qr:pD}(hr:∀ w H,CpO f H0 b q A (iE S) w e H->Ok (qr w H) Q)(hq:iE S=S->Ok (qe H0) Q):∀(k i:Nat),0<i->i<=S.length->S.length-i<k->(∀p,p<i->yL S p=true)->Ok (qnh call z e0 zs qr qe (.sl b A.length S.length S.length e) k (iN i) H0) Q
 |0,i,_,_,h,_=>by omega
 |k+1,i,h0,hi,hk,hp=>by
  show Ok (zh1 call z e0 zs _ _ _ (qnh call z e0 zs _ _ _ k) _ H0) Q;unfold zh1;by_cases hlt:i<S.length
  ·have hlt2:i-1<S.length:=by omega
   simp only[go_sem,hlt];unfold q1m;have r1:=qnn hw.len q A [] S hlt;have r2:=qnn hw.len q A [] S hlt2;rw[List.append_nil]at r1 r2;have hg':H0.get b=aB q (A++(S.flatMap f)):=by rw[hg,List.append_nil]
   have hke:yL S i= !decide (S[i]=S[i-1]):=by unfold yL;rw[decide_eq_false (show ¬i=0 by omega),Bool.false_or,List.getElem?_eq_getElem hlt,List.getElem?_eq_getElem hlt2];congr 1;exact decide_eq_decide.2 ⟨fun h=>Option.some.inj h,fun h=>by rw[h]⟩
   by_cases hd:S[i]=S[i-1]
   ·have hdt:=eq_true hd;have hsl:=q3y z b A.length S.length i e hlt;rw[decide_eq_true hd]at hke;have hsucc:=qt4 S hlt;rw[hke]at hsucc;have hall:=qt5 (Nat.le_of_lt hlt) hp;have hdd:kK S (i+1)=S.take i:=by rw[hsucc,hall];simp
    have hl1:(kK S (i+1)).length=i:=by rw[hdd,List.length_take];omega
    simp(disch:=omega)only[go_sem,hlt,hlt2,hg',r1,r2,hw.eq,hdt,hsl];unfold q1p;rw[dH];have main:=qwy hw (call:=call) (Q:=Q) (e:=e) (qe:=fun x3 H=>qfa call z e0 zs qr (.sl b A.length S.length S.length e) x3 H) hb (k0:=i) (S:=S) (A:=A) (q:=q) ⟨h0,hlt⟩ hn (fun H cur hc hgc ht hl hp0 fm hx=>by
     unfold qfa;have s1:=q3y z b A.length S.length (iE S).length e hl;have s2:=zm4 z b A.length S.length (iE S).length e (by omega) (by omega);have hz:¬ S.length-(iE S).length=0:=by omega
     have hcl:qhm zs H (.sl b (A.length+(iE S).length*z) (S.length-(iE S).length) (S.length-(iE S).length) e)=.ok .undef (H.put b (aB q (A++((iE S).flatMap f)++bE zs (S.length-(iE S).length)))):=by
      show(bif Nat.beq (S.length-(iE S).length) 0 then _ else storeAt H b (A.length+(iE S).length*z) (bE zs (S.length-(iE S).length)) .undef)=_;rw[beq_eq,decide_eq_false hz,cond_false];have hrl:∀ n,(bE zs n).length=n*z:=fun n=>by
       induction n with
       |zero=>exact(Nat.zero_mul z).symm
       |succ n ih=>show(_++bE _ n).length=_;rw[List.length_append,ih,hw.zl,Nat.succ_mul];omega
      have hsm:=Nat.sub_mul S.length (iE S).length z;have hml:=Nat.mul_le_mul_right z (Nat.le_of_lt hl);have hcn:=qcv hw.len cur;rw[hc]at hcn;have bVF:=qcv hw.len (iE S);have hsplit:(cur.flatMap f)=((iE S).flatMap f)++((cur.drop (iE S).length).flatMap f):=by
       rw[<-List.flatMap_append];congr 1
       conv=>lhs;rw[<-List.take_append_drop (iE S).length cur,ht]
      rw[qb9 H b _ _ _ q _ hgc (by rw[List.length_append,List.length_append,hrl,List.length_nil];omega)];congr 3;unfold bH;rw[hsplit,List.append_nil,<-List.append_assoc,List.take_left' (by rw[List.length_append];omega),hrl];rw[List.drop_eq_nil_of_le (by rw[List.length_append,List.length_append,qcv hw.len,qcv hw.len,List.length_drop,hc];omega),List.append_nil]
     simp only[go_sem,s1,hcl,s2];exact hr _ _ ⟨⟨S.length,_,rfl,by omega,by omega,eD _ _ _⟩,fm.put _ _ fun _=>rfl,hx⟩) cK 1 H0 S (Nat.le_refl _) (by omega) (by rw[dM];omega) rfl hg (fun _ _ _ _=>rfl) (by rw[hl1,hdd]) (by omega) (by omega) (Fm.refl _ _) rfl
    rw[hl1]at main;exact main
   ·rw[decide_eq_false hd]at hke;simp(disch:=omega)only[go_sem,hlt,hlt2,hg',r1,r2,hw.eq,hd];unfold zh0;simp(disch:=omega)only[go_sem];refine q5w hw hb hn hg hr hq k (i+1) (by omega) (by omega) (by omega) fun p hpi=>?_;by_cases he:p=i
    ·subst he;rw[hke];rfl
    ·exact hp p (by omega)
  ·simp only[go_sem,hlt];have he:i=S.length:=by omega
   refine hq ?_;have:=qt5 (Nat.le_refl S.length) fun p hpi=>hp p (by omega);rw[List.take_length]at this;exact this
theorem zsc(hw:CpW z f e0 zs){call:Ev.Call}{H:Hp}{b q:Nat}{A:List AV}{S:List α}{e:Bool}(hb:b<H.nx)(hn:S.length<900000)(h0:0<S.length)(hg:H.get b=aB q (A++S.flatMap f++[])):Ok (qn2 call z e0 zs (.sl b A.length S.length S.length e) H) fun w H'=>CpO f H b q A (iE S) w e H':=by
 unfold qn2;have same:iE S=S->CpO f H b q A (iE S) (.sl b A.length S.length S.length e) e H:=fun h=>by rw[h];exact⟨⟨S.length,[],rfl,Nat.le_refl _,h0,hg⟩,Fm.refl _ _,rfl⟩
 have k0:yL S 0=true:=rfl;by_cases h:S.length<2
 ·simp only[go_sem,h];refine Ok.ret (same ?_);have:=qt5 (S:=S) (Nat.le_refl S.length) fun p hp=>by
   obtain rfl:p=0:=by omega
   exact k0
  rw[List.take_length]at this;exact this
 ·simp only[go_sem,h];unfold q1l zh2;rw[dH];refine q5w hw hb hn hg (fun w H' h=>Ok.ret h) (fun h=>?_) cK 1 (by omega) (by omega) (by rw[dM];omega) (fun p hp=>by
   obtain rfl:p=0:=by omega
   exact k0)
  unfold qkb;exact Ok.ret (same h)
abbrev zH(S:List Edge):List AV:=S.flatMap Edge.cells
theorem cells3(e:Edge):e.cells.length=3:=rfl
theorem q1x(S:List Edge):(zH S).length=S.length*3:=qcv cells3 S
theorem zos(neg:Bool)(x y:Edge):mQ neg (gW (eqFields [(p1,⟨qn1⟩,0),(p1,⟨qn1⟩,1),(p1,⟨qg0⟩,2)]) (.agg x.cells) (.agg y.cells))=.val (.bool (bif neg then !decide (x=y)else decide (x=y))):=by
 have e:gW (eqFields [(p1,⟨qn1⟩,0),(p1,⟨qn1⟩,1),(p1,⟨qg0⟩,2)]) (.agg x.cells) (.agg y.cells)=some (decide (x=y)):=by
  show andThen (some (pY (.ofNat x.f) (.ofNat y.f))) (andThen (some (pY (.ofNat x.t) (.ofNat y.t))) (andThen (some (x.s==y.s)) (some true)))=_;obtain⟨a,b,c⟩:=x;obtain⟨d,e,f⟩:=y;simp only[zN,q4v];by_cases h1:a=d
  ·by_cases h2:b=e
   ·cases c<;>cases f<;>simp[andThen,h1,h2]
   ·simp[andThen,h1,h2]
  ·simp[andThen,h1]
 rw[e];rfl
theorem aZ1:CpW 3 Edge.cells xL xZ:=⟨cells3,by decide,zos,rfl⟩
theorem q8d(hC:bA C){k:Nat}(hk:1<=k){H:Hp}{b q:Nat}{A:List AV}{S:List Edge}{e:Bool}(hb:b<H.nx)(hn:S.length<900000)(h0:0<S.length)(hg:H.get b=aB q (A++zH S++[])):Ok (C k (.f 116) [.sl b A.length S.length S.length e] H) fun w H'=>CpO Edge.cells H b q A (iE S) w e H':=by obtain⟨j,rfl⟩:=aX hk;rw[(hC j).zCb];exact zsc aZ1 hb hn h0 hg
end Go.Di
end
section
namespace Go.Di
open Go.Ev
variable {C:Nat->Ev.Call}
structure aTf(c:Ev.Call):Prop where
 srt:∀(H:Hp) (v:AV) (es:List Edge),Gl 3 H v es.length (zH es)->es.length<=1000000->Ok (c (.f 114) [v,.fn 113 [] []] H) fun r H'=>r=.aY []/\Gl 3 H' v es.length (zH (sortE es))/\Fm (In v) H H'
abbrev qqt(C:Nat->Ev.Call):Prop:=∀ k,aTf (C (k+1))
theorem q57(hC:bA C){k:Nat}(hk:1<=k){H:Hp}{b o n m:Nat}{e:Bool}(hnm:n<=m):C k (.f 115) [.sl b o n m e] H=.ok (.sl b o n n true) H:=by
 obtain⟨j,rfl⟩:=aX hk;rw[(hC j).zCc];unfold zCc zug;have e1:jX 3 (.sl b o n m e) none (some (iN n)) (some (iN n))=.val (.sl b o n n true):=by
  show(match bounds n m none (some (iN n)) (some (iN n))with|some bd=>gZ b o 3 bd true|none=>R0.bad)=_;have:bounds n m none (some (iN n)) (some (iN n))=some ⟨0,n,n⟩:=by show(match(bif Nat.ble n m then some n else none)with|none=>none|some m'=>match(bif Nat.ble n m' then some n else none)with|none=>none|some h=>match(some 0:Option Nat)with|none=>none|some l=>some (Bd.mk l h m'))=_;rw[ble_eq,decide_eq_true hnm];simp only[cond_true,ble_eq,decide_eq_true (Nat.le_refl n)]
  rw[this];unfold gZ;simp only[beq_eq];by_cases hn:n=0
  ·subst hn;rfl
  ·simp_all
 simp only[go_sem,e1]
theorem zi6(hC:bA C){k:Nat}(hk:1<=k){H:Hp}:C k (.f 115) [.aA] H=.ok .aA H:=by obtain⟨j,rfl⟩:=aX hk;rw[(hC j).zCc];rfl
theorem q62(hC:bA C)(hS:qqt C){k:Nat}(hk:2<=k){H:Hp}{v:AV}{es:List Edge}(hv:Gl 3 H v es.length (zH es))(hn:es.length<900000):Ok (C k (.f 88) [v] H) fun w H'=>jZ H' w (iE (sortE es))/\iC w=.val (iN ((iE (sortE es)).length))/\Fm (In v) H H'/\(w=.aA\/∃ b o n m e,w=.sl b o n m e)/\∀ c,In w c->In v c:=by
 obtain⟨j,rfl⟩:∃ j,k=j+1+1:=⟨k-2,by omega⟩;rw[(hC (j+1)).zBn];unfold zBn zur;refine Ok.ve ((hS j).srt H v es hv (by omega)) ?_;rintro _ H1 ⟨rfl,g1,f1⟩;rcases g1.is with⟨rfl,h0⟩|⟨b,o,e,q,L,rfl,h1,h2,h3,h4,h5⟩
 ·have hes:es=[]:=List.length_eq_zero_iff.1 h0;subst hes;have hcp:C (j+1) (.f 116) [.aA] H1=.ok .aA H1:=by
   rw[(hC j).zCb];unfold zCb qn2;have h02:=eq_true (show(0:Nat)<2 by decide);simp only[go_sem,h02]
  have hcl:=zi6 hC (k:=j+1) (by omega) (H:=H1);simp only[go_sem,hcp,hcl];have hz:iE (sortE [])=[]:=by simp[iE,kK,sortE]
  rw[hz];exact Ok.ret ⟨⟨rfl,rfl,(fun b hb=>by obtain⟨_,_,_,_,h⟩:=hb;cases h),(fun i hi=>by simp at hi)⟩,rfl,f1,.inl rfl,fun _ h=>h⟩
 ·by_cases h0:0<es.length
  ·have hA:L=L.take o++zH (sortE es)++[]:=by rw[<-h3,List.take_append_drop,List.append_nil]
   have yN:(L.take o).length=o:=by rw[List.length_take];omega
   have hsl:=qvf es;have hcp:=q8d hC (k:=j+1) (by omega) (H:=H1) (b:=b) (q:=q) (A:=L.take o) (S:=sortE es) (e:=e) h5 (by omega) (by omega) (by rw[<-hA];exact h1);rw[yN,hsl]at hcp;refine Ok.ve hcp ?_;rintro w H2 hw;obtain⟨m,Z,rfl,hm,hm0,hg2⟩:=hw.is;have hcl:=q57 hC (k:=j+1) (by omega) (H:=H2) (b:=b) (o:=(L.take o).length) (e:=e) hm;simp only[go_sem,hcl];have hx:=hw.nx;refine Ok.ret ⟨⟨rfl,rfl,fun c hc=>?_,fun i hi=>⟨b,(L.take o).length+i*3,sP _ _ _ _ _ _ _ _ hi,by omega,?_⟩⟩,rfl,?_,.inr ⟨_,_,_,_,_,rfl⟩,fun c hc=>by obtain⟨_,_,_,_,hc⟩:=hc;injection hc with hc;subst hc;exact⟨_,_,_,_,rfl⟩⟩
   ·obtain⟨_,_,_,_,hc⟩:=hc;injection hc with hc;omega
   ·rw[hg2];exact qnn cells3 q _ _ _ hi
   ·exact f1.then hw.fm fun c _ h=>by subst h;exact⟨_,_,_,_,rfl⟩
  ·have hes:es=[]:=List.length_eq_zero_iff.1 (by omega);subst hes;have hcp:C (j+1) (.f 116) [.sl b o 0 0 e] H1=.ok (.sl b o 0 0 e) H1:=by
    rw[(hC j).zCb];unfold zCb qn2;have h02:=eq_true (show(0:Nat)<2 by decide);simp only[go_sem,h02]
   have hcl:=q57 hC (k:=j+1) (by omega) (H:=H1) (b:=b) (o:=o) (n:=0) (m:=0) (e:=e) (Nat.le_refl _);simp only[go_sem,hcp,hcl];have hz:iE (sortE [])=[]:=by simp[iE,kK,sortE]
   rw[hz];exact Ok.ret ⟨⟨rfl,rfl,(fun c hc=>by obtain⟨_,_,_,_,h⟩:=hc;injection h with h;omega),(fun i hi=>by simp at hi)⟩,rfl,f1,.inr ⟨_,_,_,_,_,rfl⟩,fun c hc=>by obtain⟨_,_,_,_,hc⟩:=hc;injection hc with hc;subst hc;exact⟨_,_,_,_,rfl⟩⟩
structure NbI(H0 H:Hp)(nb mb:Nat)(ps:List (SS×SS)):Prop where
 n:H.get nb=aB 0 [.map mb]
 m:jC H mb ps
 o:H0.nx<=mb/\mb<nb/\nb<H.nx
 fm:Fm No H0 H
theorem qp9{call:Ev.Call}{H0:Hp}{sv:AV}{nb mb pb:Nat}{X:List aR}(hX:dK H0 sv X)(hN:(aN X).Nodup)(hP:wF X){s:Nat}(hs:s<X.length){Q:pL}{q:pH}(hq:∀ H,NbI H0 H nb mb ((dW X s++X[s].gs.map fun x=>(X[s].name,x)).map kq)->Ok (q H) Q):∀(k i:Nat) (H:Hp),i<=X[s].gs.length->X[s].gs.length-i<k->NbI H0 H nb mb ((dW X s++(X[s].gs.take i).map fun x=>(X[s].name,x)).map kq)->H.get pb=aB 0 [.str X[s].name.n X[s].name.a,X[s].rv]->nb<pb->pb<H.nx -> Ok (qkl call q (.ptr nb 0) (.ptr pb 0) X[s].rv (iN (X[s].gs.length)) k (iN i) H) Q
 |0,i,_,_,h,_,_,_,_=>by omega
 |k+1,i,H,hi,hk,hI,hp,hpn,hpl=>by
  show Ok (qry call _ _ _ _ _ (qkl call _ _ _ _ _ k) _ H) Q;unfold qry;obtain⟨o1,o2,o3⟩:=hI.o;by_cases hlt:i<X[s].gs.length
  ·simp only[go_sem,hlt];unfold q25;have h1:=hX.fm hI.fm;have hsp:=h1.sp _ (List.getElem_mem hs);obtain⟨b1,o1',e1,e2,_,_,_,e6⟩:=hsp.at' i hlt;obtain⟨c0,c1,c2,c3,_,hrc⟩:=qmh (hsp.rel _ (List.getElem_mem hlt));rw[hrc]at e6;have aFd:=(hP.r _ (List.getElem_mem hs)).1;obtain⟨H1,hH1⟩:∃ H1,H1=(aS H (aB 0 [.str 0 0,.aA,.int .u8 (.ofNat 0),.str 0 0,.str 0 0,.aA])).put H.nx (aB 0 [.str X[s].gs[i].r.name.n X[s].gs[i].r.name.a,X[s].gs[i].tv,c0,c1,c2,c3]):=⟨_,rfl⟩;have fp:Fm No H H1:=by rw[hH1];exact mO
   have n1:H1.nx=H.nx+1:=by rw[hH1];rfl
   have k1:=(fp.keep o3).trans hI.n;have k2:=(fp.keep hpl).trans hp;have m1:jC H1 mb ((dW X s++(X[s].gs.take i).map fun x=>(X[s].name,x)).map kq):=hI.m.eq (fp.keep (by omega));obtain⟨kk,eu,mu⟩:=m1.aXe X[s].name X[s].gs[i].r.name (q4n hN hs hlt);have hlm:=m1.len;have hn0:=hI.n;rw[hH1,List.length_map]at hlm eu;simp(disch:=first|omega|exact ti rfl|simp only[np,nq];first|done|omega)only[go_sem,rB,rI,rK,rL,rN,rS,r6,e1,e6,hn0,hp,hlm,eu];rw[<-hH1];unfold q26;simp(disch:=omega)only[go_sem];refine qp9 hX hN hP hs hq k (i+1) (H1.put mb kk) (by omega) (by omega) ⟨?_,?_,⟨o1,o2,show nb<H1.nx by omega⟩,(hI.fm.trans fp).aG _ _ o1⟩ ?_ hpn (show pb<H1.nx by omega)
   ·rw[dJ _ _ _ _ (by omega)];exact k1
   ·have hx:(dW X s++(X[s].gs.take (i+1)).map fun x=>(X[s].name,x)).map kq=(dW X s++(X[s].gs.take i).map fun x=>(X[s].name,x)).map kq++[(X[s].name,X[s].gs[i].r.name)]:=by
     have h1:((X[s].gs.take (i+1)).map fun x=>(X[s].name,x))=((X[s].gs.take i).map fun x=>(X[s].name,x))++[(X[s].name,X[s].gs[i])]:=by rw[List.take_succ_eq_append_getElem hlt,List.map_append];rfl
     rw[h1,<-List.append_assoc,List.map_append];rfl
    simp_all
   ·rw[dJ _ _ _ _ (by omega)];exact k2
  ·simp only[go_sem,hlt];have he:i=X[s].gs.length:=by omega
   simp_all
theorem qqa{call:Ev.Call}{H0:Hp}{sv:AV}{nb mb:Nat}{X:List aR}(hX:dK H0 sv X)(hN:(aN X).Nodup)(hP:wF X){Q:pL}{q:pH}(hq:∀ H,NbI H0 H nb mb (aN X)->Ok (q H) Q):∀(k s:Nat) (H:Hp),s<=X.length->X.length-s<k->NbI H0 H nb mb ((dW X s).map kq) -> Ok (qhr call q (.ptr nb 0) sv (iN (X.length)) k (iN s) H) Q
 |0,i,_,_,h,_=>by omega
 |k+1,s,H,hi,hk,hI=>by
  show Ok (qrz call _ _ _ _ (qhr call _ _ _ _ k) _ H) Q;unfold qrz;obtain⟨o1,o2,o3⟩:=hI.o;have hn:=hP.n;by_cases hlt:s<X.length
  ·simp only[go_sem,hlt];unfold q23;have h1:=hX.fm hI.fm;obtain⟨b1,o1',e1,e2,_,e3,_⟩:=h1.rs.at' s hlt;unfold vP SS.v at e3;have hl:=(h1.sp _ (List.getElem_mem hlt)).len;have aFd:=(hP.r _ (List.getElem_mem hlt)).1;have fp:Fm No H ((aS H (aB 0 [.str 0 0,.aA])).put H.nx (aB 0 [.str X[s].name.n X[s].name.a,X[s].rv])):=by exact mO
   simp(disch:=first|omega|exact ti rfl)only[go_sem,seval,e1,e3,hl];unfold q3b;rw[dH];refine qp9 hX hN hP hlt (pb:=H.nx) (fun H2 hI2=>?_) cK 0 _ (Nat.zero_le _) (by rw[dM];omega) ⟨(fp.keep o3).trans hI.n,?_,⟨o1,o2,by simp only[np,nq];omega⟩,hI.fm.trans fp⟩ (eD _ _ _) o3 (by simp only[np,nq];omega)
   ·unfold qrx;simp(disch:=omega)only[go_sem];refine qqa hX hN hP hq k (s+1) H2 (by omega) (by omega) ?_;have hx:dW X (s+1)=dW X s++X[s].gs.map fun x=>(X[s].name,x):=by
     unfold dW gT;rw[List.take_succ_eq_append_getElem hlt,List.flatMap_append,List.flatMap_singleton]
    simp_all
   ·rw[List.take_zero,List.map_nil,List.append_nil];exact hI.m.eq (fp.keep (by omega))
  ·simp only[go_sem,hlt];have he:s=X.length:=by omega
   refine hq H ?_;have:dW X X.length=gT X:=by unfold dW;rw[List.take_length]
   rw[he,this,yZ]at hI;exact hI
end Go.Di
end
