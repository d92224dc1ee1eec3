/-
 For FitsCheck: functions in direct style, their contracts, and the plain mathematics, part 9 of 9. No conditions beyond those that each theorem states.
-/
import Derived.Test.YtbfjjkjiokfdgaaGreatConH
import Derived.Test.YtbfjjkjiokfdgaaGreatConE
import Derived.Test.YtbfjjkjiokfdgaaGreatEv4
import Derived.ChangeArms
import Derived.DataReads
set_option linter.unusedSimpArgs false
set_option linter.unusedVariables false
open Nat renaming reduceAdd->rB,reduceMul->rI,reduceSub->rK,reduceLeDiff->rL,reduceEqDiff->rN,reduceShiftRight->rS,reduceAnd->r6
noncomputable section
namespace Go.Di
open Go.Ev Go.Di.T Go.Sort
variable {C:Nat->Ev.Call} {LA LO:LP} {L:List (List Nat)} {X:List aS}
theorem zx8(n:Nat):iB 0 n (some [])=.new (.sl n 0 0 0 true) (aD 0 []):=id rfl
theorem aLa(l:List AV):bC l 0=[]:=id rfl
structure OfM(H0 H:Hp)(mb:Nat)(rs:List (SS×aX)):Prop where
 m:mM H mb rs
 o:H0.nx<=mb/\mb<H.nx
 fm:Fm No H0 H
theorem qvx{call:Ev.Call}{H0:Hp}{sv:AV}{mb pb:Nat}(hX:dH H0 sv X)(hN:(aQ X).Nodup)(hP:uM X){s:Nat}(hs:s<X.length){Q:pL}{q:pH}(hq:∀ H,OfM H0 H mb (dA X s++X[s].gs.map fun x=>(X[s].name,x))->Ok (q H) Q):∀(k i:Nat) (H:Hp),i<=X[s].gs.length->X[s].gs.length-i<k->OfM H0 H mb (dA X s++(X[s].gs.take i).map fun x=>(X[s].name,x))->H.get pb=aD 0 [.str X[s].name.n X[s].name.a,X[s].rv]->mb<pb->pb<H.nx -> Ok (qio call q (.map mb) (.ptr pb 0) X[s].rv (iN (X[s].gs.length)) k (iN i) H) Q
 |0,i,_,_,h,_,_,_,_=>by omega
 |k+1,i,H,hi,hk,hI,hp,hpn,hpl=>by
  show Ok (qxm call _ _ _ _ _ (qio call _ _ _ _ _ k) _ H) Q;unfold qxm;obtain⟨o1,o3⟩:=hI.o;by_cases hlt:i<X[s].gs.length
  ·simp only[go_sem,hlt];unfold qxk;have h1:=hX.fm hI.fm;have hsp:=h1.sp _ (List.getElem_mem hs);obtain⟨b1,o1',e1,e2,_,_,_,e6⟩:=hsp.at' i hlt;have hR:=hsp.rel _ (List.getElem_mem hlt);obtain⟨c0,c1,c2,c3,_,hrc⟩:=qmn hR;rw[hrc]at e6;have aFo:=(hP.r _ (List.getElem_mem hs)).1;have htl:=(hP.x _ (List.getElem_mem hs) _ (List.getElem_mem hlt)).1;simp(disch:=first|omega|exact ti rfl|(simp only[np,nq];first|done|omega))only[go_sem,rB,rI,rK,rL,rN,rS,r6,e1,e6,hp,zx8,aLa];obtain⟨H1,hH1⟩:∃ H1,H1=(Hp.mk ((aT H (aD 0 [.str 0 0,.aA,.int .u8 (.ofNat 0),.str 0 0,.str 0 0,.aA])).put H.nx (aD 0 [.str X[s].gs[i].r.name.n X[s].gs[i].r.name.a,X[s].gs[i].tv,c0,c1,c2,c3])).t (H.nx+1+11)).put (H.nx+1+6) (aD 0 []):=⟨_,rfl⟩;have fp:Fm No H H1:=by
    rw[hH1];exact(((Fm.refl No H).push _).aG _ _ (Nat.le_refl _) |>.oK (by omega)).aG _ _ (by omega)
   have n1:H1.nx=H.nx+12:=by rw[hH1];rfl
   have k0:H1.get H.nx=aD 0 [.str X[s].gs[i].r.name.n X[s].gs[i].r.name.a,X[s].gs[i].tv,c0,c1,c2,c3]:=by rw[hH1,dW _ _ _ _ (by omega)];exact eB _ _ _
   have k6:H1.get (H.nx+1+6)=aD 0 []:=by rw[hH1];exact eB _ _ _
   have hsrc:=(hR.fm fp).ty.src qgt hR.tc;rw[<-hH1,hsrc];refine Ok.kI (cpT k6 (by omega) (by omega)) ?_;rintro w H2 ⟨hw,f2⟩;have n2:=f2.nx;have p2:H2.get pb=aD 0 [.str X[s].name.n X[s].name.a,X[s].rv]:=(f2.get pb (by omega) (by omega)).trans ((fp.keep hpl).trans hp);have p0:=(f2.get H.nx (by omega) (by omega)).trans k0;have oJ:Fm No H H2:=fp.then f2 fun c hc h=>by omega
   obtain⟨kk,eu,mu⟩:=(hI.m.fm o3 oJ).put (X[s].name,X[s].gs[i]) (qs6 hN hs hlt) hw;simp only[go_sem,seval,p2,p0,eu];unfold qxl;simp(disch:=omega)only[go_sem];refine qvx hX hN hP hs hq k (i+1) (H2.put mb kk) (by omega) (by omega) ⟨?_,⟨o1,by show mb<H2.nx;omega⟩,(hI.fm.trans oJ).aG _ _ o1⟩ ?_ hpn (by show pb<H2.nx;omega)
   ·rw[List.take_succ_eq_append_getElem hlt,List.map_append,List.map_singleton,<-List.append_assoc];exact mu
   ·rw[dW _ _ _ _ (by omega)];exact p2
  ·simp only[go_sem,hlt];have he:i=X[s].gs.length:=by omega
   simp_all
theorem q34{call:Ev.Call}{H0:Hp}{sv:AV}{mb:Nat}(hX:dH H0 sv X)(hN:(aQ X).Nodup)(hP:uM X){Q:pL}{q:pH}(hq:∀ H,OfM H0 H mb (eO X)->Ok (q H) Q):∀(k s:Nat) (H:Hp),s<=X.length->X.length-s<k->OfM H0 H mb (dA X s) -> Ok (qgr call q (.map mb) sv (iN (X.length)) k (iN s) H) Q
 |0,i,_,_,h,_=>by omega
 |k+1,s,H,hi,hk,hI=>by
  show Ok (q72 call _ _ _ _ (qgr call _ _ _ _ k) _ H) Q;unfold q72;obtain⟨o1,o3⟩:=hI.o;have hn:=hP.n;by_cases hlt:s<X.length
  ·simp only[go_sem,hlt];unfold qxj;have h1:=hX.fm hI.fm;obtain⟨b1,o1',e1,e2,_,e3,_⟩:=h1.rs.at' s hlt;unfold tK SS.v at e3;have hl:=(h1.sp _ (List.getElem_mem hlt)).len;have aFo:=(hP.r _ (List.getElem_mem hlt)).1;have fp:Fm No H ((aT H (aD 0 [.str 0 0,.aA])).put H.nx (aD 0 [.str X[s].name.n X[s].name.a,X[s].rv])):=by exact nH
   simp(disch:=first|omega|exact ti rfl)only[go_sem,seval,e1,e3,hl];unfold qxn;rw[dK];refine qvx hX hN hP hlt (pb:=H.nx) (fun H2 hI2=>?_) cZ 0 _ (Nat.zero_le _) (by rw[dM];omega) ⟨?_,⟨o1,by simp only[np,nq];omega⟩,hI.fm.trans fp⟩ (eB _ _ _) o3 (by simp only[np,nq];omega)
   ·unfold qla;simp(disch:=omega)only[go_sem];refine q34 hX hN hP hq k (s+1) H2 (by omega) (by omega) ?_;have hx:dA X (s+1)=dA X s++X[s].gs.map fun x=>(X[s].name,x):=by
     unfold dA eO;rw[List.take_succ_eq_append_getElem hlt,List.flatMap_append,List.flatMap_singleton]
    simp_all
   ·rw[List.take_zero,List.map_nil,List.append_nil];exact hI.m.fm o3 fp
  ·simp only[go_sem,hlt];have he:s=X.length:=by omega
   refine hq H ?_;have:dA X X.length=eO X:=by unfold dA;rw[List.take_length]
   simp_all
theorem q0v(hC:aZ C){k:Nat}(hk:1<=k){H:Hp}{sv:AV}(hX:dH H sv X)(hV:eT X):Ok (C k (.f 36) [.agg [sv]] H) fun r H'=>∃ b,r=.map b/\mM H' b (eO X)/\b<H'.nx/\Fm No H H':=by
 obtain⟨j,rfl⟩:=aW hk;rw[(hC j).zEf];unfold zEf zra;have f:Fm No H (aT (aT H (aD 0 [sv])) (.map [] 0)):=by exact nM
 have hX1:=hX.fm f;have hls:=hX1.rs.len;have hn16:=hV.pr.n;simp(disch:=first|omega|exact ti rfl|(simp only[np,nq];first|done|omega))only[go_sem,hls];unfold q73;rw[dK];refine q34 (H0:=aT H (aD 0 [sv])) (sv:=sv) (mb:=H.nx+1) (hX.fm (by exact jS)) hV.al hV.pr (fun H2 hI=>?_) cZ 0 _ (Nat.zero_le _) (by rw[dM];omega) ⟨⟨[],0,by simp(disch:=first|omega|exact ti rfl|(simp only[np,nq];first|done|omega))only[go_sem],?_,fun i e p h=>by cases h⟩,⟨by simp only[np,nq];omega,by simp only[np,nq];omega⟩,by exact jS⟩
 ·unfold qfe;exact Ok.ret ⟨_,rfl,hI.m,hI.o.2,Fm.trans (by exact jS) hI.fm⟩
 ·rfl
theorem zzz(t:Tu)(ts:List iP):ts.any (zR t)=decide ((⟨t.x,t.z⟩:iP)∈ts):=by
 rw[Bool.eq_iff_iff,decide_eq_true_iff,List.any_eq_true];have h:∀ y:iP,zR t y=true↔y=⟨t.x,t.z⟩:=fun y=>by
  unfold zR;rw[Bool.and_eq_true,decide_eq_true_iff,decide_eq_true_iff,<-qP,<-qP];constructor
  ·rintro ⟨h1,h2⟩;cases y;simp only at h1 h2;rw[h1,h2]
  ·simp_all
 simp_all
theorem ze9(hC:aZ C){k:Nat}(hk:6<=k){H:Hp}{b:Nat}(hV:eT X)(hM:mM H b (eO X))(hb:b<H.nx)(t:Tu):Ok (C k (.f 37) [.map b,.agg t.cells] H) fun r H'=>r=iN ((pE X t))/\Fm No H H':=by
 obtain⟨j,rfl⟩:=aW hk;rw[(hC j).zEg];unfold zEg zq9;have eb:bB 6 H.nx (.agg t.cells)=.new (.ptr H.nx 0) (aD 0 t.cells):=id rfl;have et:aD 0 t.cells=aD 0 [.str t.a.n t.a.a,.str t.b.n t.b.a,.str t.c.n t.c.a,.str t.x.n t.x.a,.str t.y.n t.y.a,.str t.z.n t.z.a]:=id rfl;have ec:AV.agg [.str t.a.n t.a.a,.str t.b.n t.b.a,.str t.c.n t.c.a,.str t.x.n t.x.a,.str t.y.n t.y.a,.str t.z.n t.z.a]=.agg t.cells:=id rfl;simp(disch:=omega)only[go_sem,eb,et];refine Ok.ve (zc8 hC (k:=j) (by omega) t _) ?_;rintro _ H1 ⟨rfl,f1⟩;have lW:Fm No H H1:=Fm.trans (by exact jS) f1;unfold pE;cases t.ok with
 |false=>exact Ok.ret ⟨rfl,lW⟩
 |true=>
  unfold qxi;have g1:H1.get H.nx=aD 0 [.str t.a.n t.a.a,.str t.b.n t.b.a,.str t.c.n t.c.a,.str t.x.n t.x.a,.str t.y.n t.y.a,.str t.z.n t.z.a]:=(f1.keep (by simp only[np,nq];omega)).trans (by simp(disch:=omega)only[go_sem]);have hM1:=hM.fm hb lW;by_cases hm:(t.a,t.c)∈(eO X).map kq
  ·obtain⟨v,ev,hv⟩:=hM1.find .aA hm;rw[vZ]at hm hv;obtain⟨x,hx,hn⟩:=qep hV.al hV.sp hm;have hT:=hv _ hn;simp only[go_sem,seval,g1,ev];refine Ok.ve (qj9 hC (k:=j) (by omega) hT (by have:=qie hV.pr.sml hx;show x.r.types.length<=1000;omega) ⟨t.x,t.z⟩) ?_;rintro _ H2 ⟨rfl,f2⟩;rw[hx];simp only;rw[zzz];by_cases hc:(⟨t.x,t.z⟩:iP)∈x.r.types
   ·rw[decide_eq_true hc];exact Ok.ret ⟨rfl,lW.trans f2⟩
   ·rw[decide_eq_false hc];exact Ok.ret ⟨rfl,lW.trans f2⟩
  ·have ev:=hM1.miss .aA hm;rw[vZ]at hm;have hf:lZ X t.a t.c=none:=by
    have:=qgf hV.al hV.sp t.a t.c;rw[decide_eq_false hm]at this;cases h:lZ X t.a t.c with
    |none=>rfl
    |some g=>rw[h]at this;cases this
   rw[hf];simp only[go_sem,seval,g1,ev];exact Ok.ret ⟨rfl,lW⟩
theorem zf4(hC:aZ C)(hN:l8 C)(hE:qim C)(hO:pP C)(hS:oV C)(hR:pJ LA LO C){k:Nat}(hk:1004<=k){H:Hp}{sv:AV}(hX:dH H sv X)(h:lT L X)(t:Tu):Ok (C k (.f 19) [.agg [sv],.agg t.cells] H) fun r H'=>r=iN ((pE X t))/\Fm No H H':=by
 obtain⟨j,rfl⟩:=aW hk;rw[(hC j).zDy];unfold zDy zrh;have eb:∀ n,bB 6 n (.agg t.cells)=.new (.ptr n 0) (aD 0 t.cells):=fun _=>id rfl;simp(disch:=first|omega|exact ti rfl|(simp only[np,nq];first|done|omega))only[go_sem,eb];have f:Fm No H (aT (aT H (aD 0 [sv])) (aD 0 t.cells)):=by exact nM
 refine Ok.ve (zhi hC hN hE hO hS hR (k:=j) (by omega) (hX.fm f) h) ?_;rintro _ H1 ⟨rfl,f1⟩;have lW:=f.trans f1;have g0:H1.get H.nx=aD 0 [sv]:=(f1.keep (by simp only[np,nq];omega)).trans (by simp(disch:=first|omega|exact ti rfl|(simp only[np,nq];first|done|omega))only[go_sem]);have g1:H1.get (H.nx+1)=aD 0 t.cells:=(f1.keep (by simp only[np,nq];omega)).trans (by simp(disch:=first|omega|exact ti rfl|(simp only[np,nq];first|done|omega))only[go_sem]);have n1:=f1.nx;simp only[np]at n1;unfold q8f;simp only[go_sem,seval,g0,g1,mQ,qI];refine Ok.kI (q0v hC (k:=j) (by omega) (hX.fm lW) h.val) ?_;rintro _ H2 ⟨b,rfl,hM,hb,f2⟩;replace f2:Fm No H1 H2:=f2;have g2:H2.get (H.nx+1)=aD 0 t.cells:=(f2.keep (by omega)).trans g1;have g3:H2.get H.nx=aD 0 [sv]:=(f2.keep (by omega)).trans g0;simp(disch:=first|omega|exact ti rfl)only[go_sem,seval,g2,g3,mQ,qI];refine Ok.kI (ze9 hC (k:=j) (by omega) h.val hM hb t) ?_;rintro _ H3 ⟨rfl,f3⟩;simp only[go_sem];exact Ok.ret ⟨rfl,(lW.trans f2).trans f3⟩
theorem qw1(hC:aZ C){j:Nat}(hj:6<=j){H0:Hp}{b:Nat}{v:AV}{l:List Tu}(hV:eT X)(hM:mM H0 b (eO X))(hb:b<H0.nx)(hl:Rs 6 Tu.cells H0 v l)(hn:l.length<=20){Q:pL}{qr:AV->pD}{q:pH}(hr:∀(i:Nat) (h:i<l.length) H,pE X l[i]≠0->(∀t∈l.take i,pE X t=0)->Fm No H0 H->Ok (qr (iN i) (iN ((pE X l[i]))) H) Q)(hq:∀ H,(∀t∈l,pE X t=0)->Fm No H0 H->Ok (q H) Q):∀(k i:Nat) (H:Hp),i<=l.length->l.length-i<k->(∀t∈l.take i,pE X t=0)->Fm No H0 H -> Ok (qoj (C j) qr q (.map b) v (iN (l.length)) k (iN i) H) Q
 |0,i,_,_,h,_,_=>by omega
 |k+1,i,H,hi,hk,ha,hf=>by
  show Ok (q8d (C j) _ _ _ _ _ (qoj (C j) _ _ _ _ _ k) _ H) Q;unfold q8d;by_cases hlt:i<l.length
  ·simp only[go_sem,hlt];unfold qxz;obtain⟨b1,o1,e1,e2,e3⟩:=(hl.fm hf).vI hlt;have fp:Fm No H ((aT H (aD 0 [.str 0 0,.str 0 0,.str 0 0,.str 0 0,.str 0 0,.str 0 0])).put H.nx (aD 0 l[i].cells)):=by exact nH
   simp(disch:=first|omega|exact ti rfl|(simp only[np,nq];first|done|omega))only[go_sem,rB,rI,rK,rL,rN,rS,r6,e1,e3,mQ,qI];refine Ok.ve (ze9 hC hj hV ((hM.fm hb hf).fm (Nat.lt_of_lt_of_le hb hf.nx) fp) (by have:=hf.nx;simp only[np,nq];omega) l[i]) ?_;rintro _ H1 ⟨rfl,f1⟩;have hf1:=(hf.trans fp).trans f1;by_cases hz:pE X l[i]=0
   ·rw[hz];unfold q8c;simp(disch:=omega)only[go_sem];refine qw1 hC hj hV hM hb hl hn hr hq k (i+1) H1 (by omega) (by omega) (fun t ht=>?_) hf1;rw[List.take_succ_eq_append_getElem hlt,List.mem_append,List.mem_singleton]at ht;rcases ht with ht|rfl
    ·exact ha t ht
    ·exact hz
   ·simp only[go_sem,hz];simp_all
  ·simp only[go_sem,hlt];exact hq H (by rw[List.take_of_length_le (by omega)]at ha;exact ha) hf
def fb(X:List aS):List Tu->Nat×Nat
 | []=>(0,0)
 |t::l=>if pE X t=0 then((fb X l).1+1,(fb X l).2)else(0,pE X t)
theorem zf2:∀{l:List Tu},(∀t∈l,pE X t=0)->fb X l=(l.length,0)
 | [],_=>rfl
 |t::l,h=>by unfold fb;rw[if_pos (h t List.mem_cons_self),zf2 fun u hu=>h u (List.mem_cons_of_mem _ hu)];rfl
theorem zvc:∀{l:List Tu} {i:Nat} (h:i<l.length),pE X l[i]≠0->(∀t∈l.take i,pE X t=0)->fb X l=(i,pE X l[i])
 | [],_,h,_,_=>by simp at h
 |t::l,0,_,h0,_=>by unfold fb;simp_all
 |t::l,i+1,h,h0,ha=>by unfold fb;rw[if_pos (ha t (by simp)),zvc (l:=l) (i:=i) (by simpa using h) (by simpa using h0) fun u hu=>ha u (by rw[List.take_succ_cons];exact List.mem_cons_of_mem _ hu)];rfl
theorem zvd(hC:aZ C)(hN:l8 C)(hE:qim C)(hO:pP C)(hS:oV C)(hR:pJ LA LO C){k:Nat}(hk:1004<=k){H:Hp}{sv v:AV}{l:List Tu}(hX:dH H sv X)(h:lT L X)(hl:Rs 6 Tu.cells H v l)(hn:l.length<=20):Ok (C k (.f 16) [.agg [sv],v] H) fun r H'=>r=.bG [iN ((fb X l).1),iN ((fb X l).2)]/\Fm No H H':=by
 obtain⟨j,rfl⟩:=aW hk;rw[(hC j).zDz];unfold zDz zrg;simp(disch:=omega)only[go_sem];have f:Fm No H (aT H (aD 0 [sv])):=by exact jS
 refine Ok.ve (zhi hC hN hE hO hS hR (k:=j) (by omega) (hX.fm f) h) ?_;rintro _ H1 ⟨rfl,f1⟩;have lW:=f.trans f1;have g0:H1.get H.nx=aD 0 [sv]:=(f1.keep (by simp only[np,nq];omega)).trans (by simp(disch:=omega)only[go_sem]);unfold qxy;simp only[go_sem,g0];refine Ok.ve (q0v hC (k:=j) (by omega) (hX.fm lW) h.val) ?_;rintro _ H2 ⟨b,rfl,hM,hb,f2⟩;have oJ:=lW.trans f2;have e0:=hl.len;simp only[go_sem,e0];unfold q8e;rw[dK];refine qw1 hC (by omega) h.val hM hb (hl.fm oJ) hn (fun i hi H3 h0 ha f3=>?_) (fun H3 ha f3=>?_) cZ 0 H2 (Nat.zero_le _) (by rw[dM];omega) (fun t ht=>by simp at ht) (Fm.refl _ _)
 ·rw[zvc hi h0 ha];exact Ok.ret ⟨rfl,oJ.trans f3⟩
 ·rw[zf2 ha];unfold qle;simp only[go_sem,e0];exact Ok.ret ⟨rfl,oJ.trans f3⟩
structure Two(H0 H:Hp)(w w2:AV)(m m2:List Tu):Prop where
 a:Ac 6 Tu.cells H0 H w m
 b:Ac 6 Tu.cells H0 H w2 m2
 dj:∀ c,In w c->¬ In w2 c
theorem Two.no{H0 H H':Hp}{w w2:AV}{m m2:List Tu}(h:Two H0 H w w2 m m2)(f:Fm No H H'):Two H0 H' w w2 m m2:=⟨h.a.no f,h.b.no f,h.dj⟩
theorem Two.sw{H0 H:Hp}{w w2:AV}{m m2:List Tu}(h:Two H0 H w w2 m m2):Two H0 H w2 w m2 m:=⟨h.b,h.a,fun c h1 h2=>h.dj c h2 h1⟩
theorem Two.nil{H0 H:Hp}(f:Fm No H0 H):Two H0 H .aA .aA [] []:=⟨Ac.nil _ _ f,Ac.nil _ _ f,fun c h=>by obtain⟨_,_,_,_,h⟩:=h;cases h⟩
theorem Two.add{H0 H:Hp}{w w2:AV}{m m2:List Tu}(h:Two H0 H w w2 m m2)(t:Tu)(hb:m.length<100):Ok (gV 6 96 H w (some ⟨1,t.cells⟩)) fun w' H'=>Two H0 H' w' w2 (m++[t]) m2:=by
 refine(h.a.start.add t 96 rfl (by omega) (by omega)).mono fun w' H' ha=>?_;refine⟨h.a.fin ha,⟨h.b.gl.fm ha.fm fun c hc hi=>h.dj c hi hc,h.a.old ha.fm,h.b.nw⟩,fun c hc h2=>?_⟩;rcases ha.nw c hc with h3|h3
 ·exact h.dj c h3 h2
 ·have:=h.b.gl.lt h2;omega
def nV(X:List aS)(t:Tu):Bool:=decide (pE X t=0)
def tY(X:List aS)(t:Tu):Bool:= !decide (pE X t=0)
theorem qtu(p:Tu->Bool)(l:List Tu)(hn:l.length<=20)(i:Nat):((l.take i).filter p).length<100:=by
 have h1:=List.length_filter_le p (l.take i);have:(l.take i).length<=l.length:=by rw[List.length_take];exact Nat.min_le_right _ _
 omega
theorem qkz(p:Tu->Bool){l:List Tu}{i:Nat}(h:i<l.length):(l.take (i+1)).filter p=(l.take i).filter p++if p l[i]then[l[i]]else[]:=by rw[List.take_succ_eq_append_getElem h,List.filter_append];congr 1;cases hp:p l[i]<;>simp[hp]
theorem qmc(hC:aZ C){j:Nat}(hj:6<=j){H0:Hp}{b:Nat}{v:AV}{l:List Tu}(hV:eT X)(hM:mM H0 b (eO X))(hb:b<H0.nx)(hl:Rs 6 Tu.cells H0 v l)(hn:l.length<=20){Q:pL}{q:AV->pD}(hq:∀ w w2 H,Two H0 H w w2 (l.filter (nV X)) (l.filter (tY X))->Ok (q w w2 H) Q):∀(k i:Nat) (w w2:AV) (H:Hp),i<=l.length->l.length-i<k->Two H0 H w w2 ((l.take i).filter (nV X)) ((l.take i).filter (tY X)) -> Ok (qoi (C j) q (.map b) v (iN (l.length)) k w w2 (iN i) H) Q
 |0,i,_,_,_,_,h,_=>by omega
 |k+1,i,w,w2,H,hi,hk,ht=>by
  show Ok (q8a (C j) _ _ _ _ (qoi (C j) _ _ _ _ k) _ _ _ H) Q;unfold q8a;have hf:=ht.a.fm;by_cases hlt:i<l.length
  ·simp only[go_sem,hlt];unfold qxx;obtain⟨b1,o1,e1,e2,e3⟩:=(hl.fm hf).vI hlt;have fp:Fm No H ((aT H (aD 0 [.str 0 0,.str 0 0,.str 0 0,.str 0 0,.str 0 0,.str 0 0])).put H.nx (aD 0 l[i].cells)):=by exact nH
   simp(disch:=first|omega|exact ti rfl|(simp only[np,nq];first|done|omega))only[go_sem,rB,rI,rK,rL,rN,rS,r6,e1,e3,mQ,qI];refine Ok.ve (ze9 hC hj hV ((hM.fm hb hf).fm (Nat.lt_of_lt_of_le hb hf.nx) fp) (by have:=hf.nx;simp only[np,nq];omega) l[i]) ?_;rintro _ H1 ⟨rfl,f1⟩;have g1:H1.get H.nx=aD 0 l[i].cells:=(f1.keep (by simp only[np,nq];omega)).trans (eB _ _ _);have ht1:=(ht.no fp).no f1;have s1:=qkz (nV X) hlt;have s2:=qkz (tY X) hlt;by_cases hz:pE X l[i]=0
   ·rw[show nV X l[i]=true from decide_eq_true hz,if_pos rfl]at s1;rw[show tY X l[i]=false by unfold tY;rw[decide_eq_true hz];rfl,if_neg (by decide),List.append_nil]at s2;rw[hz];simp(disch:=omega)only[go_sem,seval,g1,mQ,qI];refine Ok.ve ((ht1.no ((Fm.refl No H1).push (aD 0 l[i].cells))).add l[i] (qtu _ _ hn _)) ?_;intro w' H2 h2;unfold qld;simp(disch:=omega)only[go_sem];refine qmc hC hj hV hM hb hl hn hq k (i+1) w' w2 H2 (by omega) (by omega) ?_;simp_all
   ·rw[show nV X l[i]=false from decide_eq_false hz,if_neg (by decide),List.append_nil]at s1;rw[show tY X l[i]=true by unfold tY;rw[decide_eq_false hz];rfl,if_pos rfl]at s2;simp(disch:=first|omega|exact ti rfl|(simp only[np,nq];first|done|omega))only[go_sem,rB,rI,rK,rL,rN,rS,r6,hz,g1,mQ,qI];refine Ok.ve ((ht1.no ((Fm.refl No H1).push (aD 0 l[i].cells))).sw.add l[i] (qtu _ _ hn _)) ?_;intro w' H2 h2;unfold qld;simp(disch:=omega)only[go_sem];refine qmc hC hj hV hM hb hl hn hq k (i+1) w w' H2 (by omega) (by omega) ?_;rw[s1,s2];exact h2.sw
  ·simp only[go_sem,hlt];rw[List.take_of_length_le (by omega)]at ht;simp_all
theorem q47(hC:aZ C){k:Nat}(hk:1<=k){n:Nat}{H:Hp}{v:AV}{l:List AV}(h:Gl 6 H v n l):∃w,C k (.f 38) [v] H=.ok w H/\Gl 6 H w n l/\gZ w=.val (iN n):=by obtain⟨j,rfl⟩:=aW hk;obtain⟨w,e,h1,h2,h3⟩:=h.clip;refine⟨w,?_,h1,h2⟩;rw[(hC j).zEh];unfold zEh zq8;simp only[go_sem,h.dD,e]
theorem zf3(hC:aZ C)(hN:l8 C)(hE:qim C)(hO:pP C)(hS:oV C)(hR:pJ LA LO C){k:Nat}(hk:1004<=k){H:Hp}{sv v:AV}{l:List Tu}(hX:dH H sv X)(h:lT L X)(hl:Rs 6 Tu.cells H v l)(hn:l.length<=20):Ok (C k (.f 17) [.agg [sv],v] H) fun r H'=>∃ w w2,r=.bG [w,w2,iN 0]/\Rs 6 Tu.cells H' w (l.filter (nV X))/\gZ w=.val (iN ((l.filter (nV X)).length))/\Rs 6 Tu.cells H' w2 (l.filter (tY X))/\gZ w2=.val (iN ((l.filter (tY X)).length))/\Fm No H H':=by
 obtain⟨j,rfl⟩:=aW hk;rw[(hC j).zEa];unfold zEa zrf;simp(disch:=omega)only[go_sem];have f:Fm No H (aT H (aD 0 [sv])):=by exact jS
 refine Ok.ve (zhi hC hN hE hO hS hR (k:=j) (by omega) (hX.fm f) h) ?_;rintro _ H1 ⟨rfl,f1⟩;have lW:=f.trans f1;have g0:H1.get H.nx=aD 0 [sv]:=(f1.keep (by simp only[np,nq];omega)).trans (by simp(disch:=omega)only[go_sem]);unfold qxw;simp only[go_sem,g0];refine Ok.ve (q0v hC (k:=j) (by omega) (hX.fm lW) h.val) ?_;rintro _ H2 ⟨b,rfl,hM,hb,f2⟩;have oJ:=lW.trans f2;have e0:=hl.len;simp only[go_sem,e0];unfold q8b;rw[dK];refine qmc hC (by omega) h.val hM hb (hl.fm oJ) hn (fun w w2 H3 ht=>?_) cZ 0 .aA .aA H2 (Nat.zero_le _) (by rw[dM];omega) (Two.nil (Fm.refl _ _));unfold qlc;obtain⟨u,c1,c2,c3⟩:=q47 hC (k:=j) (by omega) ht.a.gl;obtain⟨u2,d1,d2,d3⟩:=q47 hC (k:=j) (by omega) ht.b.gl;simp only[go_sem,c1,d1];exact Ok.ret ⟨_,_,rfl,c2.rs mQ,c3,d2.rs mQ,d3,oJ.trans ht.a.fm⟩
theorem zm4(t:Tu):fI (eqFields [((pA 3),⟨fI (eqFields [((pA 2),⟨fI (eqFields [(p1,⟨bX⟩,0),(p1,⟨bX⟩,1)])⟩,0),(p1,⟨bX⟩,2)])⟩,0),((pA 3),⟨fI (eqFields [((pA 2),⟨fI (eqFields [(p1,⟨bX⟩,0),(p1,⟨bX⟩,1)])⟩,0),(p1,⟨bX⟩,2)])⟩,3)]) (.agg t.cells) (.agg t.cells)=some true:=by rw[uO];unfold gG;simp
theorem qp4{call:Ev.Call}{H:Hp}{v w:AV}{l:List Tu}(hv:Rs 6 Tu.cells H v l)(hw:Rs 6 Tu.cells H w l)(hn:l.length<=20){Q:pL}{qr:pD}{q:pH}(hq:Ok (q H) Q):∀(k i:Nat),i<=l.length->l.length-i<k->Ok (qog call qr q v w k (iN i) H) Q
 |0,i,_,h=>by omega
 |k+1,i,hi,hk=>by
  show Ok (q78 call _ _ _ _ (qog call _ _ _ _ k) _ H) Q;unfold q78;have e0:=hw.len;by_cases hlt:i<l.length
  ·simp only[go_sem,e0,hlt];unfold q76;obtain⟨b1,o1,e1,_,e3⟩:=hv.vI hlt;obtain⟨b2,o2,d1,_,d3⟩:=hw.vI hlt;have e4:=zm4 l[i];simp only[go_sem,e1,e3,d1,d3,e4];unfold q77;simp(disch:=omega)only[go_sem];exact qp4 hv hw hn hq k (i+1) (by omega) (by omega)
  ·simp only[go_sem,e0,hlt];exact hq
theorem qv6(hC:aZ C){k:Nat}(hk:1<=k){H:Hp}{v w:AV}{l:List Tu}(hv:Rs 6 Tu.cells H v l)(hc:gZ v=.val (iN (l.length)))(hw:Rs 6 Tu.cells H w l)(hn:l.length<=20):C k (.f 18) [v,w] H=.ok (.bool true) H:=by
 obtain⟨j,rfl⟩:=aW hk;have:Ok (C (j+1) (.f 18) [v,w] H) fun r H'=>r=.bool true/\H'=H:=by rw[(hC j).zEb];unfold zEb zre;have e0:=hv.len;have e1:=hw.len;simp only[go_sem,e0,e1,hc];unfold qxv q79;rw[dK];refine qp4 hv hw hn ?_ cZ 0 (Nat.zero_le _) (by rw[dM];omega);exact Ok.ret ⟨rfl,rfl⟩
 obtain⟨_,_,e,rfl,rfl⟩:=this;exact e
theorem qwf(hC:aZ C)(hN:l8 C)(hE:qim C)(hO:pP C)(hS:oV C)(hR:pJ LA LO C){j:Nat}(hj:1004<=j)(hlive:∀ k H,1<=k->C k (.f 6) [] H=.ok (.bool true) H){H0:Hp}{sb:Nat}{sv v:AV}{l:List Tu}(hX:dH H0 sv X)(h:lT L X)(hs:H0.get sb=aD 0 [sv])(hsl:sb<H0.nx)(hl:Rs 6 Tu.cells H0 v l)(hn:l.length<=20){q:AV->AV->AV->pD}(hq:∀ w w2 H,Two H0 H w w2 (l.filter (nV X)) (l.filter (tY X))->Ok (q w w2 (iN ((fb X l).1)) (iN ((fb X l).2)) H) fun r _=>r=.bool true):∀(k i:Nat) (w w2:AV) (p e:Nat) (H:Hp),i<=l.length->l.length-i<k->Two H0 H w w2 ((l.take i).filter (nV X)) ((l.take i).filter (tY X)) -> (((∀t∈l.take i,pE X t=0)/\p=l.length/\e=0)\/(e≠0/\fb X l=(p,e))) -> Ok (qd8 (C j) (fun x4 H=>.ok x4 H) q v (.ptr sb 0) k w w2 (iN p) (iN e) (iN i) H) fun r _=>r=.bool true
 |0,i,_,_,_,_,_,_,h,_,_=>by omega
 |k+1,i,w,w2,p,e,H,hi,hk,ht,hp=>by
  show Ok (qx8 (C j) _ _ _ _ (qd8 (C j) _ _ _ _ k) _ _ _ _ _ H) _;unfold qx8;have hf:=ht.a.fm;have e0:=hl.len;by_cases hlt:i<l.length
  ·simp only[go_sem,e0,hlt];unfold qqt;obtain⟨b1,o1,e1,e2,e3⟩:=(hl.fm hf).vI hlt;have fp:Fm No H ((aT H (aD 0 [.str 0 0,.str 0 0,.str 0 0,.str 0 0,.str 0 0,.str 0 0])).put H.nx (aD 0 l[i].cells)):=by exact nH
   have et:aD 0 l[i].cells=aD 0 [.str l[i].a.n l[i].a.a,.str l[i].b.n l[i].b.a,.str l[i].c.n l[i].c.a,.str l[i].x.n l[i].x.a,.str l[i].y.n l[i].y.a,.str l[i].z.n l[i].z.a]:=id rfl;have lv:∀ H,Ok (ve (C j (.f 6) [] H) fun uS H=>.ok uS H) fun r _=>r=.bool true:=fun H=>by rw[hlive j H (by omega)];exact Ok.ret rfl
   by_cases c1:20<l[i].a.n
   ·simp(disch:=first|omega|exact ti rfl|(simp only[np,nq];first|done|omega))only[go_sem,rB,rI,rK,rL,rN,rS,r6,e1,e3,mQ,qI,et,qd3,c1];exact lv _
   by_cases c2:20<l[i].b.n
   ·simp(disch:=first|omega|exact ti rfl|(simp only[np,nq];first|done|omega))only[go_sem,rB,rI,rK,rL,rN,rS,r6,e1,e3,mQ,qI,et,qd3,c1,c2];exact lv _
   by_cases c3:20<l[i].c.n
   ·simp(disch:=first|omega|exact ti rfl|(simp only[np,nq];first|done|omega))only[go_sem,rB,rI,rK,rL,rN,rS,r6,e1,e3,mQ,qI,et,qd3,c1,c2,c3];exact lv _
   by_cases c4:20<l[i].x.n
   ·simp(disch:=first|omega|exact ti rfl|(simp only[np,nq];first|done|omega))only[go_sem,rB,rI,rK,rL,rN,rS,r6,e1,e3,mQ,qI,et,qd3,c1,c2,c3,c4];exact lv _
   by_cases c5:20<l[i].y.n
   ·simp(disch:=first|omega|exact ti rfl|(simp only[np,nq];first|done|omega))only[go_sem,rB,rI,rK,rL,rN,rS,r6,e1,e3,mQ,qI,et,qd3,c1,c2,c3,c4,c5];exact lv _
   by_cases c6:20<l[i].z.n
   ·simp(disch:=first|omega|exact ti rfl|(simp only[np,nq];first|done|omega))only[go_sem,rB,rI,rK,rL,rN,rS,r6,e1,e3,mQ,qI,et,qd3,c1,c2,c3,c4,c5,c6];exact lv _
   simp(disch:=first|omega|exact ti rfl|(simp only[np,nq];first|done|omega))only[go_sem,rB,rI,rK,rL,rN,rS,r6,e1,e3,mQ,qI,et,qd3,c1,c2,c3,c4,c5,c6];rw[<-et];unfold qx6;obtain⟨G,hG⟩:∃ G,G=((aT H (aD 0 [.str 0 0,.str 0 0,.str 0 0,.str 0 0,.str 0 0,.str 0 0])).put H.nx (aD 0 l[i].cells)):=⟨_,rfl⟩;have nG:G.nx=H.nx+1:=by rw[hG];rfl
   have gt:G.get H.nx=aD 0 l[i].cells:=by rw[hG];exact eB _ _ _
   rw[<-hG]at fp ⊢;have hfG:=hf.trans fp;have gs:G.get sb=aD 0 [sv]:=(hfG.keep hsl).trans hs;simp only[go_sem,seval,gs,gt,mQ,qI];refine Ok.ve (zxr hC (k:=j) (by omega) (hX.fm hfG) h.val.pr.sml l[i]) ?_;rintro _ H1 ⟨rfl,f1⟩;have n1:=f1.nx;have nf:=hf.nx;have gs1:=(f1.keep (by omega)).trans gs;have gt1:=(f1.keep (by omega)).trans gt;simp only[go_sem,seval,gs1,gt1,mQ,qI];refine Ok.ve (zf4 hC hN hE hO hS hR (k:=j) hj ((hX.fm hfG).fm f1) h l[i]) ?_;rintro _ H2 ⟨rfl,f2⟩;have gt2:=(f2.keep (by omega)).trans gt1;have ht2:=((ht.no fp).no f1).no f2;have s1:=qkz (nV X) hlt;have s2:=qkz (tY X) hlt;have sF:∀(w w2:AV) (p e:Nat) (H:Hp),Two H0 H w w2 ((l.take (i+1)).filter (nV X)) ((l.take (i+1)).filter (tY X))->(((∀t∈l.take (i+1),pE X t=0)/\p=l.length/\e=0)\/(e≠0/\fb X l=(p,e))) ->
     Ok (qlh (C j) (qd8 (C j) (fun x4 H=>.ok x4 H) q v (.ptr sb 0) k) w w2 (iN p) (iN e) (iN i) H) fun r _=>r=.bool true:=fun w w2 p e H ht hp=>by
    unfold qlh;simp(disch:=omega)only[go_sem];exact qwf hC hN hE hO hS hR hj hlive hX h hs hsl hl hn hq k (i+1) w w2 p e H (by omega) (by omega) ht hp
   unfold qx7;by_cases hz:pE X l[i]=0
   ·rw[show nV X l[i]=true from decide_eq_true hz,if_pos rfl]at s1;rw[show tY X l[i]=false by unfold tY;rw[decide_eq_true hz];rfl,if_neg (by decide),List.append_nil]at s2;rw[hz];simp(disch:=omega)only[go_sem,seval,gt2,mQ,qI];refine Ok.ve ((ht2.no ((Fm.refl No H2).push (aD 0 l[i].cells))).add l[i] (qtu _ _ hn _)) ?_;intro w' H3 h3;unfold qlg;simp only[go_sem,seval];refine sF _ _ _ _ _ (by rw[s1,s2];exact h3) ?_;rcases hp with⟨ha,hp⟩|hp
    ·refine .inl ⟨fun t ht=>?_,hp⟩;rw[List.take_succ_eq_append_getElem hlt,List.mem_append,List.mem_singleton]at ht;rcases ht with ht|rfl
     ·exact ha t ht
     ·exact hz
    ·exact .inr hp
   ·rw[show nV X l[i]=false from decide_eq_false hz,if_neg (by decide),List.append_nil]at s1;rw[show tY X l[i]=true by unfold tY;rw[decide_eq_false hz];rfl,if_pos rfl]at s2;simp(disch:=first|omega|exact ti rfl|(simp only[np,nq];first|done|omega))only[go_sem,rB,rI,rK,rL,rN,rS,r6,hz,gt2,mQ,qI];refine Ok.ve ((ht2.no ((Fm.refl No H2).push (aD 0 l[i].cells))).sw.add l[i] (qtu _ _ hn _)) ?_;intro w' H3 h3;unfold qlg;have h4:=sF w w' p e H3 (by rw[s1,s2];exact h3.sw);rcases hp with⟨ha,rfl,rfl⟩|hp
    ·simp only[go_sem,hz];exact sF _ _ _ _ _ (by rw[s1,s2];exact h3.sw) (.inr ⟨hz,zvc hlt hz ha⟩)
    ·have he:=hp.1;simp only[go_sem,hz,he];simp_all
  ·simp only[go_sem,e0,hlt];rw[List.take_of_length_le (by omega)]at ht hp;rcases hp with⟨ha,rfl,rfl⟩|⟨_,hp⟩
   ·have:=hq w w2 H ht;rw[zf2 ha]at this;exact this
   ·simp_all
theorem qw8(hC:aZ C)(hN:l8 C)(hE:qim C)(hO:pP C)(hS:oV C)(hR:pJ LA LO C){k:Nat}(hk:1100<=k)(hlive:∀ k H,1<=k->C k (.f 6) [] H=.ok (.bool true) H){cv lv v:AV}{ls:List Q4}{l:List Tu}{H:Hp}(hv:gH H cv L)(hq:Rs 4 Q4.cells H lv ls)(hl:Rs 6 Tu.cells H v l):Ok (zDu (C k) (.agg [cv,lv]) v H) fun r _=>r=.bool true:=by
 unfold zDu zrk;have e0:=hl.len;by_cases c:20<l.length
 ·simp only[go_sem,e0,c];rw[hlive k _ (by omega)];exact Ok.ret rfl
 simp only[go_sem,e0,c];unfold qqs;simp(disch:=omega)only[go_sem];have f0:Fm No H (aT H (aD 0 [cv,lv])):=by exact jS
 refine Ok.ve (zy2 hC (k:=k) (by omega) (hv.fm f0) (hq.fm f0) fun X hX=>⟨(lT.val (L:=L) ⟨hX⟩).pr.sml,lT.lo ⟨hX⟩⟩) ?_;rintro _ H1 ⟨sv,X,w,m,rfl,hs,hm,_,_,_,f1⟩;have h:lT L X:=⟨hm⟩;simp(disch:=first|omega|exact ti rfl)only[go_sem,seval,e0];obtain⟨G,hG⟩:∃ G,G=((aT H1 (aD 0 [.aA])).put H1.nx (aD 0 [sv])):=⟨_,rfl⟩;have fG:Fm No H1 G:=by rw[hG];exact nH
 have nG:G.nx=H1.nx+1:=by rw[hG];rfl
 have gG:G.get H1.nx=aD 0 [sv]:=by rw[hG];exact eB _ _ _
 rw[<-hG];have fA:=(f0.trans f1).trans fG;have hlG:=hl.fm fA;have hX:=hs.fm fG;unfold qx9;rw[dK];refine qwf hC hN hE hO hS hR (by omega) hlive hX h gG (by omega) hlG (by omega) (fun w w2 H2 ht=>?_) cZ 0 .aA .aA l.length 0 G (Nat.zero_le _) (by rw[dM];omega) (Two.nil (Fm.refl _ _)) (.inl ⟨fun t ht=>by simp at ht,rfl,rfl⟩);unfold qd9;have f2:=ht.a.fm;have g2:=(f2.keep (by omega)).trans gG;simp only[go_sem,seval,g2];refine Ok.ve (zvd hC hN hE hO hS hR (k:=k) (by omega) (hX.fm f2) h (hlG.fm f2) (by omega)) ?_;rintro _ H3 ⟨rfl,f3⟩;have g3:=(f3.keep (by have:=f2.nx;omega)).trans g2;simp only[go_sem,g3];refine Ok.ve (zf3 hC hN hE hO hS hR (k:=k) (by omega) ((hX.fm f2).fm f3) h ((hlG.fm f2).fm f3) (by omega)) ?_;rintro _ H4 ⟨u,u2,rfl,hu,cu,hu2,cu2,f4⟩;have ht4:=(ht.no f3).no f4;have ln:∀ p:Tu->Bool,(l.filter p).length<=20:=fun p=>by have:=List.length_filter_le p l;omega
 have q1:=qv6 hC (k:=k) (by omega) hu cu (ht4.a.rs mQ) (ln _);have q2:=qv6 hC (k:=k) (by omega) hu2 cu2 (ht4.b.rs mQ) (ln _);have q3:=hlive k H4 (by omega);simp only[go_sem,seval,q1,q2,q3];exact Ok.ret rfl
end Go.Di
end
noncomputable section
namespace Go.Di
open Go.Ev
def egO(e:Edge):Eg:=⟨.ofNat e.f,.ofNat e.t,e.s⟩
theorem zv4(es:List Edge):(es.map egO).flatMap egV=lN es:=by
 induction es with
 |nil=>rfl
 |cons a l ih=>rw[List.map_cons,List.flatMap_cons,ih];rfl
theorem zgc:∀ es:List Edge,qnp (lN es)=some (es.map egO)
 | []=>rfl
 |a::l=>by show qnp (iN (a.f)::iN (a.t):: .bool a.s::lN l)=_;rw[qnp,zgc l];rfl
theorem zzm(x y:Edge):jD (egO x) (egO y)=qR x y:=by unfold jD qR or3 egO vM sgn cI;simp only[orI,iJ];by_cases h:iJ (.ofNat x.f) (.ofNat y.f)=0<;>by_cases h2:iJ (.ofNat x.t) (.ofNat y.t)=0<;>unfold iJ at h h2<;>simp only[h,h2,if_true,if_false]<;>(try split)<;>simp_all
theorem zdl(es:List Edge):qjz (es.map egO)=(sortE es).map egO:=
 (List.map_mergeSort fun a _ b _=>by show(!decide (qR b a<0))=_;rw[zzm]).symm
theorem q0c(f fc:FuncId)(e:Ext){H:Hp}{v:AV}{es:List Edge}(h:Gl 3 H v es.length (lN es))(hl:es.length<=1000000):∃r,qf4 f fc e f [v,.fn fc [] []] H=some r/\Ok r fun r H'=>r=.bG []/\Gl 3 H' v es.length (lN (sortE es))/\Fm (In v) H H':=by
 have hb:∀ n:Nat,Nat.beq n n=true:=fun n=>Nat.beq_refl n;rcases h.is with⟨rfl,h0⟩|⟨b,o,x,q,L,rfl,h1,h2,h3,h4,h5⟩
 ·have:es=[]:=List.length_eq_zero_iff.1 h0;subst this;refine⟨.ok (.bG []) H,?_,?_⟩
  ·unfold qf4;simp only[hb,cond_true]
  ·have hz:sortE []=[]:=by simp[sortE]
   rw[hz];exact Ok.ret ⟨rfl,h,Fm.refl _ _⟩
 ·have hLl:o+es.length*3=L.length:=by
   have:=congrArg List.length h3;rw[List.length_drop,qe7]at this;omega
  have hsl:(lN (sortE es)).length=es.length*3:=by rw[qe7,qu4]
  have hs:qu5 H b o es.length=some (.ok (.bG []) (H.put b (aD q (bJ L o (lN (sortE es)))))):=by
   unfold qu5;rw[h1,qb5,if_pos (by omega),h3,List.take_of_length_le (by rw[qe7];omega)];simp only[zgc,zdl,zv4];rw[qcm H b o _ _ q L h1 (by omega)];have:Nat.blt es.length 4611686018427387904=true:=by rw[Nat.blt_eq];omega
   simp only[this,cond_true]
  refine⟨_,by unfold qf4;simp only[hb,cond_true];exact hs,Ok.ret ⟨rfl,⟨by rw[hsl],.inr ⟨b,o,x,q,bJ L o (lN (sortE es)),rfl,eB _ _ _,?_,?_,h4,h5⟩⟩,(Fm.refl _ _).put b _ fun _=>⟨_,_,_,_,rfl⟩⟩⟩
  ·rw[qeu _ _ _ (by omega)];exact h2
  ·unfold bJ;rw[List.drop_of_length_le (l:=L) (by omega),List.append_nil,List.drop_append_of_le_length (by rw[List.length_take];omega),List.drop_of_length_le (by rw[List.length_take];omega),List.nil_append]
def zlq(l:List AV):bQ:=.cells (iE l.length) l.length (cellsOf l) true 0
theorem zd2(l:List AV)(o z:Nat)(h:o+z<=l.length):gN (zlq l) o z=some ((l.drop o).take z):=by
 show(bif Nat.ble (o+z) l.length then some (Ev.rM (cellsOf l) z o)else none)=_;rw[ble_eq,decide_eq_true h,cond_true];congr 1
 induction z generalizing o with
 |zero=>simp;rfl
 |succ z ih=>show(dI _ o).f (cellsOf l)::Ev.rM (cellsOf l) z (o+1)=_;rw[ih (o+1) (by omega),qcl _ _ (Nat.lt_of_lt_of_le (show o<l.length by omega) (qbx _)),List.drop_eq_getElem_cons (show o<l.length by omega),List.take_succ_cons];simp[List.getD_eq_getElem?_getD,show o<l.length by omega]
theorem qvk(l:List AV)(o:Nat):dO (zlq l) o=match l[o]? with|some v=>.val v|none=>.bad:=by
 show(bif Nat.blt o l.length then R0.val ((dI _ o).f (cellsOf l))else .bad)=_;rw[blt_eq];by_cases h:o<l.length
 ·rw[decide_eq_true h,qcl _ _ (Nat.lt_of_lt_of_le h (qbx _))];simp[h]
 ·rw[decide_eq_false h];simp[Nat.le_of_not_lt h]
theorem qno(b:Nat):Hp.empty.get b=.dead:=by show(bif Nat.blt b 2097152 then(dI HD b).f (same bQ.dead HD)else bQ.dead)=bQ.dead;rw[qgc];cases Nat.blt b 2097152<;>rfl
theorem add_add(a:Addr)(x y:Nat):(a.add x).add y=a.add (x+y):=by
 unfold Addr.add;by_cases hx:x=0
 ·subst hx;simp
 ·by_cases hy:y=0
  ·subst hy;simp
  ·simp[hx,hy,Nat.add_assoc]
theorem q45{a:Addr}(h:a.spot=none)(x:Nat):a.add x=⟨a.block,a.off+x,none⟩:=by
 obtain⟨ab,ao,az⟩:=a;cases h;unfold Addr.add;by_cases hx:x=0
 ·subst hx;simp
 ·simp[hx]
theorem qjp{w:World}{a:Addr}{v:Value}(h:w.cell? a=some v):a.spot=none/\a.block<w.heap.size:=by
 unfold World.cell? at h;rcases hx:w.heap[a.block]? with _|o
 ·rw[hx]at h;cases h
 ·refine⟨?_,(Array.getElem?_eq_some_iff.1 hx).1⟩;rw[hx]at h;cases o with
  |cells c e z=>
   rcases hs:a.spot with _|s
   ·rfl
   ·rw[hs]at h;cases h
  |_=>cases h
structure Ro where
 l:List AV
 (b o:Nat)
def Ro.blk(k:Ro):bQ:=if k.l=[]then .dead else zlq k.l
def qsy(ks:List Ro):Hp:=ks.foldl (fun H k=>aT H k.blk) Hp.empty
def aAA(ks:List Ro):Im:=fun b=>(ks[b]?).map fun k=>⟨k.b,k.o,0,0⟩
theorem qvf:∀(ks:List Ro) (H:Hp),(∀b,H.nx<=b->H.get b=.dead) -> (ks.foldl (fun H k=>aT H k.blk) H).nx=H.nx+ks.length/\∀ b,(ks.foldl (fun H k=>aT H k.blk) H).get b=if b<H.nx then H.get b else match ks[b-H.nx]? with|some k=>k.blk|none=>.dead
 | [],H,h=>⟨rfl,fun b=>by
  by_cases hb:b<H.nx
  ·rw[if_pos hb];rfl
  ·rw[if_neg hb];exact h b (by omega)⟩
 |k::ks,H,h=>by
  obtain⟨h1,h2⟩:=qvf ks (aT H k.blk) (fun b hb=>by have:H.nx+1<=b:=hb;rw[qgd,if_neg (by omega)];exact h b (by omega));have hx:(aT H k.blk).nx=H.nx+1:=rfl;rw[List.foldl_cons];refine⟨by rw[h1,hx,List.length_cons];omega,fun b=>?_⟩;rw[h2,hx,qgd];by_cases hb:b<H.nx
  ·rw[if_pos (by omega),if_neg (by omega),if_pos hb]
  ·by_cases hb2:b=H.nx
   ·subst hb2;rw[if_pos (Nat.lt_succ_self _),if_pos rfl,if_neg (Nat.lt_irrefl _),Nat.sub_self];rfl
   ·rw[if_neg (by omega),if_neg hb,show b-H.nx=(b-(H.nx+1))+1 by omega,List.getElem?_cons_succ]
theorem qc8(ks:List Ro):(qsy ks).nx=ks.length/\∀ b,(qsy ks).get b=match ks[b]? with|some k=>k.blk|none=>.dead:=by obtain⟨h1,h2⟩:=qvf ks Hp.empty fun b _=>qno b;refine⟨by show(ks.foldl _ Hp.empty).nx=_;rw[h1];exact Nat.zero_add _,fun b=>?_⟩;show(ks.foldl _ Hp.empty).get b=_;rw[h2,if_neg (show ¬b<Hp.empty.nx from Nat.not_lt_zero b)];rfl
def aKN(w:World)(ι:Im)(k:Ro):Prop:=∀ j (hj:j<k.l.length),∃V,w.cell? ⟨k.b,k.o+j,none⟩=some V/\aP ι k.l[j] V/\V.oneCell=true
theorem zz5{w:World}{ks:List Ro}(h:∀ k∈ks,aKN w (aAA ks) k):HR (aAA ks) (qsy ks) w/\∀ b,((qsy ks).get b).wr=false:=by
 have hw:∀ b,((qsy ks).get b).wr=false:=fun b=>by
  rw[(qc8 ks).2];split
  ·unfold Ro.blk;split<;>rfl
  ·rfl
 refine⟨⟨nR,fun b _=>?_,fun b m _ hd hm=>?_,fun b c m m' _ _ h=>?_,fun b h=>?_,fun b h _=>?_⟩,hw⟩
 ·rw[(qc8 ks).2];by_cases hb:b<ks.length
  ·rw[List.getElem?_eq_getElem hb];show BR _ _ _ ks[b].blk;unfold Ro.blk;by_cases he:ks[b].l=[]
   ·rw[if_pos he];trivial
   rw[if_neg he];refine⟨⟨ks[b].b,ks[b].o,0,0⟩,by unfold aAA;rw[List.getElem?_eq_getElem hb];rfl,⟨qbx _,rfl⟩,fun i hi=>?_,fun h=>by cases h⟩;obtain⟨V,h1,h2,h3⟩:=h _ (List.getElem_mem hb) i hi;refine⟨V,h1,?_,h3,fun h=>by cases h⟩;rw[qcl _ _ (Nat.lt_of_lt_of_le hi (qbx _))];simpa [hi] using h2
  ·rw[List.getElem?_eq_none (by omega)];trivial
 ·unfold aAA at hm;by_cases hb:b<ks.length
  ·rw[(qc8 ks).2,List.getElem?_eq_getElem hb]at hd;rw[List.getElem?_eq_getElem hb]at hm;cases hm;have he:ks[b].l≠[]:=fun he=>by
    have:ks[b].blk=.dead:=by unfold Ro.blk;rw[if_pos he]
    simp only[this]at hd;cases hd
   obtain⟨V,h1,_⟩:=h _ (List.getElem_mem hb) 0 (List.length_pos_iff.2 he);exact(qjp h1).2
  ·rw[List.getElem?_eq_none (by omega)]at hm;cases hm
 ·rw[hw b]at h;cases h
 ·rw[(qc8 ks).1]at h;unfold aAA;rw[List.getElem?_eq_none h];rfl
 ·rw[(qc8 ks).1]at h;rw[(qc8 ks).2,List.getElem?_eq_none h]
theorem q3i{ks:List Ro}{k:Nat}{r:Ro}(h:ks[k]? =some r)(he:r.l≠[]):(qsy ks).get k=zlq r.l/\k<(qsy ks).nx:=by rw[(qc8 ks).2,(qc8 ks).1,h];exact⟨if_neg he,(List.getElem?_eq_some_iff.1 h).1⟩
theorem flat_get{α:Type}{z:Nat}{f:α->List AV}(hf:∀ x,(f x).length=z)(l:List α){i j:Nat}(hi:i<l.length)(hj:j<z):(l.flatMap f)[i*z+j]? =(f l[i])[j]?:=by rw[<-qhh hf l i hi,List.getElem?_take,if_pos hj,List.getElem?_drop]
theorem qts{α:Type}{z:Nat}{f:α->List AV}(hf:∀ x,(f x).length=z):∀ l:List α,(l.flatMap f).length=l.length*z
 | []=>by simp
 |a::l=>by rw[List.flatMap_cons,List.length_append,qts hf l,hf,List.length_cons,Nat.add_mul];omega
structure Fl{α:Type}(w:World)(z:Nat)(f:α->List AV)(v:Value)(k:Nat)(y:AV)(l:List α)(r:Ro):Prop where
 one:v.oneCell=true
 rep:∀ ι:Im,ι k=some ⟨r.b,r.o,0,0⟩->aP ι y v
 eq:r.l=l.flatMap f
 ok:∀ ι,aKN w ι r
 sl:((y=.aA\/y=.sle)/\l=[])\/∃ m,y=.sl k 0 l.length m true
theorem Fl.rs{α:Type}{w:World}{z:Nat}{f:α->List AV}{v:Value}{k:Nat}{y:AV}{l:List α}{r:Ro}(hf:∀ x,(f x).length=z)(hz:0<z)(h:Fl w z f v k y l r){ks:List Ro}(hk:ks[k]? =some r):Rs z f (qsy ks) y l:=by
 rcases h.sl with⟨rfl|rfl,rfl⟩|⟨m,rfl⟩
 ·exact⟨rfl,fun i hi=>by simp at hi⟩
 ·exact⟨rfl,fun i hi=>by simp at hi⟩
 ·refine⟨rfl,fun i hi=>?_⟩;have hl:=qts hf l;have hm:i*z+z<=l.length*z:=by
   have:(i+1)*z<=l.length*z:=Nat.mul_le_mul_right z hi;rw[Nat.add_mul,Nat.one_mul]at this;exact this
  obtain⟨hg,hx⟩:=q3i hk (by rw[h.eq];intro h0;rw[h0]at hl;simp only[List.length_nil]at hl;omega);rw[h.eq]at hg;refine⟨k,0+i*z,sP _ _ _ _ _ _ _ _ hi,hx,⟨_,_,_,_,rfl⟩,?_,fun j hj=>?_⟩
  ·rw[hg,Nat.zero_add,zd2 _ _ _ (by omega),qhh hf l i hi]
  ·rw[hg,Nat.zero_add,qvk,flat_get hf l hi (by rw[hf]at hj;exact hj),List.getElem?_eq_getElem hj]
theorem zvb{α:Type}{z:Nat}{f:α->List AV}(hf:∀ x,(f x).length=z)(hz:0<z){Hd:Type}{enc:TypeId×Value->Hd}{P:Program}{w:World}{fuel:Nat}{t e:TypeId}{cs:List Value}{x:DataW Hd×List MemPlace}(ht:P.underlying t=some (.slice e))(hce:P.cellsOf e=z)(el:∀{n:Nat} {cs:List Value} {x:DataW Hd×List MemPlace},DataW.trod enc P w 0 (fun _=>true) true n e cs=some x->∃ a:α,∀j,j<z->∃ u V,(f a)[j]? =some u/\cs[j]? =some V/\(∀ι:Im,aP ι u V)/\V.oneCell=true)(h:DataW.trod enc P w 0 (fun _=>true) true fuel t cs=some x)(k:Nat):∃ v y l r,cs=[v]/\Fl w z f v k y l r:=by
 rcases DataW.trod_slice ht h with⟨h0,_⟩|⟨a,len,cap,elems,rest,n,_,hcs,_,_,hl,_,hlen,hel,_⟩
 ·exact⟨_,.aA,[],⟨[],0,0⟩,h0,rfl,fun _ _=>by simp only[aP],rfl,fun _ j hj=>by simp at hj,.inl ⟨.inl rfl,rfl⟩⟩
 ·rcases Nat.eq_zero_or_pos len with h0|h0
  ·subst h0;exact⟨_,.sle,[],⟨[],0,0⟩,hcs,rfl,fun _ _=>by simp only[aP];exact⟨_,_,rfl⟩,rfl,fun _ j hj=>by simp at hj,.inl ⟨.inr rfl,rfl⟩⟩
  ·have cell:∀ i,i<len->∃ b:α,∀j,j<z->∃ u V,(f b)[j]? =some u/\w.cell? (a.add (i*z+j))=some V/\(∀ι:Im,aP ι u V)/\V.oneCell=true:=by
    intro i hi;have h1:=hel i hi;rw[List.getElem?_eq_getElem (by omega),hce,Option.bind_eq_some_iff]at h1;obtain⟨cs',h2,h3⟩:=h1;obtain⟨b,hb⟩:=el h3;refine⟨b,fun j hj=>?_⟩;obtain⟨u,V,h5,h6,h7⟩:=hb j hj;have h8:=(World.cells?_some h2).2.2 j hj;rw[add_add,h6]at h8;exact⟨u,V,h5,h8,h7⟩
   have hspot:a.spot=none:=by obtain⟨b,hb⟩:=cell 0 h0;obtain⟨u,V,_,h6,_⟩:=hb 0 hz;rw[Nat.zero_mul]at h6;exact(qjp (a:=a) h6).1
   obtain⟨g,hg⟩:∃ g:Nat->α,∀i,i<len->∀ j,j<z->∃ u V,(f (g i))[j]? =some u/\w.cell? (a.add (i*z+j))=some V/\(∀ι:Im,aP ι u V)/\V.oneCell=true:=
    ⟨fun i=>if h:i<len then Classical.choose (cell i h)else Classical.choose (cell 0 h0),fun i hi=>by simp only[hi,dif_pos];exact Classical.choose_spec (cell i hi)⟩
   refine⟨_,.sl k 0 len cap true,(List.range len).map g,⟨((List.range len).map g).flatMap f,a.block,a.off⟩,hcs,rfl,fun ι hι=>?_,rfl,fun ι J hJ=>?_,.inr ⟨cap,by simp⟩⟩
   ·simp only[aP];refine⟨hl,_,hι,?_⟩;obtain⟨ab,ao,az⟩:=a;cases hspot;rfl
   ·have hJ':J<len*z:=by
     have:=qts hf ((List.range len).map g);simp only at hJ;rw[this]at hJ;simpa using hJ
    have hi:J / z<len:=Nat.div_lt_of_lt_mul (by rw[Nat.mul_comm];exact hJ');have hj:=Nat.mod_lt J hz;have e:J / z*z+J%z=J:=by rw[Nat.mul_comm];exact Nat.div_add_mod J z
    obtain⟨u,V,h5,h6,h7,h8⟩:=hg _ hi _ hj;have h9:=flat_get hf ((List.range len).map g) (i:=J / z) (j:=J%z) (by simpa using hi) hj;rw[e]at h9 h6;rw[q45 hspot]at h6;refine⟨V,h6,?_,h8⟩;have:(((List.range len).map g).flatMap f)[J]? =some u:=by rw[h9,<-h5];simp
    rw[List.getElem?_eq_getElem hJ]at this;injection this with this;simp only[this];exact h7 ι
def fB(x:Fin 256):List AV:=[.int .u8 (.ofNat x.val)]
structure Nq where
 v:Value
 y:AV
 l:List (Fin 256)
 r:Ro
def Nq.L(q:Nq):List Nat:=q.l.map Fin.val
structure Ns(w:World)(v:Value)(k b0:Nat)(y:AV)(qs:List Nq)(r:Ro):Prop where
 one:v.oneCell=true
 rep:∀ ι:Im,ι k=some ⟨r.b,r.o,0,0⟩->aP ι y v
 eq:r.l=qs.map Nq.y
 at':∀ j (h:j<qs.length),w.cell? ⟨r.b,r.o+j,none⟩=some qs[j].v/\Fl w 1 fB qs[j].v (b0+j) qs[j].y qs[j].l qs[j].r
 sl:((y=.aA\/y=.sle)/\qs=[])\/∃ m,y=.sl k 0 qs.length m true
theorem zg3{Hd:Type}{enc:TypeId×Value->Hd}{P:Program}{w:World}{u:TypeId}(hu:P.underlying u=some (.int .u8)){n:Nat}{cs:List Value}{x:DataW Hd×List MemPlace}(h:DataW.trod enc P w 0 (fun _=>true) true n u cs=some x):∃a:Fin 256,cs=[.int .u8 (.ofNat a.val)]:=by obtain⟨y,h5,_,h6⟩:=DataW.trod_int hu h;simp only[Lit.wf,Bool.and_eq_true,decide_eq_true_eq]at h6;have h9:0<=y/\y<=255:=⟨h6.1,h6.2⟩;refine⟨⟨y.toNat,by omega⟩,?_⟩;rw[h5];congr 2;show y=((y.toNat:Nat):Int);omega
theorem aIR{Hd:Type}{enc:TypeId×Value->Hd}{P:Program}{w:World}{fuel:Nat}{t e u:TypeId}{cs:List Value}{x:DataW Hd×List MemPlace}(ht:P.underlying t=some (.slice e))(he:P.underlying e=some (.slice u))(hu:P.underlying u=some (.int .u8))(hce:P.cellsOf e=1)(hcu:P.cellsOf u=1)(h:DataW.trod enc P w 0 (fun _=>true) true fuel t cs=some x)(k b0:Nat):∃ v y qs r,cs=[v]/\Ns w v k b0 y qs r:=by
 rcases DataW.trod_slice ht h with⟨h0,_⟩|⟨a,len,cap,elems,rest,n,_,hcs,_,_,hl,_,hlen,hel,_⟩
 ·exact⟨_,.aA,[],⟨[],0,0⟩,h0,rfl,fun _ _=>by simp only[aP],rfl,fun j hj=>by simp at hj,.inl ⟨.inl rfl,rfl⟩⟩
 ·rcases Nat.eq_zero_or_pos len with h0|h0
  ·subst h0;exact⟨_,.sle,[],⟨[],0,0⟩,hcs,rfl,fun _ _=>by simp only[aP];exact⟨_,_,rfl⟩,rfl,fun j hj=>by simp at hj,.inl ⟨.inr rfl,rfl⟩⟩
  ·have cell:∀ i,i<len->∃ q:Nq,w.cell? (a.add i)=some q.v/\Fl w 1 fB q.v (b0+i) q.y q.l q.r:=by
    intro i hi;have h1:=hel i hi;rw[List.getElem?_eq_getElem (by omega),hce,Option.bind_eq_some_iff,Nat.mul_one]at h1;obtain⟨cs',h2,h3⟩:=h1;obtain⟨v,y,l,r,rfl,hF⟩:=zvb (z:=1) (f:=fB) (fun _=>rfl) Nat.one_pos he hcu (fun h=>by
     obtain⟨a,rfl⟩:=zg3 hu h;refine⟨a,fun j hj=>?_⟩;obtain rfl:j=0:=by omega
     exact⟨_,_,rfl,rfl,fun ι=>by simp only[aP],rfl⟩) h3 (b0+i)
    have h7:=(World.cells?_some h2).2.2 0 (by omega);rw[add_add]at h7;exact⟨⟨v,y,l,r⟩,h7,hF⟩
   have hspot:a.spot=none:=by obtain⟨q,hq,_⟩:=cell 0 h0;exact(qjp (a:=a) hq).1
   obtain⟨g,hg⟩:∃ g:Nat->Nq,∀i,i<len->w.cell? (a.add i)=some (g i).v/\Fl w 1 fB (g i).v (b0+i) (g i).y (g i).l (g i).r:=
    ⟨fun i=>if h:i<len then Classical.choose (cell i h)else Classical.choose (cell 0 h0),fun i hi=>by simp only[hi,dif_pos];exact Classical.choose_spec (cell i hi)⟩
   refine⟨_,.sl k 0 len cap true,(List.range len).map g,⟨((List.range len).map g).map Nq.y,a.block,a.off⟩,hcs,rfl,fun ι hι=>?_,rfl,fun j hj=>?_,.inr ⟨cap,by simp⟩⟩
   ·simp only[aP];refine⟨hl,_,hι,?_⟩;obtain⟨ab,ao,az⟩:=a;cases hspot;rfl
   ·have hj':j<len:=by simpa using hj
    have:=hg j hj';rw[q45 hspot]at this;simpa using this
theorem Ns.arg{w:World}{v:Value}{k b0:Nat}{y:AV}{qs:List Nq}{r:Ro}(h:Ns w v k b0 y qs r){ks:List Ro}(hk:ks[k]? =some r)(hq:∀ j (hj:j<qs.length),ks[b0+j]? =some qs[j].r):gH (qsy ks) y (qs.map Nq.L):=by
 refine⟨?_,⟨qs.map Nq.y,⟨?_,fun i hi=>?_⟩,by simp,fun i hi hi'=>?_⟩,fun l hl x hx=>?_⟩
 ·rcases h.sl with⟨rfl|rfl,_⟩|⟨m,rfl⟩<;>rfl
 ·rw[List.length_map];rcases h.sl with⟨rfl|rfl,rfl⟩|⟨m,rfl⟩<;>rfl
 ·have hi':i<qs.length:=by simpa using hi
  rcases h.sl with⟨_,rfl⟩|⟨m,rfl⟩
  ·simp at hi'
  ·obtain⟨hg,hx⟩:=q3i hk (by rw[h.eq];intro h0;rw[List.map_eq_nil_iff]at h0;rw[h0]at hi';simp at hi');refine⟨k,0+i*1,sP _ _ _ _ _ _ _ _ hi',hx,?_⟩;rw[hg,qvk,h.eq,Nat.zero_add,Nat.mul_one,List.getElem?_eq_getElem hi]
 ·have hj:i<qs.length:=by simpa using hi
  have hR:=(h.at' i hj).2.rs (z:=1) (f:=fB) (fun _=>rfl) Nat.one_pos (hq i hj);have e1:(qs.map Nq.y)[i]=qs[i].y:=by simp
  have e2:vV ((qs.map Nq.L)[i])=qs[i].l.map fun x=>.int .u8 (.ofNat x.val):=by simp[vV,Nq.L]
  rw[e1,e2];refine⟨by rw[hR.len,List.length_map],fun j hj=>?_⟩;obtain⟨b,o,h1,h2,_,_,h5⟩:=hR.at' j (by simpa using hj);have h6:=h5 0 Nat.one_pos;exact⟨b,o,h1,h2,by rw[List.getElem_map];exact h6⟩
 ·obtain⟨q,_,rfl⟩:=List.mem_map.1 hl;obtain⟨a,_,rfl⟩:=List.mem_map.1 hx;exact a.isLt
theorem zza{Hd:Type}{enc:TypeId×Value->Hd}{P:Program}{w:World}{n1 n2 n3:Nat}{t1 e u t2 e2 t3 e3:TypeId}{c1 c2 c3:List Value}{x1 x2 x3:DataW Hd×List MemPlace}(ht:P.underlying t1=some (.slice e))(he:P.underlying e=some (.slice u))(hu:P.underlying u=some (.int .u8))(hce:P.cellsOf e=1)(hcu:P.cellsOf u=1)(ht2:P.underlying t2=some (.slice e2))(hc2:P.cellsOf e2=4)(el2:∀{n:Nat} {cs:List Value} {x:DataW Hd×List MemPlace},DataW.trod enc P w 0 (fun _=>true) true n e2 cs=some x->∃ a:Q4,∀j,j<4->∃ u V,a.cells[j]? =some u/\cs[j]? =some V/\(∀ι:Im,aP ι u V)/\V.oneCell=true)(ht3:P.underlying t3=some (.slice e3))(hc3:P.cellsOf e3=6)(el3:∀{n:Nat} {cs:List Value} {x:DataW Hd×List MemPlace},DataW.trod enc P w 0 (fun _=>true) true n e3 cs=some x->∃ a:Tu,∀j,j<6->∃ u V,a.cells[j]? =some u/\cs[j]? =some V/\(∀ι:Im,aP ι u V)/\V.oneCell=true)(h1:DataW.trod enc P w 0 (fun _=>true) true n1 t1 c1=some x1)(h2:DataW.trod enc P w 0 (fun _=>true) true n2 t2 c2=some x2)(h3:DataW.trod enc P w 0 (fun _=>true) true n3 t3 c3=some x3):∃ι H v1 v2 v3 y1 y2 y3,∃(L:List (List Nat)) (ls:List Q4) (l:List Tu),c1=[v1]/\c2=[v2]/\c3=[v3]/\v1.oneCell=true/\v2.oneCell=true/\v3.oneCell=true/\HR ι H w/\aP ι y1 v1/\aP ι y2 v2/\aP ι y3 v3 /\ gH H y1 L/\Rs 4 Q4.cells H y2 ls/\Rs 6 Tu.cells H y3 l/\∀ b,(H.get b).wr=false:=by
 obtain⟨v1,y1,qs,r1,rfl,i1⟩:=aIR ht he hu hce hcu h1 0 3;obtain⟨v2,y2,ls,r2,rfl,i2⟩:=zvb (f:=Q4.cells) (fun _=>rfl) (by decide) ht2 hc2 el2 h2 1;obtain⟨v3,y3,l,r3,rfl,i3⟩:=zvb (f:=Tu.cells) (fun _=>rfl) (by decide) ht3 hc3 el3 h3 2;have hq:∀ j (hj:j<qs.length),([r1,r2,r3]++qs.map Nq.r)[3+j]? =some qs[j].r:=fun j hj=>by rw[List.getElem?_append_right (by simp),List.getElem?_map,show 3+j-[r1,r2,r3].length=j by simp,List.getElem?_eq_getElem hj];rfl
 obtain⟨hHR,hwr⟩:=zz5 (w:=w) (ks:=[r1,r2,r3]++qs.map Nq.r) (fun k hk=>by
  rw[List.mem_append,List.mem_map]at hk;rcases hk with hk|⟨q,hq',rfl⟩
  ·simp only[List.mem_cons,List.not_mem_nil,or_false]at hk;rcases hk with rfl|rfl|rfl
   ·intro j hj;have hj':j<qs.length:=by have:=hj;rw[i1.eq]at this;simpa using this
    obtain⟨h1,h2⟩:=i1.at' j hj';refine⟨_,h1,?_,h2.one⟩;have:k.l[j]=qs[j].y:=by simp only[i1.eq,List.getElem_map]
    rw[this];refine h2.rep _ ?_;show(([k,r2,r3]++qs.map Nq.r)[3+j]?).map _=_;rw[hq j hj'];rfl
   ·exact i2.ok _
   ·exact i3.ok _
  ·obtain⟨j,hj,rfl⟩:=List.getElem_of_mem hq';exact(i1.at' j hj).2.ok _)
 exact⟨_,_,v1,v2,v3,y1,y2,y3,_,ls,l,rfl,rfl,rfl,i1.one,i2.one,i3.one,hHR,i1.rep _ rfl,i2.rep _ rfl,i3.rep _ rfl,i1.arg rfl hq,i2.rs (z:=4) (f:=Q4.cells) (fun _=>rfl) (by decide) rfl,i3.rs (z:=6) (f:=Tu.cells) (fun _=>rfl) (by decide) rfl,hwr⟩
end Go.Di
end
