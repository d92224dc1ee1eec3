/-
 For countersign/countersignlaw20.FitsAll: functions in direct style, their contracts, and the plain mathematics, part 7 of 10. No conditions beyond those that each theorem states.
-/
import Derived.Test.YtbfjjkjiokfdgaaGreatConF
import Derived.Test.YtbfjjkjiokfdgaaGreatConD
import Derived.Test.YtbfjjkjiokfdgaaGreatConE
set_option linter.unusedSimpArgs false
set_option linter.unusedVariables false
open Nat renaming reduceAdd->rB,reduceMul->rI,reduceSub->rK,reduceLeDiff->rL,reduceEqDiff->rN,reduceShiftRight->rS,reduceAnd->r6
noncomputable section
namespace Go.Di
open Go.Ev Go.Di.T
variable {C:Nat->Ev.Call} {LA LO:LP}
def jB(es:List Edge)(u:Nat):List Nat:=(es.filter fun e=>decide (e.f=u)).map Edge.t
theorem zce(es:List Edge)(e:Edge)(u:Nat):jB (es++[e]) u=if e.f=u then jB es u++[e.t]else jB es u:=by
 unfold jB;by_cases h:e.f=u
 ·simp[h]
 ·simp[h]
theorem q0g(es:List Edge)(u:Nat):(jB es u).length<=es.length:=by unfold jB;rw[qc];exact yt _ _
theorem qea{es:List Edge}{u k:Nat}:k∈jB es u↔∃ e∈es,e.f=u/\e.t=k:=by unfold jB;simp only[qp,uy,xq];exact⟨fun⟨e,⟨h1,h2⟩,h3⟩=>⟨e,h1,h2,h3⟩,fun⟨e,h1,h2,h3⟩=>⟨e,⟨h1,h2⟩,h3⟩⟩
def s00:TS:=⟨fun _=>0,fun _=>0,fun _=>false,[],0,[]⟩
theorem TB0:aB 0 (List.replicate 256 (.aA)++List.replicate 512 (.int .i64 (.ofNat 0))++List.replicate 256 (.bool false)++[.aA]++[.int .i64 (.ofNat 0)]++[.aA])=TB (fun _=>.aA) s00 .aA .aA:=by
 refine congrArg (aB 0) ?_
 kernel_rfl
theorem qo0{O:Ev.Call}{es:List Edge}(hlen:es.length<200000){v:AV}{tb:Nat}{H0:Hp}(hv:kP H0 v es)(hE:∀ e∈es,e.f<256/\e.t<256){Q:pL}{q:pH}(hq:∀ H nx col,TMd H0 (jB es) s00 col tb H nx .aA .aA []->Ok (q H) Q):∀(k i:Nat) (H:Hp) (nx:Nat->AV) (col:Nat->Nat),es.length-i<k->i<=es.length->TMd H0 (jB (es.take i)) s00 col tb H nx .aA .aA [] -> Ok (qud O q (.ptr tb 0) v (.int .i64 (.ofNat es.length)) k (.int .i64 (.ofNat i)) H) Q
 |0,i,H,nx,col,h,_,_=>by omega
 |k+1,i,H,nx,col,h,hi,hM=>by
  show Ok (q2v O _ _ _ _ (qud O _ _ _ _ k) _ H) Q;unfold q2v;by_cases hil:i<es.length
  ·simp only[go_sem,qj,qf,hil];unfold zfm;obtain⟨b,o,e1,e2,e3⟩:=(hv.fm hM.fm).at hil;obtain⟨hf,ht⟩:=hE es[i] (lu _);obtain⟨n1,n2⟩:=hM.zD es[i].f hf;have g1:=hM.get;have hlt:=hM.lt;have hal:=q0g (es.take i) es[i].f;have bYI:(es.take i).length<=es.length:=by rw[qo];omega
   simp(disch:=first|omega|exact ti rfl)only[go_sem,seval,qj,qf,e1,e3,Edge.cells,g1,pg,uo];have fH:Fm No H (Hp.put ⟨((aO H (aB 0 [.int .i64 (.ofNat 0),.int .i64 (.ofNat 0),.bool false])).put H.nx (aB 0 [.int .i64 (.ofNat es[i].f),.int .i64 (.ofNat es[i].t),.bool es[i].s])).t,H.nx+1+14⟩ (H.nx+1+9) (aB 0 [.int .i64 (.ofNat es[i].t)])):=by(repeat(first|exact Fm.refl _ _|assumption|refine Fm.push ?_ _|refine Fm.lF ?_ (by go_size)|refine Fm.aF ?_ _ _ (by go_size)))
   obtain⟨H',e,gl',_,fm',nx'⟩:=(n1.no fH).append (k:=1) (w:=8) (x:=[.int .i64 (.ofNat es[i].t)]) (by omega) rfl (by omega) (by omega);refine Ok.deE e ?_;have nx2:H'.nx=H.nx+1+14+1:=nx';have htb:¬ In (nx es[i].f) tb:=fun hb=>by have:=n2 tb hb;rw[hM.ct]at this;omega
   have hnew:∀ c,In (nx es[i].f) c->c<H.nx:=fun c hc=>n1.lt hc;have k1:H'.get tb=TB nx s00 .aA .aA:=(fm'.get tb (by omega) htb).trans ((fH.keep hlt).trans g1);have fE:Fm (In (nx es[i].f)) H H':=(fH.mono fun _ _ h=>h.elim).trans fm';have k2:H'.get H.nx=aB 0 [.int .i64 (.ofNat es[i].f),.int .i64 (.ofNat es[i].t),.bool es[i].s]:=by rw[fm'.get H.nx (by omega) fun hb=>xn _ (hnew _ hb),dG _ _ _ _ (by omega),zln,dS]
   simp only[go_sem,seval,qj,qf,k1,k2];unfold zfo;simp(disch:=go_size)only[go_sem,rB,rI,rK,rL,rN,rS,r6,qj,qf];have ht':es.take (i+1)=es.take i++[es[i]]:=ku hil;refine qo0 hlen hv hE hq k (i+1) _ (upd nx es[i].f (.sl (H.nx+1+14) 0 ((jB (es.take i) es[i].f).length+1) ((jB (es.take i) es[i].f).length+1) false)) (qss col H (10+es[i].f)) (by omega) (by omega) ?_;have f3:Fm (fun c=>c=tb\/In (nx es[i].f) c) H (H'.put tb (TB (upd nx es[i].f (.sl (H.nx+1+14) 0 ((jB (es.take i) es[i].f).length+1) ((jB (es.take i) es[i].f).length+1) false)) s00 .aA .aA)):=(fE.mono fun _ _ h=>Or.inr h).put _ _ fun _=>Or.inl rfl;exact{
    fm:=hM.fm.then f3 fun c hc h=>by
     rcases h with h|h
     ·have:=hM.ge;omega
     ·have:=n2 c h;rw[hM.base c hc]at this;omega
    base:=fun c hc=>(qb2 (lL hc hM.fm.nx)).trans (hM.base c hc)
    ge:=hM.ge
    lt:=lL hlt f3.nx
    ct:=(qb2 hlt).trans hM.ct
    get:=dS _ _ _
    zD:=fun u hu=>by
     rw[ht',zce];by_cases hef:es[i].f=u
     ·subst hef;rw[pz rfl,upd_same];refine⟨?_,?_⟩
      ·have e9:aK (jB (es.take i) es[i].f++[es[i].t])=aK (jB (es.take i) es[i].f)++[.int .i64 (.ofNat es[i].t)]:=by simp[aK]
       rw[e9,lq];refine gl'.keep (lg _) fun c hc _=>dG _ _ _ _ ?_;obtain⟨_,_,_,_,g⟩:=hc;cases g;omega
      ·rintro c ⟨_,_,_,_,g⟩;cases g;exact qhb (by show H.nx<=H.nx+1+14;omega)
     ·rw[kz hef,upd_ne _ _ fun e=>hef e.symm];obtain⟨m1,m2⟩:=hM.zD u hu;refine⟨m1.fm f3 fun c hc h=>?_,fun c hc=>(qb2 (m1.lt hc)).trans (m2 c hc)⟩;rcases h with h|h
      ·have:=m2 c hc;rw[h,hM.ct]at this;omega
      ·have h1:=m2 c hc;have h2:=n2 c h;omega
    stk:=Gs.nil _ _
    wD:=fun c hc=>by obtain⟨_,_,_,_,g⟩:=hc;cases g
    out:=Gl.nil _ _
    ouc:=fun c hc=>by obtain⟨_,_,_,_,g⟩:=hc;cases g
    css:=⟨rfl,fun i c o h=>by cases h⟩}
  ·simp only[go_sem,qj,qf,hil];have:i=es.length:=by omega
   subst this;rw[uj]at hM;exact hq H nx col hM
structure qdi(N:Nat)(aQ:Nat->List Nat)(out:List (List Nat)):Prop where
 scc:∀ c∈out,c.Pairwise (· < ·)/\∃ r∈c,∀x,x∈c↔Rc aQ r x/\Rc aQ x r
 nd:out.flatten.Nodup
 all:∀ x,x∈out.flatten↔x<N
structure nR(H0 H:Hp)(v:AV)(cs:List AV)(out:List (List Nat)):Prop where
 gl:Gl 1 H v cs.length cs
 len:cs.length=out.length
 new:∀ b,In v b->H0.nx<=b
 at':∀(i:Nat) (c:AV) (o:List Nat),cs[i]? =some c->out[i]? =some o->(∃b q n m e,c=.sl b q n m e)/\Gl 1 H c o.length (aK o)/\∀ b,In c b->H0.nx<=b/\¬ In v b
theorem qie(hC:aW C)(hO:pV C)(hS:oO C)(hR:oP LA LO C){j:Nat}(hj:301<=j){H0:Hp}{N:Nat}{aQ:Nat->List Nat}(hA:q6c N aQ){tb:Nat}{q:pH}{Q:pL}(hq:∀ H s col,TM H0 aQ s col tb H->TI N aQ s []->(∀x,x<N->0<s.num x)->Ok (q H) Q):∀(k i:Nat) (H:Hp) (s:TS) (col:Nat->Nat),N-i<k->i<=N->TM H0 aQ s col tb H->TI N aQ s []->(∀x,x<i->0<s.num x) -> Ok (q6t (C j) q (.ptr tb 0) (.int .i64 (.ofNat N)) k (.int .i64 (.ofNat i)) H) Q
 |0,i,H,s,col,h,_,_,_,_=>by omega
 |k+1,i,H,s,col,h,hi,hM,hT,hx=>by
  show Ok (zfq (C j) _ _ _ (q6t (C j) _ _ _ k) _ H) Q;unfold zfq;have hN:=hA.le;by_cases hil:i<N
  ·simp only[go_sem,qj,qf,hil];unfold zfp;have g1:∃ nx sv ov,H.get tb=TB nx s sv ov:=by obtain⟨nx,sv,ov,cs,h⟩:=hM;exact⟨nx,sv,ov,h.get⟩
   obtain⟨nx,sv,ov,g1⟩:=g1;by_cases h0:s.num i=0
   ·simp(disch:=omega)only[go_sem,seval,qj,qf,g1,h0];refine Ok.ve (zri hC hO hS hR hj hA hM hT hil h0) ?_;rintro r H' ⟨rfl,s',col',t',i',hle,hp⟩;unfold que;simp(disch:=go_size)only[go_sem,rB,rI,rK,rL,rN,rS,r6,qj,qf];exact qie hC hO hS hR hj hA hq k (i+1) H' s' col' (by omega) (by omega) t' i' fun x hx'=>by
     by_cases e:x=i
     ·simp_all
     ·exact hle.1 x (hx x (by omega))
   ·simp(disch:=go_size)only[go_sem,rB,rI,rK,rL,rN,rS,r6,qj,qf,g1,h0];unfold que;simp(disch:=go_size)only[go_sem,rB,rI,rK,rL,rN,rS,r6,qj,qf];exact qie hC hO hS hR hj hA hq k (i+1) H s col (by omega) (by omega) hM hT fun x hx'=>by
     by_cases e:x=i
     ·rw[e];omega
     ·exact hx x (by omega)
  ·simp only[go_sem,qj,qf,hil];have:i=N:=by omega
   subst this;exact hq H s col hM hT hx
theorem TI.parts{N:Nat}{aQ:Nat->List Nat}{s:TS}(h:TI N aQ s [])(ha:∀ x,x<N->0<s.num x):qdi N aQ s.out:=by refine⟨h.pJ,h.o8,fun x=>⟨fun hx=>(h.lX x hx).2.2,fun hx=>?_⟩⟩;have:=h.vis x (ha x hx);rw[h.empty]at this;simp_all
theorem zsk(hC:aW C)(hO:pV C)(hS:oO C)(hR:oP LA LO C){k:Nat}(hk:302<=k){n:Nat}{es:List Edge}(hn:n<=256)(hlen:es.length<200000)(hE:∀ e∈es,e.f<n/\e.t<n){v:AV}{H:Hp}(hv:kP H v es):Ok (C k (.f 119) [.agg [.int .i64 (.ofNat n),v]] H) fun r H'=>∃ cs out,qdi n (jB es) out/\nR H H' r cs out/\Fm No H H':=by
 obtain⟨j,rfl⟩:=aS hk;rw[(hC j).zCe];unfold zCe zzd;have hvl:=hv.len;simp(disch:=first|go_size|omega)only[go_sem,rB,rI,rK,rL,rN,rS,r6,qj,qf,hvl,TB0];unfold zfr;rw[dB];generalize hH1:aO H (aB 0 [.int .i64 (.ofNat n),v])=H1;have n1:H1.nx=H.nx+1:=by rw[<-hH1];rfl
 have f1:Fm No H H1:=by rw[<-hH1];exact(Fm.refl _ _).push _
 have g1:H1.get H.nx=aB 0 [.int .i64 (.ofNat n),v]:=by rw[<-hH1,lC]
 have hM0:TMd H1 (jB (es.take 0)) s00 (fun b=>if b<H1.nx then 9 else 0) (H.nx+1) (aO H1 (TB (fun _=>.aA) s00 .aA .aA)) (fun _=>.aA) .aA .aA []:={
  fm:=(Fm.refl _ _).push _
  base:=fun b hb=>pz hb
  ge:=by omega
  lt:=by rw[np];omega
  ct:=kz (by omega)
  get:=by rw[<-n1];exact lC _ _
  zD:=fun u _=>⟨Gl.nil _ _,fun c hc=>by obtain⟨_,_,_,_,g⟩:=hc;cases g⟩
  stk:=Gs.nil _ _
  wD:=fun c hc=>by obtain⟨_,_,_,_,g⟩:=hc;cases g
  out:=Gl.nil _ _
  ouc:=fun c hc=>by obtain⟨_,_,_,_,g⟩:=hc;cases g
  css:=⟨rfl,fun i c o h=>by cases h⟩}
 have hA:q6c n (jB es):=⟨hn,fun u k hk=>by obtain⟨e,he,_,rfl⟩:=qea.1 hk;exact(hE e he).2,fun u=>lAS (q0g es u) hlen⟩;refine qo0 hlen (hv.fm f1) (fun e he=>⟨lL (hE e he).1 hn,lL (hE e he).2 hn⟩) (fun H2 nx col hM=>?_) bX 0 _ _ _ (by rw[dI];omega) (gq _) hM0;unfold q2u;have g2:H2.get H.nx=aB 0 [.int .i64 (.ofNat n),v]:=(hM.fm.keep (by omega)).trans g1;simp only[go_sem,qj,qf,g2];unfold zvs;rw[dB];refine qie hC hO hS hR (j:=j) (by omega) hA (fun H3 s bDC hM3 hT3 hx=>?_) bX 0 H2 s00 col (by rw[dI];omega) (gq _) ⟨_,_,_,_,hM⟩ (TI.init _ _) fun x hx=>absurd hx (ig _);unfold zfn;obtain⟨nx3,sv,ov,cs,h3⟩:=hM3;have g3:=h3.get;simp only[go_sem,qj,qf,g3];have hnew:∀{b c:Nat},c≠9->bDC b=c->H.nx<=b:=fun{b c} hc h=>by
  rcases yf b H1.nx with hb|hb
  ·have:=h3.base b hb;omega
  ·omega
 refine Ok.ret ⟨cs,s.out,TI.parts hT3 hx,⟨h3.out,h3.css.len,fun b hb=>hnew (c:=4) (by omega) (h3.ouc b hb),fun i c o h1 h2=>?_⟩,f1.trans h3.fm⟩;obtain⟨a1,a2,a3⟩:=h3.css.at' i c o h1 h2;exact⟨a1,a2,fun b hb=>⟨hnew (c:=5) (by omega) (a3 b hb),fun hb2=>by have h1:=a3 b hb;rw[h3.ouc b hb2]at h1;cases h1⟩⟩
end Go.Di
end
noncomputable section
namespace Go.Di
open Go.Ev Go.Di.T Go.Sort
variable {C:Nat->Ev.Call} {LA LO:LP}
variable {H H' H0:Hp} {S:Nat->Prop} {aQ:Nat->List Nat} {b i j k m n o:Nat} {cs l:List AV} {ins:List Nat}
structure Cv where
 b:Nat
 q:Nat
 n:Nat
 m:Nat
 e:Bool
 o:List Nat
def Cv.v(c:Cv):AV:=.sl c.b c.q c.n c.m c.e
theorem Cv.ex:∀(cs:List AV) (out:List (List Nat)),cs.length=out.length->(∀(i:Nat) (c:AV) (o:List Nat),cs[i]? =some c->out[i]? =some o->∃ b q n m e,c=.sl b q n m e)->∃ env:List Cv,env.map Cv.v=cs/\env.map Cv.o=out
 | [],[],_,_=>⟨[],rfl,rfl⟩
 | [],_::_,h,_=>by simp at h
 |_::_,[],h,_=>by simp at h
 |c::cs,o::out,h,hp=>by obtain⟨env,h1,h2⟩:=Cv.ex cs out (by simpa using h) fun i c o g1 g2=>hp (i+1) c o (by simpa using g1) (by simpa using g2);obtain⟨b,q,n,m,e,rfl⟩:=hp 0 c o rfl rfl;exact⟨⟨b,q,n,m,e,o⟩::env,by simp[h1,Cv.v],by simp[h2]⟩
def hdI(l:List Nat):Int:=.ofNat (l.headD 0)
theorem qzn{H:Hp}:∀{l:List AV} {zs:List Int},l.length=zs.length->(∀i (h:i<l.length) (h':i<zs.length),headA H l[i]=some zs[i])->qpi H l=some zs
 | [],[],_,_=>rfl
 | [],_::_,h,_=>by simp at h
 |_::_,[],h,_=>by simp at h
 |v::l,z::zs,h,k=>by unfold qpi;have h1:headA H v=some z:=k 0 (by simp) (by simp);rw[h1,qzn (l:=l) (zs:=zs) (by simpa using h) fun i h h'=>k (i+1) (by simpa using h) (by simpa using h')]
theorem ztc{x:Bool}{z:Int}(hn:0<n)(h:dK (H.get b) o=.val (.int .i64 z)):headA H (.sl b o n m x)=some z:=by unfold headA;simp only[blt_eq,gp hn,qy,h]
theorem q4n(zs:List Int)(h:0<zs.length):(cB zs h).toList.Perm (List.finRange zs.length)/\(cB zs h).toList.Pairwise (fun i j=>zs[i]<=zs[j]):=by
 letI:Inhabited (Fin zs.length):=⟨⟨0,h⟩⟩
 have hO:SWO (aAa zs):={
  irrefl:=fun x=>by unfold aAa;simp
  trans:=fun x y z=>by unfold aAa;simp only[xq];omega
  ntrans:=fun x y z=>by unfold aAa;simp only[xm];omega}
 obtain⟨⟨h1,_,h3⟩,h4⟩:=pdq_sorts (aAa zs) hO (Array.finRange zs.length) 0 (Array.finRange zs.length).size (Go.Lib.bitLen (Array.finRange zs.length).size) true true (gq _) (lg _) (Or.inl rfl);change (cB zs h).size=_ at h1;change ((cB zs h).extract _ _).toList.Perm _ at h3;change SortedIn _ _ _ (cB zs h)at h4;refine⟨?_,?_⟩
 ·rw[show(cB zs h).extract 0 (Array.finRange zs.length).size=cB zs h by rw[<-h1];exact Array.extract_size,show(Array.finRange zs.length).extract 0 (Array.finRange zs.length).size=Array.finRange zs.length from Array.extract_size]at h3;have he:(Array.finRange zs.length).toList=List.finRange zs.length:=Array.toList_ofFn;rwa [he]at h3
 ·rw[uw];intro i j hi hj hij;have hi':i<(cB zs h).size:=by simpa using hi
  have hj':j<(cB zs h).size:=by simpa using hj
  have:=h4 i j (gq _) hij (by omega);rw[getElem!_pos _ i hi',getElem!_pos _ j hj']at this;unfold aAa at this;simp_all
theorem zul(hS:oO C){v:AV}{out:List (List Nat)}(hL:nR H0 H v cs out)(hn:cs.length<900000)(h1:1<=cs.length)(hk:1<=k)(hne:∀ o∈out,o≠[]/\∀ x∈o,x<1000)(hnd:out.flatten.Nodup):Ok (C k (.f 147) [v,.fn 148 [] []] H) fun r H'=>r=.aX []/\∃ cs' out',out'.Perm out/\out'.Pairwise (fun a b=>a.headD 0<b.headD 0)/\nR H0 H' v cs' out'/\(∀c∈cs',c∈cs)/\Fm (In v) H H':=by
 obtain⟨k,rfl⟩:∃ j,k=j+1:=⟨k-1,by omega⟩;obtain⟨env,aCe,aGk⟩:=Cv.ex cs out hL.len fun i c o g1 g2=>(hL.at' i c o g1 g2).1;have hel:env.length=cs.length:=by rw[<-aCe,qc]
 have hgl:∀ c∈env,Gl 1 H c.v c.o.length (aK c.o)/\∀ b,In c.v b->H0.nx<=b/\¬ In v b:=fun c hc=>by obtain⟨i,hi,rfl⟩:=ay hc;exact(hL.at' i env[i].v env[i].o (by rw[<-aCe];simp[hi]) (by rw[<-aGk];simp[hi])).2
 have hno:∀ c∈env,c.o≠[]/\∀ x∈c.o,x<1000:=fun c hc=>hne c.o (by rw[<-aGk];exact qp.2 ⟨c,hc,rfl⟩);rcases hL.gl.is with⟨_,h0⟩|⟨b,o,e,q,L,rfl,g1,g2,g3,g4,g5⟩
 ·omega
 have hLl:L.length=o+cs.length:=by have:=congrArg List.length g3;rw[xg]at this;omega
 let zs:List Int:=env.map fun c=>hdI c.o
 have hzl:zs.length=env.length:=by simp[zs]
 have hpos:0<zs.length:=by omega
 have hzs:∀ i (h:i<zs.length),zs[i]=hdI (env[i]'(by omega)).o:=fun i h=>by simp[zs]
 have hOk:aGM zs:=⟨hpos,by omega,fun z hz=>by
  obtain⟨c,hc,rfl⟩:=qp.1 hz;obtain⟨x1,x2⟩:=hno c hc;unfold hdI;cases ho:c.o with
  |nil=>exact absurd ho x1
  |cons a l=>rw[ho]at x2;have:=x2 a ql;simp only[List.headD_cons,rq];omega⟩
 have hhd:qpi (H.put b .dead) cs=some zs:=qzn (by omega) fun i h h'=>by
  have hm:env[i]'(by omega)∈env:=lu _;obtain⟨k1,k2⟩:=hgl _ hm;obtain⟨x1,_⟩:=hno _ hm;have hci:cs[i]=(env[i]'(by omega)).v:=by simp[<-aCe]
  rw[hci,hzs i h'];generalize env[i]'(by omega)=c at k1 k2 x1;unfold hdI;cases ho:c.o with
  |nil=>exact absurd ho x1
  |cons a l=>
   rw[ho]at k1;obtain⟨b1,o1,e1,_,e2,e3⟩:=Gl.head k1;unfold Cv.v at e1 k2 ⊢;have hcn:c.n=l.length+1:=by
    have h2:=k1.cO;have h3:R0.val (.int .i64 (.ofNat c.n))=R0.val (.int .i64 (.ofNat (a::l).length)):=h2;have h4:(c.n:Int)=l.length+1:=by simpa using h3
    omega
   rw[sV _ _ _ _ _ _ _ _ (by omega)]at e1;obtain⟨rfl,rfl⟩:=e1;have hcb:c.b≠b:=fun e'=>(k2 c.b ⟨_,_,_,_,rfl⟩).2 ⟨_,_,_,_,by rw[e']⟩;refine ztc (by omega) ?_;rw[dG _ _ _ _ hcb];simpa using e3
 let ix:Fin zs.length->Cv:=fun i=>env[i.1]'(by have:=i.2;omega)
 obtain⟨hp,hs⟩:=q4n zs hpos;have hpe:((cB zs hpos).toList.map ix).Perm env:=by
  have h1:=hp.map ix;have h2:(List.finRange zs.length).map ix=env:=by
   apply List.ext_getElem
   ·simp[hzl]
   ·intro i h1 h2;simp[ix]
  rwa [h2]at h1
 have hV:((cB zs hpos).toList.map fun i:Fin zs.length=>cs.getD i.1 .undef)=((cB zs hpos).toList.map ix).map Cv.v:=by rw[bu];refine lA0 fun i _=>?_;have hi:=i.2;rw[kw,lh (by omega)];simp[<-aCe,ix]
 have hsi:((cB zs hpos).toList.map ix).Pairwise fun a b=>hdI a.o<=hdI b.o:=by rw[lAU];refine hs.imp fun{i j} h=>?_;rw[Fin.getElem_fin,Fin.getElem_fin,hzs,hzs]at h;exact h
 have hsz:(cB zs hpos).size=zs.length:=by have:=hp.length_eq;simpa using this
 generalize hR:(cB zs hpos).toList.map ix=R at hpe hV hsi;have hlen:(R.map Cv.v).length=cs.length:=by rw[qc,hpe.length_eq,hel]
 have hst:storeAt H b o (R.map Cv.v) (.aX [])=.ok (.aX []) (H.put b (aB q (bD L o (R.map Cv.v)))):=qch _ _ _ _ _ _ _ g1 (by omega);have hr:qlf H b o cs.length=some (.ok (.aX []) (H.put b (aB q (bD L o (R.map Cv.v))))):=by unfold qlf;rw[g1,qca,pz (by omega),g3,tu (lg _)];simp only[hhd,dif_pos hOk,hV,hst];rw[hsz,lAW];rfl
 rw[(hS k).aVz _ _ _ _ _ _ _ hr];have hset:bD L o (R.map Cv.v)=L.take o++R.map Cv.v:=by unfold bD;rw[vk (by omega),uh]
 have hpo:(R.map Cv.o).Perm out:=by have:=hpe.map Cv.o;rwa [aGk]at this
 have hF:Fm (In (.sl b o cs.length cs.length e)) H (H.put b (aB q (bD L o (R.map Cv.v)))):=(Fm.refl _ _).put _ _ fun _=>⟨_,_,_,_,rfl⟩;have ho:(L.take o).length=o:=by rw[qo];omega
 refine Ok.ret ⟨rfl,R.map Cv.v,R.map Cv.o,hpo,?_,⟨?_,by simp,hL.new,fun i c o' h2 h3=>?_⟩,fun c hc=>?_,hF⟩
 ·have hnd':(R.map Cv.o).flatten.Nodup:=(hpo.flatten).nodup_iff.2 hnd;have hne':∀ l∈R.map Cv.o,l≠[]:=fun l hl=>(hne l (hpo.mem_iff.1 hl)).1;have hs':(R.map Cv.o).Pairwise fun a b=>a.headD 0<=b.headD 0:=by
   rw[lAU];refine hsi.imp fun{x y} h=>?_;unfold hdI at h;simp only[rq]at h;omega
  generalize R.map Cv.o=out' at hnd' hne' hs'
  induction out' with
  |nil=>exact List.Pairwise.nil
  |cons a l ih=>
   rw[yl]at hs' ⊢;rw[ai,xf]at hnd';refine⟨fun c hc=>?_,ih hnd'.2.1 (fun l hl=>hne' l (qx _ hl)) hs'.2⟩;refine Nat.lt_of_le_of_ne (hs'.1 c hc) fun e=>?_;have ha:=hne' a ql;have hc':=hne' c (qx _ hc);cases a with
   |nil=>exact ha rfl
   |cons x a=>
    cases c with
    |nil=>exact hc' rfl
    |cons y c=>have e:x=y:=e;exact hnd'.2.2 x ql y (dC.2 ⟨y::c,hc,ql⟩) e
 ·rw[hset,hlen];refine⟨by rw[hlen,qj],.inr ⟨b,o,e,q,_,rfl,dS _ _ _,?_,?_,g4,lL g5 hF.nx⟩⟩
  ·rw[lq,ho];omega
  ·rw[xu (by omega),vk (by omega),ae]
 ·have hi:i<R.length:=by
   have:=(qm.1 h2).1;simpa using this
  have hc:c=(R[i]).v:=by rw[xw,lh hi]at h2;exact(Option.some.inj h2).symm
  have ho':o'=(R[i]).o:=by rw[xw,lh hi]at h3;exact(Option.some.inj h3).symm
  have hm:R[i]∈env:=hpe.mem_iff.1 (lu _);subst hc;subst ho';obtain⟨q1,q2⟩:=hgl _ hm;exact⟨⟨_,_,_,_,_,rfl⟩,q1.fm hF fun b' hb' h=>(q2 b' hb').2 h,q2⟩
 ·obtain⟨x,hx,rfl⟩:=qp.1 hc;rw[<-aCe];exact qp.2 ⟨x,hpe.mem_iff.1 hx,rfl⟩
theorem zum(hS:oO C)(hk:5<=k){v:AV}(hv:Gl 1 H v n l)(h0:n=0)(H:Hp):C k (.f 147) [v,.fn 148 [] []] H=.ok (.aX []) H:=by
 obtain⟨k,rfl⟩:∃ j,k=j+1:=⟨k-1,by omega⟩;rcases hv.is with⟨rfl,_⟩|⟨b,o,e,q,L,rfl,_⟩
 ·exact(hS k).aGq H
 ·subst h0;exact(hS k).aVY _ _ _ _ H
def fill(ins:List Nat)(o:List Nat)(i:Nat):List Nat:=o.foldl (fun a x=>a.set x i) ins
def qew:List Nat->List (List Nat)->Nat->List Nat
 |ins,[],_=>ins
 |ins,o::r,i=>qew (fill ins o i) r (i+1)
theorem qfv(i:Nat):∀(o ins:List Nat),(fill ins o i).length=ins.length
 | [],ins=>rfl
 |x::o,ins=>by show(fill (ins.set x i) o i).length=_;rw[qfv i o,xk]
theorem qpm:∀(out:List (List Nat)) (ins:List Nat) (i:Nat),(qew ins out i).length=ins.length
 | [],_,_=>rfl
 |o::r,ins,i=>by rw[qew,qpm r,qfv]
theorem qmq(i:Nat):∀(o ins:List Nat) (x:Nat),x<ins.length->(fill ins o i)[x]? =if x∈o then some i else ins[x]?
 | [],ins,x,h=>by simp[fill]
 |y::o,ins,x,h=>by
  show(fill (ins.set y i) o i)[x]? =_;rw[qmq i o _ x (by rw[xk];exact h)];by_cases hx:x∈o
  ·simp[hx]
  ·by_cases e:x=y
   ·simp_all
   ·have:¬ y=x:=fun h=>e h.symm;simp_all
theorem qpn:∀(out:List (List Nat)) (ins:List Nat) (i0 i x:Nat) (o:List Nat),out.flatten.Nodup->out[i]? =some o->x∈o->x<ins.length->(qew ins out i0)[x]? =some (i0+i)
 | [],_,_,_,_,_,_,h,_,_=>by simp at h
 |o'::r,ins,i0,0,x,o,hn,h,hx,hl=>by
  simp at h;subst h;have key:∀(r:List (List Nat)) (ins:List Nat) (i:Nat),x<ins.length->x∉r.flatten->(qew ins r i)[x]? =ins[x]? :=fun r=>by
   induction r with
   |nil=>intros;rfl
   |cons o r ih=>intro ins i hl hx;rw[ai,gz,not_or]at hx;rw[qew,ih _ _ (by rw[qfv];exact hl) hx.2,qmq i o ins x hl,kz hx.1]
  rw[qew,key r _ _ (by rw[qfv];exact hl) ?_,qmq _ _ _ _ hl,pz hx,xy];intro h2;rw[ai,xf]at hn;exact hn.2.2 x hx x h2 rfl
 |o'::r,ins,i0,i+1,x,o,hn,h,hx,hl=>by rw[ai,xf]at hn;rw[qew,qpn r _ (i0+1) i x o hn.2.1 (by simpa using h) hx (by rw[qfv];exact hl)];congr 1;omega
theorem zlz{O:Ev.Call}{c:AV}{o:List Nat}{ib nb n i:Nat}{H1:Hp}(hc:Rl H1 c (aK o))(hcb:∀ j b q,j<o.length->aH 1 c (.int .i64 (.ofNat j))=.val (.ptr b q)->b≠nb)(hol:o.length<900000)(ho:∀ x∈o,x<n)(hib:H1.get ib=aB 0 [.sl nb 0 n n true])(hin:ib≠nb)(hil:ib<H1.nx){q:pH}{Q:pL}{fin:List Nat}(hq:∀ H,H.get nb=aB 0 (aK fin)->Fm (fun b=>b=nb) H1 H->Ok (q H) Q):∀(k j:Nat) (ins:List Nat) (H:Hp),o.length-j<k->j<=o.length->ins.length=n->H.get nb=aB 0 (aK ins)->Fm (fun b=>b=nb) H1 H->fill ins (o.drop j) i=fin -> Ok (quc O q (.ptr ib 0) (.int .i64 (.ofNat i)) c (.int .i64 (.ofNat o.length)) k (.int .i64 (.ofNat j)) H) Q
 |0,j,ins,H,h,_,_,_,_,_=>by omega
 |k+1,j,ins,H,h,hj,hl,hg,hF,hf=>by
  show Ok (q2q O _ _ _ _ _ (quc O _ _ _ _ _ k) _ H) Q;unfold q2q;by_cases hjl:j<o.length
  ·obtain⟨b,q',e1,e2,e3⟩:=hc.at' j (by rw[mO];exact hjl);rw[qih]at e3;have e4:H.get b=H1.get b:=hF.get b e2 (hcb j b q' hjl e1);have e5:H.get ib=aB 0 [.sl nb 0 n n true]:=(hF.get ib hil hin).trans hib;have hx:o[j]<n:=ho _ (lu _);simp only[go_sem,hjl];unfold zfi;have hle:o[j]+1<=ins.length:=by omega
   simp(disch:=omega)only[go_sem,seval,e1,e4,e3,e5,hg,qj,qf,pg,uo,mO,hle,ik];unfold zfj;simp(disch:=go_size)only[go_sem,rB,rI,rK,rL,rN,rS,r6];have hd:o.drop j=o[j]::o.drop (j+1):=ut hjl;rw[qwi _ _ _ (by omega)];refine zlz hc hcb hol ho hib hin hil hq k (j+1) (ins.set o[j] i) _ (by omega) (by omega) (by rw[xk];exact hl) (dS _ _ _) (hF.put _ _ fun _=>rfl) ?_;rw[hd]at hf;exact hf
  ·simp only[go_sem,hjl];have:j=o.length:=by omega
   subst this;rw[lAO]at hf;subst hf;exact hq H hg hF
theorem nR.iH{v:AV}{out:List (List Nat)}(h:nR H0 H v cs out)(f:Fm S H H')(hs:∀ b,H0.nx<=b->b<H.nx->¬ S b):nR H0 H' v cs out:=
 ⟨h.gl.keep f.nx fun b hb hlt=>f.get b hlt (hs b (h.new b hb) hlt),h.len,h.new,fun i c o h1 h2=>by obtain⟨g1,g2,g3⟩:=h.at' i c o h1 h2;exact⟨g1,g2.keep f.nx fun b hb hlt=>f.get b hlt (hs b (g3 b hb).1 hlt),g3⟩⟩
theorem nR.no{v:AV}{out:List (List Nat)}(h:nR H0 H v cs out)(f:Fm No H H'):nR H0 H' v cs out:=h.iH f fun _ _ _ h=>h
theorem q9k{O:Ev.Call}{v:AV}{cs:List AV}{out:List (List Nat)}{ib nb n:Nat}{H0 H1:Hp}(hL:nR H0 H1 v cs out)(hnb:H1.nx<=nb+2)(aY4:∀ b,H0.nx<=b->b<H1.nx->b≠nb->True)(hv:∀ b,In v b->b≠nb)(hcn:∀(i:Nat) (c:AV) (b:Nat),cs[i]? =some c->In c b->b≠nb)(hol:∀ o∈out,o.length<900000/\∀ x∈o,x<n)(hcl:out.length<900000)(hib:H1.get ib=aB 0 [.sl nb 0 n n true])(hin:ib≠nb)(hil:ib<H1.nx){q:pH}{Q:pL}{fin:List Nat}(hq:∀ H,H.get nb=aB 0 (aK fin)->Fm (fun b=>b=nb) H1 H->Ok (q H) Q):∀(k i:Nat) (ins:List Nat) (H:Hp),out.length-i<k->i<=out.length->ins.length=n->H.get nb=aB 0 (aK ins)->Fm (fun b=>b=nb) H1 H->qew ins (out.drop i) i=fin -> Ok (qnr O q (.ptr ib 0) v (.int .i64 (.ofNat out.length)) k (.int .i64 (.ofNat i)) H) Q
 |0,i,ins,H,h,_,_,_,_,_=>by omega
 |k+1,i,ins,H,h,hi,hl,hg,hF,hf=>by
  show Ok (q2s O _ _ _ _ (qnr O _ _ _ _ k) _ H) Q;unfold q2s;have hlen:=hL.len;by_cases aGd:i<out.length
  ·simp only[go_sem,aGd];unfold zfh;have hgl:Gl 1 H v cs.length cs:=hL.gl.fm hF fun b hb=>hv b hb;obtain⟨b,q',e1,_,_,e2⟩:=hgl.at (i:=i) (x:=cs[i]) (by simp);obtain⟨⟨cb,cq,cn,cm,ce,hce⟩,g2,g3⟩:=hL.at' i cs[i] out[i] (by simp) (by simp);have hg2:Gl 1 H cs[i] out[i].length (aK out[i]):=g2.fm hF fun b hb=>hcn i cs[i] b (by simp) hb;have hl2:=hg2.cO;obtain⟨ho1,ho2⟩:=hol out[i] (lu _);simp only[go_sem,e1,e2,hl2];unfold zfk;rw[dB];have bFp:H.get ib=aB 0 [.sl nb 0 n n true]:=(hF.get ib hil hin).trans hib;have hd:out.drop i=out[i]::out.drop (i+1):=ut aGd;refine zlz (H1:=H) hg2.rl (fun j b q hj e=>hcn i cs[i] b (by simp) (hg2.yN hj e)) ho1 ho2 bFp hin (lL hil hF.nx) (fin:=fill ins out[i] i) (fun H2 k1 k2=>?_) bX 0 ins H (by rw[dI];omega) (gq _) hl hg (Fm.refl _ _) rfl;unfold q2p;simp(disch:=go_size)only[go_sem,rB,rI,rK,rL,rN,rS,r6];refine q9k hL hnb aY4 hv hcn hol hcl hib hin hil hq k (i+1) (fill ins out[i] i) H2 (by omega) (by omega) (by rw[qfv];exact hl) k1 (hF.trans k2) ?_;rw[hd]at hf;exact hf
  ·simp only[go_sem,aGd];have:i=out.length:=by omega
   subst this;rw[lAO]at hf;have hf:ins=fin:=hf;simp_all
theorem qwj(n:Nat):List.replicate n (AV.int .i64 (.ofNat 0))=aK (List.replicate n 0):=by simp[aK]
structure aGO(H0 H:Hp)(n:Nat)(gv v:AV)(cs:List AV)(out:List (List Nat))(ins:List Nat)(lb gb ib wb:Nat):Prop where
 l:H.get lb=aB 0 [v]
 g:H.get gb=aB 0 [.int .i64 (.ofNat n),gv]
 i:H.get ib=aB 0 [.sl wb 0 n n true]
 w:H.get wb=aB 0 (aK ins)
 lt:lb<H.nx/\gb<H.nx/\ib<H.nx/\wb<H.nx
 ls:nR H0 H v cs out
 il:ins.length=n
 ix:∀(i:Nat) (o:List Nat) (x:Nat),out[i]? =some o->x∈o->ins[x]? =some i
theorem zr4(hC:aW C)(hS:oO C)(hk:920<=k){gv v:AV}{out:List (List Nat)}(hL:nR H0 H v cs out)(hH:H0.nx<=H.nx)(hn:n<=256)(hco:out.length<=256)(hx:∀ o∈out,o≠[]/\o.length<=256/\∀ x∈o,x<n)(hnd:out.flatten.Nodup):Ok (C k (.f 118) [.agg [.int .i64 (.ofNat n),gv],v] H) fun r H'=>∃ lb gb ib wb cs' out' ins,r=.fn 149 [] [.ptr lb 0,.ptr gb 0,.ptr ib 0]/\out'.Perm out/\out'.Pairwise (fun a b=>a.headD 0<b.headD 0) /\ aGO H0 H' n gv v cs' out' ins lb gb ib wb/\(∀c∈cs',c∈cs)/\Fm (In v) H H'/\(H.nx<=lb/\H.nx<=gb/\H.nx<=ib/\H.nx<=wb):=by
 obtain⟨j,rfl⟩:=aS hk;rw[(hC j).zCf];unfold zCf zzc;have hlen:=hL.len
 -- the slice is nil or not: its box
 have hb1:∀ nm,jT nm v=.new (.ptr nm 0) (aB 0 [v]):=fun nm=>by rcases hL.gl.is with⟨rfl,_⟩|⟨b,o,e,q,L,rfl,_⟩<;>rfl
 simp(disch:=go_size)only[go_sem,rB,rI,rK,rL,rN,rS,r6,hb1];generalize hH2:aO (aO H (aB 0 [.int .i64 (.ofNat n),gv])) (aB 0 [v])=H2;have n2:H2.nx=H.nx+2:=by rw[<-hH2];rfl
 have f2:Fm No H H2:=by rw[<-hH2];exact((Fm.refl _ _).push _).push _
 have g2:H2.get H.nx=aB 0 [.int .i64 (.ofNat n),gv]:=by rw[<-hH2,qbj _ _ _ (by rw[np];omega),lC]
 have l2:H2.get (H.nx+1)=aB 0 [v]:=by rw[<-hH2];exact lC _ _
 have aM7:∀ b,In v b->b<H.nx:=fun b hb=>hL.gl.lt hb;have sorted:Ok (C j (.f 147) [v,.fn 148 [] []] H2) fun r H'=>r=.aX []/\∃ cs' out',out'.Perm out/\out'.Pairwise (fun a b=>a.headD 0<b.headD 0)/\nR H0 H' v cs' out'/\(∀c∈cs',c∈cs)/\Fm (In v) H2 H':=by
  rcases lAR cs.length with h0|h0
  ·rw[zum hS (by omega) hL.gl h0];have:out=[]:=ry.1 (by omega);subst this;exact Ok.ret ⟨rfl,cs,[],List.Perm.refl _,List.Pairwise.nil,hL.no f2,fun _ h=>h,Fm.refl _ _⟩
  ·exact zul hS (hL.no f2) (by omega) h0 (by omega) (fun o ho=>⟨(hx o ho).1,fun x h=>by have:=(hx o ho).2.2 x h;omega⟩) hnd
 refine Ok.ve sorted ?_;rintro r H3 ⟨rfl,cs',out',hp,hs,hL3,hcc,f3⟩;have n3:=f3.nx;have f23:Fm (In v) H H3:=(f2.mono fun _ _ h=>h.elim).trans f3;have g3:H3.get H.nx=aB 0 [.int .i64 (.ofNat n),gv]:=(f3.get _ (by omega) fun hb=>xn _ (aM7 _ hb)).trans g2;have l3:H3.get (H.nx+1)=aB 0 [v]:=(f3.get _ (by omega) fun hb=>by have:=aM7 _ hb;omega).trans l2;have hvl:=hL3.gl.cO;have hlen':=hL3.len;have hol:out'.length=out.length:=hp.length_eq;rw[hlen']at hvl;have mk:=qgn [.int .i64 (.ofNat 0)] 8 H3.nx n (by omega) (by omega);rw[qeg,qwj]at mk;simp(disch:=first|go_size|omega)only[go_sem,rB,rI,rK,rL,rN,rS,r6,g3,l3,mk,hvl];generalize hH4:(aO (aO H3 (aB 0 (aK (List.replicate n 0)))) (aB 0 [.aA])).put (H3.nx+1) (aB 0 [.sl H3.nx 0 n n true])=H4;have n4:H4.nx=H3.nx+2:=by rw[<-hH4];rfl
 have f4:Fm No H3 H4:=by rw[<-hH4];exact(((Fm.refl _ _).push _).push _).aF _ _ (by omega)
 have i4:H4.get (H3.nx+1)=aB 0 [.sl H3.nx 0 n n true]:=by rw[<-hH4,dS]
 have a4:H4.get H3.nx=aB 0 (aK (List.replicate n 0)):=by rw[<-hH4,dG _ _ _ _ (by omega),qbj _ _ _ (by rw[np];omega),lC]
 have hl4:H4.get (H.nx+1)=aB 0 [v]:=(f4.keep (by omega)).trans l3;unfold zfl;rw[dB];have hL4:=hL3.no f4;refine q9k (n:=n) hL4 (by omega) (fun _ _ _ _=>trivial) (fun b hb=>by have:=hL3.gl.lt hb;omega) (fun i c b hc hb=>?_) (fun o ho=>?_) (by omega) i4 (by omega) (by omega) (fun H5 k1 k2=>?_) bX 0 (List.replicate n 0) H4 (by rw[dI];omega) (gq _) (by simp) a4 (Fm.refl _ _) rfl
 ·have hi:=(qm.1 hc).1;obtain⟨_,h2,_⟩:=hL3.at' i c out'[i] hc (by simp);have:=h2.lt hb;omega
 ·have:=hx o (hp.mem_iff.1 ho);exact⟨by omega,this.2.2⟩
 ·unfold q6s;have n5:=k2.nx;refine Ok.ret ⟨H.nx+1,H.nx,H3.nx+1,H3.nx,cs',out',qew (List.replicate n 0) (out'.drop 0) 0,rfl,hp,hs,⟨?_,?_,?_,k1,⟨by omega,by omega,by omega,by omega⟩,?_,?_,?_⟩,hcc,?_,by omega,by omega,by omega,by omega⟩
  ·exact(k2.get _ (by omega) (by omega)).trans hl4
  ·exact(k2.get _ (by omega) (by omega)).trans ((f4.keep (by omega)).trans g3)
  ·exact(k2.get _ (by omega) (by omega)).trans i4
  ·exact hL3.iH (((f4.mono fun _ _ h=>h.elim:Fm (fun b=>b=H3.nx) H3 H4)).trans k2) fun b _ hlt=>by omega
  ·rw[qpm,iq]
  ·intro i o x h1 h2;have hm:o∈out':=uq h1;have:=qpn out' (List.replicate n 0) 0 i x o (hp.flatten.nodup_iff.2 hnd) h1 h2 (by rw[iq];exact(hx o (hp.mem_iff.1 hm)).2.2 x h2);simp_all
  ·exact f23.then ((f4.mono fun _ _ h=>h.elim:Fm (fun b=>b=H3.nx) H3 H4).trans k2) fun c hc h=>by omega
def bools(l:List Bool):List AV:=l.map .bool
theorem q9y(l:List Bool):(bools l).length=l.length:=by simp[bools]
theorem zm3(l:List Bool)(i:Nat)(h:i<l.length):(bools l)[i]? =some (.bool l[i]):=by simp[bools,h]
theorem qk8(l:List Bool)(i:Nat)(d:Bool)(h:i<l.length):(bools l)[i]? =some (.bool (l.getD i d)):=by rw[zm3 l i h];simp[h]
theorem qz9(l:List Bool)(i:Nat)(b:Bool)(h:i<l.length):bD (bools l) i [.bool b]=bools (l.set i b):=by unfold bD bools;rw[lEA,List.set_eq_take_append_cons_drop,pz (by simpa using h)];simp
structure RS(D:Nat->Prop)(H:Hp)(n:Nat)(gv:AV)(es:List Edge)(v:AV)(cs:List AV)(ins:List Nat)(lb gb ib wb:Nat):Prop where
 l:H.get lb=aB 0 [v]
 g:H.get gb=aB 0 [.int .i64 (.ofNat n),gv]
 i:H.get ib=aB 0 [.sl wb 0 n n true]
 w:H.get wb=aB 0 (aK ins)
 gl:Gl 1 H v cs.length cs
 e:kP H gv es
 lt:lb<H.nx/\gb<H.nx/\ib<H.nx/\wb<H.nx
 dl:D lb
 dg:D gb
 di:D ib
 dw:D wb
 dv:∀ b,In v b->D b
 de:∀ b,In gv b->D b
def RB(gv v:AV)(lb gb ib wb b:Nat):Prop:=b=lb\/b=gb\/b=ib\/b=wb\/In v b\/In gv b
theorem RS.rb{D:Nat->Prop}{gv:AV}{es:List Edge}{v:AV}{lb gb ib wb:Nat}(h:RS D H n gv es v cs ins lb gb ib wb)(hb:RB gv v lb gb ib wb b):D b:=by
 rcases hb with rfl|rfl|rfl|rfl|hb|hb
 ·exact h.dl
 ·exact h.dg
 ·exact h.di
 ·exact h.dw
 ·exact h.dv b hb
 ·exact h.de b hb
theorem RS.keep{D:Nat->Prop}{gv:AV}{es:List Edge}{v:AV}{lb gb ib wb:Nat}(h:RS D H n gv es v cs ins lb gb ib wb)(f:Fm S H H')(hs:∀ b,RB gv v lb gb ib wb b->¬ S b):RS D H' n gv es v cs ins lb gb ib wb:=by
 obtain⟨l1,l2,l3,l4⟩:=h.lt;have hn:=f.nx;exact⟨(f.get _ l1 (hs _ (Or.inl rfl))).trans h.l,(f.get _ l2 (hs _ (Or.inr (Or.inl rfl)))).trans h.g,(f.get _ l3 (hs _ (Or.inr (Or.inr (Or.inl rfl))))).trans h.i,(f.get _ l4 (hs _ (Or.inr (Or.inr (Or.inr (Or.inl rfl)))))).trans h.w,
  h.gl.keep hn fun b hb hlt=>f.get b hlt (hs b (Or.inr (Or.inr (Or.inr (Or.inr (Or.inl hb)))))),h.e.keep hn fun b hb hlt=>f.get b hlt (hs b (Or.inr (Or.inr (Or.inr (Or.inr (Or.inr hb)))))),⟨by omega,by omega,by omega,by omega⟩,h.dl,h.dg,h.di,h.dw,h.dv,h.de⟩
theorem RS.no{D:Nat->Prop}{gv:AV}{es:List Edge}{v:AV}{lb gb ib wb:Nat}(h:RS D H n gv es v cs ins lb gb ib wb)(f:Fm No H H'):RS D H' n gv es v cs ins lb gb ib wb:=h.keep f fun _ _ h=>h
def vV(ins:List Nat)(dn:List Bool)(w:List Bool)(e:Edge):List Bool:=
 if ins.getD e.f 0≠ins.getD e.t 0/\dn.getD (ins.getD e.t 0) true=false then w.set (ins.getD e.f 0) true else w
def waits(es:List Edge)(ins:List Nat)(dn:List Bool)(w:List Bool):List Bool:=es.foldl (vV ins dn) w
theorem qx1(ins:List Nat)(dn:List Bool):∀(es:List Edge) (w:List Bool),(waits es ins dn w).length=w.length
 | [],w=>rfl
 |e::es,w=>by
  show(waits es ins dn (vV ins dn w e)).length=_;rw[qx1 ins dn es];unfold vV;split
  ·simp
  ·rfl
theorem qx3{O:Ev.Call}{D:Nat->Prop}{n:Nat}{gv:AV}{es:List Edge}{v:AV}{cs:List AV}{ins:List Nat}{lb gb ib wb db tb m:Nat}{dn:List Bool}{H1:Hp}(hR:RS D H1 n gv es v cs ins lb gb ib wb)(hlen:es.length<200000)(hil:ins.length=n)(hE:∀ e∈es,e.f<n/\e.t<n)(hin:∀ x<n,ins.getD x 0<m)(hdl:dn.length=m)(hdb:H1.get db=aB 0 (bools dn))(pZ:db<H1.nx)(htb:H1.nx<=tb){q:pH}{Q:pL}{fin:List Bool}(hq:∀ H,H.get tb=aB 0 (bools fin)->Fm No H1 H->tb<H.nx->Ok (q H) Q):∀(k i:Nat) (w:List Bool) (H:Hp),es.length-i<k->i<=es.length->w.length=m->H.get tb=aB 0 (bools w)->Fm No H1 H->tb<H.nx->waits (es.drop i) ins dn w=fin -> Ok (qnm O q (.ptr ib 0) (.sl db 0 m m true) (.sl tb 0 m m true) gv (.int .i64 (.ofNat es.length)) k (.int .i64 (.ofNat i)) H) Q
 |0,i,w,H,h,_,_,_,_,_,_=>by omega
 |k+1,i,w,H,h,hi,hw,ht,hF,hlt,hf=>by
  show Ok (q2j O _ _ _ _ _ _ (qnm O _ _ _ _ _ _ k) _ H) Q;unfold q2j;by_cases hie:i<es.length
  ·simp only[go_sem,hie];unfold ze2;have hR':=hR.no hF;obtain⟨b,o,e1,e2,e3⟩:=hR'.e.at hie;obtain⟨hf1,ht1⟩:=hE es[i] (lu _);have hgf:(aK ins)[es[i].f]? =some (.int .i64 (.ofNat (ins.getD es[i].f 0))):=by rw[qwk _ _ (by omega),kw,lh (by omega)];rfl
   have hgt:(aK ins)[es[i].t]? =some (.int .i64 (.ofNat (ins.getD es[i].t 0))):=by rw[qwk _ _ (by omega),kw,lh (by omega)];rfl
   have ha:=hin _ hf1;have hb:=hin _ ht1;have hdg:(bools dn)[ins.getD es[i].t 0]? =some (.bool (dn.getD (ins.getD es[i].t 0) true)):=qk8 _ _ _ (by omega);have hdrop:es.drop i=es[i]::es.drop (i+1):=ut hie;rw[hdrop]at hf;have hf:waits (es.drop (i+1)) ins dn (vV ins dn w es[i])=fin:=hf;obtain⟨l1,l2,l3,l4⟩:=hR'.lt;have hwi:=hR'.i;have hww:=hR'.w;have aKv:H.get db=aB 0 (bools dn):=(hF.keep pZ).trans hdb;generalize ha':ins.getD es[i].f 0=a at *;generalize hb':ins.getD es[i].t 0=c at *;have aGN:∀(w':List Bool) (H':Hp),vV ins dn w es[i]=w'->H'.get tb=aB 0 (bools w')->Fm No H1 H'->tb<H'.nx->Ok (qt6 O (qnm O q (.ptr ib 0) (.sl db 0 m m true) (.sl tb 0 m m true) gv (.int .i64 (.ofNat es.length)) k) (.int .i64 (.ofNat i)) H') Q:=fun w' H' h1 h2 h3 h4=>by
    unfold qt6;simp(disch:=go_size)only[go_sem,rB,rI,rK,rL,rN,rS,r6];refine qx3 hR hlen hil hE hin hdl hdb pZ htb hq k (i+1) w' H' (by omega) (by omega) ?_ h2 h3 h4 (by rw[h1]at hf;exact hf);rw[<-h1];unfold vV;split
    ·rw[xk];exact hw
    ·exact hw
   have fA:Fm No H ((aO H (aB 0 [.int .i64 (.ofNat 0),.int .i64 (.ofNat 0),.bool false])).put H.nx (aB 0 [.int .i64 (.ofNat es[i].f),.int .i64 (.ofNat es[i].t),.bool es[i].s])):=by exact oJ
   have ht2:((aO H (aB 0 [.int .i64 (.ofNat 0),.int .i64 (.ofNat 0),.bool false])).put H.nx (aB 0 [.int .i64 (.ofNat es[i].f),.int .i64 (.ofNat es[i].t),.bool es[i].s])).get tb=aB 0 (bools w):=(fA.keep hlt).trans ht;by_cases hac:a=c
   ·have hw':vV ins dn w es[i]=w:=by
     unfold vV;rw[ha',hb',kz (by simp[hac])]
    simp(disch:=first|omega|exact ti rfl)only[go_sem,seval,e1,e3,Edge.cells,hwi,hww,hgf,hgt,hac,qj,qf,pg,uo];exact aGN w _ hw' ht2 (hF.trans fA) (by show tb<H.nx+1;omega)
   ·cases hd:dn.getD c true with
    |true=>
     have hw':vV ins dn w es[i]=w:=by unfold vV;rw[ha',hb',hd,kz (by simp)]
     rw[hd]at hdg;simp(disch:=first|omega|exact ti rfl)only[go_sem,seval,e1,e3,Edge.cells,hwi,hww,hgf,hgt,hac,aKv,hdg,qj,qf,pg,uo];exact aGN w _ hw' ht2 (hF.trans fA) (by show tb<H.nx+1;omega)
    |false=>
     have hw':vV ins dn w es[i]=w.set a true:=by unfold vV;rw[ha',hb',hd,pz ⟨hac,rfl⟩]
     rw[hd]at hdg;have hle:a+1<=w.length:=by omega
     simp(disch:=go_size)only[go_sem,rB,rI,rK,rL,rN,rS,r6,e1,e3,Edge.cells,hwi,hww,hgf,hgt,hac,aKv,hdg,ht2,qj,qf,pg,uo,q9y,hle,ik];rw[qz9 _ _ _ (by omega)];exact aGN (w.set a true) _ hw' (dS _ _ _) ((hF.trans fA).aF _ _ (by omega)) (by show tb<H.nx+1;omega)
  ·simp only[go_sem,hie];have:i=es.length:=by omega
   subst this;rw[lAO]at hf;have hf:w=fin:=hf;simp_all
def yP(dn w:List Bool)(i:Nat):Bool:= !dn.getD i true&& !w.getD i true
def qjk(dn w:List Bool)(m:Nat):Option Nat:=(List.range m).find? (yP dn w)
def jQ(es:List Edge)(ins:List Nat)(m:Nat):Nat->List Bool->List Nat
 |0,_=>[]
 |k+1,dn=>match qjk dn (waits es ins dn (List.replicate m false)) m with
  |none=>jQ es ins m k dn
  |some i=>i::jQ es ins m k (dn.set i true)
theorem qsk{dn w:List Bool}(h:qjk dn w m=none):∀ j,j<m->yP dn w j=false:=fun j hj=>by have:=List.find?_eq_none.1 h j (uu.2 hj);simp_all
theorem qe8{dn w:List Bool}(h:qjk dn w m=some i):i<m/\yP dn w i=true/\∀ j,j<i->yP dn w j=false:=by
 have h1:=lE8 h;have h2:=vw h;rw[uu]at h2;refine⟨h2,h1,fun j hj=>?_⟩;unfold qjk at h;rw[List.find?_eq_some_iff_append]at h;obtain⟨_,a1,bs,e,hn⟩:=h;have hm:j∈a1:=by
  have hjr:j∈List.range m:=uu.2 (by omega);rw[e]at hjr;rcases gz.1 hjr with g|g
  ·exact g
  ·have hs:(List.range m).Pairwise (· < ·):=List.pairwise_lt_range;rw[e,yh,yl]at hs;rcases qg.1 g with g|g
   ·omega
   ·have:=hs.2.1.1 j g;omega
 simp_all
structure YI(C0:Ev.Call)(y bs:Nat)(cs:List AV)(ord:List Nat)(Inv:Nat->(Nat->Prop)->Hp->Prop):Prop where
 ext:∀ t D D' H H',Inv t D H->Fm (fun b=>D b/\bs<=b) H H'->(∀b,D' b->D b\/(H.nx<=b/\b<H'.nx))->Inv t D' H'
 step:∀ t i c D H,ord[t]? =some i->cs[i]? =some c->Inv t D H->Ok (C0 (.y y) [c] H) fun r H'=>r=.bool true/\Inv (t+1) D H'/\Fm (fun b=>¬ D b) H H'
theorem qyl{C0:Ev.Call}{y bs:Nat}{ord:List Nat}{Inv:Nat->(Nat->Prop)->Hp->Prop}{D:Nat->Prop}{n:Nat}{gv:AV}{es:List Edge}{v:AV}{cs:List AV}{ins:List Nat}{lb gb ib wb db tb m t:Nat}{dn w:List Bool}(hY:YI C0 y bs cs ord Inv)(hm:m=cs.length)(hml:m<900000)(hdl:dn.length=m)(hwl:w.length=m)(hdD:D db)(hbs:bs<=db)(aAN:db≠lb){rZ aEF:pH}{Q:pL}{H:Hp}(hR:RS D H n gv es v cs ins lb gb ib wb)(hdv:∀ b,In v b->b≠db)(hdb:H.get db=aB 0 (bools dn))(pZ:db<H.nx)(htb:H.get tb=aB 0 (bools w))(hI:Inv t D H)(hnone:qjk dn w m=none->Ok (aEF H) Q)(hsome:∀ p H',qjk dn w m=some p->ord[t]? =some p->H'.get db=aB 0 (bools (dn.set p true))->Inv (t+1) D H'->Fm (fun b=>¬ D b\/b=db) H H'->Ok (aEF H') Q)(yX:∀ p,qjk dn w m=some p->ord[t]? =some p):∀(k i:Nat),m-i<k->i<=m->(∀j,j<i->yP dn w j=false) -> Ok (qnn C0 rZ aEF (.yield y) (.ptr lb 0) (.sl db 0 m m true) (.sl tb 0 m m true) (.int .i64 (.ofNat m)) k (.int .i64 (.ofNat i)) H) Q
 |0,i,h,_,_=>by omega
 |k+1,i,h,hi,hj=>by
  show Ok (q2k C0 _ _ _ _ _ _ _ (qnn C0 _ _ _ _ _ _ _ k) _ H) Q;unfold q2k;by_cases him:i<m
  ·have hgo:yP dn w i=false->Ok (q2i C0 (qnn C0 rZ aEF (.yield y) (.ptr lb 0) (.sl db 0 m m true) (.sl tb 0 m m true) (.int .i64 (.ofNat m)) k) (.int .i64 (.ofNat i)) H) Q:=fun hok=>by
    unfold q2i;simp(disch:=go_size)only[go_sem,rB,rI,rK,rL,rN,rS,r6];exact qyl hY hm hml hdl hwl hdD hbs aAN hR hdv hdb pZ htb hI hnone hsome yX k (i+1) (by omega) (by omega) fun j hj'=>by
     by_cases e:j=i
     ·simp_all
     ·exact hj j (by omega)
   have gd:=qk8 dn i true (by omega);have gw:=qk8 w i true (by omega);simp only[go_sem,him];unfold ze3;cases hd:dn.getD i true with
   |true=>rw[hd]at gd;simp(disch:=omega)only[go_sem,seval,hdb,gd,qj,qf];exact hgo (by unfold yP;rw[hd];rfl)
   |false=>
    rw[hd]at gd;cases hw:w.getD i true with
    |true=>rw[hw]at gw;simp(disch:=omega)only[go_sem,seval,hdb,gd,htb,gw,qj,qf];exact hgo (by unfold yP;rw[hd,hw];rfl)
    |false=>
     rw[hw]at gw;have hok:yP dn w i=true:=by unfold yP;rw[hd,hw];rfl
     have hp:qjk dn w m=some i:=by
      cases hpk:qjk dn w m with
      |none=>have:=qsk hpk i him;rw[hok]at this;cases this
      |some p=>
       obtain⟨p1,p2,p3⟩:=qe8 hpk;rcases oz p i with g|g|g
       ·simp_all
       ·rw[g]
       ·simp_all
     have hle:i+1<=dn.length:=by omega
     have hll:(H.put db (aB 0 (bools (dn.set i true)))).get lb=aB 0 [v]:=by rw[dG _ _ _ _ (Ne.symm aAN)];exact hR.l
     have hgl:Gl 1 (H.put db (aB 0 (bools (dn.set i true)))) v cs.length cs:=hR.gl.keep (lg _) fun b hb _=>dG _ _ _ _ (hdv b hb);obtain⟨b,o,e1,_,_,e2⟩:=hgl.at (i:=i) (x:=cs[i]'(by omega)) (by simp);have fd:Fm (fun b=>b=db) H (H.put db (aB 0 (bools (dn.set i true)))):=(Fm.refl _ _).put _ _ fun _=>rfl;have hI2:Inv t D (H.put db (aB 0 (bools (dn.set i true)))):=hY.ext t D D _ _ hI (fd.mono fun b _ h=>by subst h;exact⟨hdD,hbs⟩) fun b h=>Or.inl h;simp(disch:=omega)only[go_sem,seval,hdb,gd,htb,gw,qj,qf,pg,uo,q9y,hle,ik];rw[qz9 _ _ _ (by omega)];have hl0:=hR.l;simp only[go_sem,hll,hl0,e1,e2,qxc];refine Ok.ve (hY.step t i (cs[i]'(by omega)) D _ (yX i hp) (lh (by omega)) hI2) ?_;rintro r H' ⟨rfl,uZ,f3⟩;refine hsome i H' hp (yX i hp) ?_ uZ ((fd.mono fun _ _ h=>Or.inr h).trans (f3.mono fun _ _ h=>Or.inl h));rw[f3.get db pZ fun h=>h hdD,dS]
  ·simp only[go_sem,him];have:i=m:=by omega
   subst this;cases hp:qjk dn w i with
   |none=>exact hnone hp
   |some p=>obtain⟨p1,p2,p3⟩:=qe8 hp;simp_all
theorem q0a(m:Nat):List.replicate m (AV.bool false)=bools (List.replicate m false):=by simp[bools]
theorem qkp{C0:Ev.Call}{y bs:Nat}{ord:List Nat}{Inv:Nat->(Nat->Prop)->Hp->Prop}{D:Nat->Prop}{n:Nat}{gv:AV}{es:List Edge}{v:AV}{cs:List AV}{ins:List Nat}{lb gb ib wb db m:Nat}(hY:YI C0 y bs cs ord Inv)(hm:m=cs.length)(hml:m<900000)(hdD:D db)(hbs:bs<=db)(aAN:db≠lb/\db≠gb/\db≠ib/\db≠wb)(hdv:∀ b,In v b->b≠db)(hdg:∀ b,In gv b->b≠db)(hlen:es.length<200000)(hil:ins.length=n)(hE:∀ e∈es,e.f<n/\e.t<n)(hin:∀ x<n,ins.getD x 0<m){l9 q5e:pH}{Q:pL}(hq:∀ H,Inv ord.length D H->Ok (q5e H) Q):∀(k c t:Nat) (dn:List Bool) (H:Hp),m-c<k->c<=m->dn.length=m->RS D H n gv es v cs ins lb gb ib wb->H.get db=aB 0 (bools dn)->db<H.nx->Inv t D H->t<=ord.length->ord.drop t=jQ es ins m (m-c) dn -> Ok (qrj C0 l9 q5e (.yield y) (.ptr lb 0) (.ptr gb 0) (.ptr ib 0) (.sl db 0 m m true) (.int .i64 (.ofNat m)) k (.int .i64 (.ofNat c)) H) Q
 |0,c,t,dn,H,h,_,_,_,_,_,_,_,_=>by omega
 |k+1,c,t,dn,H,h,hc,hdl,hR,hdb,pZ,hI,ht,ho=>by
  show Ok (ze4 C0 _ _ _ _ _ _ _ _ (qrj C0 _ _ _ _ _ _ _ _ k) _ H) Q;unfold ze4;by_cases hcm:c<m
  ·simp only[go_sem,hcm];unfold ze1;have e1:=hR.l;have e2:=hR.gl.cO;rw[<-hm]at e2;have e3:=hR.g;have e4:=hR.e.len;have mk:=qgn [.bool false] 1 H.nx m (by omega) (by omega);rw[qeg,q0a]at mk;obtain⟨l1,l2,l3,l4⟩:=hR.lt;have fH:Fm No H (aO H (aB 0 (bools (List.replicate m false)))):=(Fm.refl _ _).push _;have e3':(aO H (aB 0 (bools (List.replicate m false)))).get gb=aB 0 [.int .i64 (.ofNat n),gv]:=(fH.keep l2).trans e3;simp only[go_sem,e1,e2,mk,e3',e4];unfold ze5;rw[dB];refine qx3 hR hlen hil hE hin hdl hdb pZ (tb:=H.nx) (lg _) (fin:=waits es ins dn (List.replicate m false)) (fun H2 g1 g2 g3=>?_) bX 0 (List.replicate m false) _ (by rw[dI];omega) (gq _) (by simp) (lC _ _) fH (ak _) rfl;unfold q2h;have f2:Fm No H H2:=g2;have hR2:=hR.no f2;have e5:=hR2.l;simp only[go_sem,e5,e2];unfold ze6;rw[dB];have hI2:Inv t D H2:=hY.ext t D D _ _ hI (f2.mono fun _ _ h=>h.elim) fun b h=>Or.inl h;have hmc:m-c=(m-(c+1))+1:=by omega
   rw[hmc,jQ]at ho;refine qyl hY hm hml hdl (by rw[qx1];simp) hdD hbs aAN.1 hR2 hdv ((f2.keep pZ).trans hdb) (lL pZ f2.nx) g1 hI2 (fun hp=>?_) (fun p H3 hp hop k1 k2 k3=>?_) (fun p hp=>?_) bX 0 (by rw[dI];omega) (gq _) fun j hj=>absurd hj (ig _)
   ·unfold q6k;simp(disch:=go_size)only[go_sem,rB,rI,rK,rL,rN,rS,r6];rw[hp]at ho;exact qkp hY hm hml hdD hbs aAN hdv hdg hlen hil hE hin hq k (c+1) t dn H2 (by omega) (by omega) hdl hR2 ((f2.keep pZ).trans hdb) (lL pZ f2.nx) hI2 ht ho
   ·unfold q6k;simp(disch:=go_size)only[go_sem,rB,rI,rK,rL,rN,rS,r6];rw[hp]at ho;have hlt:t<ord.length:=(qm.1 hop).1;have ho':ord.drop (t+1)=jQ es ins m (m-(c+1)) (dn.set p true):=by
     rw[ut hlt]at ho;simp_all
    refine qkp hY hm hml hdD hbs aAN hdv hdg hlen hil hE hin hq k (c+1) (t+1) (dn.set p true) H3 (by omega) (by omega) (by rw[xk];exact hdl) (hR2.keep k3 ?_) k1 (lL pZ (tq f2.nx k3.nx)) k2 hlt ho';rintro b hb (h|h)
    ·exact h (hR2.rb hb)
    ·subst h;rcases hb with e|e|e|e|e|e
     ·omega
     ·omega
     ·omega
     ·omega
     ·exact hdv _ e rfl
     ·exact hdg _ e rfl
   ·rw[hp]at ho;have h0:(ord.drop t)[0]? =some p:=by rw[ho];rfl
    rwa [zf,xy]at h0
  ·simp only[go_sem,hcm];have:c=m:=by omega
   subst this;rw[lAM]at ho;have h0:ord.drop t=[]:=ho;have:ord.length<=t:=List.drop_eq_nil_iff.1 h0;have:t=ord.length:=by omega
   simp_all
theorem zjr(hC:aW C)(hk:1<=k){y bs:Nat}{ord:List Nat}{Inv:Nat->(Nat->Prop)->Hp->Prop}{gv:AV}{es:List Edge}{v:AV}{lb gb ib wb:Nat}{D:Nat->Prop}(hY:YI (C (k-1)) y bs cs ord Inv)(hml:cs.length<900000)(hR:RS D H n gv es v cs ins lb gb ib wb)(hbs:bs<=H.nx)(hlen:es.length<200000)(hil:ins.length=n)(hE:∀ e∈es,e.f<n/\e.t<n)(hin:∀ x<n,ins.getD x 0<cs.length)(ho:ord=jQ es ins cs.length cs.length (List.replicate cs.length false))(hI:Inv 0 D H):Ok (C k (.f 149) [.yield y,.ptr lb 0,.ptr gb 0,.ptr ib 0] H) fun r H'=>r=.aX []/\∃ D',Inv ord.length D' H':=by
 obtain⟨j,rfl⟩:=aS hk;rw[(hC j).zCw];unfold zCw zyz;have e1:=hR.l;have e2:=hR.gl.cO;obtain⟨l1,l2,l3,l4⟩:=hR.lt;have mk:=qgn [.bool false] 1 H.nx cs.length (by omega) (by omega);rw[qeg,q0a]at mk;have fH:Fm No H (aO H (aB 0 (bools (List.replicate cs.length false)))):=(Fm.refl _ _).push _;have e1':(aO H (aB 0 (bools (List.replicate cs.length false)))).get lb=aB 0 [v]:=(fH.keep l1).trans e1;simp only[go_sem,e1,e2,mk,e1'];unfold zvf;rw[dB];have uK:=hR.no fH;have hR2:RS (fun b=>D b\/b=H.nx) (aO H (aB 0 (bools (List.replicate cs.length false)))) n gv es v cs ins lb gb ib wb:=
  ⟨uK.l,uK.g,uK.i,uK.w,uK.gl,uK.e,uK.lt,Or.inl uK.dl,Or.inl uK.dg,Or.inl uK.di,Or.inl uK.dw,fun b h=>Or.inl (uK.dv b h),fun b h=>Or.inl (uK.de b h)⟩
 refine qkp (D:=fun b=>D b\/b=H.nx) hY rfl hml (Or.inr rfl) hbs ⟨by omega,by omega,by omega,by omega⟩ (fun b hb e=>by have:=hR.gl.lt hb;omega) (fun b hb e=>by have:=hR.e.lt hb;omega) hlen hil hE hin (fun H' h=>Ok.ret ⟨rfl,_,h⟩) bX 0 0 (List.replicate cs.length false) _ (by rw[dI];omega) (gq _) (by simp) hR2 (lC _ _) (ak _) (hY.ext 0 D _ _ _ hI (fH.mono fun _ _ h=>h.elim) fun b h=>h.imp id fun e=>⟨by omega,by rw[np];omega⟩) (gq _) ?_;trivial
def aXR(HB H:Hp)(iv:AV)(nb n l ob:Nat)(ins:List Nat)(D:Nat->Prop):Prop:=
 (n=0/\iv=.aA)\/(iv=.sl nb 0 n n true/\H.get nb=aB 0 (aK ins)/\HB.nx<=nb/\nb<l/\¬ D nb/\nb≠ob)
structure OI(LO:LP)(HB:Hp)(L:TT AV 2)(l ob nb x2 n:Nat)(iv:AV)(cs:List AV)(out:List (List Nat))(ord:List Nat)(t:Nat)(D:Nat->Prop)(H:Hp):Prop where
 fm:Fm No HB H
 dlt:∀ b,D b->b<H.nx
 lp:H.get l=LO.blk true L
 hl:HB.nx<=l/\l<H.nx/\¬ D l
 ho:HB.nx<=ob/\ob<l/\¬ D ob
 rc:H.get x2=aB 0 [.aA,.aA]/\x2<l/\¬ D x2/\x2≠ob/\x2≠nb
 ins:∃ eO:List Nat,eO.length=n/\aXR HB H iv nb n l ob eO D/\∀(j i:Nat) (o:List Nat) (x:Nat),j<t->ord[j]? =some i->out[i]? =some o->x∈o->eO[x]? =some j
 lv:∃(lv:AV) (os:List AV),H.get ob=aB 0 [lv,iv]/\Gl 1 H lv t os/\(∀b,In lv b->l<b/\¬ D b)/\∀(j:Nat) (w:AV),os[j]? =some w->∃ i o,ord[j]? =some i/\out[i]? =some o/\Gl 1 H w o.length (aK o)/\gW w=.val (.int .i64 (.ofNat o.length))/\∀ b,In w b->HB.nx<=b/\¬ D b/\b<l/\b≠ob/\b≠nb/\b≠x2
 cs:∀(i:Nat) (c:AV) (o:List Nat),cs[i]? =some c->out[i]? =some o->Gl 1 H c o.length (aK o)/\∀ b,In c b->HB.nx<=b/\¬ D b/\b<l/\b≠ob/\b≠nb/\b≠x2
theorem OI.ext{HB:Hp}{L:TT AV 2}{l ob nb x2 n:Nat}{iv:AV}{out:List (List Nat)}{ord:List Nat}{t:Nat}{D D':Nat->Prop}(h:OI LO HB L l ob nb x2 n iv cs out ord t D H)(f:Fm (fun b=>D b/\HB.nx<=b) H H')(hD:∀ b,D' b->D b\/(H.nx<=b/\b<H'.nx)):OI LO HB L l ob nb x2 n iv cs out ord t D' H':=by
 obtain⟨l1,l2,l3⟩:=h.hl;obtain⟨o1,o2,o3⟩:=h.ho;obtain⟨x1',x3,x4,x5⟩:=h.rc;have nD:∀ b,b<H.nx->¬ D b->¬ D' b:=fun b hb hd hd'=>(hD b hd').elim hd fun g=>by have:=g.1;omega
 have kp:∀ b,b<H.nx->¬ D b->H'.get b=H.get b:=fun b hb hd=>f.get b hb fun g=>hd g.1;obtain⟨eO,i1,i2,i3⟩:=h.ins;obtain⟨lv,os,v1,v2,v3,v4⟩:=h.lv;refine⟨h.fm.then f fun c hc g=>absurd hc (by have:=g.2;omega),fun b hb=>(hD b hb).elim (fun g=>lL (h.dlt b g) f.nx) fun g=>g.2,(kp l l2 l3).trans h.lp,⟨l1,lL l2 f.nx,nD l l2 l3⟩,⟨o1,o2,nD ob (by omega) o3⟩,⟨(kp x2 (by omega) x4).trans x1',x3,nD x2 (by omega) x4,x5⟩,⟨eO,i1,?_,i3⟩,⟨lv,os,(kp ob (by omega) o3).trans v1,v2.keep f.nx fun b hb hlt=>kp b hlt (v3 b hb).2,fun b hb=>⟨(v3 b hb).1,nD b (v2.lt hb) (v3 b hb).2⟩,fun j w hj=>?_⟩,fun i c o h1 h2=>?_⟩
 ·rcases i2 with g|⟨g1,g2,g3,g4,g5,g6⟩
  ·exact Or.inl g
  ·exact Or.inr ⟨g1,(kp nb (by omega) g5).trans g2,g3,g4,nD nb (by omega) g5,g6⟩
 ·obtain⟨i,o,a1,a2,a3,a4,a5⟩:=v4 j w hj;exact⟨i,o,a1,a2,a3.keep f.nx fun b hb hlt=>kp b hlt (a5 b hb).2.1,a4,fun b hb=>⟨(a5 b hb).1,nD b (a3.lt hb) (a5 b hb).2.1,(a5 b hb).2.2⟩⟩
 ·obtain⟨a3,a5⟩:=h.cs i c o h1 h2;exact⟨a3.keep f.nx fun b hb hlt=>kp b hlt (a5 b hb).2.1,fun b hb=>⟨(a5 b hb).1,nD b (a3.lt hb) (a5 b hb).2.1,(a5 b hb).2.2⟩⟩
theorem qza{O:Ev.Call}{c lv:AV}{o:List Nat}{ob nb n t:Nat}{H1:Hp}(hc:Gl 1 H1 c o.length (aK o))(hcb:∀ b,In c b->b≠nb)(hol:o.length<900000)(ho:∀ x∈o,x<n)(hob:H1.get ob=aB 0 [lv,.sl nb 0 n n true])(hin:ob≠nb)(hil:ob<H1.nx)(hlv:aD lv=.val (.int .i64 (.ofNat t))){q:pH}{Q:pL}{fin:List Nat}(hq:∀ H,H.get nb=aB 0 (aK fin)->Fm (fun b=>b=nb) H1 H->Ok (q H) Q):∀(k j:Nat) (ins:List Nat) (H:Hp),o.length-j<k->j<=o.length->ins.length=n->H.get nb=aB 0 (aK ins)->Fm (fun b=>b=nb) H1 H->fill ins (o.drop j) t=fin -> Ok (qka O q (.ptr ob 0) c (.int .i64 (.ofNat o.length)) k (.int .i64 (.ofNat j)) H) Q
 |0,j,ins,H,h,_,_,_,_,_=>by omega
 |k+1,j,ins,H,h,hj,hl,hg,hF,hf=>by
  show Ok (q3a O _ _ _ _ (qka O _ _ _ _ k) _ H) Q;unfold q3a;by_cases hjl:j<o.length
  ·obtain⟨b,q',e1,e2,e3⟩:=hc.rl.at' j (by rw[mO];exact hjl);rw[qih]at e3;have e4:H.get b=H1.get b:=hF.get b e2 (hcb b (hc.yN hjl e1));have e5:H.get ob=aB 0 [lv,.sl nb 0 n n true]:=(hF.get ob hil hin).trans hob;have hx:o[j]<n:=ho _ (lu _);have hle:o[j]+1<=ins.length:=by omega
   simp only[go_sem,hjl];unfold q27;simp(disch:=omega)only[go_sem,seval,e1,e4,e3,e5,hlv,hg,qj,qf,pg,uo,mO,hle,ik];unfold q28;simp(disch:=go_size)only[go_sem,rB,rI,rK,rL,rN,rS,r6];have hd:o.drop j=o[j]::o.drop (j+1):=ut hjl;rw[qwi _ _ _ (by omega)];refine qza hc hcb hol ho hob hin hil hlv hq k (j+1) (ins.set o[j] t) _ (by omega) (by omega) (by rw[xk];exact hl) (dS _ _ _) (hF.put _ _ fun _=>rfl) ?_;rw[hd]at hf;exact hf
  ·simp only[go_sem,hjl];have:j=o.length:=by omega
   subst this;rw[lAO]at hf;subst hf;exact hq H hg hF
theorem z3u(hC:aW C)(hR:oP LA LO C)(hk:2<=k){HB:Hp}{L:TT AV 2}{l ob nb x2 n:Nat}(hG:G L 5=.ptr ob 0){iv:AV}{out:List (List Nat)}{ord:List Nat}{t i:Nat}{c:AV}{D:Nat->Prop}(hI:OI LO HB L l ob nb x2 n iv cs out ord t D H)(ht:ord[t]? =some i)(hc:cs[i]? =some c)(hlen:cs.length=out.length)(hn:n<=256)(ht2:t<900)(hout:∀ o∈out,o≠[]/\o.length<=256/\∀ x∈o,x<n)(hnd:∀(i':Nat) (o' o:List Nat) (x:Nat),out[i']? =some o'->out[i]? =some o->x∈o->x∈o'->i'=i)(hinj:∀ j,j<t->ord[j]? ≠ some i):Ok (C k (.y l) [c] H) fun r H'=>r=.bool true/\OI LO HB L l ob nb x2 n iv cs out ord (t+1) D H'/\Fm (fun b=>¬ D b) H H':=by
 obtain⟨k,rfl⟩:∃ j,k=j+1:=⟨k-1,by omega⟩;rw[(hR k).tY L l c H hI.lp,hG];unfold tY;obtain⟨l1,l2,l3⟩:=hI.hl;obtain⟨o1,o2,o3⟩:=hI.ho;have hic:i<cs.length:=(qm.1 hc).1;obtain⟨o,ho⟩:∃ o,out[i]? =some o:=⟨out[i]'(by omega),by simp⟩;obtain⟨g1,g2⟩:=hI.cs i c o hc ho;obtain⟨q1,q2,q3⟩:=hout o (uq ho);obtain⟨x1',x3,x4,x5⟩:=hI.rc;obtain⟨eO,i1,i2,i3⟩:=hI.ins;obtain⟨lv,os,v1,v2,v3,v4⟩:=hI.lv;have hn0:¬ n=0:=fun e=>by
  cases o with
  |nil=>exact q1 rfl
  |cons x o=>have:=q3 x ql;omega
 rcases i2 with⟨e,_⟩|⟨rfl,b1,b2,b3,b4,b5⟩
 ·exact absurd e hn0
 have hl':=g1.cO;simp only[go_sem,seval,hl'];unfold q3b;rw[dB];generalize hH1:H.put l (LO.blk false L)=H1;have n1:H1.nx=H.nx:=by rw[<-hH1];rfl
 have f1:Fm (fun b=>b=l) H H1:=by rw[<-hH1];exact(Fm.refl _ _).put _ _ fun _=>rfl
 have gl1:H1.get l=LO.blk false L:=by rw[<-hH1,dS]
 have go1:H1.get ob=aB 0 [lv,.sl nb 0 n n true]:=(f1.get ob (by omega) (by omega)).trans v1;have gn1:H1.get nb=aB 0 (aK eO):=(f1.get nb (by omega) (by omega)).trans b1;refine qza (H1:=H1) (g1.fm f1 fun b hb=>by have:=(g2 b hb).2.2.1;omega) (fun b hb=>(g2 b hb).2.2.2.2.1) (by omega) q3 go1 (Ne.symm b5) (by omega) v2.cO (fin:=fill eO o t) (fun H2 k1 k2=>?_) bX 0 eO H1 (by rw[dI];omega) (gq _) i1 gn1 (Fm.refl _ _) rfl;unfold qh4;have n2:=k2.nx;have f2:Fm (fun b=>b=l\/b=nb) H H2:=(f1.mono fun _ _ h=>Or.inl h).trans (k2.mono fun _ _ h=>Or.inr h);have go2:H2.get ob=aB 0 [lv,.sl nb 0 n n true]:=(k2.get ob (by omega) (by omega)).trans go1;have gl2:H2.get l=LO.blk false L:=(k2.get l (by omega) (by omega)).trans gl1;have gc2:Gl 1 H2 c o.length (aK o):=g1.fm f2 fun b hb=>by have:=(g2 b hb).2.2;omega
 obtain⟨w,w1,w2,w3,w4⟩:=znn hC (k:=k) (by omega) (H:=⟨H2.t,H2.nx+8⟩) (gc2.no ((Fm.refl _ _).up 8));have aZn:pN 64 lv lv=true:=qck v2.flat 63;have hol:0<o.length:=zk.2 q1;rcases w2.is with⟨_,h0⟩|⟨wb,wo,we,wq,wL,rfl,_⟩
 ·omega
 simp only[go_sem,seval,go2,w1,aZn];have fX:Fm No H2 (Hp.put ⟨H2.t,H2.nx+8⟩ (H2.nx+4) (aB 0 [.sl wb wo o.length o.length we])):=by(repeat(first|exact Fm.refl _ _|assumption|refine Fm.push ?_ _|refine Fm.lF ?_ (by go_size)|refine Fm.aF ?_ _ _ (by go_size)))
 have v22:Gl 1 H2 lv t os:=v2.fm f2 fun b hb=>by have:=(v3 b hb).1;omega
 obtain⟨H3,e,gl',_,fm',nx'⟩:=(v22.no fX).append (k:=1) (w:=24) (x:=[.sl wb wo o.length o.length we]) (by omega) rfl (by omega) (by omega);refine Ok.deE e ?_;have nx3:H3.nx=H2.nx+8+1:=nx';have yU:∀ b,In lv b->l<b:=fun b hb=>(v3 b hb).1;have go3:H3.get ob=aB 0 [lv,.sl nb 0 n n true]:=(fm'.get ob (by omega) fun hb=>by have:=yU _ hb;omega).trans ((fX.keep (by omega)).trans go2);have gl3:H3.get l=LO.blk false L:=(fm'.get l (by omega) fun hb=>by have:=yU _ hb;omega).trans ((fX.keep (by omega)).trans gl2);simp only[go_sem,seval,go3,pg,uo];have es:bD [lv,.sl nb 0 n n true] 0 [.sl (H2.nx+8) 0 (t+1) (t+1) false]=[.sl (H2.nx+8) 0 (t+1) (t+1) false,.sl nb 0 n n true]:=rfl;rw[es];have gl4:(H3.put ob (aB 0 [.sl (H2.nx+8) 0 (t+1) (t+1) false,.sl nb 0 n n true])).get l=LO.blk false L:=by rw[dG _ _ _ _ (by omega)];exact gl3
 rw[q5n gl4];have f3:Fm (fun b=>b=l\/b=nb\/In lv b) H H3:=(((f2.mono fun _ _ h=>h.imp id Or.inl).trans (fX.mono fun _ _ h=>h.elim)).trans (fm'.mono fun _ _ h=>Or.inr (Or.inr h)));have f4:Fm (fun b=>b=l\/b=nb\/b=ob\/In lv b) H ((H3.put ob (aB 0 [.sl (H2.nx+8) 0 (t+1) (t+1) false,.sl nb 0 n n true])).put l (LO.blk true L)):=
  ((f3.mono (T:=fun b=>b=l\/b=nb\/b=ob\/In lv b) fun _ _ h=>h.imp id (Or.imp id Or.inr)).put ob _ fun _=>Or.inr (Or.inr (Or.inl rfl))).put l _ fun _=>Or.inl rfl
 have n4:((H3.put ob (aB 0 [.sl (H2.nx+8) 0 (t+1) (t+1) false,.sl nb 0 n n true])).put l (LO.blk true L)).nx=H2.nx+9:=nx3;have old:∀{x:AV} {m:Nat} {y:List AV},Gl 1 H x m y->(∀b,In x b->b<l/\b≠ob/\b≠nb/\b≠x2)->Gl 1 ((H3.put ob (aB 0 [.sl (H2.nx+8) 0 (t+1) (t+1) false,.sl nb 0 n n true])).put l (LO.blk true L)) x m y:=fun{x m y} hx hb=>hx.fm f4 fun b hb'=>by
  have:=hb b hb';rintro (h|h|h|h)
  ·omega
  ·omega
  ·omega
  ·have:=yU _ h;omega
 refine Ok.ret ⟨rfl,⟨hI.fm.then f4 fun c hc h=>?_,fun b hb=>lL (hI.dlt b hb) (by omega),dS _ _ _,⟨l1,by omega,l3⟩,⟨o1,o2,o3⟩,⟨?_,x3,x4,x5⟩,⟨fill eO o t,by rw[qfv];exact i1,Or.inr ⟨rfl,?_,b2,b3,b4,b5⟩,fun j i' o' x hj h1 h2 h3=>?_⟩,⟨.sl (H2.nx+8) 0 (t+1) (t+1) false,os++[.sl wb wo o.length o.length we],?_,?_,?_,fun j w hj=>?_⟩,fun i' c' o' h1 h2=>?_⟩,f4.mono fun b _ h=>?_⟩
 ·rcases h with h|h|h|h
  ·omega
  ·omega
  ·omega
  ·have:=yU _ h;omega
 ·rw[f4.get x2 (by omega) ?_]
  ·exact x1'
  ·rintro (h|h|h|h)
   ·omega
   ·omega
   ·omega
   ·have:=yU _ h;omega
 ·rw[dG _ _ _ _ (by omega),dG _ _ _ _ b5,fm'.get nb (by omega) fun hb=>by have:=yU _ hb;omega];exact(fX.keep (by omega)).trans k1
 ·have hx:x<eO.length:=by
   rw[i1];exact(hout o' (uq h2)).2.2 x h3
  rw[qmq t o eO x hx];rcases yf j t with g|g
  ·have h4:=i3 j i' o' x g h1 h2 h3;rw[kz fun hxo=>?_,h4];have:i'=i:=hnd i' o' o x h2 ho hxo h3;subst this;exact hinj j g h1
  ·have:j=t:=by omega
   subst this;rw[ht]at h1;cases h1;rw[ho]at h2;cases h2;rw[pz h3]
 ·rw[dG _ _ _ _ (by omega),dS]
 ·refine gl'.keep (lg _) fun b hb _=>?_;obtain⟨_,_,_,_,h⟩:=hb;cases h;rw[dG _ _ _ _ (by omega),dG _ _ _ _ (by omega)]
 ·rintro b ⟨_,_,_,_,h⟩;have hb:b=H2.nx+8:=by cases h;rfl
  subst hb;exact⟨by omega,fun h=>by have:=hI.dlt _ h;omega⟩
 ·rcases yf j os.length with g|g
  ·rw[uf g]at hj;obtain⟨i',o',a1,a2,a3,a4,a5⟩:=v4 j w hj;exact⟨i',o',a1,a2,old a3 fun b hb=>(a5 b hb).2.2,a4,a5⟩
  ·rw[uC g]at hj;have h0:j-os.length=0:=by
    have:=(qm.1 hj).1;simpa using this
   rw[h0]at hj;cases hj;have hos:os.length=t:=by have:=v2.len;omega
   have hjt:j=t:=by omega
   subst hjt;refine⟨i,o,ht,ho,?_,w3,fun b hb=>g2 b (w4 b hb)⟩;refine w2.keep (by show H2.nx+8<=_;omega) fun b hb _=>?_;obtain⟨_,_,b6,b7,b8⟩:=g2 b (w4 b hb);rw[dG _ _ _ _ (by omega),dG _ _ _ _ b7,fm'.get b (by omega) fun hb=>by have:=yU _ hb;omega];exact fX.keep (by omega)
 ·obtain⟨a1,a2⟩:=hI.cs i' c' o' h1 h2;exact⟨old a1 fun b hb=>(a2 b hb).2.2,a2⟩
 ·rcases h with rfl|rfl|rfl|h
  ·exact l3
  ·exact b4
  ·exact o3
  ·exact(v3 b h).2
theorem kP.eqG{v:AV}{es:List Edge}(h:kP H v es)(n:Int):Ev.pN 64 (.agg [.int .i64 n,v]) (.agg [.int .i64 n,v])=true:=
 qk1 [.int .i64 n,v] (by unfold Tr;rw[lE5,lE5,h.flat];rfl)
theorem zno(hC:aW C)(hk:1<=k){v:AV}(h:Gl 1 H v n l):∃w,C k (.f 121) [v] H=.ok w H/\Gl 1 H w n l/\gW w=.val (.int .i64 (.ofNat n))/\(∀b,In w b->In v b):=by obtain⟨j,rfl⟩:=aS hk;obtain⟨w,e,h1,h2,h3⟩:=h.clip;refine⟨w,?_,h1,h2,h3⟩;rw[(hC j).zCg];unfold zCg zzb;simp only[go_sem,h.cO,e]
theorem qmj{es:List Edge}{ins:List Nat}{m:Nat}:∀(k:Nat) (dn:List Bool) (i:Nat),i∈jQ es ins m k dn->i<m/\dn.getD i true=false
 |0,_,_,h=>by cases h
 |k+1,dn,i,h=>by
  rw[jQ]at h;cases hp:qjk dn (waits es ins dn (List.replicate m false)) m with
  |none=>rw[hp]at h;exact qmj k dn i h
  |some p=>
   rw[hp]at h;obtain⟨p1,p2,_⟩:=qe8 hp;rcases qg.1 h with rfl|h
   ·refine⟨p1,?_⟩;unfold yP at p2;simp_all
   ·obtain⟨h1,h2⟩:=qmj k _ i h;refine⟨h1,?_⟩;rw[kw,lAD]at h2;by_cases e:p=i
    ·subst e;by_cases hl:p<dn.length
     ·simp[hl]at h2
     ·simp[hl]at h2
    ·simp_all
theorem qkq{es:List Edge}{ins:List Nat}{m:Nat}:∀(k:Nat) (dn:List Bool),dn.length=m->(jQ es ins m k dn).Nodup
 |0,_,_=>List.nodup_nil
 |k+1,dn,hd=>by
  rw[jQ];cases hp:qjk dn (waits es ins dn (List.replicate m false)) m with
  |none=>exact qkq k dn hd
  |some p=>obtain⟨p1,p2,_⟩:=qe8 hp;refine ou.2 ⟨fun h=>?_,qkq k _ (by rw[xk];exact hd)⟩;have:=(qmj k _ p h).2;simp_all
structure CR(HB H:Hp)(n:Nat)(lv iv:AV)(os:List AV)(res:List (List Nat))(ins:List Nat):Prop where
 gl:Gl 1 H lv os.length os
 cap:gW lv=.val (.int .i64 (.ofNat os.length))
 len:os.length=res.length
 at':∀(j:Nat) (w:AV) (o:List Nat),os[j]? =some w->res[j]? =some o->Gl 1 H w o.length (aK o)/\gW w=.val (.int .i64 (.ofNat o.length))/\∀ b,In w b->HB.nx<=b
 gi:Gl 1 H iv n (aK ins)
 aZt:gW iv=.val (.int .i64 (.ofNat n))
 ins:∀(j:Nat) (o:List Nat) (x:Nat),res[j]? =some o->x∈o->ins[x]? =some j
 new:∀ b,In lv b\/In iv b->HB.nx<=b
structure qla(n:Nat)(es:List Edge)(out:List (List Nat))(ins:List Nat)(res:List (List Nat)):Prop where
 parts:qdi n (jB es) out
 asc:out.Pairwise fun a b=>a.headD 0<b.headD 0
 il:ins.length=n
 ix:∀(i:Nat) (o:List Nat) (x:Nat),out[i]? =some o->x∈o->ins[x]? =some i
 res:res=(jQ es ins out.length out.length (List.replicate out.length false)).map fun i=>out.getD i []
theorem qdi.perm{out out':List (List Nat)}(h:qdi n aQ out)(p:out'.Perm out):qdi n aQ out':=
 ⟨fun c hc=>h.scc c (p.mem_iff.1 hc),p.flatten.nodup_iff.2 h.nd,fun x=>p.flatten.mem_iff.trans (h.all x)⟩
theorem q8u:∀(out:List (List Nat)) (i j:Nat) (a b:List Nat) (x:Nat),out.flatten.Nodup->out[i]? =some a->out[j]? =some b->x∈a->x∈b->i=j
 | [],_,_,_,_,_,_,h,_,_,_=>by simp at h
 |o::r,0,0,_,_,_,_,_,_,_,_=>rfl
 |o::r,0,j+1,a,b,x,hn,h1,h2,h3,h4=>by rw[ai,xf]at hn;simp at h1;subst h1;exact absurd rfl (hn.2.2 x h3 x (dC.2 ⟨b,uq (by simpa using h2),h4⟩))
 |o::r,i+1,0,a,b,x,hn,h1,h2,h3,h4=>by rw[ai,xf]at hn;simp at h2;subst h2;exact absurd rfl (hn.2.2 x h4 x (dC.2 ⟨a,uq (by simpa using h1),h3⟩))
 |o::r,i+1,j+1,a,b,x,hn,h1,h2,h3,h4=>by rw[ai,xf]at hn;rw[q8u r i j a b x hn.2.1 (by simpa using h1) (by simpa using h2) h3 h4]
theorem qdi.sizes{out:List (List Nat)}(h:qdi n aQ out)(hn:n<=256):out.length<=256/\∀ o∈out,o≠[]/\o.length<=256/\∀ x∈o,x<n:=by
 have hfl:out.flatten.length<=n:=by have:=h.nd.length_le_of_subset (l₂:=List.range n) fun x hx=>uu.2 ((h.all x).1 hx);simp_all
 have hne:∀ o∈out,o≠[]:=fun o ho e=>by obtain⟨_,r,hr,_⟩:=h.scc o ho;rw[e]at hr;cases hr
 have hle:∀(o:List (List Nat)),(∀c∈o,c≠[])->o.length<=o.flatten.length:=fun o=>by
  induction o with
  |nil=>intro _;exact lg _
  |cons c o ih=>intro h;have h1:=ih fun c hc=>h c (qx _ hc);have h2:0<c.length:=zk.2 (h c ql);rw[ai,lq,pg];omega
 have:=hle out hne;refine⟨by omega,fun o ho=>⟨hne o ho,?_,fun x hx=>(h.all x).1 (dC.2 ⟨o,ho,hx⟩)⟩⟩;have:o.length<=out.flatten.length:=(List.sublist_flatten_of_mem ho).length_le;omega
theorem zup(hC:aW C)(hR:oP LA LO C)(hj:10<=j){HB:Hp}{es:List Edge}(hE:∀ e∈es,e.f<n/\e.t<n)(hn:n<=256)(hlen:es.length<200000){gv v:AV}(hg:kP HB gv es){out:List (List Nat)}{lb gb ib wb ob x2 nb:Nat}{iv:AV}{L:TT AV 2}(hg5:G L 5=.ptr ob 0)(hg2:G L 2=.ptr x2 0)(hS:aGO H0 H n gv v cs out ins lb gb ib wb)(hout:qla n es out ins ((jQ es ins out.length out.length (List.replicate out.length false)).map fun i=>out.getD i []))(hnew:H0.nx<=lb/\H0.nx<=gb/\H0.nx<=ib/\H0.nx<=wb)(hcb:∀(i:Nat) (c:AV) (b:Nat),cs[i]? =some c->In c b->b≠lb/\b≠gb/\b≠ib/\b≠wb)(hf:Fm No HB H)(hob:HB.nx<=ob/\ob<H0.nx)(hx2:HB.nx<=x2/\x2<H0.nx/\x2≠ob)(hgo:H.get ob=aB 0 [.aA,iv])(hgx:H.get x2=aB 0 [.aA,.aA])(hiv:(n=0/\iv=.aA/\nb=ob)\/(0<n/\iv=.sl nb 0 n n true/\H.get nb=aB 0 (aK (List.replicate n 0))/\HB.nx<=nb/\nb<H0.nx/\nb≠ob/\nb≠x2))(h0:H0.nx<=H.nx):Ok (zqi LO (C j) L (.fn 149 [] [.ptr lb 0,.ptr gb 0,.ptr ib 0]) H) fun r H'=>∃ lv iv os eO,r=.aX [.agg [lv,iv],.int .i64 (.ofNat 0)] /\ CR HB H' n lv iv os ((jQ es ins out.length out.length (List.replicate out.length false)).map fun i=>out.getD i []) eO/\Fm No HB H':=by
 unfold zqi;have hls:=hS.ls;have aFa:=hls.len;obtain⟨l1,l2,l3,l4⟩:=hS.lt;obtain⟨z1,z2⟩:=hout.parts.sizes hn;have hnd:=hout.parts.nd;generalize yX:jQ es ins out.length out.length (List.replicate out.length false)=ord;have hom:∀ i∈ord,i<out.length:=fun i hi=>(qmj _ _ i (by rw[yX];exact hi)).1;have hon:ord.Nodup:=by rw[<-yX];exact qkq _ _ (by simp)
 have hol:ord.length<=out.length:=by have:=hon.length_le_of_subset (l₂:=List.range out.length) fun x hx=>uu.2 (hom x hx);rwa [lAF]at this
 have hgl:=hS.ls.gl;have hgH:kP H gv es:=hg.fm hf;have aE3:∀ b,In gv b->b<HB.nx:=fun b hb=>hg.lt hb;have aFh:∀ b,In v b->H0.nx<=b/\b<H.nx:=fun b hb=>⟨hls.new b hb,hgl.lt hb⟩;have fH:Fm No H (aO H (LO.blk true L)):=(Fm.refl _ _).push _;have hRS:RS (RB gv v lb gb ib wb) (aO H (LO.blk true L)) n gv es v cs ins lb gb ib wb:=by refine⟨(fH.keep l1).trans hS.l,(fH.keep l2).trans hS.g,(fH.keep l3).trans hS.i,(fH.keep l4).trans hS.w,hgl.no fH,hgH.fm fH,⟨by rw[np];omega,by rw[np];omega,by rw[np];omega,by rw[np];omega⟩,Or.inl rfl,Or.inr (Or.inl rfl),Or.inr (Or.inr (Or.inl rfl)),Or.inr (Or.inr (Or.inr (Or.inl rfl))),fun b h=>Or.inr (Or.inr (Or.inr (Or.inr (Or.inl h)))),fun b h=>Or.inr (Or.inr (Or.inr (Or.inr (Or.inr h))))⟩
 have aCz:∀ b,RB gv v lb gb ib wb b->b<H.nx/\(b<HB.nx\/H0.nx<=b):=fun b hb=>by
  rcases hb with rfl|rfl|rfl|rfl|h|h
  ·exact⟨l1,Or.inr hnew.1⟩
  ·exact⟨l2,Or.inr hnew.2.1⟩
  ·exact⟨l3,Or.inr hnew.2.2.1⟩
  ·exact⟨l4,Or.inr hnew.2.2.2⟩
  ·exact⟨(aFh b h).2,Or.inr (aFh b h).1⟩
  ·have:=aE3 b h;exact⟨by omega,Or.inl this⟩
 have hmid:∀ b,HB.nx<=b->b<H0.nx->¬ RB gv v lb gb ib wb b:=fun b h1 h2 h=>by have:=(aCz b h).2;omega
 have hI0:OI LO HB L H.nx ob nb x2 n iv cs out ord 0 (RB gv v lb gb ib wb) (aO H (LO.blk true L)):=by
  refine⟨hf.trans fH,fun b hb=>by have:=(aCz b hb).1;rw[np];omega,lC _ _,⟨hf.nx,ak _,fun h=>by have:=(aCz _ h).1;omega⟩,⟨hob.1,by omega,hmid ob hob.1 hob.2⟩,⟨(fH.keep (by omega)).trans hgx,by omega,hmid x2 hx2.1 hx2.2.1,hx2.2.2,?_⟩,⟨List.replicate n 0,by simp,?_,fun j i o x hj=>absurd hj (ig _)⟩,⟨.aA,[],(fH.keep (by omega)).trans hgo,Gl.nil _ _,fun b hb=>(by obtain⟨_,_,_,_,h⟩:=hb;cases h),fun j w h=>(by simp at h)⟩,fun i c o h1 h2=>?_⟩
  ·rcases hiv with⟨_,_,e⟩|⟨_,_,_,_,_,_,a6⟩
   ·rw[e];exact hx2.2.2
   ·exact Ne.symm a6
  ·rcases hiv with⟨a1,a2,_⟩|⟨_,a1,a2,a3,a4,a5,a6⟩
   ·exact Or.inl ⟨a1,a2⟩
   ·exact Or.inr ⟨a1,(fH.keep (by omega)).trans a2,a3,by omega,hmid nb a3 a4,a5⟩
  ·obtain⟨c1,c2,c3⟩:=hls.at' i c o h1 h2;refine⟨c2.no fH,fun b hb=>?_⟩;obtain⟨d1,d2⟩:=c3 b hb;have d3:=c2.lt hb;have hh:=hf.nx;refine⟨by omega,?_,d3,by omega,?_⟩
   ·rintro (e|e|e|e|e|e)
    ·exact(hcb i c b h1 hb).1 e
    ·exact(hcb i c b h1 hb).2.1 e
    ·exact(hcb i c b h1 hb).2.2.1 e
    ·exact(hcb i c b h1 hb).2.2.2 e
    ·exact d2 e
    ·have:=aE3 b e;omega
   ·rcases hiv with⟨_,_,e⟩|⟨_,_,_,_,a4,_,_⟩
    ·exact⟨by omega,by omega⟩
    ·exact⟨by omega,by omega⟩
 have hY:YI (C (j-1)) H.nx HB.nx cs ord (OI LO HB L H.nx ob nb x2 n iv cs out ord):=by refine⟨fun t D D' H1 H2 h f hD=>h.ext f hD,fun t i c D H1 h1 h2 h=>?_⟩;have hit:t<ord.length:=(qm.1 h1).1;refine z3u hC hR (by omega) hg5 h h1 h2 aFa hn (by omega) z2 (fun i' o' o x e1 e2 e3 e4=>q8u out i' i o' o x hnd e1 e2 e4 e3) fun j' hj' e=>?_;have:=(List.getElem?_inj (by omega) hon).1 (e.trans h1.symm);omega
 have hin:∀ x<n,ins.getD x 0<cs.length:=fun x hx=>by obtain⟨o,ho,hxo⟩:=dC.1 ((hout.parts.all x).2 hx);obtain⟨i,hi⟩:=lAB.1 ho;have h1:=hout.ix i o x hi hxo;rw[kw,h1];have:=(qm.1 hi).1;show i<cs.length;omega
 have O:qgw (C j) (.fn 149 [] [.ptr lb 0,.ptr gb 0,.ptr ib 0]) [.yield H.nx] (aO H (LO.blk true L))=C j (.f 149) [.yield H.nx,.ptr lb 0,.ptr gb 0,.ptr ib 0] (aO H (LO.blk true L)):=rfl;refine Ok.aCD (zjr hC (k:=j) (by omega) hY (by omega) hRS (by rw[np];have:=hf.nx;omega) hlen hout.il hE hin (by rw[aFa,yX]) hI0) ?_;rintro r H1 ⟨rfl,D',hI⟩;rw[z0z hI.lp,hg5,hg2];unfold q29;obtain⟨eO,i1,i2,i3⟩:=hI.ins;obtain⟨lv,os,v1,v2,v3,v4⟩:=hI.lv;obtain⟨k1,k2,k3⟩:=hI.hl;obtain⟨x1',x3,x4,x5,x6⟩:=hI.rc;have fd:Fm (fun b=>b=H.nx) H1 (H1.put H.nx .dead):=(Fm.refl _ _).put _ _ fun _=>rfl;have go:(H1.put H.nx .dead).get ob=aB 0 [lv,iv]:=(fd.get ob (by omega) (by omega)).trans v1;have gx:(H1.put H.nx .dead).get x2=aB 0 [.aA,.aA]:=(fd.get x2 (by omega) (by omega)).trans x1';have gv2:Gl 1 (H1.put H.nx .dead) lv ord.length os:=v2.fm fd fun b hb=>by have:=(v3 b hb).1;omega
 obtain⟨w,w1,w2,w3,w4⟩:=zno hC (k:=j) (by omega) gv2;have aEg:os.length=ord.length:=by have:=v2.len;omega
 generalize hH2:H1.put H.nx .dead=H2 at *;have n2:H2.nx=H1.nx:=by rw[<-hH2];rfl
 have wsl:(w=.aA)\/∃ b o n m e,w=.sl b o n m e:=by
  rcases w2.is with⟨h,_⟩|⟨b,o,e,q,L,h,_⟩
  ·exact Or.inl h
  ·exact Or.inr ⟨_,_,_,_,_,h⟩
 have run:∃ H3,(vq (aP 0 (.ptr ob 0)) H2 fun a3 H=>vq (aT H a3) H fun a4 H=>ve (C j (.f 121) [a4] H) fun a5 H=>vq (aP 0 (.ptr ob 0)) H fun a6 H=>ve (kL H a6 a5) fun _ H=>vq (dD 2 H (.ptr ob 0)) H fun a8 H=>ve (xV 2 H (.ptr x2 0) a8) fun _ H=>
   fJ (jK (qbv (rV (dD 2 H (.ptr x2 0))) (qbv (some (.int .i64 (.ofNat 0))) (some [])))) H)=.ok (.aX [.agg [w,iv],.int .i64 (.ofNat 0)]) H3/\Fm (fun b=>b=ob\/b=x2) H2 H3:=by
  have f3:∀ B1 B2,Fm (fun b=>b=ob\/b=x2) H2 ((H2.put ob B1).put x2 B2):=fun B1 B2=>((Fm.refl _ _).put _ _ fun _=>Or.inl rfl).put _ _ fun _=>Or.inr rfl;have es2:∀ x:AV,bD [lv,iv] 0 [x]=[x,iv]:=fun _=>rfl;have es3:∀ x:AV,bD [AV.aA,AV.aA] 0 [x,iv]=[x,iv]:=fun _=>rfl;have es4:∀ x:AV,List.take 2 [x,iv]=[x,iv]:=fun _=>rfl;rcases wsl with rfl|⟨b,o,n,m,e,rfl⟩
  ·simp(disch:=omega)only[go_sem,seval,go,w1,gx,es2,es3,es4,pg,uo,lg,ik,oq];exact⟨_,rfl,f3 _ _⟩
  ·simp(disch:=omega)only[go_sem,seval,go,w1,gx,es2,es3,es4,pg,uo,lg,ik,oq];exact⟨_,rfl,f3 _ _⟩
 obtain⟨H3,e3,f3⟩:=run;rw[e3];have n3:=f3.nx;have old:∀{x:AV} {m:Nat} {y:List AV},Gl 1 H1 x m y->(∀b,In x b->b≠H.nx/\b≠ob/\b≠x2)->Gl 1 H3 x m y:=fun{x m y} hx hb=>(hx.fm fd fun b hb'=>(hb b hb').1).fm f3 fun b hb'=>by
  have:=hb b hb';rintro (h|h)
  ·exact this.2.1 h
  ·exact this.2.2 h
 refine Ok.ret ⟨w,iv,os,eO,rfl,⟨?_,?_,?_,fun j' w' o' h1 h2=>?_,?_,?_,fun j' o' x h1 h2=>?_,fun b hb=>?_⟩,?_⟩
 ·-- the list
  have h5:Gl 1 H3 w ord.length os:=w2.fm f3 fun b hb h=>by
   have h6:=(v3 b (w4 b hb)).1;rcases h with h|h
   ·omega
   ·omega
  rw[aEg];exact h5
 ·rw[aEg];exact w3
 ·rw[aEg,qc]
 ·obtain⟨i,o,a1,a2,a3,a4,a5⟩:=v4 j' w' h1;rw[xw,a1]at h2;have h2:out.getD i []=o':=Option.some.inj h2;rw[kw,a2]at h2;have h2:o=o':=h2;subst h2;exact⟨old a3 fun b hb=>by have:=a5 b hb;exact⟨by omega,by omega,by omega⟩,a4,fun b hb=>(a5 b hb).1⟩
 ·rcases i2 with⟨b1,b2⟩|⟨b1,b2,b3,b4,b5,b6⟩
  ·have:eO=[]:=ry.1 (by omega);rw[b1,b2,this];exact Gl.nil _ _
  ·rcases hiv with⟨_,h,_⟩|⟨_,_,_,_,_,_,a6⟩
   ·rw[b1]at h;cases h
   ·rw[b1];have g3:H3.get nb=aB 0 (aK eO):=(f3.get nb (by omega) (by rintro (h|h);exact b6 h;exact a6 h)).trans ((fd.get nb (by omega) (by omega)).trans b2);exact⟨by rw[mO,i1,qj],.inr ⟨nb,0,true,0,_,rfl,g3,gq _,oq,Or.inl rfl,by omega⟩⟩
 ·rcases i2 with⟨b1,b2⟩|⟨b1,_⟩
  ·rw[b1,b2];rfl
  ·rw[b1];rfl
 ·rw[xw]at h1;cases ho:ord[j']? with
  |none=>rw[ho]at h1;cases h1
  |some i=>rw[ho]at h1;have h1:out.getD i []=o':=Option.some.inj h1;have hi:i<out.length:=hom i (uq ho);rw[kw,lh hi]at h1;have h1:out[i]=o':=h1;exact i3 j' i o' x (qm.1 ho).1 ho (by rw[lh hi,h1]) h2
 ·have hh:=hf.nx;rcases hb with hb|hb
  ·have:=(v3 b (w4 b hb)).1;omega
  ·rcases i2 with⟨_,b2⟩|⟨b1,_,b3,_⟩
   ·rw[b2]at hb;obtain⟨_,_,_,_,h⟩:=hb;cases h
   ·rw[b1]at hb;obtain⟨_,_,_,_,h⟩:=hb;cases h;exact b3
 ·refine hI.fm.then ((fd.mono (T:=fun b=>b=H.nx\/b=ob\/b=x2) fun _ _ h=>Or.inl h).trans (f3.mono fun _ _ h=>Or.inr h)) fun c hc h=>?_;omega
theorem z9j(hC:aW C)(hO:pV C)(hS:oO C)(hR:oP LA LO C)(hj:920<=j){HB:Hp}{es:List Edge}(hE:qdj n es)(hn:n<=256)(hlen:es.length<200000){gv:AV}(hg:kP HB gv es){g0 ob x2 nb:Nat}{iv:AV}{L:TT AV 2}(hg5:∀ a12 bV bM bP,G (pu L [(22,a12),(23,bV),(24,bM),(25,bP)]) 5=.ptr ob 0)(hg2:∀ a12 bV bM bP,G (pu L [(22,a12),(23,bV),(24,bM),(25,bP)]) 2=.ptr x2 0)(hf:Fm No HB H)(hg0:H.get g0=aB 0 [.int .i64 (.ofNat n),gv])(aLK:g0<H.nx)(hob:HB.nx<=ob/\ob<H.nx)(hx2:HB.nx<=x2/\x2<H.nx/\x2≠ob)(hgo:H.get ob=aB 0 [.aA,iv])(hgx:H.get x2=aB 0 [.aA,.aA])(hiv:(n=0/\iv=.aA/\nb=ob)\/(0<n/\iv=.sl nb 0 n n true/\H.get nb=aB 0 (aK (List.replicate n 0))/\HB.nx<=nb/\nb<H.nx/\nb≠ob/\nb≠x2)):Ok (qnv LO (C j) L (.ptr g0 0) H) fun r H'=>∃ lv iv os eO out ins res,r=.aX [.agg [lv,iv],.int .i64 (.ofNat 0)]/\qla n es out ins res/\CR HB H' n lv iv os res eO/\Fm No HB H':=by
 unfold qnv;have hgH:kP H gv es:=hg.fm hf;have hq:=hgH.eqG (.ofNat n);simp only[go_sem,seval,hg0];refine Ok.mI (zsk hC hO hS hR (k:=j) (by omega) hn hlen hE.rng hgH) ?_;rintro v H1 ⟨cs,out,hP,hL,f1⟩;have hL:nR H H1 v cs out:=hL;have f1:Fm No H H1:=f1;have hg1:H1.get g0=aB 0 [.int .i64 (.ofNat n),gv]:=(f1.keep aLK).trans hg0;simp only[go_sem,seval,hg1,hq];obtain⟨z1,z2⟩:=hP.sizes hn;refine Ok.mI (zr4 hC hS (k:=j) hj hL f1.nx hn z1 z2 hP.nd) ?_;rintro r H2 ⟨lb,gb,ib,wb,cs',out',ins,rfl,hp,ha,hRd,hcc,f2,hnew⟩;have f2:Fm (In v) H1 H2:=f2;have bAq:H2.get g0=aB 0 [.int .i64 (.ofNat n),gv]:=(f2.get _ (lL aLK f1.nx) fun h=>by have:=hL.new _ h;omega).trans hg1;simp only[go_sem,bAq,hq];have hP':=hP.perm hp;have n1:=f1.nx;have n2:=f2.nx;have fB1:Fm No HB H1:=hf.trans f1;have fB2:Fm No HB H2:=fB1.then f2 fun c hc h=>by have:=hL.new c h;have:=hf.nx;omega
 have aFH:∀{b:Nat} {k:bO},b<H.nx->H.get b=k->H2.get b=k:=fun{b k} hb h=>(f2.get b (by omega) fun h=>by have:=hL.new b h;omega).trans ((f1.keep hb).trans h);have hO':qla n es out' ins ((jQ es ins out'.length out'.length (List.replicate out'.length false)).map fun i=>out'.getD i []):=⟨hP',ha,hRd.il,hRd.ix,rfl⟩;have aZK:aGO H H2 n gv v cs' out' ins lb gb ib wb:=hRd;refine(zup hC hR (j:=j) (by omega) hE.rng hn hlen hg (hg5 _ _ _ _) (hg2 _ _ _ _) aZK hO' ⟨by omega,by omega,by omega,by omega⟩ (fun i c b h1 h2=>?_) fB2 hob hx2 (aFH hob.2 hgo) (aFH hx2.2.1 hgx) (nb:=nb) (iv:=iv) ?_ (by omega)).mono ?_
 ·-- the components' blocks are older than the closure's
  have hm:=hcc c (uq h1);obtain⟨i',hi',rfl⟩:=ay hm;obtain⟨_,h3,_⟩:=hL.at' i' cs[i'] (out[i']'(by rw[<-hL.len];exact hi')) (by simp) (by simp);have:=h3.lt h2;omega
 ·rcases hiv with h|⟨h1,h2,h3,h4,h5,h6,h7⟩
  ·exact Or.inl h
  ·simp_all
 ·rintro r H3 ⟨lv,iv,os,eO,h1,h2,h3⟩;exact⟨lv,iv,os,eO,out',ins,_,h1,hO',h2,h3⟩
theorem z9i(hC:aW C)(hO:pV C)(hS:oO C)(hR:oP LA LO C)(hk:921<=k){es:List Edge}(hE:qdj n es)(hn:n<=256)(hlen:es.length<200000){gv:AV}(hg:kP H gv es):Ok (C k (.f 89) [.agg [.int .i64 (.ofNat n),gv]] H) fun r H'=>∃ lv iv os eO out ins res,r=.aX [.agg [lv,iv],.int .i64 (.ofNat 0)]/\qla n es out ins res/\CR H H' n lv iv os res eO/\Fm No H H':=by
 obtain⟨j,rfl⟩:=aS hk;rw[(hR j).zBo];unfold zBo zzp;simp(disch:=first|go_size|omega)only[go_sem,seval];generalize hH1:aO (aO H (aB 0 [.int .i64 (.ofNat n),gv])) (aB 0 [.aA,.aA])=H1;have n1:H1.nx=H.nx+2:=by rw[<-hH1];rfl
 have f1:Fm No H H1:=by rw[<-hH1];exact((Fm.refl _ _).push _).push _
 have g1:H1.get H.nx=aB 0 [.int .i64 (.ofNat n),gv]:=by rw[<-hH1,qbj _ _ _ (by rw[np];omega),lC]
 have x1:H1.get (H.nx+1)=aB 0 [.aA,.aA]:=by rw[<-hH1];exact lC _ _
 refine Ok.ve (zuv hC (k:=j) (by omega) hE hn (by omega) (hg.fm f1)) ?_;rintro r H2 ⟨rfl,f2⟩;have n2:=f2.nx;generalize nV [AV.agg [AV.int IntKind.i64 (Int.ofNat n),gv]] 0 (same AV.undef 2)=L0;unfold q26;have g2:H2.get H.nx=aB 0 [.int .i64 (.ofNat n),gv]:=(f2.keep (by omega)).trans g1;have x2:H2.get (H.nx+1)=aB 0 [.aA,.aA]:=(f2.keep (by omega)).trans x1;have f12:=f1.trans f2;by_cases h0:0<n
 ·have mk:=qgn [.int .i64 (.ofNat 0)] 8 (H2.nx+1) n (by omega) (by omega);rw[qeg,qwj]at mk;simp(disch:=first|go_size|omega)only[go_sem,rB,rI,rK,rL,rN,rS,r6,g2,h0,mk];have es1:bD [AV.aA,AV.aA] 1 [.sl (H2.nx+1) 0 n n true]=[.aA,.sl (H2.nx+1) 0 n n true]:=rfl
  try rw[es1]
  generalize hX:(aO (aO H2 (aB 0 [AV.aA,AV.aA])) (aB 0 (aK (List.replicate n 0)))).put H2.nx (aB 0 [AV.aA,AV.sl (H2.nx+1) 0 n n true])=HX;have nX:HX.nx=H2.nx+2:=by rw[<-hX];rfl
  have fX:Fm No H2 HX:=by rw[<-hX];exact(((Fm.refl _ _).push _).push _).aF _ _ (by omega)
  refine z9j hC hO hS hR (j:=j) (by omega) hE hn hlen hg (ob:=H2.nx) (x2:=H.nx+1) (nb:=H2.nx+1) (iv:=.sl (H2.nx+1) 0 n n true) (g0:=H.nx) (fun _ _ _ _=>by kernel_rfl) (fun _ _ _ _=>by kernel_rfl) ?_ ?_ ?_ ?_ ?_ ?_ ?_ ?_
  ·exact f12.trans fX
  ·exact(fX.keep (by omega)).trans g2
  ·omega
  ·omega
  ·omega
  ·rw[<-hX,dS]
  ·exact(fX.keep (by omega)).trans x2
  ·refine Or.inr ⟨h0,rfl,?_,by omega,by omega,by omega,by omega⟩;rw[<-hX,dG _ _ _ _ (by omega)];exact lC (aO H2 _) _
 ·simp(disch:=go_size)only[go_sem,rB,rI,rK,rL,rN,rS,r6,g2,h0];generalize hX:aO H2 (aB 0 [AV.aA,AV.aA])=HX;have nX:HX.nx=H2.nx+1:=by rw[<-hX];rfl
  have fX:Fm No H2 HX:=by rw[<-hX];exact(Fm.refl _ _).push _
  refine z9j hC hO hS hR (j:=j) (by omega) hE hn hlen hg (ob:=H2.nx) (x2:=H.nx+1) (nb:=H2.nx) (iv:=.aA) (g0:=H.nx) (fun _ _ _ _=>by kernel_rfl) (fun _ _ _ _=>by kernel_rfl) ?_ ?_ ?_ ?_ ?_ ?_ ?_ ?_
  ·exact f12.trans fX
  ·exact(fX.keep (by omega)).trans g2
  ·omega
  ·omega
  ·omega
  ·rw[<-hX,lC]
  ·exact(fX.keep (by omega)).trans x2
  ·simp_all
end Go.Di
end
noncomputable section
namespace Go.Di.T
open Classical
variable {n:Nat} {aQ:Nat->List Nat}
def Rdy(n:Nat)(aQ:Nat->List Nat)(pre:List (List Nat))(i:Nat):Prop:=∀ k,k<n->Rc aQ i k->k∈pre.flatten\/Rc aQ k i
structure aKE(n:Nat)(aQ:Nat->List Nat)(pre:List (List Nat))(i:Nat):Prop where
 lt:i<n
 new:i∉pre.flatten
 rdy:Rdy n aQ pre i
 least:∀ j,j<i->j∉pre.flatten->¬ Rdy n aQ pre j
def zxe(n:Nat)(aQ:Nat->List Nat)(i:Nat)(c:List Nat):Prop:=c.Pairwise (· < ·)/\∀ x,x∈c↔x<n/\Rc aQ i x/\Rc aQ x i
def jX(n:Nat)(aQ:Nat->List Nat):List (List Nat)->List (List Nat)->Prop
 |pre,[]=>∀ x,x<n->x∈pre.flatten
 |pre,c::R=>(∃i,aKE n aQ pre i/\zxe n aQ i c)/\jX n aQ (pre++[c]) R
theorem q90:∀{l l':List Nat},l.Pairwise (· < ·)->l'.Pairwise (· < ·)->(∀x,x∈l↔x∈l')->l=l'
 | [],[],_,_,_=>rfl
 | [],y::_,_,_,h=>absurd ((h y).2 ql) (by simp)
 |x::_,[],_,_,h=>absurd ((h x).1 ql) (by simp)
 |x::l,y::l',h1,h2,h=>by
  rw[yl]at h1 h2;have exy:x=y:=by
   rcases qg.1 ((h x).1 ql)with e|hx
   ·exact e
   ·rcases qg.1 ((h y).2 ql)with e|hy
    ·exact e.symm
    ·have:=h1.1 y hy;have:=h2.1 x hx;omega
  subst exy;rw[q90 h1.2 h2.2 fun z=>⟨fun hz=>?_,fun hz=>?_⟩]
  ·rcases qg.1 ((h z).1 (qx _ hz))with e|g
   ·have:=h1.1 z hz;omega
   ·exact g
  ·rcases qg.1 ((h z).2 (qx _ hz))with e|g
   ·have:=h2.1 z hz;omega
   ·exact g
theorem jX.uniq:∀{R R' pre:List (List Nat)},jX n aQ pre R->jX n aQ pre R'->R=R'
 | [],[],_,_,_=>rfl
 | [],c::R',pre,h,h'=>by obtain⟨⟨i,hi,_⟩,_⟩:=h';exact absurd (h i hi.lt) hi.new
 |c::R,[],pre,h,h'=>by obtain⟨⟨i,hi,_⟩,_⟩:=h;exact absurd (h' i hi.lt) hi.new
 |c::R,c'::R',pre,h,h'=>by
  obtain⟨⟨i,hi,hc⟩,h2⟩:=h;obtain⟨⟨i',hi',hc'⟩,h2'⟩:=h';have e:i=i':=by
   rcases oz i i' with g|g|g
   ·exact absurd hi.rdy (hi'.least i g hi.new)
   ·exact g
   ·exact absurd hi'.rdy (hi.least i' g hi'.new)
  subst e;have ec:c=c':=q90 hc.1 hc'.1 fun x=>(hc.2 x).trans (hc'.2 x).symm;subst ec;rw[jX.uniq h2 h2']
def cnt(n:Nat)(aQ:Nat->List Nat)(i:Nat):Nat:=((List.range n).filter fun k=>decide (Rc aQ i k)).length
theorem cnt_lt{i k:Nat}(hi:i<n)(h:Rc aQ i k)(hn:¬ Rc aQ k i):cnt n aQ k<cnt n aQ i:=by
 unfold cnt;have hsub:∀(l:List Nat),(l.filter fun x=>decide (Rc aQ k x)).length<=(l.filter fun x=>decide (Rc aQ i x)).length:=fun l=>by
  induction l with
  |nil=>exact lg _
  |cons x l ih=>
   rw[iw,iw];by_cases h1:Rc aQ k x
   ·rw[pz (by simpa using h1),pz (by simpa using h.trans h1)];simpa using ih
   ·rw[kz (by simpa using h1)];split
    ·simp only[pg];omega
    ·exact ih
 have hlt:∀(l:List Nat),i∈l->(l.filter fun x=>decide (Rc aQ k x)).length<(l.filter fun x=>decide (Rc aQ i x)).length:=fun l=>by
  induction l with
  |nil=>intro h;cases h
  |cons x l ih=>
   intro hm;rw[iw,iw];by_cases e:x=i
   ·subst e;rw[kz (by simpa using hn),pz (by simpa using Rc.refl x)];have:=hsub l;simp only[pg];omega
   ·have hm':i∈l:=(qg.1 hm).resolve_left fun h=>e h.symm;have:=ih hm';by_cases h1:Rc aQ k x
    ·rw[pz (by simpa using h1),pz (by simpa using h.trans h1)];simp_all
    ·rw[kz (by simpa using h1)];split
     ·simp only[pg];omega
     ·exact this
 simp_all
theorem z5u{pre:List (List Nat)}(aG5:∀ u,∀k∈aQ u,k<n){x:Nat}(hx:x<n)(hn:x∉pre.flatten):∃ i,i<n/\i∉pre.flatten/\Rdy n aQ pre i:=by
 have key:∀ m x,cnt n aQ x=m->x<n->x∉pre.flatten->∃ i,i<n/\i∉pre.flatten/\Rdy n aQ pre i:=fun m=>by
  induction m using Nat.strongRecOn with
  |_ m ih=>
   intro x hm hx hn;by_cases hr:Rdy n aQ pre x
   ·exact⟨x,hx,hn,hr⟩
   ·unfold Rdy at hr;simp only[not_forall]at hr;obtain⟨k,hk,hr1,hr2⟩:=hr;rw[not_or]at hr2;exact ih (cnt n aQ k) (by rw[<-hm];exact cnt_lt hx hr1 hr2.2) k rfl hk hr2.1
 exact key _ x rfl hx hn
theorem qsn:∀{R pre:List (List Nat)},jX n aQ pre R->(∀x∈pre.flatten,x<n)->pre.flatten.Nodup->(∀x∈pre.flatten,∀y,y<n->Rc aQ x y->Rc aQ y x->y∈pre.flatten) -> (pre++R).flatten.Nodup/\(∀x∈(pre++R).flatten,x<n)/\(∀x,x<n->x∈(pre++R).flatten)/\∀ o∈R,o≠[]
 | [],pre,h,h1,h2,_=>by rw[uh];exact⟨h2,h1,h,fun o ho=>by cases ho⟩
 |c::R,pre,⟨⟨i,hi,hc⟩,h⟩,h1,h2,h3=>by
  have hfl:(pre++[c]).flatten=pre.flatten++c:=by rw[ny];simp
  have hii:i∈c:=(hc.2 i).2 ⟨hi.lt,Rc.refl _,Rc.refl _⟩;have ih:=qsn h (fun x hx=>?_) ?_ fun x hx y hy r1 r2=>?_
  ·rw[qw]at ih;obtain⟨a1,a2,a3,a4⟩:=ih;exact⟨a1,a2,a3,fun o ho=>by
    rcases qg.1 ho with rfl|ho
    ·intro e;rw[e]at hii;cases hii
    ·exact a4 o ho⟩
  ·rw[hfl,gz]at hx;exact hx.elim (h1 x) fun g=>((hc.2 x).1 g).1
  ·rw[hfl,xf];refine⟨h2,hc.1.imp fun g=>Nat.ne_of_lt g,fun x hx y hy e=>?_⟩;subst e;have g:=(hc.2 x).1 hy;exact hi.new (h3 x hx i hi.lt g.2.2 g.2.1)
  ·rw[hfl,gz]at hx ⊢;rcases hx with hx|hx
   ·exact Or.inl (h3 x hx y hy r1 r2)
   ·have g:=(hc.2 x).1 hx;exact Or.inr ((hc.2 y).2 ⟨hy,g.2.1.trans r1,r2.trans g.2.2⟩)
theorem jX.all{res:List (List Nat)}(h:jX n aQ [] res):res.flatten.Nodup/\(∀x∈res.flatten,x<n)/\(∀x,x<n->x∈res.flatten)/\(∀o∈res,o≠[])/\res.flatten.length=n:=by
 obtain⟨a1,a2,a3,a4⟩:=qsn h (fun x hx=>by simp at hx) List.nodup_nil fun x hx=>by simp at hx
 refine⟨a1,a2,a3,a4,Nat.le_antisymm ?_ ?_⟩
 ·have:=a1.length_le_of_subset (l₂:=List.range n) fun x hx=>uu.2 (a2 x hx);simp_all
 ·have:=(List.nodup_range (n:=n)).length_le_of_subset (l₂:=res.flatten) fun x hx=>a3 x (uu.1 hx);simp_all
theorem qy6:∀{R pre:List (List Nat)} {j:Nat} {c:List Nat} {a b:Nat},jX n aQ pre R->R[j]? =some c->a∈c->b<n->b∈aQ a->b∈pre.flatten\/∃ j' c',j'<=j/\R[j']? =some c'/\b∈c'
 | [],_,_,_,_,_,_,h,_,_,_=>by simp at h
 |d::R,pre,0,c,a,b,⟨⟨i,hi,hc⟩,_⟩,h,ha,hb,he=>by
  simp at h;subst h;have g:=(hc.2 a).1 ha;have hr:Rc aQ i b:=g.2.1.step he;rcases hi.rdy b hb hr with k|k
  ·exact Or.inl k
  ·exact Or.inr ⟨0,d,lg _,rfl,(hc.2 b).2 ⟨hb,hr,k⟩⟩
 |d::R,pre,j+1,c,a,b,⟨_,h'⟩,h,ha,hb,he=>by
  rcases qy6 h' (by simpa using h) ha hb he with k|⟨j',c',k1,k2,k3⟩
  ·rw[ny,gz]at k;rcases k with k|k
   ·exact Or.inl k
   ·exact Or.inr ⟨0,d,gq _,rfl,by simpa using k⟩
  ·exact Or.inr ⟨j'+1,c',by omega,by simpa using k2,k3⟩
end Go.Di.T
end
noncomputable section
namespace Go.Di
open Go.Di.T
theorem qx2(ins:List Nat)(dn:List Bool)(a m:Nat)(ham:a<m):∀(es:List Edge) (w:List Bool),w.length=m->(∀e∈es,ins.getD e.f 0<m) -> ((waits es ins dn w).getD a true=true↔w.getD a true=true\/∃ e∈es,ins.getD e.f 0=a/\ins.getD e.f 0≠ins.getD e.t 0/\dn.getD (ins.getD e.t 0) true=false)
 | [],w,_,_=>by simp[waits]
 |e::es,w,hw,hin=>by
  show(waits es ins dn (vV ins dn w e)).getD a true=true↔_;have hl:(vV ins dn w e).length=m:=by unfold vV;split<;>simp[hw]
  rw[qx2 ins dn a m ham es _ hl fun e' he'=>hin e' (qx _ he')];have h1:(vV ins dn w e).getD a true=true↔w.getD a true=true\/(ins.getD e.f 0=a/\ins.getD e.f 0≠ins.getD e.t 0/\dn.getD (ins.getD e.t 0) true=false):=by
   unfold vV;by_cases hc:ins.getD e.f 0≠ins.getD e.t 0/\dn.getD (ins.getD e.t 0) true=false
   ·rw[pz hc,kw,lAD];by_cases ha:ins.getD e.f 0=a
    ·simp_all
    ·simp_all
   ·rw[kz hc];simp_all
  rw[h1];simp only[qg,exists_eq_or_imp,or_assoc]
theorem zjo(m a:Nat)(h:a<m):(List.replicate m false).getD a true=false:=by simp_all
structure Pl(n:Nat)(es:List Edge)(out:List (List Nat))(ins:List Nat)(dn:List Bool)(pre:List (List Nat)):Prop where
 dl:dn.length=out.length
 mem:∀ x,x<n->(x∈pre.flatten↔dn.getD (ins.getD x 0) true=true)
 lt:∀ x∈pre.flatten,x<n
 cl:∀ x∈pre.flatten,∀k∈jB es x,k∈pre.flatten
noncomputable section
variable {n:Nat} {es:List Edge} {out:List (List Nat)} {ins:List Nat}
theorem qms(hP:qdi n (jB es) out){p:Nat}{c:List Nat}(hc:out[p]? =some c):∃ i t,c=i::t/\i∈c/\(∀x∈c,i<=x)/\(∀x,x∈c↔Rc (jB es) i x/\Rc (jB es) x i):=by
 obtain⟨h1,r,hr,h2⟩:=hP.scc c (uq hc);cases c with
 |nil=>cases hr
 |cons i t=>
  have hi:=(h2 i).1 ql;refine⟨i,t,rfl,ql,fun x hx=>?_,fun x=>?_⟩
  ·rw[yl]at h1;rcases qg.1 hx with e|hx
   ·omega
   ·exact yw (h1.1 x hx)
  ·rw[h2 x];exact⟨fun⟨a,b⟩=>⟨hi.2.trans a,b.trans hi.1⟩,fun⟨a,b⟩=>⟨hi.1.trans a,b.trans hi.2⟩⟩
theorem qzl(hP:qdi n (jB es) out)(hx:∀(i:Nat) (o:List Nat) (x:Nat),out[i]? =some o->x∈o->ins[x]? =some i){x:Nat}(h:x<n):∃ c,out[ins.getD x 0]? =some c/\x∈c:=by obtain⟨c,hc,hxc⟩:=dC.1 ((hP.all x).2 h);obtain⟨i,hi⟩:=lAB.1 hc;have:=hx i c x hi hxc;simp_all
theorem zbk(hx:∀(i:Nat) (o:List Nat) (x:Nat),out[i]? =some o->x∈o->ins[x]? =some i){p x:Nat}{c:List Nat}(hc:out[p]? =some c)(h:x∈c):ins.getD x 0=p:=by rw[kw,hx p c x hc h];rfl
theorem zkf(hE:∀ e∈es,e.f<n/\e.t<n)(hP:qdi n (jB es) out)(hx:∀(i:Nat) (o:List Nat) (x:Nat),out[i]? =some o->x∈o->ins[x]? =some i){dn:List Bool}{pre:List (List Nat)}(hl:Pl n es out ins dn pre){p:Nat}{c:List Nat}(hc:out[p]? =some c):yP dn (waits es ins dn (List.replicate out.length false)) p=true↔∀ i∈c,i∉pre.flatten/\Rdy n (jB es) pre i:=by
 have hpl:=(qm.1 hc).1;obtain⟨i0,t,e0,hi0,hmin,mK⟩:=qms hP hc;have hcn:∀ x∈c,x<n:=fun x h=>(hP.all x).1 (dC.2 ⟨c,uq hc,h⟩);have hin:∀ e∈es,ins.getD e.f 0<out.length:=fun e he=>by obtain⟨c',h1,_⟩:=qzl hP hx (hE e he).1;exact(qm.1 h1).1
 have hw:=qx2 ins dn p out.length hpl es (List.replicate out.length false) (by simp) hin;rw[zjo _ _ hpl]at hw;unfold yP;rw[pq,xe,xe];constructor
 ·rintro ⟨h1,h2⟩;have hnw:¬ ∃e∈es,ins.getD e.f 0=p/\ins.getD e.f 0≠ins.getD e.t 0/\dn.getD (ins.getD e.t 0) true=false:=fun h=>by
   simp_all
  have hnp:∀ x∈c,x∉pre.flatten:=fun x h g=>by have:=(hl.mem x (hcn x h)).1 g;rw[zbk hx hc h,h1]at this;cases this
  -- the component and what is placed are closed
  have hcl:∀ y,(y∈c\/y∈pre.flatten)->∀ k∈jB es y,k∈c\/k∈pre.flatten:=fun y hy k hk=>by
   rcases hy with hy|hy
   ·obtain⟨e,he,hef,het⟩:=qea.1 hk;have hkn:k<n:=by rw[<-het];exact(hE e he).2
    by_cases hsame:ins.getD e.f 0=ins.getD e.t 0
    ·left;rw[hef,het,zbk hx hc hy]at hsame;obtain⟨c',h3,h4⟩:=qzl hP hx hkn;simp_all
    ·right;have:¬ dn.getD (ins.getD e.t 0) true=false:=fun g=>hnw ⟨e,he,by rw[hef];exact zbk hx hc hy,hsame,g⟩;rw[het]at this;exact(hl.mem k hkn).2 (by simpa using this)
   ·exact Or.inr (hl.cl y hy k hk)
  intro i hi;refine⟨hnp i hi,fun k hk hr=>?_⟩;rcases Rc.closed (S:=fun y=>y∈c\/y∈pre.flatten) hcl hr (Or.inl hi)with g|g
  ·exact Or.inr (((mK k).1 g).2.trans ((mK i).1 hi).1)
  ·exact Or.inl g
 ·intro h;obtain⟨g1,g2⟩:=h i0 hi0;constructor
  ·have:¬ dn.getD (ins.getD i0 0) true=true:=fun g=>g1 ((hl.mem i0 (hcn i0 hi0)).2 g);rw[zbk hx hc hi0]at this;simp_all
  ·have:¬(waits es ins dn (List.replicate out.length false)).getD p true=true:=fun g=>by
    rcases hw.1 g with g|⟨e,he,h1,h2,h3⟩
    ·cases g
    ·obtain⟨c',h4,h5⟩:=qzl hP hx (hE e he).1;rw[h1,hc]at h4;cases h4;obtain⟨k1,k2⟩:=h e.f h5;have ht:=(hE e he).2;have hr:Rc (jB es) e.f e.t:=Rc.one (qea.2 ⟨e,he,rfl,rfl⟩);rcases k2 e.t ht hr with g|g
     ·have:=(hl.mem e.t ht).1 g;simp_all
     ·have:e.t∈c:=(mK e.t).2 ⟨((mK e.f).1 h5).1.trans hr,g.trans ((mK e.f).1 h5).2⟩;exact h2 (h1.trans (zbk hx hc this).symm)
   simpa using this
theorem qys{m:Nat}{dn:List Bool}(h:qjk dn (waits es ins dn (List.replicate m false)) m=none):∀ k,jQ es ins m k dn=[]
 |0=>rfl
 |k+1=>by rw[jQ,h];exact qys h k
theorem q78(hE:∀ e∈es,e.f<n/\e.t<n)(hP:qdi n (jB es) out)(ha:out.Pairwise fun a b=>a.headD 0<b.headD 0)(hx:∀(i:Nat) (o:List Nat) (x:Nat),out[i]? =some o->x∈o->ins[x]? =some i):∀(k:Nat) (dn:List Bool) (pre:List (List Nat)),Pl n es out ins dn pre->(dn.count false)<=k->jX n (jB es) pre ((jQ es ins out.length k dn).map fun i=>out.getD i [])
 |k,dn,pre,hl,hk=>by
  have aG5:∀ u,∀k∈jB es u,k<n:=fun u k hk=>by obtain⟨e,he,_,rfl⟩:=qea.1 hk;exact(hE e he).2
  have zD:∀ i,i<n->i∉pre.flatten->Rdy n (jB es) pre i->yP dn (waits es ins dn (List.replicate out.length false)) (ins.getD i 0)=true:=fun i hi hn hr=>by
   obtain⟨c,h1,h2⟩:=qzl hP hx hi;refine(zkf hE hP hx hl h1).2 fun y hy=>?_;obtain⟨i0,t,e0,hi0,hmin,mK⟩:=qms hP h1;have hyi:Rc (jB es) y i:=((mK y).1 hy).2.trans ((mK i).1 h2).1;have hiy:Rc (jB es) i y:=((mK i).1 h2).2.trans ((mK y).1 hy).1;refine⟨fun g=>?_,fun z hz hrz=>?_⟩
   ·exact hn (Rc.closed (S:=fun w=>w∈pre.flatten) hl.cl hyi g)
   ·rcases hr z hz (hiy.trans hrz)with g|g
    ·exact Or.inl g
    ·exact Or.inr (g.trans hiy)
  cases hp:qjk dn (waits es ins dn (List.replicate out.length false)) out.length with
  |none=>
   rw[qys hp];intro x hxn;by_cases hm:x∈pre.flatten
   ·exact hm
   ·obtain⟨i,h1,h2,h3⟩:=z5u aG5 hxn hm;have:=zD i h1 h2 h3;obtain⟨c,h4,_⟩:=qzl hP hx h1;rw[qsk hp _ (qm.1 h4).1]at this;cases this
  |some p=>
   obtain⟨p1,p2,p3⟩:=qe8 hp;have hdp:dn.getD p true=false:=by unfold yP at p2;simp only[pq,xe]at p2;exact p2.1
   have hpd:p<dn.length:=by rw[hl.dl];exact p1
   have aUL:dn[p]=false:=by rw[kw,lh hpd]at hdp;exact hdp
   cases k with
   |zero=>have:0<dn.count false:=List.count_pos_iff.2 (by rw[<-aUL];exact lu _);omega
   |succ k=>
    have hc:out[p]? =some out[p]:=by simp
    have hgd:out.getD p []=out[p]:=by rw[kw,hc];rfl
    rw[jQ,hp];show jX n (jB es) pre (out.getD p []::(jQ es ins out.length k (dn.set p true)).map fun i=>out.getD i []);rw[hgd];obtain⟨i0,t,e0,hi0,hmin,mK⟩:=qms hP hc;have hcn:∀ x∈out[p],x<n:=fun x h=>(hP.all x).1 (dC.2 ⟨out[p],lu _,h⟩);have hr:=(zkf hE hP hx hl hc).1 p2;refine⟨⟨i0,⟨hcn i0 hi0,(hr i0 hi0).1,(hr i0 hi0).2,fun j hj hjn hjr=>?_⟩,(hP.scc _ (lu _)).1,fun x=>⟨fun h=>⟨hcn x h,(mK x).1 h⟩,fun h=>(mK x).2 h.2⟩⟩,?_⟩
    ·-- the least one
     have hjlt:j<n:=by have:=hcn i0 hi0;omega
     have hok:=zD j hjlt hjn hjr;obtain⟨c',h4,h5⟩:=qzl hP hx hjlt;have hql:=(qm.1 h4).1;rcases oz (ins.getD j 0) p with g|g|g
     ·have:=p3 _ g;rw[hok]at this;cases this
     ·rw[g,hc]at h4;cases h4;have:=hmin j h5;omega
     ·have h6:=uw.1 ha p (ins.getD j 0) p1 hql g;obtain⟨i1,t1,e1,hi1,aOk,_⟩:=qms hP h4;have e2:out[ins.getD j 0]=c':=by rw[lh hql]at h4;exact Option.some.inj h4
      rw[e2,e1,e0]at h6;have h6:i0<i1:=h6;have:=aOk j h5;omega
    ·refine q78 hE hP ha hx k (dn.set p true) (pre++[out[p]]) ⟨by rw[xk];exact hl.dl,fun x hxn=>?_,fun x h=>?_,fun x h y hy=>?_⟩ ?_
     ·rw[ny,gz,hl.mem x hxn];have e3:([out[p]]:List (List Nat)).flatten=out[p]:=by simp
      rw[e3,kw (l:=dn.set p true),lAD];obtain⟨c',h4,h5⟩:=qzl hP hx hxn;by_cases e:p=ins.getD x 0
      ·rw[pz e,pz (by omega)];simp_all
      ·rw[kz e,<-kw];exact⟨fun h=>h.resolve_right fun g=>e (zbk hx hc g).symm,Or.inl⟩
     ·rw[ny,gz]at h;rcases h with h|h
      ·exact hl.lt x h
      ·simp_all
     ·rw[ny,gz]at h ⊢;rcases h with h|h
      ·exact Or.inl (hl.cl x h y hy)
      ·have hxc:x∈out[p]:=by simpa using h
       have hyn:=aG5 x y hy;rcases(hr x hxc).2 y hyn (Rc.one hy)with g|g
       ·exact Or.inl g
       ·right;have:y∈out[p]:=(mK y).2 ⟨((mK x).1 hxc).1.step hy,g.trans ((mK x).1 hxc).2⟩;simp_all
     ·have:=List.count_set (l:=dn) (i:=p) (a:=true) (b:=false) hpd;simp_all
theorem qla.ord(hE:∀ e∈es,e.f<n/\e.t<n){res:List (List Nat)}(h:qla n es out ins res):jX n (jB es) [] res:=by
 rw[h.res];refine q78 hE h.parts h.asc h.ix _ _ [] ⟨by simp,fun x hx=>?_,fun x h=>by simp at h,fun x h=>by simp at h⟩ ?_
 ·obtain⟨c,h1,_⟩:=qzl h.parts h.ix hx;rw[zjo _ _ (qm.1 h1).1];simp
 ·simp
end
end Go.Di
end
noncomputable section
namespace Go.Di
open Go.Ev Go.Di.T Go.Sort
variable {C:Nat->Ev.Call}
end Go.Di
end
noncomputable section
namespace Go.Di
open Go.Ev
variable {A:Nat->Nat->Prop}
/- the distances that are reckoned -/
def Les(d d':List Int):Prop:=∀ x,0<=d.getD x 0->0<=d'.getD x 0/\d'.getD x 0<=d.getD x 0
theorem Les.refl(d:List Int):Les d d:=fun _ h=>⟨h,Int.le_refl _⟩
theorem Les.trans{a b c:List Int}(h:Les a b)(h':Les b c):Les a c:=fun x hx=>by obtain⟨h1,h2⟩:=h x hx;obtain⟨h3,h4⟩:=h' x h1;omega
end Go.Di
end
noncomputable section
namespace Go.Di
open Go.Ev
end Go.Di
end
noncomputable section
namespace Go.Di
open Go.Ev Go.Di.T Go.Sort
variable {C:Nat->Ev.Call}
structure RI(aQ:Nat->List Nat)(H0:Hp)(n nb:Nat)(ins:List Int)(v:AV)(cs:List AV)(res:List (List Nat))(H:Hp):Prop where
 fm:Fm No H0 H
 ng:H.get nb=aB 0 (ints ins)
 nbl:H0.nx<=nb/\nb<H.nx
 il:ins.length=n
 ls:nR H0 H v cs res
 sv:∀ b,In v b->b≠nb
 sc:∀(i:Nat) (c:AV) (b:Nat),cs[i]? =some c->In c b->b≠nb
 nd:res.flatten.Nodup
 lt:∀ x∈res.flatten,x<n
 ne:∀ o∈res,o≠[]
 cl:∀ x∈res.flatten,∀y,y<n->Rc aQ x y->Rc aQ y x->y∈res.flatten
 ix:∀ x,x<n->(Int.ofNat 0<=ins.getD x 0↔x∈res.flatten)
 iv:∀(j:Nat) (o:List Nat) (x:Nat),res[j]? =some o->x∈o->ins.getD x 0=Int.ofNat j
theorem RI.len{aQ:Nat->List Nat}{H0:Hp}{n nb:Nat}{ins:List Int}{v:AV}{cs:List AV}{res:List (List Nat)}{H:Hp}(h:RI aQ H0 n nb ins v cs res H):res.flatten.length<=n/\res.length<=res.flatten.length:=by
 constructor
 ·have:=h.nd.length_le_of_subset (l₂:=List.range n) fun x hx=>uu.2 (h.lt x hx);simp_all
 ·have hne:=h.ne;generalize res=r at hne
  induction r with
  |nil=>exact lg _
  |cons c r ih=>have h1:=ih fun c hc=>hne c (qx _ hc);have h2:0<c.length:=zk.2 (hne c ql);rw[ai,lq,pg];omega
end Go.Di
end
noncomputable section
namespace Go.Di
open Go.Ev Go.Di.T Go.Sort
variable {aQ:Nat->List Nat} {i n:Nat} {ins:List Nat}
theorem qy7{n:Nat}{aQ:Nat->List Nat}:∀{R pre:List (List Nat)} {c:List Nat},jX n aQ pre R->c∈R->∃ i,zxe n aQ i c
 | [],_,_,_,h=>by cases h
 |d::R,pre,c,⟨⟨i,_,hc⟩,h2⟩,h=>by
  rcases qg.1 h with rfl|h
  ·exact⟨i,hc⟩
  ·exact qy7 h2 h
theorem zkc{res:List (List Nat)}(h:jX n aQ [] res){o:List Nat}(ho:o∈res){x y:Nat}(hx:x∈o)(hy:y<n):y∈o↔Rc aQ x y/\Rc aQ y x:=by obtain⟨i,_,hc⟩:=qy7 h ho;obtain⟨_,h1,h2⟩:=(hc x).1 hx;rw[hc y];exact⟨fun g=>⟨h2.trans g.2.1,g.2.2.trans h1⟩,fun g=>⟨hy,h1.trans g.1,g.2.trans h2⟩⟩
structure NmC(n:Nat)(res:List (List Nat))(ins:List Nat):Prop where
 is:∀(j:Nat) (o:List Nat) (x:Nat),res[j]? =some o->x∈o->ins.getD x 0=j
 all:∀ x,x<n->∃(j:Nat) (o:List Nat),res[j]? =some o/\x∈o
theorem NmC.lt{res:List (List Nat)}(h:NmC n res ins){x:Nat}(hx:x<n):ins.getD x 0<res.length:=by obtain⟨j,o,h1,h2⟩:=h.all x hx;rw[h.is j o x h1 h2];exact(qm.1 h1).1
theorem NmC.eq{res:List (List Nat)}(h:NmC n res ins)(hF:jX n aQ [] res){x y:Nat}(hx:x<n)(hy:y<n):ins.getD x 0=ins.getD y 0↔Rc aQ x y/\Rc aQ y x:=by
 obtain⟨j,o,h1,h2⟩:=h.all x hx;obtain⟨j',o',h3,h4⟩:=h.all y hy;rw[h.is j o x h1 h2,h.is j' o' y h3 h4,<-zkc hF (uq h1) h2 hy];constructor
 ·rintro rfl;simp_all
 ·intro hyo;rw[<-h.is j o y h1 hyo,h.is j' o' y h3 h4]
theorem NmC.same{res:List (List Nat)}{ins ins':List Nat}(h:NmC n res ins)(h':NmC n res ins'){x:Nat}(hx:x<n):ins.getD x 0=ins'.getD x 0:=by obtain⟨j,o,h1,h2⟩:=h.all x hx;rw[h.is j o x h1 h2,h'.is j o x h1 h2]
theorem CR.no{HB H H':Hp}{lv iv:AV}{os:List AV}{res:List (List Nat)}(h:CR HB H n lv iv os res ins)(ff:Fm No H H'):CR HB H' n lv iv os res ins:=
 ⟨h.gl.no ff,h.cap,h.len,fun j w o h1 h2=>by obtain⟨a1,a2,a3⟩:=h.at' j w o h1 h2;exact⟨a1.no ff,a2,a3⟩,h.gi.no ff,h.aZt,h.ins,h.new⟩
def zU(e:Edge):Nat:=if e.s then 1 else 0
def Fit(n:Nat)(es:List Edge)(o:List Nat):Prop:=o.length=n/\∀ e∈es,o.getD e.t 0+zU e<=o.getD e.f 0
def Lst(n:Nat)(es:List Edge)(o:List Nat):Prop:=∀ S,Fit n es S->∀ x,x<n->o.getD x 0<=S.getD x 0
theorem z7w{es:List Edge}{S:List Nat}(h:Fit n es S){a b:Nat}(hr:Rc (jB es) a b):S.getD b 0<=S.getD a 0:=by
 induction hr with
 |refl=>exact lg _
 |step _ hst ih=>obtain⟨x,hx,rfl,rfl⟩:=qea.1 hst;have:=h.2 x hx;omega
structure sF(n:Nat)(es:List Edge)(ins:List Nat)(i:Nat)(o:List Nat):Prop where
 len:o.length=n
 zero:∀ x,x<n->i<=ins.getD x 0->o.getD x 0=0
 up:∀ e∈es,ins.getD e.f 0<i->ins.getD e.t 0≠ins.getD e.f 0->o.getD e.t 0+zU e<=o.getD e.f 0
 why:∀ x,x<n->ins.getD x 0<i->o.getD x 0=0\/∃ e∈es,ins.getD e.f 0=ins.getD x 0/\ins.getD e.t 0≠ins.getD x 0/\o.getD x 0=o.getD e.t 0+zU e
 same:∀ x y,x<n->y<n->ins.getD x 0=ins.getD y 0->o.getD x 0=o.getD y 0
 bd:∀ x,x<n->o.getD x 0<=ins.getD x 0
theorem aAM(n x:Nat):(List.replicate n 0).getD x 0=0:=by rw[kw,List.getElem?_replicate];split<;>rfl
theorem sF.start(n:Nat)(es:List Edge)(ins:List Nat):sF n es ins 0 (List.replicate n 0):=
 ⟨by simp,fun x _ _=>aAM n x,fun e _ h=>absurd h (ig _),fun x _ h=>absurd h (ig _),fun x y _ _ _=>by rw[aAM,aAM],fun x _=>by rw[aAM];omega⟩
def asks(es:List Edge)(ins o:List Nat)(i:Nat):List Nat:=(es.filter fun e=>decide (ins.getD e.f 0=i)&& !decide (ins.getD e.t 0=i)).map fun e=>o.getD e.t 0+zU e
def jG(l:List Nat):Nat:=l.foldl max 0
theorem zlo(l:List Nat):∀ a,a<=l.foldl max a/\(∀x∈l,x<=l.foldl max a)/\(l.foldl max a=a\/l.foldl max a∈l):=by
 induction l with
 |nil=>intro a;exact⟨lg _,fun x h=>(by cases h),Or.inl rfl⟩
 |cons y l ih=>
  intro a;obtain⟨h1,h2,h3⟩:=ih (max a y);show a<=l.foldl max (max a y)/\(∀x∈y::l,x<=l.foldl max (max a y))/\(l.foldl max (max a y)=a\/l.foldl max (max a y)∈y::l);refine⟨by omega,fun x hx=>?_,?_⟩
  ·rcases qg.1 hx with rfl|hx
   ·omega
   ·exact h2 x hx
  ·rcases h3 with h3|h3
   ·by_cases hay:y<=a
    ·left;omega
    ·right;rw[h3,show max a y=y by omega];exact ql
   ·simp_all
theorem qxf{es:List Edge}{ins o:List Nat}{i x:Nat}:x∈asks es ins o i↔∃ e∈es,ins.getD e.f 0=i/\ins.getD e.t 0≠i/\x=o.getD e.t 0+zU e:=by
 unfold asks;rw[qp];constructor
 ·rintro ⟨e,he,rfl⟩;obtain⟨he,hp⟩:=uy.1 he;rw[pq,xq,xe,xm]at hp;exact⟨e,he,hp.1,hp.2,rfl⟩
 ·rintro ⟨e,he,h1,h2,rfl⟩;exact⟨e,uy.2 ⟨he,by rw[gp h1,qi h2];rfl⟩,rfl⟩
def yG(o:List Nat)(v:Nat):List Nat->List Nat
 | []=>o
 |x::l=>yG (o.set x v) v l
theorem z7r(cs:List Nat)(a c v:Nat)(hc:c<cs.length):(cs.set a v).getD c 0=if a=c then v else cs.getD c 0:=by
 rw[kw,kw,lAD];by_cases h:a=c
 ·simp_all
 ·simp_all
theorem qpl(v:Nat):∀(l o:List Nat),(yG o v l).length=o.length
 | [],_=>rfl
 |x::l,o=>(qpl v l _).trans xk
theorem qzx(v:Nat){y:Nat}:∀(l o:List Nat),y<o.length->(yG o v l).getD y 0=if y∈l then v else o.getD y 0
 | [],o,_=>by simp[yG]
 |x::l,o,h=>by
  rw[yG,qzx v l _ (by rw[xk];exact h),z7r _ _ _ _ h];by_cases h1:y∈l
  ·simp_all
  ·rw[kz h1];by_cases h2:x=y
   ·simp_all
   ·rw[kz h2,kz fun h=>(qg.1 h).elim (fun e=>h2 e.symm) h1]
theorem qs5(v x:Nat):∀(l o:List Nat),yG o v (l++[x])=(yG o v l).set x v
 | [],_=>rfl
 |_::l,_=>qs5 v x l _
theorem sF.step{es:List Edge}{o c:List Nat}(h:sF n es ins i o)(hE:∀ e∈es,e.f<n/\e.t<n)(hc:∀ x,x<n->(x∈c↔ins.getD x 0=i))(hd:∀ e∈es,ins.getD e.t 0<=ins.getD e.f 0):sF n es ins (i+1) (yG o (jG (asks es ins o i)) c):=by
 have g:∀ x,x<n->(yG o (jG (asks es ins o i)) c).getD x 0=if ins.getD x 0=i then jG (asks es ins o i)else o.getD x 0:=fun x hx=>by rw[qzx _ _ _ (by rw[h.len];exact hx)];simp_all
 obtain⟨_,m2,m3⟩:=zlo (asks es ins o i) 0;refine⟨by rw[qpl,h.len],fun x hx hi=>?_,fun e he hi hne=>?_,fun x hx hi=>?_,fun x y hx hy e=>?_,fun x hx=>?_⟩
 ·rw[g x hx,kz (by omega)];exact h.zero x hx (by omega)
 ·obtain⟨l1,l2⟩:=hE e he;have:=hd e he;rw[g _ l1,g _ l2,kz (by omega)];by_cases hf:ins.getD e.f 0=i
  ·rw[pz hf];exact m2 _ (qxf.2 ⟨e,he,hf,by omega,rfl⟩)
  ·rw[kz hf];exact h.up e he (by omega) hne
 ·rw[g x hx];by_cases hf:ins.getD x 0=i
  ·rw[pz hf];rcases m3 with m3|m3
   ·exact Or.inl m3
   ·obtain⟨e,he,h1,h2,h3⟩:=qxf.1 m3;refine Or.inr ⟨e,he,h1.trans hf.symm,by rw[hf];exact h2,?_⟩;rw[g _ (hE e he).2,kz h2];exact h3
  ·rw[kz hf];rcases h.why x hx (by omega)with h0|⟨e,he,h1,h2,h3⟩
   ·omega
   ·refine Or.inr ⟨e,he,h1,h2,?_⟩;have:=hd e he;rw[g _ (hE e he).2,kz (by omega)];exact h3
 ·rw[g x hx,g y hy,e];split
  ·rfl
  ·exact h.same x y hx hy e
 ·rw[g x hx];by_cases hf:ins.getD x 0=i
  ·rw[pz hf,hf];rcases m3 with m3|m3
   ·have m3:jG (asks es ins o i)=0:=m3;omega
   ·obtain⟨e,he,h1,h2,h3⟩:=qxf.1 m3;have h3:jG (asks es ins o i)=o.getD e.t 0+zU e:=h3;have h4:=hd e he;have h5:=h.bd e.t (hE e he).2;have:zU e<=1:=by unfold zU;split<;>omega
    omega
  ·rw[kz hf];exact h.bd x hx
theorem sF.done{es:List Edge}{res:List (List Nat)}{o:List Nat}(h:sF n es ins res.length o)(hE:∀ e∈es,e.f<n/\e.t<n)(hN:NmC n res ins)(hF:jX n (jB es) [] res)(hd:∀ e∈es,ins.getD e.t 0<=ins.getD e.f 0)(hm:∀ e∈es,e.s=true->ins.getD e.f 0≠ins.getD e.t 0):Fit n es o/\Lst n es o/\∀ x,x<n->o.getD x 0<=ins.getD x 0:=by
 refine⟨⟨h.len,fun e he=>?_⟩,fun S hS=>?_,?_⟩
 ·obtain⟨l1,l2⟩:=hE e he;by_cases hs:ins.getD e.t 0=ins.getD e.f 0
  ·have hns:¬ e.s=true:=fun t=>hm e he t hs.symm;unfold zU;rw[kz hns,h.same _ _ l2 l1 hs];simp
  ·exact h.up e he (hN.lt l1) hs
 ·have key:∀ m x,ins.getD x 0=m->x<n->o.getD x 0<=S.getD x 0:=fun m=>by
   induction m using Nat.strongRecOn with
   |_ m ih=>
    intro x hx hxn;rcases h.why x hxn (hN.lt hxn)with h0|⟨e,he,h1,h2,h3⟩
    ·omega
    ·obtain⟨l1,l2⟩:=hE e he;have h4:=hd e he;have h5:=ih (ins.getD e.t 0) (by omega) e.t rfl l2;have h6:=hS.2 e he;have h7:=z7w hS ((hN.eq hF hxn l1).1 h1.symm).1;omega
  simp_all
 ·exact h.bd
def aXT(n:Nat)(ms o:List Nat):Prop:=∀ i k,i<n->k<n->0<ms.getD (i*n+k) 0->o.getD k 0+(if 1<ms.getD (i*n+k) 0 then 1 else 0)<=o.getD i 0
end Go.Di
end
noncomputable section
namespace Go.Di
open Go.Ev Go.Di.T Go.Sort
variable {C:Nat->Ev.Call} {LA LO:LP}
theorem zwk:∀(o:List Nat) (m:Nat),(∀x∈o,x<=m)->o.sum<=o.length*m
 | [],_,_=>by simp
 |x::l,m,h=>by have h1:=zwk l m fun y hy=>h y (qx _ hy);have h2:=h x ql;rw[List.sum_cons,pg,xh,au];omega
structure RE(H1:Hp)(n a0 mb ob:Nat)(ms:List Nat):Prop where
 g0:H1.get a0=aB 0 [.int .i64 (.ofNat n),.sl mb 0 (n*n) (n*n) true]
 gm:H1.get mb=aB 0 (aK ms)
 lt:a0<H1.nx/\mb<H1.nx
 ne:a0≠ob/\mb≠ob
 len:ms.length=n*n
 n:n<=256
structure NS(n:Nat)(ms o:List Nat):Prop where
 len:o.length=n
 lst:∀ S,S.length=n->aXT n ms S->∀ x,x<n->o.getD x 0<=S.getD x 0
 sm:∀ x,x<n->o.getD x 0<=n
theorem NS.sum{n:Nat}{ms o:List Nat}(h:NS n ms o):o.sum<=n*n:=by
 have:=zwk o n fun x hx=>by obtain⟨i,hi,rfl⟩:=lE2.1 hx;have:=h.sm i (by have:=h.len;omega);simp_all
 rwa [h.len]at this
structure PI(n:Nat)(ms o0 o:List Nat)(ch:Bool)(i k:Nat):Prop where
 ns:NS n ms o
 up:ch=true->o0.sum<o.sum
 no:ch=false->o=o0/\∀ i' k',i'<n->k'<n->(i'<i\/(i'=i/\k'<k))->0<ms.getD (i'*n+k') 0->o.getD k' 0+(if 1<ms.getD (i'*n+k') 0 then 1 else 0)<=o.getD i' 0
 le:o0.sum<=o.sum
def ask(n:Nat)(ms o:List Nat)(i k:Nat):Nat:=o.getD k 0+(if 1<ms.getD (i*n+k) 0 then 1 else 0)
theorem PI.keep{n:Nat}{ms o0 o:List Nat}{ch:Bool}{i k:Nat}(h:PI n ms o0 o ch i k)(hp:0<ms.getD (i*n+k) 0->ask n ms o i k<=o.getD i 0):PI n ms o0 o ch i (k+1):=
 ⟨h.ns,h.up,fun hc=>⟨(h.no hc).1,fun i' k' hi hk hv hb=>by
  rcases hv with hv|⟨rfl,hv⟩
  ·exact(h.no hc).2 i' k' hi hk (Or.inl hv) hb
  ·by_cases e:k'=k
   ·subst e;exact hp hb
   ·exact(h.no hc).2 i' k' hi hk (Or.inr ⟨rfl,by omega⟩) hb⟩,h.le⟩
theorem z1v(o:List Nat)(i:Nat)(h:i<o.length):(aK o)[i]? =some (.int .i64 (.ofNat (o.getD i 0))):=by unfold aK;simp_all
theorem NS.start(n:Nat)(ms:List Nat):NS n ms (List.replicate n 0):=
 ⟨by simp,fun S _ _ x _=>by rw[aAM];omega,fun x _=>by rw[aAM];omega⟩
end Go.Di
end
