/-
 For countersign/countersignlaw20.FitsAll: functions in direct style, their contracts, and the plain mathematics, part 8 of 10. No conditions beyond those that each theorem states.
-/
import Derived.Test.YtbfjjkjiokfdgaaGreatConG
import Derived.Test.YtbfjjkjiokfdgaaGreatConF
import Derived.Test.YtbfjjkjiokfdgaaGreatConD
set_option linter.unusedSimpArgs false
set_option linter.unusedVariables false
open Nat renaming reduceAdd->rB,reduceMul->rI,reduceSub->rK,reduceLeDiff->rL,reduceEqDiff->rN,reduceShiftRight->rS,reduceAnd->r6
noncomputable section
namespace Go.Di
open Go.Ev Go.Di.T Go.Sort
variable {C:Nat->Ev.Call}
variable {H:Hp} {i k n:Nat} {l:List AV}
theorem rdP{b q:Nat}{P:List AV}{M:List Nat}(hg:H.get b=aB q (P++aK M))(h:i<M.length):dK (H.get b) (P.length+i)=.val (.int .i64 (.ofNat M[i])):=by rw[hg,qb0,uC (by omega),zo];unfold aK;simp_all
theorem aZU(P:List AV)(M:List Nat)(x:Nat)(h:i<M.length):bD (P++aK M) (P.length+i) [.int .i64 (.ofNat x)]=P++aK (M.set i x):=by
 have hn:(aK M).length=M.length:=mO M;unfold bD;rw[lE4,tu (by omega),List.drop_append,vk (by simp;omega)];rw[show P.length+i-P.length=i by omega,show P.length+i+[AV.int .i64 (.ofNat x)].length-P.length=i+1 by simp;omega];have:aK (M.set i x)=(aK M).set i (.int .i64 (.ofNat x)):=by unfold aK;rw[lEA]
 rw[this,List.set_eq_take_append_cons_drop,pz (by omega)];simp
theorem z8t(P:List AV)(M:List Nat)(hl:M.length=n)(h:k<=n):bD (P++aK M) (P.length+k) (aV [.int .i64 (.ofNat 0)] (n-k))=P++aK (M.take k++List.replicate (n-k) 0):=by
 have hn:(aK M).length=n:=by rw[mO,hl]
 have hr:aV [.int .i64 (.ofNat 0)] (n-k)=aK (List.replicate (n-k) 0):=by rw[qeg];unfold aK;rw[List.map_replicate]
 have hr2:(aK (List.replicate (n-k) 0)).length=n-k:=by rw[mO,iq]
 unfold bD;rw[hr,hr2,lE4,tu (by omega),List.drop_append,vk (by omega)];rw[show P.length+k-P.length=k by omega,vk (by omega)];have:aK (M.take k++List.replicate (n-k) 0)=(aK M).take k++aK (List.replicate (n-k) 0):=by unfold aK;rw[ui,List.map_take]
 simp_all
structure Cp(l M:List Nat)(k p:Nat):Prop where
 len:M.length=l.length
 lt:k<p
 le:p<=l.length
 same:M.drop k=l.drop k
 asc:(M.take k).Pairwise (· < ·)
 mem:∀ x,x∈M.take k↔x∈l.take p
theorem Cp.at{l M:List Nat}{k p i:Nat}(h:Cp l M k p)(hi:k<=i)(hil:i<l.length):M[i]'(by rw[h.len];exact hil)=l[i]:=by
 have h1:(M.drop k)[i-k]? =(l.drop k)[i-k]? :=by rw[h.same]
 rw[zf,zf,show k+(i-k)=i by omega,lh hil,lh (by rw[h.len];exact hil)]at h1;simp_all
theorem qe1{l:List Nat}{p:Nat}(h:p<l.length):l.take (p+1)=l.take p++[l[p]]:=ku h
theorem qwm{l:List Nat}{p x:Nat}(h:x∈l.take p):∃ i,∃(hi:i<l.length),i<p/\l[i]=x:=by obtain⟨i,hi,e⟩:=lE2.1 h;rw[qo]at hi;exact⟨i,by omega,by omega,by rw[<-e];simp⟩
theorem Cp.eq{l M:List Nat}{k p:Nat}(h:Cp l M k p)(hp:p<l.length)(he:l[p]=l[p-1]'(by omega)):Cp l M k (p+1):=by
 refine⟨h.len,by have:=h.lt;omega,hp,h.same,h.asc,fun x=>(h.mem x).trans ?_⟩;rw[qe1 hp,gz,gy];refine⟨Or.inl,fun hx=>hx.elim id fun hx=>?_⟩;have h0:=h.lt;rw[hx,he];have:l.take p=l.take (p-1)++[l[p-1]'(by omega)]:=by have:=qe1 (l:=l) (p:=p-1) (by omega);rwa [show p-1+1=p by omega]at this
 exact this▸ah _ (gy.2 rfl)
theorem Cp.ne{l M:List Nat}{k p:Nat}(h:Cp l M k p)(hs:l.Pairwise (· <= ·))(hp:p<l.length)(he:¬ l[p]=l[p-1]'(by omega)):Cp l (M.set k l[p]) (k+1) (p+1):=by
 have h0:=h.lt;have hml:=h.len;have ht:(M.set k l[p]).take (k+1)=M.take k++[l[p]]:=by rw[qe1 (l:=M.set k l[p]) (p:=k) (by rw[xk];omega),List.getElem_set_self,List.take_set_of_le (lg k)]
 refine⟨by rw[xk,hml],by omega,hp,?_,?_,fun x=>?_⟩
 ·rw[List.drop_set_of_lt (by omega)];have:=congrArg (List.drop 1) h.same;simp_all
 ·rw[ht,yh];refine⟨h.asc,zq _ _,fun a ha b hb=>?_⟩;rw[gy]at hb;subst hb;obtain⟨i,hi,hip,rfl⟩:=qwm ((h.mem a).1 ha);have hs':=uw.1 hs;have a1:l[p-1]'(by omega)<=l[p]:=hs' (p-1) p (by omega) hp (by omega);have a2:l[i]<=l[p-1]'(by omega):=by
   rcases yf i (p-1)with h2|h2
   ·simp_all
   ·have:i=p-1:=by omega
    simp_all
  omega
 ·rw[ht,qe1 hp,gz,gz,h.mem x]
theorem qk2{O:Ev.Call}{b o n q:Nat}{e:Bool}{P:List AV}{l:List Nat}(hs:l.Pairwise (· <= ·))(hP:P.length=o)(hl:l.length=n)(hn:n<900){c0:Nat}(hc0:c0<n){H1:Hp}{q2:pD}{Q:pL}(hq:∀ M k H,Cp l M k n->H.get b=aB q (P++aK M)->Fm (fun c=>c=b) H1 H->Ok (q2 (.int .i64 (.ofNat k)) H) Q):∀(f k k2:Nat) (M:List Nat) (H:Hp),n-(c0+k2)<f->1<=k2->Cp l M k (c0+k2)->H.get b=aB q (P++aK M)->Fm (fun c=>c=b) H1 H -> Ok (qdn O q2 (.sl b o n n e) (.sl b (o+c0) (n-c0) (n-c0) e) f (.int .i64 (.ofNat k)) (.int .i64 (.ofNat k2)) H) Q
 |0,k,k2,M,H,h,_,_,_,_=>by omega
 |f+1,k,k2,M,H,h,h1,hC,hg,hF=>by
  show Ok (qfo O _ _ _ (qdn O _ _ _ f) _ _ H) Q;unfold qfo;have hlt:=hC.lt;have hle:=hC.le;have hml:=hC.len;by_cases hk:k2<n-c0
  ·have e1:=rdP hg (i:=c0+k2) (by omega);have e2:=rdP hg (i:=c0+(k2-1)) (by omega);rw[hC.at (by omega) (by omega),hP,<-uk]at e1;rw[hC.at (by omega) (by omega),hP,<-uk]at e2;simp only[go_sem,hk];unfold qjp;have hpe:l[c0+k2-1]'(by omega)=l[c0+(k2-1)]'(by omega):=by congr 1;omega
   by_cases he:l[c0+k2]'(by omega)=l[c0+k2-1]'(by omega)
   ·rw[he,hpe]at e1;simp(disch:=go_size)only[go_sem,rB,rI,rK,rL,rN,rS,r6,qj,e1,e2];unfold qdo;simp(disch:=go_size)only[go_sem,rB,rI,rK,rL,rN,rS,r6];exact qk2 hs hP hl hn hc0 hq f k (k2+1) M H (by omega) (by omega) (hC.eq (by omega) he) hg hF
   ·have he':¬ l[c0+k2]'(by omega)=l[c0+(k2-1)]'(by omega):=by rw[<-hpe];exact he
    have e3:=aZU P M (i:=k) (l[c0+k2]'(by omega)) (by omega);rw[hP]at e3;have e4:∀ x:AV,wH (aB q (P++aK M)) (o+k) [x]=some (aB q (bD (P++aK M) (o+k) [x])):=fun x=>by rw[qg1,pz];rw[lq,mO];simp only[pg,uo];omega
    simp(disch:=go_size)only[go_sem,rB,rI,rK,rL,rN,rS,r6,qj,e1,e2,he'];rw[hg]at *;simp(disch:=go_size)only[go_sem,rB,rI,rK,rL,rN,rS,r6,e4,e3];unfold qdo;simp(disch:=go_size)only[go_sem,rB,rI,rK,rL,rN,rS,r6];exact qk2 hs hP hl hn hc0 hq f (k+1) (k2+1) _ _ (by omega) (by omega) (hC.ne hs (by omega) he) (dS _ _ _) (hF.put _ _ fun _=>rfl)
  ·simp only[go_sem,hk];have:c0+k2=n:=by omega
   rw[this]at hC;exact hq M k H hC hg hF
theorem qpx{O:Ev.Call}{b o n q:Nat}{e:Bool}{P:List AV}{l:List Nat}(hs:l.Pairwise (· <= ·))(hP:P.length=o)(hl:l.length=n)(hn:n<900){H:Hp}(hg:H.get b=aB q (P++aK l))(hb:b<H.nx)(heq:e=true\/q=1){q2:pH}{Q:pL}(hq:∀ k R H',k<=n->R.length=k->R.Pairwise (· < ·)->(∀x,x∈R↔x∈l)->Gs 1 H' (.sl b o k n e) k (aK R)->Fm (fun c=>c=b) H H'->Q (.sl b o k n e) H')(hq2:l.Pairwise (· < ·)->Ok (q2 H) Q):∀(f k:Nat),n-k<f->1<=k->k<=n->(l.take k).Pairwise (· < ·) -> Ok (qeh O (fun x H=>.ok x H) q2 (.sl b o n n e) f (.int .i64 (.ofNat k)) H) Q
 |0,k,h,_,_,_=>by omega
 |f+1,k,h,h1,hk,ha=>by
  show Ok (qgk O _ _ _ (qeh O _ _ _ f) _ H) Q;unfold qgk;by_cases hlt:k<n
  ·have e1:=rdP hg (i:=k) (by omega);have e2:=rdP hg (i:=k-1) (by omega);rw[hP]at e1 e2;simp only[go_sem,hlt];unfold qjo;by_cases he:l[k]'(by omega)=l[k-1]'(by omega)
   ·rw[he]at e1;have e3:=qko 1 b o n n e (a:=k) (by omega) (lg _) hlt;simp(disch:=go_size)only[go_sem,rB,rI,rK,rL,rN,rS,r6,qj,e1,e2,e3];unfold qjq;rw[dB];have hC0:Cp l l k (k+1):=by
     refine⟨rfl,by omega,by omega,rfl,ha,fun x=>?_⟩;rw[qe1 (p:=k) (by omega),gz,gy];refine⟨Or.inl,fun hx=>hx.elim id fun hx=>?_⟩;have:l.take k=l.take (k-1)++[l[k-1]'(by omega)]:=by simp_all
     rw[hx,he];exact this▸ah _ (gy.2 rfl)
    refine qk2 (H1:=H) hs hP hl hn (c0:=k) hlt (fun M k' H' hC hg' hF=>?_) bX k 1 l H (by rw[dI];omega) (lg 1) hC0 hg (Fm.refl _ _);unfold qfn;have c1:=hC.lt;have c2:=hC.len;have s1:=qko 1 b o n n e (a:=k') (by omega) (lg _) c1;have s2:=q7u 1 b o n n e (k:=k') (by omega) (lg _) (by omega);have cl:=z8t P M (k:=k') (n:=n) (by omega) (by omega);rw[hP]at cl;have aN9:(aV [.int .i64 (.ofNat 0)] (n-k')).length=n-k':=by rw[qeg,iq]
    have s3:qik [.int .i64 (.ofNat 0)] H' (.sl b (o+k') (n-k') (n-k') e)=.ok .undef (H'.put b (aB q (P++aK (M.take k'++List.replicate (n-k') 0)))):=by show(bif Nat.beq (n-k') 0 then _ else storeAt H' b (o+k') (aV [.int .i64 (.ofNat 0)] (n-k')) .undef)=_;rw[beq_eq,qi (by omega),zh,qch _ _ _ _ _ _ _ hg' (by rw[aN9,lq,mO];omega),cl]
    simp only[go_sem,s1,s2,s3];have ht:(M.take k').length=k':=by rw[qo];omega
    refine Ok.ret (hq k' (M.take k') _ (by omega) ht hC.asc (fun x=>by rw[hC.mem x,<-hl,uj]) ?_ (hF.put _ _ fun _=>rfl));refine⟨by rw[mO,ht,qj],.inr ⟨b,o,n,e,q,_,rfl,by omega,dS _ _ _,?_,?_,heq,lL hb hF.nx⟩⟩
    ·rw[lq,mO,lq,ht,iq];omega
    ·rw[xu (by omega),vk (by omega),ae,qj];unfold aK;simp_all
   ·simp(disch:=go_size)only[go_sem,rB,rI,rK,rL,rN,rS,r6,qj,e1,e2,he];unfold qlj;simp(disch:=go_size)only[go_sem,rB,rI,rK,rL,rN,rS,r6];refine qpx hs hP hl hn hg hb heq hq hq2 f (k+1) (by omega) (by omega) (by omega) ?_;rw[qe1 (p:=k) (by omega),yh];refine⟨ha,zq _ _,fun a ha' c hc=>?_⟩;rw[gy]at hc;subst hc;obtain⟨i,hi,hip,rfl⟩:=qwm ha';have hs':=uw.1 hs;have a1:l[k-1]'(by omega)<=l[k]'(by omega):=hs' (k-1) k (by omega) (by omega) (by omega);have a2:l[i]<=l[k-1]'(by omega):=by
     rcases yf i (k-1)with h2|h2
     ·exact hs' i (k-1) hi (by omega) h2
     ·have:i=k-1:=by omega
      simp_all
    omega
  ·simp only[go_sem,hlt];have:k=n:=by omega
   subst this;rw[<-hl,uj]at ha;exact hq2 ha
theorem q6a(hO:pV C)(hk:1<=k){v:AV}{l:List Nat}(hs:l.Pairwise (· <= ·))(hn:n<900)(hv:Gl 1 H v n (aK l)):Ok (C k (.f 123) [v] H) fun r H'=>∃ R:List Nat,R.Pairwise (· < ·)/\(∀x,x∈R↔x∈l)/\Gs 1 H' r R.length (aK R)/\(∀b,In r b->In v b)/\Fm (In v) H H':=by
 obtain⟨j,rfl⟩:=aS hk;have hln:l.length=n:=by have:=hv.len;rw[mO]at this;omega
 rw[(hO j).jS];unfold jS qif;have e0:=hv.cO;by_cases h2:n<2
 ·simp only[go_sem,e0,h2];refine Ok.ret ⟨l,?_,fun x=>Iff.rfl,by rw[hln];exact hv.gs,fun b h=>h,Fm.refl _ _⟩
  match l,hln with
  | [],_=>exact List.Pairwise.nil
  | [x],_=>exact zq _ _
  |x::y::t,h=>simp at h;omega
 ·rcases hv.is with⟨_,h0⟩|⟨b,o,e,q,L,rfl,g1,g2,g3,g4,g5⟩
  ·omega
  have hP:(L.take o).length=o:=by rw[qo];omega
  have hg:H.get b=aB q (L.take o++aK l):=by rw[g1,<-g3,bg]
  simp only[go_sem,e0,h2];unfold qjn qlk;rw[dB];have hin:∀ c,c=b->In (.sl b o n n e) c:=fun c hc=>by subst hc;exact⟨_,_,_,_,rfl⟩
  refine qpx hs hP hln hn hg g5 g4 (fun k R H' hk hR ha hm hG hF=>?_) (fun ha=>?_) bX 1 (by rw[dI];omega) (lg 1) (by omega) ?_
  ·refine⟨R,ha,hm,by rw[hR];exact hG,fun c hc=>?_,hF.mono fun c _ hc=>hin c hc⟩;obtain⟨_,_,_,_,h'⟩:=hc;simp_all
  ·unfold qgj;exact Ok.ret ⟨l,ha,fun x=>Iff.rfl,by rw[hln];exact hv.gs,fun b h=>h,Fm.refl _ _⟩
  ·match l,hln with
   | [],h=>simp at h;omega
   |x::t,_=>simp
theorem Gs.clip{v:AV}(h:Gs 1 H v n l):∃ w,kM 1 v none (some (.int .i64 (.ofNat n))) (some (.int .i64 (.ofNat n)))=.val w/\Rl H w l/\gW w=.val (.int .i64 (.ofNat n))/\(∀b,In w b->In v b):=by
 rcases h.is with⟨rfl,rfl⟩|⟨b,o,m,e,q,L,rfl,h0,h1,h2,h3,h4,h5⟩
 ·exact⟨.aA,rfl,h.rl,rfl,fun b h=>h⟩
 ·have e1:kM 1 (.sl b o n m e) none (some (.int .i64 (.ofNat n))) (some (.int .i64 (.ofNat n)))=iD b o 1 ⟨0,n,n⟩ true:=by
   show(match bounds n m none (some (.int .i64 (.ofNat n))) (some (.int .i64 (.ofNat n)))with|some bd=>iD b o 1 bd true|none=>R0.bad)=_;have:bounds n m none (some (.int .i64 (.ofNat n))) (some (.int .i64 (.ofNat n)))=some ⟨0,n,n⟩:=by show(match(bif Nat.ble n m then some n else none)with|none=>none|some m=>match(bif Nat.ble n m then some n else none)with|none=>none|some h=>match(some 0:Option Nat)with|none=>none|some l=>some (Bd.mk l h m))=_;rw[ble_eq,gp h0];simp only[qy,ble_eq,gp (lg n)]
   rw[this]
  have hG:∀ e',Gs 1 H (.sl b o n m e') n l->Rl H (.sl b o n n true) l:=fun e' g=>by have r:=g.rl;exact⟨r.len,fun i hi=>by obtain⟨b',o',a1,a2,a3⟩:=r.at' i hi;exact⟨b',o',by have hll:=h.len;rw[sV _ _ _ _ _ _ _ _ (by omega)]at a1 ⊢;exact a1,a2,a3⟩⟩
  rw[e1];unfold iD;simp only[beq_eq];by_cases hn:n=0
  ·subst hn;exact⟨.sl b o 0 0 true,rfl,hG e h,rfl,fun c hc=>by obtain⟨_,_,_,_,h'⟩:=hc;cases h';exact⟨_,_,_,_,rfl⟩⟩
  ·rw[qi hn];refine⟨.sl b o n n true,?_,hG e h,rfl,fun c hc=>by obtain⟨_,_,_,_,h'⟩:=hc;cases h';exact⟨_,_,_,_,rfl⟩⟩;rfl
theorem zuu(hC:aW C)(hk:1<=k){v:AV}(h:Gs 1 H v n l):∃w,C k (.f 120) [v] H=.ok w H/\Rl H w l/\gW w=.val (.int .i64 (.ofNat n))/\(∀b,In w b->In v b):=by obtain⟨j,rfl⟩:=aS hk;obtain⟨w,e,h1,h2,h3⟩:=h.clip;refine⟨w,?_,h1,h2,h3⟩;rw[(hC j).zBd];unfold zBd zqv;simp only[go_sem,h.cO,e]
end Go.Di
end
noncomputable section
namespace Go.Di
open Go.Ev Go.Di.T Go.Sort
variable {C:Nat->Ev.Call} {LA LO:LP}
variable {H H' H0:Hp} {aQ:Nat->List Nat} {i k m n:Nat} {ins:List Nat}
theorem znh(hO:pV C)(hS:oO C)(hk:5<=k)(H:Hp):C k (.f 122) [.aA] H=.ok (.aX []) H:=by obtain⟨k,rfl⟩:∃ j,k=j+1:=⟨k-1,by omega⟩;exact(hO k).aGq H
def sO(ins:List Nat)(e:Edge):Bool:=e.s&&decide (ins.getD e.f 0=ins.getD e.t 0)
def iY(ins:List Nat)(es:List Edge):List Nat:=(es.filter (sO ins)).map fun e=>ins.getD e.f 0
theorem zkt(ins:List Nat)(es:List Edge)(h:i<es.length):iY ins (es.take (i+1))=iY ins (es.take i)++(if sO ins es[i]then[ins.getD es[i].f 0]else[]):=by unfold iY;rw[ku h,yj,ui];congr 1;cases hh:sO ins es[i]<;>simp[hh]
theorem zku(ins:List Nat)(es:List Edge):(iY ins es).length<=es.length:=by unfold iY;rw[qc];exact yt _ _
theorem q8x{es:List Edge}{x:Nat}:x∈iY ins es↔∃ e∈es,e.s=true/\ins.getD e.f 0=ins.getD e.t 0/\ins.getD e.f 0=x:=by
 unfold iY sO;rw[qp];constructor
 ·rintro ⟨e,he,rfl⟩;rw[uy,pq,xq]at he;exact⟨e,he.1,he.2.1,he.2.2,rfl⟩
 ·rintro ⟨e,he,h1,h2,h3⟩;exact⟨e,uy.2 ⟨he,by rw[pq,xq];exact⟨h1,h2⟩⟩,h3⟩
theorem qhj{O:Ev.Call}{H1:Hp}{n c:Nat}{lv iv w:AV}{es:List Edge}{ins:List Nat}(hlen:es.length<200000)(hE:∀ e∈es,e.f<n/\e.t<n)(hw:kP H1 w es)(hi:Gl 1 H1 iv n (aK ins))(hc:H1.get c=aB 0 [lv,iv])(hcl:c<H1.nx){q:pD}{Q:pL}(hq:∀ v H,Gl 1 H v (iY ins es).length (aK (iY ins es))->Fm No H1 H->(∀b,In v b->H1.nx<=b)->Ok (q v H) Q):∀(k i:Nat) (v:AV) (H:Hp),es.length-i<k->i<=es.length->Gl 1 H v (iY ins (es.take i)).length (aK (iY ins (es.take i)))->(∀b,In v b->H1.nx<=b)->Fm No H1 H -> Ok (quh O q (.ptr c 0) w (.int .i64 (.ofNat es.length)) k v (.int .i64 (.ofNat i)) H) Q
 |0,i,v,H,h,_,_,_,_=>by omega
 |k+1,i,v,H,h,hil,hg,hnew,hF=>by
  show Ok (q25 O _ _ _ _ (quh O _ _ _ _ k) _ _ H) Q;unfold q25;by_cases hlt:i<es.length
  ·simp only[go_sem,hlt];unfold zgj;have hw':kP H w es:=hw.fm hF;have hi':Gl 1 H iv n (aK ins):=hi.no hF;have hc':H.get c=aB 0 [lv,iv]:=(hF.keep hcl).trans hc;have hcH:c<H.nx:=lL hcl hF.nx;have hil:ins.length=n:=by have:=hi.len;rw[mO]at this;omega
   obtain⟨b,o1,e1,e2,e3⟩:=hw'.at hlt;obtain⟨r1,r2⟩:=hE es[i] (lu _);have gi:∀ x,x<n->(aK ins)[x]? =some (.int .i64 (.ofNat (ins.getD x 0))):=fun x hx=>by unfold aK;simp_all
   obtain⟨b1,o2,e4,e5,_,e6⟩:=hi'.at (gi _ r1);obtain⟨b2,o3,e7,e8,_,e9⟩:=hi'.at (gi _ r2);have hm:=zkt ins es hlt;have hle:=zku ins (es.take i);rw[qo]at hle;have fe:Fm No H ((aO H (aB 0 [.int .i64 (.ofNat 0),.int .i64 (.ofNat 0),.bool false])).put H.nx (aB 0 [.int .i64 (.ofNat es[i].f),.int .i64 (.ofNat es[i].t),.bool es[i].s])):=by exact oJ
   cases hs:es[i].s with
   |false=>
    have hp:sO ins es[i]=false:=by unfold sO;rw[hs];rfl
    rw[hs]at fe;rw[hp]at hm;simp only[go_sem,e1,e3,Edge.cells,hs];unfold qnu;simp(disch:=go_size)only[go_sem,rB,rI,rK,rL,rN,rS,r6];rw[kz (by simp),uh]at hm;refine qhj hlen hE hw hi hc hcl hq k (i+1) v _ (by omega) (by omega) (by rw[hm];exact hg.no fe) hnew (hF.trans fe)
   |true=>
    rw[hs]at fe;by_cases he:ins.getD es[i].f 0=ins.getD es[i].t 0
    ·have hp:sO ins es[i]=true:=by unfold sO;rw[hs,gp he];rfl
     rw[hp,pz rfl]at hm;have hml:(iY ins (es.take (i+1))).length=(iY ins (es.take i)).length+1:=by rw[hm,lq];rfl
     generalize hH2:(aO H (aB 0 [.int .i64 (.ofNat 0),.int .i64 (.ofNat 0),.bool false])).put H.nx (aB 0 [.int .i64 (.ofNat es[i].f),.int .i64 (.ofNat es[i].t),.bool true])=H2 at *;have hx2:H2.get H.nx=aB 0 [.int .i64 (.ofNat es[i].f),.int .i64 (.ofNat es[i].t),.bool true]:=by rw[<-hH2,dS]
     have hc2:H2.get c=aB 0 [lv,iv]:=(fe.keep hcH).trans hc';have e6':dK (H2.get b1) o2=.val (.int .i64 (.ofNat (ins.getD es[i].f 0))):=by rw[fe.keep e5];exact e6
     have e9':dK (H2.get b2) o3=.val (.int .i64 (.ofNat (ins.getD es[i].t 0))):=by rw[fe.keep e8];exact e9
     have hgP:Gl 1 (aO H2 (aB 0 [.int .i64 (.ofNat (ins.getD es[i].f 0))])) v (iY ins (es.take i)).length (aK (iY ins (es.take i))):=(hg.no fe).no ((Fm.refl _ _).push _);obtain⟨H',a1,a2,_,a4,a5⟩:=hgP.append (w:=8) (k:=1) (x:=[.int .i64 (.ofNat (ins.getD es[i].f 0))]) (by omega) rfl (by omega) (by omega);rw[he]at a1 a2 a4 hgP;simp(disch:=go_size)only[go_sem,rB,rI,rK,rL,rN,rS,r6,e1,e3,Edge.cells,hs,hH2,hx2,hc2,e4,e6',e7,e9',he,a1];unfold qnu;simp(disch:=go_size)only[go_sem,rB,rI,rK,rL,rN,rS,r6];have e10:aK (iY ins (es.take i))++[.int .i64 (.ofNat (ins.getD es[i].t 0))]=aK (iY ins (es.take (i+1))):=by rw[hm,he];simp[aK]
     rw[e10,<-hml]at a2;rw[<-hml];have hn1:=hF.nx;have hn2:=fe.nx;refine qhj hlen hE hw hi hc hcl hq k (i+1) _ H' (by omega) (by omega) a2 (fun b hb=>?_) (((hF.trans fe).trans ((Fm.refl _ _).push _)).then a4 fun c hc h=>by have:=hnew c h;omega);obtain⟨_,_,_,_,h⟩:=hb;cases h;omega
    ·have hp:sO ins es[i]=false:=by unfold sO;rw[hs,qi he];rfl
     rw[hp]at hm;simp(disch:=first|omega|exact ti rfl)only[go_sem,seval,e1,e3,Edge.cells,hs,hc',e4,e6,e7,e9,he];unfold qnu;simp(disch:=go_size)only[go_sem,rB,rI,rK,rL,rN,rS,r6];rw[kz (by simp),uh]at hm;refine qhj hlen hE hw hi hc hcl hq k (i+1) v _ (by omega) (by omega) (by rw[hm];exact hg.no fe) hnew (hF.trans fe)
  ·simp only[go_sem,hlt];have:i=es.length:=by omega
   simp_all
theorem zuq(hC:aW C)(hO:pV C)(hS:oO C)(hR:oP LA LO C)(hk:1000<=k){es:List Edge}(hE:qdj n es)(hn:n<=256)(hlen:es.length<900){gv:AV}(hg:kP H gv es):Ok (C k (.f 90) [.agg [.int .i64 (.ofNat n),gv]] H) fun r H'=>∃(w:AV) (res:List (List Nat)) (ins R:List Nat),r=.aX [w,.int .i64 (.ofNat 0)]/\jX n (jB es) [] res/\(∀(j:Nat) (o:List Nat) (x:Nat),res[j]? =some o->x∈o->ins[x]? =some j) /\ R.Pairwise (· < ·)/\(∀x,x∈R↔x∈iY ins es)/\Rl H' w (aK R)/\gW w=.val (.int .i64 (.ofNat R.length))/\R.length<=900/\Fm No H H':=by
 obtain⟨j,rfl⟩:=aS hk;rw[(hC j).zBp];unfold zBp zzo;simp(disch:=omega)only[go_sem,seval];have f0:Fm No H (aO H (aB 0 [.int .i64 (.ofNat n),gv])):=(Fm.refl _ _).push _;refine Ok.ve (z9i hC hO hS hR (k:=j) (by omega) hE hn (by omega) (hg.fm f0)) ?_;rintro r H1 ⟨lv,iv,os,eO,out,ins,res,rfl,aGv,hCR,f1⟩;have bDy:=aGv.ord hE.rng;have hg1:H1.get H.nx=aB 0 [.int .i64 (.ofNat n),gv]:=(f1.keep (by simp only[np,nq];omega)).trans (lC _ _);have es3:∀ x y:AV,bD [AV.aA,AV.aA] 0 [x,y]=[x,y]:=fun _ _=>rfl;have n1:H.nx+1<=H1.nx:=f1.nx;simp(disch:=omega)only[go_sem,seval,es3,pg,uo];generalize hH2:(aO H1 (aB 0 [AV.aA,AV.aA])).put H1.nx (aB 0 [lv,iv])=H2;have f2:Fm No H1 H2:=by rw[<-hH2];exact((Fm.refl _ _).push _).aF _ _ (lg _)
 have g2:H2.get H1.nx=aB 0 [lv,iv]:=by rw[<-hH2,dS]
 have l2:H1.nx<H2.nx:=by rw[<-hH2];show H1.nx<H1.nx+1;omega
 have hg2:H2.get H.nx=aB 0 [.int .i64 (.ofNat n),gv]:=(f2.keep (by omega)).trans hg1;have pQ:Fm No H H2:=(f0.trans f1).trans f2;have hE2:kP H2 gv es:=hg.fm pQ;rw[qrl];unfold qui;have e0:=hE2.len;simp(disch:=go_size)only[go_sem,rB,rI,rK,rL,rN,rS,r6,hg2,e0];unfold zgl;rw[dB];refine qhj (by omega) hE.rng hE2 (hCR.gi.no f2) g2 l2 (fun v H3 h3 f3 hnew=>?_) bX 0 .aA H2 (by rw[dI];omega) (gq _) (by simpa [iY,aK] using Gl.nil 1 H2) (fun b hb=>by obtain⟨_,_,_,_,h⟩:=hb;cases h) (Fm.refl _ _);have hml:=zku eO es;have sorted:Ok (C j (.f 122) [v] H3) fun r H'=>r=.aX []/\∃ R:List Nat,R.Perm (iY eO es)/\R.Pairwise (· <= ·)/\Gl 1 H' v (iY eO es).length (aK R)/\Fm (In v) H3 H':=by
  rcases lAR (iY eO es).length with h0|h0
  ·have hz:iY eO es=[]:=ry.1 h0;rw[hz]at h3 ⊢;rcases h3.is with⟨rfl,_⟩|⟨b,o,e,q,L,rfl,g1,g2,g3,g4,g5⟩
   ·exact⟨_,_,znh hO hS (by omega) H3,rfl,[],List.Perm.refl _,List.Pairwise.nil,h3,Fm.refl _ _⟩
   ·obtain⟨j,rfl⟩:∃ i,j=i+1:=⟨j-1,by omega⟩;have g2:o<=L.length:=g2;have hst:storeAt H3 b o [] (.aX [])=.ok (.aX []) (H3.put b (aB q (bD L o []))):=qch _ _ _ _ _ _ _ g1 g2;have hL:bD L o []=L:=by unfold bD;simp
    rw[hL]at hst;have hs:qyd H3 b o 0=some (.ok (.aX []) (H3.put b (aB q L))):=by
     unfold qyd;have hr:eB (H3.get b) o 0=some []:=by rw[g1,qca,pz (show o+0<=L.length from g2)];rfl
     rw[hr];have hz:qjc []=[]:=by unfold qjc;simp
     simp only[qpe,hz,lA8,hst];rfl
    refine⟨_,_,(hO j).srt _ _ _ _ _ _ _ hs,rfl,[],List.Perm.refl _,List.Pairwise.nil,?_,(Fm.refl _ _).put _ _ fun _=>⟨_,_,_,_,rfl⟩⟩;exact⟨rfl,.inr ⟨b,o,e,q,L,rfl,dS _ _ _,g2,g3,g4,g5⟩⟩
  ·exact q95 hC hO hS (k:=j) (by omega) h0 (by omega) h3
 refine Ok.ve sorted ?_;rintro r H4 ⟨rfl,R,hp,hsd,h4,f4⟩;refine Ok.ve (q6a hO (k:=j) (by omega) hsd (by omega) h4) ?_;rintro r5 H5 ⟨R5,hasc,hmem,h5,hin,f5⟩;obtain⟨w,w1,w2,w3,_⟩:=zuu hC (k:=j) (by omega) h5;simp only[go_sem,w1];have hR5:R5.length<=900:=by have hnd:R5.Nodup:=hasc.imp fun h=>Nat.ne_of_lt h;have:R5.length<=R.length:=hnd.length_le_of_subset fun x hx=>(hmem x).1 hx;rw[hp.length_eq]at this;omega
 refine Ok.ret ⟨w,res,eO,R5,rfl,bDy,hCR.ins,hasc,fun x=>(hmem x).trans hp.mem_iff,w2,w3,hR5,((pQ.trans f3).then f4 fun c hc h=>?_).then f5 fun c hc h=>?_⟩
 ·have:=hnew c h;omega
 ·have:=hnew c h;omega
structure CB(H0:Hp)(n gb c:Nat)(gv lv iv:AV)(es:List Edge)(ins:List Nat):Prop where
 fe:kP H0 gv es
 fg:H0.get gb=aB 0 [iN n,gv]
 gl:gb<H0.nx
 fc:H0.get c=aB 0 [lv,iv]
 cl:c<H0.nx
 fi:Gl 1 H0 iv n (aK ins)
 fr:∀ e∈es,e.f<n/\e.t<n
 len:es.length<200000
structure CI(H0:Hp)(m:Nat)(L:List Edge)(H:Hp):Prop where
 ex:∃ v,H.get H0.nx=aB 0 [iN m,v]/\Gl 3 H v L.length (z8g L)/\∀ b,In v b->H0.nx<b
 fm:Fm (fun b=>b=H0.nx) H0 H
 lt:H0.nx<H.nx
theorem CI.no{L:List Edge}(h:CI H0 m L H)(f:Fm No H H'):CI H0 m L H':=by obtain⟨v,h1,h2,h3⟩:=h.ex;exact⟨⟨v,(f.keep h.lt).trans h1,h2.no f,h3⟩,h.fm.then f fun _ _ h=>h.elim,lL h.lt f.nx⟩
theorem CB.at{n gb c:Nat}{gv lv iv:AV}{es:List Edge}(h:CB H0 n gb c gv lv iv es ins)(f:Fm (fun b=>b=H0.nx) H0 H):kP H gv es/\H.get gb=aB 0 [iN n,gv]/\gb<H.nx/\H.get c=aB 0 [lv,iv]/\c<H.nx/\Gl 1 H iv n (aK ins):=by have g1:=h.gl;have g2:=h.cl;have g3:=f.nx;exact⟨h.fe.keep f.nx fun b hb hlt=>f.get b hlt (fun e=>by have:=h.fe.lt hb;omega),(f.get _ g1 (by omega)).trans h.fg,by omega,(f.get _ g2 (by omega)).trans h.fc,by omega,h.fi.fm f fun b hb e=>by have:=h.fi.lt hb;omega⟩
theorem zsm{res:List (List Nat)}(h:jX n aQ [] res):res.length<=n:=by
 obtain⟨z1,z2,z3,z4,z5⟩:=h.all;have hle:∀(o:List (List Nat)),(∀c∈o,c≠[])->o.length<=o.flatten.length:=fun o=>by
  induction o with
  |nil=>intro _;exact lg _
  |cons c o ih=>intro h;have h1:=ih fun c hc=>h c (qx _ hc);have h2:0<c.length:=zk.2 (h c ql);rw[ai,lq,pg];omega
 have:=hle res z4;omega
theorem aUH(a b:Nat):max (Int.ofNat a) (Int.ofNat b)=Int.ofNat (max a b):=by simp only[rq];omega
theorem qs1{O:Ev.Call}{H:Hp}{v:AV}{l:List Nat}(hv:Rl H v (aK l))(hl:l.length<900000){q:pD}{Q:pL}(hq:Ok (q (.int .i64 (.ofNat (jG l))) H) Q):∀(f i:Nat),l.length-i<f->i<=l.length->Ok (q6y O q v (.int .i64 (.ofNat l.length)) f (.int .i64 (.ofNat (jG (l.take i)))) (.int .i64 (.ofNat i)) H) Q
 |0,i,h,_=>by omega
 |f+1,i,h,hi=>by
  show Ok (zg4 O _ _ _ (q6y O _ _ _ f) _ _ H) Q;unfold zg4;by_cases hlt:i<l.length
  ·obtain⟨b,o,e1,_,e2⟩:=hv.at' i (by rw[mO];exact hlt);rw[qih]at e2;have hm:=aUH (jG (l.take i)) l[i];have hs:jG (l.take (i+1))=max (jG (l.take i)) l[i]:=by
    unfold jG;rw[ku hlt,List.foldl_append];rfl
   simp only[go_sem,hlt];unfold zv3;simp only[go_sem,e1,e2,q5k,hm];unfold zv4;simp(disch:=go_size)only[go_sem,rB,rI,rK,rL,rN,rS,r6];rw[<-hs];exact qs1 hv hl hq f (i+1) (by omega) (by omega)
  ·simp only[go_sem,hlt];have:i=l.length:=by omega
   simp_all
theorem zte(hY:qte C)(hk:1<=k){v:AV}{l:List Nat}(hv:Rl H v (aK l))(hl:l.length<900000):C k (.f 92) [v] H=.ok (.int .i64 (.ofNat (jG l))) H:=by
 obtain⟨j,rfl⟩:=aS hk;have key:Ok (C (j+1) (.f 92) [v] H) fun r H'=>r=.int .i64 (.ofNat (jG l))/\H'=H:=by rw[(hY j).zBc];unfold zBc zz0;have e0:=hv.len;rw[mO]at e0;simp only[go_sem,e0];unfold zv6;rw[dB];refine qs1 hv hl ?_ bX 0 (by rw[dI];omega) (gq _);exact Ok.ret ⟨rfl,rfl⟩
 obtain⟨r,H',h,rfl,rfl⟩:=key;exact h
theorem step_ok(hY:qte C)(hk:1<=k)(e:Edge)(H:Hp):Ok (C k (.f 91) [.agg e.cells] H) fun r H'=>r=.int .i64 (.ofNat (zU e))/\Fm No H H':=by
 obtain⟨j,rfl⟩:=aS hk;rw[(hY j).zBq];unfold zBq zzn Edge.cells zU;cases hs:e.s with
 |true=>simp(disch:=omega)only[go_sem,seval,hs];exact Ok.ret ⟨rfl,by(repeat(first|exact Fm.refl _ _|assumption|refine Fm.push ?_ _|refine Fm.lF ?_ (by go_size)|refine Fm.aF ?_ _ _ (by go_size)))⟩
 |false=>simp(disch:=omega)only[go_sem,seval,hs];exact Ok.ret ⟨rfl,by(repeat(first|exact Fm.refl _ _|assumption|refine Fm.push ?_ _|refine Fm.lF ?_ (by go_size)|refine Fm.aF ?_ _ _ (by go_size)))⟩
theorem zua{es:List Edge}{ins o:List Nat}{i c:Nat}(hc:c<es.length)(h1:ins.getD es[c].f 0=i)(h2:¬ ins.getD es[c].t 0=i):asks (es.take (c+1)) ins o i=asks (es.take c) ins o i++[o.getD es[c].t 0+zU es[c]]:=by unfold asks;rw[ku hc,yj,ui];simp_all
theorem z3m{es:List Edge}{ins o:List Nat}{i c:Nat}(hc:c<es.length)(h:¬(ins.getD es[c].f 0=i/\¬ ins.getD es[c].t 0=i)):asks (es.take (c+1)) ins o i=asks (es.take c) ins o i:=by unfold asks;rw[ku hc,yj,ui];simp_all
theorem zm9(es:List Edge)(ins o:List Nat)(i:Nat):(asks es ins o i).length<=es.length:=by unfold asks;rw[qc];exact yt _ _
theorem qo5(hY:qte C){j:Nat}{H1:Hp}{n c ob i:Nat}{gv lv iv:AV}{es:List Edge}{ins o:List Nat}(hj:1<=j)(hg:kP H1 gv es)(hlen:es.length<200000)(hE:∀ e∈es,e.f<n/\e.t<n)(hc:H1.get c=aB 0 [lv,iv])(hcl:c<H1.nx)(hiv:Gl 1 H1 iv n (aK ins))(hob:H1.get ob=aB 0 (aK o))(aEh:ob<H1.nx)(hol:o.length=n)(hos:∀ x,x<n->o.getD x 0<=1000){q:pD}{Q:pL}(hq:∀ w H,Gl 1 H w (asks es ins o i).length (aK (asks es ins o i))->Fm No H1 H->(∀b,In w b->H1.nx<=b)->Ok (q w H) Q):∀(f k:Nat) (w:AV) (H:Hp),es.length-k<f->k<=es.length->Gl 1 H w (asks (es.take k) ins o i).length (aK (asks (es.take k) ins o i))->(∀b,In w b->H1.nx<=b)->Fm No H1 H -> Ok (qkd (C j) q (.ptr c 0) (.sl ob 0 n n true) (.int .i64 (.ofNat i)) gv (.int .i64 (.ofNat es.length)) f w (.int .i64 (.ofNat k)) H) Q
 |0,k,w,H,h,_,_,_,_=>by omega
 |f+1,k,w,H,h,hk,hw,hnew,hF=>by
  show Ok (q3o (C j) _ _ _ _ _ _ (qkd (C j) _ _ _ _ _ _ f) _ _ H) Q;unfold q3o;by_cases hlt:k<es.length
  ·obtain⟨b,p,e1,e2,e3⟩:=(hg.fm hF).at hlt;obtain⟨r1,r2⟩:=hE es[k] (lu _);have hil:ins.length=n:=by have:=hiv.len;rw[mO]at this;omega
   obtain⟨b1,o1,c1,c2,_,c3⟩:=(hiv.no hF).at (z1v ins es[k].f (by omega));obtain⟨b2,o2,c4,c5,_,c6⟩:=(hiv.no hF).at (z1v ins es[k].t (by omega));have k1:H.get c=aB 0 [lv,iv]:=(hF.keep hcl).trans hc;have hcH:c<H.nx:=lL hcl hF.nx;have k2:H.get ob=aB 0 (aK o):=(hF.keep aEh).trans hob;have aGa:ob<H.nx:=lL aEh hF.nx;simp only[go_sem,hlt];rw[qro];unfold quv;have fx:Fm No H ((aO H (aB 0 [.int .i64 (.ofNat 0),.int .i64 (.ofNat 0),.bool false])).put H.nx (aB 0 es[k].cells)):=by exact oJ
   have hle:=zm9 (es.take k) ins o i;rw[qo]at hle;have aCd:¬(ins.getD es[k].f 0=i/\¬ ins.getD es[k].t 0=i)->Ok (qny (C j) (qkd (C j) q (.ptr c 0) (.sl ob 0 n n true) (.int .i64 (.ofNat i)) gv (.int .i64 (.ofNat es.length)) f) w (.int .i64 (.ofNat k)) ((aO H (aB 0 [.int .i64 (.ofNat 0),.int .i64 (.ofNat 0),.bool false])).put H.nx (aB 0 es[k].cells))) Q:=fun hn=>by unfold qny;simp(disch:=go_size)only[go_sem,rB,rI,rK,rL,rN,rS,r6];exact qo5 hY hj hg hlen hE hc hcl hiv hob aEh hol hos hq f (k+1) w _ (by omega) (by omega) (by rw[z3m hlt hn];exact hw.no fx) hnew (hF.trans fx)
   by_cases h1:ins.getD es[k].f 0=i
   ·by_cases h2:ins.getD es[k].t 0=i
    ·simp(disch:=first|omega|exact ti rfl)only[go_sem,seval,e1,e3,Edge.cells,k1,c1,c3,c4,c6,h1,h2];have:=aCd fun h=>h.2 h2;exact this
    ·have v4:=z1v o es[k].t (by omega);have ho4:=hos es[k].t r2;simp(disch:=first|omega|exact ti rfl)only[go_sem,seval,e1,e3,Edge.cells,k1,k2,c1,c3,c4,c6,h1,h2,v4];generalize hHx:(Hp.mk ((aO H (aB 0 [.int .i64 (.ofNat 0),.int .i64 (.ofNat 0),.bool false])).put H.nx (aB 0 [.int .i64 (.ofNat es[k].f),.int .i64 (.ofNat es[k].t),.bool es[k].s])).t (H.nx+1+12))=Hx at *;have fx:Fm No H Hx:=by rw[<-hHx];exact Fm.lF fx (by omega)
     have nx:Hx.nx=H.nx+1+12:=by rw[<-hHx]
     have kx:Hx.get H.nx=aB 0 [.int .i64 (.ofNat es[k].f),.int .i64 (.ofNat es[k].t),.bool es[k].s]:=by rw[<-hHx];exact dS _ _ _
     refine Ok.mI (step_ok hY (k:=j) hj es[k] Hx) ?_;rintro r H2 ⟨rfl,f2⟩;have kx2:H2.get H.nx=aB 0 [.int .i64 (.ofNat es[k].f),.int .i64 (.ofNat es[k].t),.bool es[k].s]:=(f2.keep (by omega)).trans kx;have k22:H2.get ob=aB 0 (aK o):=((fx.trans f2).keep aGa).trans k2;have hst:zU es[k]<=1:=by unfold zU;split<;>omega
     simp(disch:=omega)only[go_sem,seval,kx2,k22,v4];generalize hz:o.getD es[k].t 0+zU es[k]=z at *;have fP:Fm No H (H2.put (H.nx+1+9) (aB 0 [AV.int .i64 (.ofNat z)])):=(fx.trans f2).aF _ _ (by omega);have hgP:Gl 1 (H2.put (H.nx+1+9) (aB 0 [AV.int .i64 (.ofNat z)])) w _ _:=hw.no fP;obtain⟨H3,a1,a2,_,a4,a5⟩:=hgP.append (w:=8) (k:=1) (x:=[AV.int .i64 (.ofNat z)]) (by omega) rfl (by omega) (by omega);refine Ok.deE a1 ?_;unfold qny;simp(disch:=go_size)only[go_sem,rB,rI,rK,rL,rN,rS,r6];have hs:=zua (o:=o) hlt h1 h2;rw[hz]at hs;have e10:aK (asks (es.take k) ins o i)++[AV.int .i64 (.ofNat z)]=aK (asks (es.take (k+1)) ins o i):=by rw[hs];simp[aK]
     have hml:(asks (es.take (k+1)) ins o i).length=(asks (es.take k) ins o i).length+1:=by rw[hs,lq];rfl
     rw[e10,<-hml]at a2;rw[<-hml];have hn1:=hF.nx;have hn2:=f2.nx;refine qo5 hY hj hg hlen hE hc hcl hiv hob aEh hol hos hq f (k+1) _ H3 (by omega) (by omega) a2 (fun b hb=>?_) ((hF.trans fP).then a4 fun c hc h=>by have:=hnew c h;omega);obtain⟨_,_,_,_,h⟩:=hb;cases h;omega
   ·simp(disch:=first|omega|exact ti rfl)only[go_sem,seval,e1,e3,Edge.cells,k1,c1,c3,h1];have:=aCd fun h=>h1 h.1;exact this
  ·simp only[go_sem,hlt];have:k=es.length:=by omega
   subst this;rw[uj]at hw;exact hq w H hw hF hnew
theorem qzc(hY:qte C){j:Nat}(hj:1<=j){H1:Hp}{n ob:Nat}{w cw:AV}{l c o:List Nat}(hw:Gl 1 H1 w l.length (aK l))(hl:l.length<900000)(hwo:∀ b,In w b->b≠ob)(hc:Gl 1 H1 cw c.length (aK c))(hcl:c.length<900000)(hco:∀ b,In cw b->b≠ob)(hcn:∀ x∈c,x<n)(hol:o.length=n){q:pH}{Q:pL}(hq:∀ H,H.get ob=aB 0 (aK (yG o (jG l) c))->Fm (fun b=>b=ob) H1 H->Ok (q H) Q):∀(f k:Nat) (H:Hp),c.length-k<f->k<=c.length->H.get ob=aB 0 (aK (yG o (jG l) (c.take k)))->Fm (fun b=>b=ob) H1 H -> Ok (qus (C j) q (.sl ob 0 n n true) w cw (.int .i64 (.ofNat c.length)) f (.int .i64 (.ofNat k)) H) Q
 |0,k,H,h,_,_,_=>by omega
 |f+1,k,H,h,hk,hg,hF=>by
  show Ok (q3p (C j) _ _ _ _ _ (qus (C j) _ _ _ _ _ f) _ H) Q;unfold q3p;by_cases hlt:k<c.length
  ·have hcH:Gl 1 H cw c.length (aK c):=hc.fm hF hco;have hwH:Rl H w (aK l):=(hw.fm hF hwo).rl;obtain⟨b,p,e1,_,_,e3⟩:=hcH.at (show(aK c)[k]? =some (.int .i64 (.ofNat c[k]))from qwk c k hlt);have hx:=hcn c[k] (lu _);have hgr:=zte hY (k:=j) hj hwH hl;have hfl:(yG o (jG l) (c.take k)).length=n:=by rw[qpl,hol]
   have hst:=qwi (yG o (jG l) (c.take k)) c[k] (jG l) (by omega);have hle:c[k]+1<=(aK (yG o (jG l) (c.take k))).length:=by rw[mO];omega
   have hsn:(yG o (jG l) (c.take k)).set c[k] (jG l)=yG o (jG l) (c.take (k+1)):=by rw[ku hlt,qs5]
   simp only[go_sem,hlt];unfold zha;simp(disch:=omega)only[go_sem,seval,e1,e3,hgr,hg,hst,hle,qj,qf,pg,uo];unfold zhb;simp(disch:=go_size)only[go_sem,rB,rI,rK,rL,rN,rS,r6];rw[hsn];exact qzc hY hj hw hl hwo hc hcl hco hcn hol hq f (k+1) _ (by omega) (by omega) (dS _ _ _) (hF.put _ _ fun _=>rfl)
  ·simp only[go_sem,hlt];have:k=c.length:=by omega
   simp_all
theorem qzd(hY:qte C){j:Nat}(hj:1<=j){HB H0 H1:Hp}{n a0 c:Nat}{gv lv iv:AV}{os:List AV}{es:List Edge}{ins:List Nat}{res:List (List Nat)}(hn:n<=256)(hg:kP H0 gv es)(hlen:es.length<200000)(hE:∀ e∈es,e.f<n/\e.t<n)(ha:H0.get a0=aB 0 [.int .i64 (.ofNat n),gv])(aLg:a0<H0.nx)(hc:H0.get c=aB 0 [lv,iv])(hcl:c<H0.nx)(hCR:CR HB H0 n lv iv os res ins)(hN:NmC n res ins)(hlt:∀ o∈res,∀x∈o,x<n)(hd:∀ e∈es,ins.getD e.t 0<=ins.getD e.f 0)(hLn:res.length<=n)(hol:∀ o∈res,o.length<=n)(h01:Fm No H0 H1)(hx1:H0.nx<H1.nx){q:pH}{Q:pL}(hq:∀ o H,sF n es ins res.length o->H.get H0.nx=aB 0 (aK o)->Fm (fun b=>b=H0.nx) H1 H->Ok (q H) Q):∀(f i:Nat) (o:List Nat) (H:Hp),res.length-i<f->i<=res.length->sF n es ins i o->H.get H0.nx=aB 0 (aK o)->Fm (fun b=>b=H0.nx) H1 H -> Ok (qke (C j) q (.ptr a0 0) (.ptr c 0) (.sl H0.nx 0 n n true) lv (.int .i64 (.ofNat res.length)) f (.int .i64 (.ofNat i)) H) Q
 |0,i,o,H,h,_,_,_,_=>by omega
 |f+1,i,o,H,h,hi,hO,hgo,hF=>by
  show Ok (qnz (C j) _ _ _ _ _ _ (qke (C j) _ _ _ _ _ _ f) _ H) Q;unfold qnz;by_cases hil:i<res.length
  ·have kp:∀ b,b<H0.nx->H.get b=H0.get b:=fun b hb=>(hF.get b (by omega) (by omega)).trans (h01.keep hb);have hnx:H0.nx<=H.nx:=by have:=hF.nx;omega
   have aEg:=hCR.len;have gE:kP H gv es:=hg.keep hnx fun b hb hlt=>kp b hlt;have gI:Gl 1 H iv n (aK ins):=hCR.gi.keep hnx fun b hb hlt=>kp b hlt;have gL:Gl 1 H lv os.length os:=hCR.gl.keep hnx fun b hb hlt=>kp b hlt;obtain⟨c1,_,_⟩:=hCR.at' i (os[i]'(by omega)) (res[i]'hil) (by simp) (by simp);have gC:Gl 1 H (os[i]'(by omega)) (res[i]'hil).length (aK (res[i]'hil)):=c1.keep hnx fun b hb hlt=>kp b hlt;have hci:∀ b,In (os[i]'(by omega)) b->b<H0.nx:=fun b hb=>c1.lt hb;obtain⟨b1,o1,e1,_,_,e2⟩:=gL.at (i:=i) (x:=os[i]'(by omega)) (by simp);have hcm:∀ x,x<n->(x∈res[i]'hil↔ins.getD x 0=i):=fun x hx=>by
    constructor
    ·intro h;exact hN.is i _ x (lh hil) h
    ·intro h;obtain⟨j',o',h1,h2⟩:=hN.all x hx;have:=hN.is j' o' x h1 h2;rw[h]at this;subst this;simp_all
   have hcn:=hlt _ (lu hil);have bZ9:=hol _ (lu hil);have k1:H.get a0=aB 0 [.int .i64 (.ofNat n),gv]:=(kp a0 aLg).trans ha;have k2:H.get c=aB 0 [lv,iv]:=(kp c hcl).trans hc;have e0:=gE.len;generalize os[i]'(by omega)=cw at *;generalize res[i]'hil=co at *;simp only[go_sem,hil];unfold zg8;simp only[go_sem,e1,e2,k1,e0];unfold zhd;rw[dB];have hbd:∀ x,x<n->o.getD x 0<=1000:=fun x hx=>by have h1:=hO.bd x hx;have h2:=hN.lt hx;omega
   refine qo5 hY hj gE hlen hE k2 (lL hcl hnx) gI hgo (by have:=hF.nx;omega) hO.len hbd (fun w H2 hw f2 hnew=>?_) bX 0 .aA H (by rw[dI];omega) (gq _) (by simpa [asks,aK] using Gl.nil 1 H) (fun b hb=>by obtain⟨_,_,_,_,h⟩:=hb;cases h) (Fm.refl _ _);unfold quw;have gC2:=gC.no f2;have e3:=gC2.cO;simp only[go_sem,e3];unfold zhe;rw[dB];have hal:=zm9 es ins o i;have aGa:H0.nx<H.nx:=by have:=hF.nx;omega
   refine qzc hY hj (H1:=H2) (o:=o) hw (by omega) (fun b hb=>by have:=hnew b hb;omega) gC2 (by omega) (fun b hb=>by have:=hci b hb;omega) hcn hO.len (fun H3 g3 f3=>?_) bX 0 H2 (by rw[dI];omega) (gq _) ((f2.keep aGa).trans hgo) (Fm.refl _ _);unfold q3n;simp(disch:=go_size)only[go_sem,rB,rI,rK,rL,rN,rS,r6];exact qzd hY hj hn hg hlen hE ha aLg hc hcl hCR hN hlt hd hLn hol h01 hx1 hq f (i+1) _ H3 (by omega) (by omega) (hO.step hE hcm hd) g3 ((hF.then f2 fun _ _ h=>h.elim).then f3 fun _ _ h=>h)
  ·simp only[go_sem,hil];have:i=res.length:=by omega
   subst this;exact hq o H hO hgo hF
theorem zsl{es:List Edge}(hE:∀ e∈es,e.f<n/\e.t<n){res:List (List Nat)}(hF:jX n (jB es) [] res)(h:NmC n res ins):∀ e∈es,ins.getD e.t 0<=ins.getD e.f 0:=fun e he=>by
 obtain⟨l1,l2⟩:=hE e he;obtain⟨j,o,h1,h2⟩:=h.all e.f l1;rcases qy6 hF h1 h2 l2 (qea.2 ⟨e,he,rfl,rfl⟩)with g|⟨j',c',g1,g2,g3⟩
 ·simp at g
 ·rw[h.is j o e.f h1 h2,h.is j' c' e.t g2 g3];exact g1
theorem z6k{res:List (List Nat)}(hF:jX n aQ [] res)(hi:∀(j:Nat) (o:List Nat) (x:Nat),res[j]? =some o->x∈o->ins[x]? =some j):NmC n res ins:=⟨fun j o y h1 h2=>by
  rw[kw,hi j o y h1 h2];rfl,fun y hy=>by
  obtain⟨z1,z2,z3,z4,z5⟩:=hF.all;obtain⟨o,ho,hyo⟩:=dC.1 (z3 y hy);obtain⟨j,hj⟩:=lAB.1 ho;exact⟨j,o,hj,hyo⟩⟩
theorem zch(hC:aW C)(hY:qte C)(hO:pV C)(hS:oO C)(hR:oP LA LO C)(hk:1002<=k){es:List Edge}(hE:qdj n es)(hn:n<=256)(hlen:es.length<900){gv:AV}(hg:kP H gv es):Ok (C k (.f 57) [.agg [.int .i64 (.ofNat n),gv]] H) fun r H'=>Fm No H H' /\ ((∃w o,r=.aX [w,.int .i64 (.ofNat 0)]/\Gl 1 H' w n (aK o)/\gW w=.val (.int .i64 (.ofNat n))/\Fit n es o/\Lst n es o/\∀ x,x<n->o.getD x 0<n) \/ (r=.aX [.aA,.int .i64 (.ofNat 12)]/\∃ e∈es,e.s=true/\Rc (jB es) e.t e.f)):=by
 obtain⟨j,rfl⟩:=aS hk;rw[(hY j).zAu];unfold zAu zz2;simp(disch:=go_size)only[go_sem,seval];have f0:Fm No H (aO H (aB 0 [.int .i64 (.ofNat n),gv])):=by exact jY
 refine Ok.ve (z9i hC hO hS hR (k:=j) (by omega) hE hn (by omega) (hg.fm f0)) ?_;rintro r H1 ⟨lv,iv,os,eO,out,ins,res,rfl,aGv,hCR,f1⟩;have hF:=aGv.ord hE.rng;have n1:H.nx+1<=H1.nx:=f1.nx;have g1:H1.get H.nx=aB 0 [.int .i64 (.ofNat n),gv]:=(f1.keep (by simp only[np,nq];omega)).trans (lC _ _);have es3:∀ x y a b:AV,bD [a,b] 0 [x,y]=[x,y]:=fun _ _ _ _=>rfl;have fa:Fm No H1 ((aO H1 (aB 0 [.aA,.aA])).put H1.nx (aB 0 [lv,iv])):=by exact oJ
 simp(disch:=omega)only[go_sem,seval,es3,pg,uo];generalize hH2:(aO H1 (aB 0 [AV.aA,AV.aA])).put H1.nx (aB 0 [lv,iv])=H2 at *;have c2:H2.get H1.nx=aB 0 [lv,iv]:=by rw[<-hH2,dS]
 have n2:H2.nx=H1.nx+1:=by rw[<-hH2];rfl
 have g2:H2.get H.nx=aB 0 [.int .i64 (.ofNat n),gv]:=(fa.keep (by omega)).trans g1;rw[qrm];unfold qut;simp(disch:=go_size)only[go_sem,rB,rI,rK,rL,rN,rS,r6,g2];refine Ok.ve (zuq hC hO hS hR (k:=j) (by omega) hE hn hlen (((hg.fm f0).fm f1).fm fa)) ?_;rintro r H3 ⟨wx,aMa,cBI,R3,rfl,hF3,aEc,bPf,aEJ,hx3,cA9,hRl,f3⟩;have hrr:=hF3.uniq hF;subst hrr;have n3:=f3.nx;have f03:=((f0.trans f1).trans fa).trans f3;have e0:=hx3.len;rw[mO]at e0;have hN:=z6k hF hCR.ins;have hN3:=z6k hF aEc;by_cases hm:R3=[]
 ·subst hm;have e0':aD wx=.val (.int .i64 (.ofNat 0)):=e0;simp only[go_sem,e0',xn];rw[qrn];unfold quu;have g3:H3.get H.nx=aB 0 [.int .i64 (.ofNat n),gv]:=(f3.keep (by omega)).trans g2;have c3:H3.get H1.nx=aB 0 [lv,iv]:=(f3.keep (by omega)).trans c2;have hd:=zsl hE.rng hF hN;have aKx:∀ e∈es,e.s=true->eO.getD e.f 0≠eO.getD e.t 0:=fun e he hs h=>by
   obtain⟨l1,l2⟩:=hE.rng e he;rw[hN.same hN3 l1,hN.same hN3 l2]at h;have:=(aEJ _).2 (q8x.2 ⟨e,he,hs,h,rfl⟩);cases this
  have hL:=zsm hF;have aGC:=hCR.no (fa.trans f3);obtain⟨z1,z2,z3,z4,z5⟩:=hF.all;have elv:=aGC.gl.cO;rw[aGC.len]at elv;by_cases h0:0<n
  ·have mk:=qgn [.int .i64 (.ofNat 0)] 8 H3.nx n (by omega) (by omega);rw[qeg,qwj]at mk;simp only[go_sem,g3,h0,mk];rw[qkf];unfold ql9;have c4:(aO H3 (aB 0 (aK (List.replicate n 0)))).get H1.nx=aB 0 [lv,iv]:=by rw[qbj _ _ _ (by omega)];exact c3
   simp only[go_sem,c4,elv];unfold q3q;rw[dB];refine qzd hY (j:=j) (by omega) (HB:=aO H (aB 0 [.int .i64 (.ofNat n),gv])) (H0:=H3) (H1:=aO H3 (aB 0 (aK (List.replicate n 0)))) hn (hg.fm f03) (by omega) hE.rng g3 (by omega) c3 (by omega) aGC hN (fun o ho x hx=>z2 x (dC.2 ⟨o,ho,hx⟩)) hd hL (fun o ho=>?_) ((Fm.refl _ _).push _) (ak _) (fun o H4 hO4 g4 f4=>?_) bX 0 (List.replicate n 0) _ (by rw[dI];omega) (gq _) (sF.start n es eO) (lC _ _) (Fm.refl _ _)
   ·have:o.length<=aMa.flatten.length:=(List.sublist_flatten_of_mem ho).length_le;omega
   ·unfold q61;obtain⟨d1,d2,d3⟩:=hO4.done hE.rng hN hF hd aKx;have n4:=f4.nx;have n4':H3.nx+1<=H4.nx:=n4;refine Ok.ret ⟨(f03.push _).then f4 fun c hc h=>by have:=f03.nx;omega,Or.inl ⟨_,o,rfl,⟨by rw[mO,hO4.len,qj],.inr ⟨H3.nx,0,true,0,_,rfl,g4,gq _,oq,Or.inl rfl,by omega⟩⟩,rfl,d1,d2,fun x hx=>?_⟩⟩;have h1:=d3 x hx;have h2:=hN.lt hx;omega
  ·have hn0:n=0:=by omega
   subst hn0;simp only[go_sem,g3,xn];rw[qkf];unfold ql9;have hr0:aMa=[]:=ry.1 (by omega);subst hr0;have bDj:aD lv=.val (.int .i64 (.ofNat 0)):=elv;simp only[go_sem,c3,bDj,xn];unfold q3q;rw[dB];show Ok (qnz (C j) _ _ _ _ _ _ (qke (C j) _ _ _ _ _ _ 999999) _ H3) _;unfold qnz;have hes:es=[]:=by
    rcases List.eq_nil_or_concat es with h|⟨l,e,h⟩
    ·exact h
    ·have:=hE.rng e (by rw[h];simp);omega
   exact Ok.ret ⟨f03,Or.inl ⟨_,[],rfl,Gl.nil _ _,rfl,⟨rfl,fun e he=>by rw[hes]at he;cases he⟩,fun S _ x hx=>absurd hx (ig _),fun x hx=>absurd hx (ig _)⟩⟩
 ·have hp:0<R3.length:=zk.2 hm;simp only[go_sem,e0,hp];obtain⟨x,hx⟩:=List.exists_mem_of_ne_nil R3 hm;obtain⟨e,he,hs,h1,_⟩:=q8x.1 ((aEJ x).1 hx);obtain⟨l1,l2⟩:=hE.rng e he;exact Ok.ret ⟨f03,Or.inr ⟨rfl,e,he,hs,((hN3.eq hF l1 l2).1 h1).2⟩⟩
end Go.Di
end
noncomputable section
namespace Go.Di
open Go.Ev Go.Di.T Go.Sort
def lvN(s:SS):Nat:=lvl ((s.a-12402) / 256)
theorem qpa(n:Nat):lvN (gD n)=lvl n:=by unfold lvN gD lvl;simp
def yI(n:Nat)(s:SS)(neg:Bool):Prop:=lvN s<lvl n\/(neg=false/\lvN s=lvl n)
theorem zlt{n k:Nat}{neg:Bool}(h:qlr n k neg=true):yI n (gD k) neg:=by unfold qlr at h;unfold yI;rw[qpa];simpa using h
def NdL(n:Nat)(y:Nd):Prop:=(y.k=1->y.neg=false)/\(y.k=2->yI n y.rl y.neg)/\(y.k=3->yI n y.to y.neg)
theorem qwq{n:Nat}{neg:Bool}(hneg:neg=true->0<lvl n):∀ y∈(qjt neg).nodes neg,NdL n y:=by
 unfold qjt;cases neg
 ·intro y hy;simp[Ru.nodes]at hy;subst hy;exact⟨fun _=>rfl,fun h=>by simp at h,fun h=>by simp at h⟩
 ·intro y hy;simp[Ru.nodes]at hy;subst hy;refine⟨fun h=>by simp at h,fun _=>.inl ?_,fun h=>by simp at h⟩;rw[qpa];exact hneg rfl
theorem q4w{L:List (List Nat)}{n:Nat}(hn:n<bF L):∀(d i:Nat) (neg:Bool),(neg=true->0<lvl n)->∀ y∈(eT L n d i neg).1.nodes neg,NdL n y
 |0,i,neg,h=>by unfold eT;exact qwq h
 |d+1,i,neg,hneg=>by
  have hA:At (bF L) n neg:=⟨hn,um _ _,hneg⟩;unfold eT;split
  ·exact qwq hneg
  split
  ·exact qwq hneg
  split
  ·have hp:=qxa hA;have hm:=qfr (d:=sE) (xF (eG L n i / 8) hp);intro y hy;simp[z8,Ru.nodes]at hy;subst hy;refine⟨fun h=>by simp at h,fun _=>?_,fun h=>by simp at h⟩;have:∀ s∈cmpL (bF L) n neg,yI n s neg:=fun s hs=>by
    obtain⟨k,hk,rfl⟩:=qp.1 hs;exact zlt (uy.1 hk).2
   simp_all
  split
  ·unfold uM;split
   ·exact qwq hneg
   ·rename_i h;have hm:=qfr (d:=(⟨sE,sE⟩:ArS)) (xF (eG L n i / 8) (show 0<(lI L n neg).length by omega));intro y hy;simp only[Ru.nodes,gy]at hy;subst hy;refine⟨fun h=>by simp at h,fun h=>by simp at h,fun _=>?_⟩;have:∀ s∈lI L n neg,yI n s.to neg:=fun s hs=>by
     obtain⟨i,_,hs⟩:=yx.1 hs;obtain⟨t,_,hs⟩:=yx.1 hs;obtain⟨j,hj,rfl⟩:=qp.1 hs;have hp:=(uy.1 hj).2;unfold arP at hp;rw[pq]at hp;exact zlt hp.2
    exact this _ hm
  ·intro y hy;rw[Ru.nodes,qg,gz]at hy;have hk:uU n (eG L n i)≠1/\uU n (eG L n i)≠2/\uU n (eG L n i)≠3:=by unfold uU;split<;>(try split)<;>omega
   rcases hy with rfl|hy|hy
   ·exact⟨fun h=>absurd h hk.1,fun h=>absurd h hk.2.1,fun h=>absurd h hk.2.2⟩
   ·exact q4w hn d _ _ hneg _ hy
   ·refine q4w hn d _ _ (fun h=>?_) _ hy;rw[af,vz]at h;rcases h with h|h
    ·exact hneg h
    ·unfold uU at h;split at h
     ·omega
     split at h
     ·omega
     ·omega
theorem zrg{L:List (List Nat)}{n:Nat}(hn:n<bF L){t:iQ}(h:t∈kG L n)(hr:t.rl≠sE):lvN t.rl<=lvl n:=by
 unfold kG at h;rw[gz]at h;rcases h with h|h
 ·unfold tQ at h;rw[qg]at h;rcases h with rfl|h
  ·trivial
  ·rw[qp]at h;obtain⟨i,_,rfl⟩:=h;trivial
 ·split at h
  ·rw[gy]at h;have hm:=qfr (d:=(⟨sE,sE⟩:iQ)) (xF (eG L n 1 / 2) (qvu hn));rw[<-h]at hm;unfold qT at hm;rw[qp]at hm;obtain⟨k,hk,rfl⟩:=hm;rw[uy]at hk;rw[qpa];simp_all
  ·cases h
variable {L:List (List Nat)} {X:List aN}
theorem mP.len(h:mP L X):(aJ X).length=bF L:=by rw[h.all];simp
theorem mP.aFv(h:mP L X){a b:SS}(hl:bW X a b<(aJ X).length):lvl (bW X a b)=lvN b:=by
 have h1:(aJ X)[bW X a b]=(a,b):=by have:=List.findIdx_getElem (w:=hl);exact of_decide_eq_true this
 have h2:(aJ X)[bW X a b]=prN (bW X a b):=by
  have:∀(l:List (SS×SS)) (hll:bW X a b<l.length),l=(List.range (bF L)).map prN->l[bW X a b]=prN (bW X a b):=fun l hll e=>by subst e;simp
  exact this _ hl h.all
 rw[h1]at h2;have h3:=congrArg Prod.snd h2;have h4:b=gD (bW X a b):=h3
 calc lvl (bW X a b)=lvN (gD (bW X a b)):=(qpa _).symm
  _=lvN b:=by rw[<-h4]
theorem mP.lev(h:mP L X){e:Edge}(he:e∈rG X X)(hf:e.f<(aJ X).length)(ht:e.t<(aJ X).length):lvl e.t<=lvl e.f/\(e.s=true->lvl e.t<lvl e.f):=by
 obtain⟨g,hg,he⟩:=yx.1 he;obtain⟨x,hx,he⟩:=yx.1 he;obtain⟨y,hy,he⟩:=yx.1 he;obtain⟨p,hp,rfl⟩:=qp.1 he;obtain⟨i,n,_,_,_,_,hn,hr⟩:=h.x hg hx;have hnm:x.r.name=gD n:=by rw[hr,qd6];rfl
 have h1:lvl (bW X g.name x.r.name)=lvl n:=by rw[h.aFv hf,hnm,qpa]
 have h2:lvl (bW X p.1 p.2)=lvN p.2:=h.aFv ht;show lvl (bW X p.1 p.2)<=lvl (bW X g.name x.r.name)/\(y.neg=true->lvl (bW X p.1 p.2)<lvl (bW X g.name x.r.name));rw[h1,h2];have mE:x.r.rule=(eT L n 6 2 false).1:=by rw[hr,qb9];rfl
 rw[mE]at hy;obtain⟨q1,q2,q3⟩:=q4w hn 6 2 false (fun h=>by cases h) y hy;have key:∀ s,yI n s y.neg->lvN s<=lvl n/\(y.neg=true->lvN s<lvl n):=fun s hs=>by
  rcases hs with hs|⟨e,hs⟩
  ·omega
  ·simp_all
 unfold ndT at hp;split at hp
 ·rename_i hk;obtain⟨t,ht',rfl⟩:=qp.1 hp;obtain⟨ht1,ht2⟩:=uy.1 ht';have:t∈kG L n:=by
   rw[hr]at ht1;exact qgv _ _ t ht1
  exact⟨zrg hn this (by simpa using ht2),fun h=>by rw[q1 hk]at h;cases h⟩
 split at hp
 ·rename_i hk;rw[gy]at hp;subst hp;exact key _ (q2 hk)
 split at hp
 ·rename_i hk;obtain⟨s,_,rfl⟩:=qp.1 hp;exact key _ (q3 hk)
 ·cases hp
theorem z1p{n:Nat}{es:List Edge}{lv:Nat->Nat}(h:∀ e∈es,lv e.t<=lv e.f/\(e.s=true->lv e.t<lv e.f)):¬ ∃e∈es,e.s=true/\Rc (jB es) e.t e.f:=by
 rintro ⟨e,he,hs,hr⟩;have down:∀ a b,Rc (jB es) a b->lv b<=lv a:=fun a b hab=>by
  induction hab with
  |refl=>exact lg _
  |step _ hc ih=>obtain⟨e',h1,h2,h3⟩:=qea.1 hc;have:=(h e' h1).1;rw[h2,h3]at this;omega
 have:=down _ _ hr;have:=(h e he).2 hs;omega
end Go.Di
end
noncomputable section
namespace Go.Di
open Go.Ev Go.Di.T Go.Sort
variable {C:Nat->Ev.Call} {LA LO:LP} {L:List (List Nat)} {X:List aN}
def yL(X:List aN):List Edge:=iG (sortE (rG X X))
theorem zbs{n:Nat}(ms:List Nat)(hn:n<13):(qex n ms).length<900:=by have:=zw4 n ms n;have h:n*n<=12*12:=Nat.mul_le_mul (by omega) (by omega);unfold qex;rw[qc];omega
theorem mP.es(h:mP L X):qdj (aJ X).length (yL X)/\(yL X).length<900:=by have e:yL X=qex (aJ X).length _:=h.val.same.symm;rw[e];exact⟨q9o _ _,zbs _ (by rw[h.len];exact qg8 L)⟩
theorem mP.nb(h:mP L X):¬ ∃e∈yL X,e.s=true/\Rc (jB (yL X)) e.t e.f:=z1p (n:=0) (lv:=lvl) fun e he=>by have hr:=h.es.1.rng e he;exact h.lev (qyf.1 (q5p.1 he)) hr.1 hr.2
structure aS4(X:List aN)(o:List Nat):Prop where
 fit:Fit (aJ X).length (yL X) o
 lst:Lst (aJ X).length (yL X) o
 lt:∀ x,x<(aJ X).length->o.getD x 0<(aJ X).length
structure SOK(X:List aN):Prop where
 val:dO X
 es:qdj (aJ X).length (yL X)/\(yL X).length<900
 len:(aJ X).length<13
 nb:¬ ∃e∈yL X,e.s=true/\Rc (jB (yL X)) e.t e.f
theorem mP.sok(h:mP L X):SOK X:=⟨h.val,h.es,by rw[h.len];exact qg8 L,h.nb⟩
theorem z3s(hC:aW C)(hO:pV C)(hS:oO C)(hR:oP LA LO C){k:Nat}(hk:1002<=k)(h:SOK X){gv:AV}{H:Hp}(hg:kP H gv (yL X)):Ok (C k (.f 57) [.agg [iN ((aJ X).length),gv]] H) fun r H'=>Fm No H H' /\ ∃w o,r=.aX [w,iN 0]/\Gl 1 H' w (aJ X).length (aK o)/\gW w=.val (iN ((aJ X).length))/\aS4 X o:=by
 have hm:=h.len;refine(zch hC hC hO hS hR hk h.es.1 (by omega) h.es.2 hg).mono fun r H' hh=>⟨hh.1,?_⟩;rcases hh.2 with⟨w,o,h1,h2,h3,h4,h5,h6⟩|⟨_,h2⟩
 ·exact⟨w,o,h1,h2,h3,h4,h5,h6⟩
 ·exact absurd h2 h.nb
theorem q96(hC:aW C)(hN:mG C)(hE:qf5 C)(hO:pV C)(hS:oO C)(hR:oP LA LO C){k:Nat}(hk:1003<=k){H:Hp}{sv:AV}(hX:bS H sv X)(h:SOK X):Ok (C k (.f 27) [.agg [sv]] H) fun r H'=>r=iN 0/\Fm No H H':=by
 obtain⟨j,rfl⟩:=aS hk;rw[(hC j).zAe];unfold zAe z0b;simp(disch:=go_size)only[go_sem,seval];have f:Fm No H (aO H (aB 0 [sv])):=by exact jY
 refine Ok.ve (z9n hC hN hE (k:=j) (by omega) (hX.fm f) h.val) ?_;rintro _ H1 ⟨gv,rfl,hg,_,f1,_⟩;simp(disch:=omega)only[go_sem,seval];have fa:Fm No H1 ((aO H1 (aB 0 [iN 0,.aA])).put H1.nx (aB 0 [iN ((aJ X).length),gv])):=by exact oJ
 refine Ok.ve (z3s hC hO hS hR (k:=j) (by omega) h (hg.fm fa)) ?_;rintro _ H2 ⟨f2,w,o,rfl,_⟩;exact Ok.ret ⟨rfl,((f.trans f1).trans fa).trans f2⟩
end Go.Di
end
noncomputable section
namespace Go.Di
open Go.Ev Go.Di.T Go.Sort
variable {C:Nat->Ev.Call} {LA LO:LP}
variable {H:Hp} {X:List aN} {b i j k:Nat} {sv:AV}
theorem zs4(n a:Nat):oL (.str n a)=.val (iN n):=id rfl
attribute [go_sem] zs4
def okB(x:Nat):Bool:=(decide (97<=x)&&decide (x<=122))||(decide (48<=x)&&decide (x<=57))
def okI(s:SS)(i:Nat):Bool:=(List.range i).all fun j=>okB (vC s.a j)
def qK(s:SS):Bool:=decide (0<s.n)&&(decide (s.n<=16)&&okI s s.n)
def nmE(s:SS):Nat:=if qK s then 0 else 6
theorem qph(s:SS)(h:i<s.n):qek (.str s.n s.a) (iN i)=.val (.int .u8 (.ofNat (vC s.a i))):=by unfold qek;simp only[blt_eq,gp h,qy]
theorem q8n(s:SS)(i:Nat):okI s (i+1)=(okI s i&&okB (vC s.a i)):=by unfold okI;rw[lA9,List.all_append];simp
theorem z6j{s:SS}(h:i<=j)(hj:okI s j=true):okI s i=true:=by unfold okI at hj ⊢;rw[yc]at hj ⊢;exact fun x hx=>hj x (uu.2 (by have:=uu.1 hx;omega))
theorem qo8{O:Ev.Call}{s:SS}{H:Hp}{Q:pL}{qr:pD}{q:pH}(hs:s.n<=16)(hr:okI s s.n=false->Ok (qr (iN 6) H) Q)(hq:okI s s.n=true->Ok (q H) Q):∀(k i:Nat),i<=s.n->s.n-i<k->okI s i=true->Ok (qna O qr q s.v (iN (s.n)) k (iN i) H) Q
 |0,i,_,h,_=>by omega
 |k+1,i,hi,hk,ho=>by
  show Ok (zdf O _ _ _ _ (qna O _ _ _ _ k) _ H) Q;unfold zdf;by_cases hlt:i<s.n
  ·simp only[go_sem,hlt];unfold q1g SS.v;have e1:=qph s hlt;have bad:okB (vC s.a i)=false->Ok (qr (iN 6) H) Q:=fun h=>hr (by
    cases hh:okI s s.n with
    |false=>rfl
    |true=>have:=z6j (show i+1<=s.n by omega) hh;rw[q8n,h,Bool.and_false]at this;cases this)
   have good:okB (vC s.a i)=true->Ok (q6e O (qna O qr q s.v (iN (s.n)) k) (iN i) H) Q:=fun h=>by unfold q6e;simp(disch:=omega)only[go_sem];exact qo8 hs hr hq k (i+1) (by omega) (by omega) (by rw[q8n,ho,h];rfl)
   generalize vC s.a i=x at *;unfold okB at bad good;by_cases h1:x<97
   ·by_cases h2:x<48
    ·simp only[go_sem,e1,h1,h2];exact bad (by simp;omega)
    ·by_cases h3:57<x
     ·simp only[go_sem,e1,h1,h2,h3];exact bad (by simp;omega)
     ·simp only[go_sem,e1,h1,h2,h3];exact good (by simp;omega)
   ·by_cases h4:122<x
    ·have h2:¬ x<48:=by omega
     have h3:57<x:=by omega
     simp only[go_sem,e1,h1,h4,h2,h3];simp_all
    ·simp only[go_sem,e1,h1,h4];exact good (by simp;omega)
  ·simp only[go_sem,hlt];have he:i=s.n:=by omega
   simp_all
theorem zkq(hC:aW C)(hk:1<=k)(s:SS)(H:Hp):Ok (C k (.f 163) [s.v] H) fun r H'=>r=iN ((nmE s))/\Fm No H H':=by
 obtain⟨j,rfl⟩:=aS hk;rw[(hC j).zEy];unfold zEy zxu SS.v;by_cases h1:s.n<1
 ·simp only[go_sem,h1];refine Ok.ret ⟨?_,Fm.refl _ _⟩;unfold nmE qK;simp_all
 ·by_cases h2:16<s.n
  ·simp only[go_sem,h1,h2];refine Ok.ret ⟨?_,Fm.refl _ _⟩;unfold nmE qK;rw[qi (show ¬s.n<=16 by omega),Bool.false_and,Bool.and_false];rfl
  ·simp only[go_sem,h1,h2];unfold q1f;simp only[go_sem];unfold zdg;rw[dB];have e:qK s=okI s s.n:=by unfold qK;rw[gp (by omega),gp (by omega),Bool.true_and,Bool.true_and]
   refine qo8 (by omega) (fun h=>?_) (fun h=>?_) bX 0 (gq _) (by rw[dI];omega) rfl
   ·exact Ok.ret ⟨by unfold nmE;rw[e,h];rfl,Fm.refl _ _⟩
   ·unfold qnb;exact Ok.ret ⟨by unfold nmE;rw[e,h];rfl,Fm.refl _ _⟩
def nmA(l:List SS):Bool:=l.all qK
def nmF(b:Bool):Nat:=if b then 0 else 6
theorem aL3(s:SS):nmE s=nmF (qK s):=rfl
theorem qzf(hC:aW C){j:Nat}(hj:1<=j){v:AV}{l:List SS}{H0:Hp}(hv:Rs 1 sC H0 v l)(hl:l.length<1000){Q:pL}{qr:pD}{q:pH}(hr:∀ H,Fm No H0 H->nmA l=false->Ok (qr (iN 6) H) Q)(hq:∀ H,Fm No H0 H->nmA l=true->Ok (q H) Q):∀(k i:Nat) (H:Hp),i<=l.length->l.length-i<k->nmA (l.take i)=true->Fm No H0 H->Ok (qq5 (C j) qr q v (iN (l.length)) k (iN i) H) Q
 |0,i,_,_,h,_,_=>by omega
 |k+1,i,H,hi,hk,ho,hf=>by
  show Ok (zdi (C j) _ _ _ _ (qq5 (C j) _ _ _ _ k) _ H) Q;unfold zdi;by_cases hlt:i<l.length
  ·simp only[go_sem,hlt];unfold q1h;obtain⟨b1,o1,e1,e2,_,_,e4⟩:=(hv.fm hf).at' i hlt;have r0:dK (H.get b1) o1=.val l[i].v:=e4 0 (by rw[qyq];omega);simp only[go_sem,e1,r0];refine Ok.ve (zkq hC (k:=j) (by omega) l[i] H) ?_;rintro _ H1 ⟨rfl,f1⟩;rw[aL3];cases hb:qK l[i]with
   |false=>refine hr H1 (hf.trans f1) ?_;unfold nmA;rw[List.all_eq_false];exact⟨l[i],lu hlt,by rw[hb];simp⟩
   |true=>unfold zdh;simp(disch:=omega)only[go_sem];refine qzf hC hj hv hl hr hq k (i+1) H1 (by omega) (by omega) ?_ (hf.trans f1);unfold nmA at ho ⊢;rw[ku hlt,List.all_append,ho];simp[hb]
  ·simp only[go_sem,hlt];have he:i=l.length:=by omega
   simp_all
theorem zkr(hC:aW C)(hk:2<=k){v:AV}{l:List SS}(hv:Rs 1 sC H v l)(hl:l.length<1000):Ok (C k (.f 128) [v] H) fun r H'=>r=iN ((nmF (nmA l)))/\Fm No H H':=by
 obtain⟨j,rfl⟩:=aS hk;rw[(hC j).zEw];unfold zEw zxw;have e0:=hv.len;simp only[go_sem,e0];unfold zdj;rw[dB];refine qzf hC (j:=j) (by omega) hv hl (fun H1 f1 h=>?_) (fun H1 f1 h=>?_) bX 0 H (gq _) (by rw[dI];omega) rfl (Fm.refl _ _)
 ·exact Ok.ret ⟨by rw[h];rfl,f1⟩
 ·unfold qnc;exact Ok.ret ⟨by rw[h];rfl,f1⟩
theorem rs2{x y:SS}(h:H.get b=aB 0 [x.v,y.v])(hl:b<H.nx):Rs 1 sC H (.sl b 0 2 2 true) [x,y]:=
 Gl.rs qyq ⟨rfl,.inr ⟨b,0,true,0,_,rfl,h,gq _,rfl,.inl rfl,hl⟩⟩
theorem rs3{x y z:SS}(h:H.get b=aB 0 [x.v,y.v,z.v])(hl:b<H.nx):Rs 1 sC H (.sl b 0 3 3 true) [x,y,z]:=
 Gl.rs qyq ⟨rfl,.inr ⟨b,0,true,0,_,rfl,h,gq _,rfl,.inl rfl,hl⟩⟩
theorem zbf(hC:aW C)(hk:3<=k)(x y:SS)(H:Hp):Ok (C k (.f 129) [.agg [x.v,y.v]] H) fun r H'=>r=iN ((nmF (qK x&&qK y)))/\Fm No H H':=by
 obtain⟨j,rfl⟩:=aS hk;rw[(hC j).zEx];unfold zEx zxv SS.v;simp(disch:=omega)only[go_sem];have f:Fm No H (aO (aO H (aB 0 [.str x.n x.a,.str y.n y.a])) (aB 0 [.str x.n x.a,.str y.n y.a])):=by exact pU
 refine Ok.ve (zkr hC (k:=j) (by omega) (l:=[x,y]) (rs2 (by simp(disch:=go_size)only[go_sem,SS.v]) (by simp only[np,nq];omega)) (by simp)) ?_;rintro _ H1 ⟨rfl,f1⟩;refine Ok.ret ⟨by simp[nmA],f.trans f1⟩
theorem q8w(hC:aW C)(hk:3<=k)(x y z:SS)(H:Hp):Ok (C k (.f 97) [.agg [x.v,y.v,z.v]] H) fun r H'=>r=iN ((nmF (qK x&&(qK y&&qK z))))/\Fm No H H':=by
 obtain⟨j,rfl⟩:=aS hk;rw[(hC j).zEs];unfold zEs zx0 SS.v;simp(disch:=omega)only[go_sem];have f:Fm No H (aO (aO H (aB 0 [.str x.n x.a,.str y.n y.a,.str z.n z.a])) (aB 0 [.str x.n x.a,.str y.n y.a,.str z.n z.a])):=by exact pU
 refine Ok.ve (zkr hC (k:=j) (by omega) (l:=[x,y,z]) (rs3 (by simp(disch:=go_size)only[go_sem,SS.v]) (by simp only[np,nq];omega)) (by simp)) ?_;rintro _ H1 ⟨rfl,f1⟩;refine Ok.ret ⟨by simp[nmA],f.trans f1⟩
def sbB(x y z:SS):Bool:=qK x&&(qK y&&(z.n==0||qK z))
theorem q49(hC:aW C)(hk:4<=k)(x y z:SS)(hz:z.n=0->z.a=0)(H:Hp):Ok (C k (.f 98) [.agg [x.v,y.v,z.v]] H) fun r H'=>r=iN ((nmF (sbB x y z)))/\Fm No H H':=by
 obtain⟨j,rfl⟩:=aS hk;rw[(hC j).zEt];unfold zEt zxz SS.v sbB;by_cases h:z.n=0
 ·have ha:=hz h;simp(disch:=omega)only[go_sem,h,ha];refine Ok.ve (zbf hC (k:=j) (by omega) x y _) ?_;rintro _ H1 ⟨rfl,f1⟩;refine Ok.ret ⟨by simp,?_⟩;exact Fm.trans (by exact jY) f1
 ·have hb:(z.n==0)=false:=by simp[h]
  simp(disch:=omega)only[go_sem,h,hb];unfold zdo;simp(disch:=omega)only[go_sem];refine Ok.ve (q8w hC (k:=j) (by omega) x y z _) ?_;rintro _ H1 ⟨rfl,f1⟩;refine Ok.ret ⟨by simp,?_⟩;exact Fm.trans (by exact jY) f1
structure Tu where
 a:SS
 b:SS
 c:SS
 x:SS
 y:SS
 z:SS
 o:z.n=0->z.a=0
def Tu.cells(t:Tu):List AV:=[t.a.v,t.b.v,t.c.v,t.x.v,t.y.v,t.z.v]
def Tu.ok(t:Tu):Bool:=(qK t.a&&(qK t.b&&qK t.c))&&sbB t.x t.y t.z
theorem zix(hC:aW C)(hk:5<=k)(t:Tu)(H:Hp):Ok (C k (.f 64) [.agg t.cells] H) fun r H'=>r=iN ((nmF t.ok))/\Fm No H H':=by
 obtain⟨j,rfl⟩:=aS hk;rw[(hC j).zEn];unfold zEn zx3 Tu.cells Tu.ok SS.v;simp(disch:=omega)only[go_sem];refine Ok.ve (q8w hC (k:=j) (by omega) t.a t.b t.c _) ?_;rintro _ H1 ⟨rfl,f1⟩;have g1:H1.get H.nx=aB 0 [.str t.a.n t.a.a,.str t.b.n t.b.a,.str t.c.n t.c.a,.str t.x.n t.x.a,.str t.y.n t.y.a,.str t.z.n t.z.a]:=by rw[f1.keep (by simp only[np,nq];omega)];simp(disch:=omega)only[go_sem]
 cases hb:(qK t.a&&(qK t.b&&qK t.c))with
 |false=>refine Ok.ret ⟨rfl,?_⟩;exact Fm.trans (by exact jY) f1
 |true=>unfold zdr;simp only[go_sem,g1];refine Ok.ve (q49 hC (k:=j) (by omega) t.x t.y t.z t.o _) ?_;rintro _ H2 ⟨rfl,f2⟩;refine Ok.ret ⟨by simp[nmF],?_⟩;exact Fm.trans (Fm.trans (by exact jY) f1) f2
def Sg(H:Hp)(r:AV)(H':Hp):Prop:=(∃i:Int,r=.int .i64 i)/\Fm No H H'
theorem qsm{O:Ev.Call}{s t:SS}{H:Hp}{Q:pL}{qr:pD}{q:pH}(hr:∀ i,Ok (qr (.int .i64 i) H) Q)(hq:Ok (q H) Q):∀(k i:Nat),i<=s.n->s.n-i<k->s.n<1000000->Ok (qnd O qr q s.v t.v k (iN i) H) Q
 |0,i,_,h,_=>by omega
 |k+1,i,hi,hk,hs=>by
  show Ok (zdl O _ _ _ _ (qnd O _ _ _ _ k) _ H) Q;unfold zdl SS.v;by_cases h1:i<s.n
  ·by_cases h2:i<t.n
   ·simp only[go_sem,h1,h2];unfold q1i;have e1:=qph s h1;have e2:=qph t h2;simp only[go_sem,e1,e2];by_cases h3:vC s.a i<vC t.a i
    ·simp only[go_sem,h3];exact hr _
    ·simp only[go_sem,h3];unfold q1j;simp only[go_sem,e1,e2];by_cases h4:vC t.a i<vC s.a i
     ·simp only[go_sem,h4];exact hr _
     ·simp only[go_sem,h4];unfold q1k;simp(disch:=omega)only[go_sem];exact qsm hr hq k (i+1) (by omega) (by omega) hs
   ·simp only[go_sem,h1,h2];exact hq
  ·simp only[go_sem,h1];exact hq
theorem qmo(hC:aW C)(hk:1<=k)(s t:SS)(hs:s.n<1000000)(H:Hp):Ok (C k (.f 106) [s.v,t.v] H) (Sg H):=by
 obtain⟨j,rfl⟩:=aS hk;rw[(hC j).zEv];unfold zEv zxx zdm;rw[dB];refine qsm (fun i=>Ok.ret ⟨⟨i,rfl⟩,Fm.refl _ _⟩) ?_ bX 0 (gq _) (by rw[dI];omega) hs;unfold qle SS.v;by_cases h1:s.n<t.n
 ·simp only[go_sem,h1];exact Ok.ret ⟨⟨_,rfl⟩,Fm.refl _ _⟩
 ·simp only[go_sem,h1];unfold zdk;by_cases h2:t.n<s.n
  ·simp only[go_sem,h2];exact Ok.ret ⟨⟨_,rfl⟩,Fm.refl _ _⟩
  ·simp only[go_sem,h2];exact Ok.ret ⟨⟨_,rfl⟩,Fm.refl _ _⟩
theorem Sg.of{H H1 H2:Hp}{r:AV}(f:Fm No H H1)(h:Sg H1 r H2):Sg H r H2:=⟨h.1,f.trans h.2⟩
theorem zmw(hC:aW C)(hk:2<=k)(x y u v:SS)(hx:x.n<1000000)(hy:y.n<1000000)(H:Hp):Ok (C k (.f 105) [.agg [x.v,y.v],.agg [u.v,v.v]] H) (Sg H):=by
 obtain⟨j,rfl⟩:=aS hk;rw[(hC j).zEu];unfold zEu zxy SS.v;by_cases h:x.n=u.n/\x.a=u.a
 ·simp only[go_sem,zko,h,and_self];unfold zdn;simp(disch:=first|go_size|omega)only[go_sem];refine Ok.ve (qmo hC (k:=j) (by omega) y v hy _) fun r H1 hr=>Ok.ret (hr.of (by exact pU))
 ·simp(disch:=first|go_size|omega)only[go_sem,zko,h];refine Ok.ve (qmo hC (k:=j) (by omega) x u hx _) fun r H1 hr=>Ok.ret (hr.of (by exact pU))
theorem qil(n b:Bool):mF n (some b)=.val (.bool (bif n then !b else b)):=by cases n<;>rfl
theorem eqO(x y u v:SS):dQ (eqFields [(p1,⟨bH⟩,0),(p1,⟨bH⟩,1)]) (.agg [.str x.n x.a,.str y.n y.a]) (.agg [.str u.n u.a,.str v.n v.a])=some (decide ((x,y)=(u,v))):=qw2 (x,y) (u,v)
theorem qcv{o p:Option Bool}{a b:Bool}(h:o=some a)(g:p=some b):andThen o p=some (a&&b):=by rw[h,g];cases a<;>cases b<;>rfl
def gG(x y z u v w:SS):Bool:=decide (x=u)&&(decide (y=v)&&true)&&(decide (z=w)&&true)
theorem eqG(x y z u v w:SS):dQ (eqFields [((pA 2),⟨dQ (eqFields [(p1,⟨bH⟩,0),(p1,⟨bH⟩,1)])⟩,0),(p1,⟨bH⟩,2)]) (.agg [.str x.n x.a,.str y.n y.a,.str z.n z.a]) (.agg [.str u.n u.a,.str v.n v.a,.str w.n w.a])=some (gG x y z u v w):=by exact qcv (qcv (tN _ _) (qcv (tN _ _) rfl)) (qcv (tN _ _) rfl)
theorem z2y(hC:aW C)(hk:3<=k)(x y z u v w:SS)(hx:x.n<1000000)(hy:y.n<1000000)(hz:z.n<1000000)(H:Hp):Ok (C k (.f 82) [.agg [x.v,y.v,z.v],.agg [u.v,v.v,w.v]] H) (Sg H):=by
 obtain⟨j,rfl⟩:=aS hk;rw[(hC j).zEo];unfold zEo zx2 SS.v;have e:=eqO x y u v;cases h:decide ((x,y)=(u,v))with
 |true=>rw[h]at e;simp(disch:=first|omega|exact ti rfl|simp only[np,nq];first|done|omega)only[go_sem,seval,e,qil];unfold zdq;simp(disch:=first|omega|exact ti rfl|simp only[np,nq];first|done|omega)only[go_sem];refine Ok.ve (qmo hC (k:=j) (by omega) z w hz _) fun r H1 hr=>Ok.ret (hr.of (by exact pU))
 |false=>rw[h]at e;simp(disch:=first|omega|exact ti rfl|simp only[np,nq];first|done|omega)only[go_sem,seval,e,qil];refine Ok.ve (zmw hC (k:=j) (by omega) x y u v hx hy _) fun r H1 hr=>Ok.ret (hr.of (by exact pU))
theorem z2x(hC:aW C)(hk:3<=k)(x y z u v w:SS)(hx:x.n<1000000)(hy:y.n<1000000)(hz:z.n<1000000)(H:Hp):Ok (C k (.f 83) [.agg [x.v,y.v,z.v],.agg [u.v,v.v,w.v]] H) (Sg H):=by
 obtain⟨j,rfl⟩:=aS hk;rw[(hC j).zEp];unfold zEp zx1 SS.v;have e:=eqO x y u v;cases h:decide ((x,y)=(u,v))with
 |true=>rw[h]at e;simp(disch:=first|omega|exact ti rfl|simp only[np,nq];first|done|omega)only[go_sem,seval,e,qil];unfold zdp;simp(disch:=first|omega|exact ti rfl|simp only[np,nq];first|done|omega)only[go_sem];refine Ok.ve (qmo hC (k:=j) (by omega) z w hz _) fun r H1 hr=>Ok.ret (hr.of (by exact pU))
 |false=>rw[h]at e;simp(disch:=first|omega|exact ti rfl|simp only[np,nq];first|done|omega)only[go_sem,seval,e,qil];refine Ok.ve (zmw hC (k:=j) (by omega) x y u v hx hy _) fun r H1 hr=>Ok.ret (hr.of (by exact pU))
def Tu.lo(t:Tu):Prop:=t.a.n<1000000/\t.b.n<1000000/\t.c.n<1000000/\t.x.n<1000000/\t.y.n<1000000/\t.z.n<1000000
theorem z2w(hC:aW C)(hk:4<=k)(t u:Tu)(h:t.lo)(H:Hp):Ok (C k (.f 55) [.agg t.cells,.agg u.cells] H) (Sg H):=by
 obtain⟨j,rfl⟩:=aS hk;obtain⟨h1,h2,h3,h4,h5,h6⟩:=h;rw[(hC j).zEk];unfold zEk zx4 Tu.cells SS.v;have e:=eqG t.a t.b t.c u.a u.b u.c;cases h:gG t.a t.b t.c u.a u.b u.c with
 |true=>rw[h]at e;simp(disch:=first|omega|exact ti rfl|simp only[np,nq];first|done|omega)only[go_sem,seval,e,qil];unfold zds;simp(disch:=first|go_size|omega)only[go_sem,seval];refine Ok.ve (z2x hC (k:=j) (by omega) t.x t.y t.z u.x u.y u.z h4 h5 h6 _) fun r H1 hr=>Ok.ret (hr.of (by exact pU))
 |false=>rw[h]at e;simp(disch:=first|omega|exact ti rfl|simp only[np,nq];first|done|omega)only[go_sem,seval,e,qil];refine Ok.ve (z2y hC (k:=j) (by omega) t.a t.b t.c u.a u.b u.c h1 h2 h3 _) fun r H1 hr=>Ok.ret (hr.of (by exact pU))
theorem wC(t u:Tu):dQ (eqFields [((pA 3),⟨dQ (eqFields [((pA 2),⟨dQ (eqFields [(p1,⟨bH⟩,0),(p1,⟨bH⟩,1)])⟩,0),(p1,⟨bH⟩,2)])⟩,0),((pA 3),⟨dQ (eqFields [((pA 2),⟨dQ (eqFields [(p1,⟨bH⟩,0),(p1,⟨bH⟩,1)])⟩,0),(p1,⟨bH⟩,2)])⟩,3)]) (.agg t.cells) (.agg u.cells)=some (gG t.a t.b t.c u.a u.b u.c&&(gG t.x t.y t.z u.x u.y u.z&&true)):=by
 show andThen (andThen (andThen (bH t.a.v u.a.v) (andThen (bH t.b.v u.b.v) (some true))) (andThen (bH t.c.v u.c.v) (some true)))
  (andThen (andThen (andThen (bH t.x.v u.x.v) (andThen (bH t.y.v u.y.v) (some true))) (andThen (bH t.z.v u.z.v) (some true))) (some true))=_
 exact qcv (qcv (qcv (tN _ _) (qcv (tN _ _) rfl)) (qcv (tN _ _) rfl))
  (qcv (qcv (qcv (tN _ _) (qcv (tN _ _) rfl)) (qcv (tN _ _) rfl)) rfl)
theorem vJ(t:Tu):t.cells.length=6:=id rfl
theorem zlj{O:Ev.Call}{v:AV}{l:List Tu}{t:Tu}{cb:Nat}{H:Hp}(hv:Rs 6 Tu.cells H v l)(ht:eB (H.get cb) 0 6=some t.cells)(hl:l.length<1000000){Q:pL}{qr:pD}{q:pH}(hr:Ok (qr (iN 1) H) Q)(hq:Ok (q H) Q):∀(k i:Nat),i<=l.length->l.length-i<k->Ok (qq6 O qr q v (.ptr cb 0) k (iN i) H) Q
 |0,i,_,h=>by omega
 |k+1,i,hi,hk=>by
  show Ok (zdv O _ _ _ _ (qq6 O _ _ _ _ k) _ H) Q;unfold zdv;have e0:=hv.len;by_cases h1:i<l.length
  ·simp only[go_sem,e0,h1];unfold zdt;obtain⟨b,o,e1,_,e2⟩:=hv.qI h1;have e3:=wC l[i] t;simp only[go_sem,e1,e2,ht,e3,qil];cases (gG l[i].a l[i].b l[i].c t.a t.b t.c&&gG l[i].x l[i].y l[i].z t.x t.y t.z)with
   |true=>exact hr
   |false=>unfold zdu;simp(disch:=omega)only[go_sem];exact zlj hv ht hl hr hq k (i+1) (by omega) (by omega)
  ·simp only[go_sem,e0,h1];exact hq
theorem aPa(hC:aW C)(hk:1<=k){v:AV}{l:List Tu}(hv:Rs 6 Tu.cells H v l)(hl:l.length<1000000)(t:Tu):Ok (C k (.f 54) [v,.agg t.cells] H) (Sg H):=by
 obtain⟨j,rfl⟩:=aS hk;rw[(hC j).zEj];unfold zEj zx5;have f:Fm No H (aO H (aB 0 t.cells)):=by exact jY
 have e:pK 6 H.nx (.agg t.cells)=.new (.ptr H.nx 0) (aB 0 t.cells):=id rfl;simp only[go_sem,e];unfold zdw;rw[dB];refine zlj (t:=t) (hv.fm f) ?_ hl (Ok.ret ⟨⟨_,rfl⟩,f⟩) ?_ bX 0 (gq _) (by rw[dI];omega)
 ·rw[lC];rfl
 ·unfold qne;exact Ok.ret ⟨⟨_,rfl⟩,f⟩
def idL:List SS:=[⟨1,49⟩,⟨1,50⟩,⟨1,51⟩,⟨1,52⟩,⟨4,1953460082⟩]
theorem z7o(hC:aW C)(hk:1<=k)(n:Nat)(H:Hp):Ok (C k (.f 53) [.int .u8 (.ofNat n)] H) fun r H'=>(∃s:SS,r=s.v/\s∈idL/\s.n<1000000)/\Fm No H H':=by
 obtain⟨j,rfl⟩:=aS hk;rw[(hC j).zEi];unfold zEi zx6;have h5:n%5<5:=xF _ (by omega);have e:∀ m,m<5->∃ s:SS,([AV.str 1 49,.str 1 50,.str 1 51,.str 1 52,.str 4 1953460082]:List AV)[m]? =some s.v/\s∈idL/\s.n<1000000:=fun m hm=>by
  match m,hm with
  |0,_=>exact⟨⟨1,49⟩,rfl,by decide,by decide⟩
  |1,_=>exact⟨⟨1,50⟩,rfl,by decide,by decide⟩
  |2,_=>exact⟨⟨1,51⟩,rfl,by decide,by decide⟩
  |3,_=>exact⟨⟨1,52⟩,rfl,by decide,by decide⟩
  |4,_=>exact⟨⟨4,1953460082⟩,rfl,by decide,by decide⟩
 obtain⟨s,e1,e2,e3⟩:=e _ h5;have e0:(bK (aV [.str 0 0] 5) [(0,1,(.str 1 49)),(1,1,(.str 1 50)),(2,1,(.str 1 51)),(3,1,(.str 1 52)),(4,1,(.str 4 1953460082))])=some [.str 1 49,.str 1 50,.str 1 51,.str 1 52,.str 4 1953460082]:=id rfl;rw[e0];simp(disch:=go_size)only[go_sem,rB,rI,rK,rL,rN,rS,r6,e1];refine Ok.ret ⟨⟨s,rfl,e2,e3⟩,?_⟩
 (repeat(first|exact Fm.refl _ _|assumption|refine Fm.push ?_ _|refine Fm.lF ?_ (by go_size)|refine Fm.aF ?_ _ _ (by go_size)))
theorem qdh(t:Tu):List.take 6 t.cells=t.cells:=id rfl
def b2n(b:Bool):Nat:=bif b then 1 else 0
theorem aOm(hC:aW C){j:Nat}(hj:4<=j){P:Tu->Prop}(hP:∀ t,P t->t.lo){v w:AV}{l m:List Tu}{i:Nat}(hi:i<l.length)(hl:l.length<1000)(hm:m.length<1000)(pl:∀ t∈l,P t)(pm:∀ t∈m,P t){H0:Hp}(hv:Rs 6 Tu.cells H0 v l)(hw:Rs 6 Tu.cells H0 w m){Q:pL}{q:AV->pD}(hq:∀ u n f H,Ac 6 Tu.cells H0 H u n->n.length=m.length+b2n f->(∀t∈n,P t)->Ok (q u (.bool f) H) Q):∀(k e:Nat) (f:Bool) (u:AV) (n:List Tu) (H:Hp),e<=m.length->m.length-e<k->n.length=e+b2n f->(∀t∈n,P t)->Ac 6 Tu.cells H0 H u n -> Ok (qgc (C j) q v w (iN i) k u (.bool f) (iN e) H) Q
 |0,e,_,_,_,_,_,h,_,_,_=>by omega
 |k+1,e,f,u,n,H,he,hk,hn,pn,ha=>by
  show Ok (q1x (C j) _ _ _ _ (qgc (C j) _ _ _ _ k) _ _ _ H) Q;unfold q1x;have e0:=hw.len;by_cases h1:e<m.length
  ·simp only[go_sem,e0,h1];have tail:∀(f':Bool) (u':AV) (n':List Tu) (H':Hp),n'.length=e+b2n f'->(∀t∈n',P t)->Ac 6 Tu.cells H0 H' u' n' ->
     Ok (qng (C j) (qgc (C j) q v w (iN i) k) w u' (.bool f') (iN e) H') Q:=fun f' u' n' H' hn' pn' ha'=>by
    unfold qng;have hb':b2n f'<=1:=by cases f'<;>decide
    obtain⟨b,o,e1,e2,e3⟩:=(hw.fm ha'.fm).qI h1;simp(disch:=omega)only[go_sem,seval,e1,e3,vJ,qdh];refine Ok.ve ((ha'.no ((Fm.refl No H').push (aB 0 m[e].cells))).add m[e] 96 rfl (by omega) (by omega)) ?_;intro u2 H2 ha2;unfold q1w;simp(disch:=omega)only[go_sem];refine aOm hC hj hP hi hl hm pl pm hv hw hq k (e+1) f' u2 (n'++[m[e]]) H2 (by omega) (by omega) (by simp[hn'];omega) ?_ ha2;intro t ht;rw[gz,gy]at ht;rcases ht with ht|rfl
    ·exact pn' t ht
    ·simp_all
   unfold q1v;cases f with
   |true=>simp only[go_sem];exact tail true u n H hn pn ha
   |false=>
    obtain⟨b,o,e1,e2,e3⟩:=(hv.fm ha.fm).qI hi;obtain⟨b',o',e1',e2',e3'⟩:=(hw.fm ha.fm).qI h1;simp only[go_sem,e1,e3,e1',e3'];refine Ok.mI (z2w hC (k:=j) (by omega) l[i] m[e] (hP _ (pl _ (lu hi))) _) ?_;rintro _ H1 ⟨⟨s,rfl⟩,f1⟩;have g:eB (H1.get b) o 6=some l[i].cells:=by rw[f1.keep e2];exact e3
    have g':eB (H1.get b') o' 6=some m[e].cells:=by rw[f1.keep e2'];exact e3'
    have ha1:=ha.no f1;by_cases hs:s<Int.ofNat 0
    ·simp(disch:=go_size)only[go_sem,rB,rI,rK,rL,rN,rS,r6,g,g',hs,vJ,qdh];refine Ok.ve ((ha1.no ((Fm.refl No H1).push (aB 0 l[i].cells))).add l[i] 96 rfl (by unfold b2n at hn;simp at hn;omega) (by unfold b2n at hn;simp at hn;omega)) ?_;intro u2 H2 ha2;refine tail true u2 (n++[l[i]]) H2 (by unfold b2n at hn ⊢;simp at hn ⊢;omega) ?_ ha2;intro t ht;rw[gz,gy]at ht;rcases ht with ht|rfl
     ·exact pn t ht
     ·simp_all
    ·simp only[go_sem,g,g',hs,vJ,qdh];exact tail false u n H1 hn pn ha1
  ·simp only[go_sem,e0,h1];have:e=m.length:=by omega
   subst this;exact hq u n f H ha hn pn
theorem aDy(hC:aW C){j:Nat}(hj:4<=j){P:Tu->Prop}(hP:∀ t,P t->t.lo){v:AV}{l:List Tu}(hl:l.length<1000)(pl:∀ t∈l,P t){H0:Hp}(hv:Rs 6 Tu.cells H0 v l){Q:pL}{q:pD}(hq:∀ w m H,Ac 6 Tu.cells H0 H w m->m.length<=l.length->(∀t∈m,P t)->Ok (q w H) Q):∀(k i:Nat) (w:AV) (m:List Tu) (H:Hp),i<=l.length->l.length-i<k->m.length<=i->(∀t∈m,P t)->Ac 6 Tu.cells H0 H w m -> Ok (qee (C j) q v k w (iN i) H) Q
 |0,i,_,_,_,_,h,_,_,_=>by omega
 |k+1,i,w,m,H,hi,hk,hm,pm,ha=>by
  show Ok (zd0 (C j) _ _ (qee (C j) _ _ k) _ _ H) Q;unfold zd0;have e0:=hv.len;by_cases h1:i<l.length
  ·simp only[go_sem,e0,h1];unfold q1s;obtain⟨b,o,e1,e2,e3⟩:=(hv.fm ha.fm).qI h1;simp only[go_sem,e1,e3];refine Ok.ve (aPa hC (k:=j) (by omega) (ha.rs vJ) (by omega) l[i]) ?_;rintro _ H1 ⟨⟨s,rfl⟩,f1⟩;have ha1:=ha.no f1;by_cases hs:s=Int.ofNat 1
   ·simp only[go_sem,hs];unfold qq7;simp(disch:=omega)only[go_sem];exact aDy hC hj hP hl pl hv hq k (i+1) w m H1 (by omega) (by omega) (by omega) pm ha1
   ·simp only[go_sem,hs];unfold q1u q1y;rw[dB];have e4:∀ H2,Fm No H1 H2->eB (H2.get b) o 6=some l[i].cells:=fun H2 f2=>by rw[f2.keep (lL e2 f1.nx),f1.keep e2];exact e3
    refine aOm hC hj hP h1 hl (by omega) pl pm ((hv.fm ha1.fm)) (ha1.rs vJ) ?_ bX 0 false .aA [] H1 (gq _) (by rw[dI];omega) rfl (fun t ht=>by cases ht) (Ac.nil 6 _ (Fm.refl _ _));intro u n f H2 ha2 hn pn;unfold qgd;have e5:=e4 H2 ha2.fm;cases f with
    |true=>unfold qxg qq7;simp(disch:=omega)only[go_sem];exact aDy hC hj hP hl pl hv hq k (i+1) u n H2 (by omega) (by omega) (by unfold b2n at hn;simp at hn;omega) pn (Ac.trans ha1.fm ha2)
    |false=>
     simp(disch:=omega)only[go_sem,seval,e1,e5,vJ,qdh];refine Ok.ve ((ha2.no ((Fm.refl No H2).push (aB 0 l[i].cells))).add l[i] 96 rfl (by unfold b2n at hn;simp at hn;omega) (by unfold b2n at hn;simp at hn;omega)) ?_;intro u2 H3 ha3;unfold qxg qq7;simp(disch:=omega)only[go_sem];refine aDy hC hj hP hl pl hv hq k (i+1) u2 (n++[l[i]]) H3 (by omega) (by omega) (by unfold b2n at hn;simp at hn ⊢;omega) ?_ (Ac.trans ha1.fm ha3);intro t ht;rw[gz,gy]at ht;rcases ht with ht|rfl
     ·exact pn t ht
     ·simp_all
  ·simp only[go_sem,e0,h1];exact hq w m H ha (by omega) pm
theorem zi8(hC:aW C)(hk:5<=k){P:Tu->Prop}(hP:∀ t,P t->t.lo){v:AV}{l:List Tu}(hl:l.length<1000)(pl:∀ t∈l,P t)(hv:Rs 6 Tu.cells H v l):Ok (C k (.f 26) [v] H) fun r H'=>∃ m,Ac 6 Tu.cells H H' r m/\m.length<=l.length/\∀ t∈m,P t:=by obtain⟨j,rfl⟩:=aS hk;rw[(hC j).zEd];unfold zEd zya zd1;rw[dB];refine aDy hC (j:=j) (by omega) hP hl pl hv ?_ bX 0 .aA [] H (gq _) (by rw[dI];omega) (gq _) (fun t ht=>by cases ht) (Ac.nil 6 _ (Fm.refl _ _));intro w m H1 ha hm pm;exact Ok.ret ⟨m,ha,hm,pm⟩
def Lo(s:SS):Prop:=s.n<1000000/\(s.n=0->s.a=0)
def kF(X:List aN)(t:Tu):Prop:=t.b∈idL/\t.y∈idL/\(t.a,t.c)∈aJ X/\∃ g,kI X t.a t.c=some g/\(⟨t.x,t.z⟩:iQ)∈g.r.types
def TuR(X:List aN)(r:AV):Prop:=∃(t:Tu) (b:Bool),r=.aX [.agg t.cells,.bool b]/\t.lo/\(b=true->kF X t)
theorem aKr(hC:aW C)(hj:1<=j){x3 x4 x7 x8 p q r s:Nat}{tv:AV}{ts:List iQ}{pr:SS×SS}{l1 l3 l4 l5 l6:AV}(h3:H.get x3=aB 0 [.int .u8 (.ofNat p),.int .u8 (.ofNat q),.int .u8 (.ofNat r),.int .u8 (.ofNat s)])(h4:H.get x4=aB 0 [.str 0 0,.str 0 0,.str 0 0,.str 0 0,.str 0 0,.str 0 0])(h7:H.get x7=aB 0 [.str pr.1.n pr.1.a,.str pr.2.n pr.2.a])(h8:H.get x8=aB 0 [l1,tv,l3,l4,l5,l6])(n3:x3<H.nx)(n4:x4<H.nx)(n7:x7<H.nx)(n8:x8<H.nx)(r4:r<256)(ht:Rs 2 tC H tv ts)(hn:ts.length≠0)(hn2:ts.length<=100)(lp:pr.1.n<1000000/\pr.2.n<1000000)(lt:∀ t∈ts,Lo t.sp/\Lo t.rl){g:aR}(hpm:pr∈aJ X)(hg:kI X pr.1 pr.2=some g)(hgt:ts=g.r.types):Ok (qt0 (C j) (.ptr x3 0) (.ptr x4 0) (.ptr x7 0) (.ptr x8 0) H) fun r H'=>Fm (· =x4) H H'/\TuR X r:=by
 have e5:=ht.len;have hi:r%ts.length<ts.length:=xF _ (by omega);obtain⟨b,o,e1,e2,e3⟩:=ht.qI hi;have i1:fQ 4 1 (.ptr x3 0) (iN 1)=.val (.ptr x3 1):=id rfl;have i2:fQ 4 1 (.ptr x3 0) (iN 2)=.val (.ptr x3 2):=id rfl;have i3:fQ 4 1 (.ptr x3 0) (iN 3)=.val (.ptr x3 3):=id rfl;unfold tC SS.v at e3;have lty:=lt _ (lu hi);have hmt:ts[r%ts.length]∈g.r.types:=by rw[<-hgt];exact lu hi
 generalize ts[r%ts.length]=ty at e3 lty hmt;rw[qq9];unfold ql8;simp(maxSteps:=2000000) (disch:=first|omega|exact ti rfl|(simp only[np,nq];done)|(simp only[np,nq];omega))only[go_sem,Nat.reduceAdd,Nat.reduceMul,Nat.reduceSub,Nat.reduceLeDiff,Nat.reduceEqDiff,Nat.reduceShiftRight,Nat.reduceAnd,h3,h7,h8,i1,i2,i3,e5,e1,e3];generalize hH:(Hp.mk _ (H.nx+13))=G;have fG:Fm No H G:=by rw[<-hH];exact(((Fm.refl No H).up 13).aF _ _ (by omega)).aF _ _ (by omega)
 have gG:G.get (H.nx+11)=aB 0 [.str ty.sp.n ty.sp.a,.str ty.rl.n ty.rl.a]:=by rw[<-hH];exact dS _ _ _
 have nG:G.nx=H.nx+13:=by rw[<-hH]
 refine Ok.mI (z7o hC (k:=j) (by omega) q _) ?_;rintro _ H1 ⟨⟨u,rfl,u1,u2⟩,f1⟩;have n1:=f1.nx;have jZ:=fG.trans f1;have a3:=(jZ.keep n3).trans h3;have a4:=(jZ.keep n4).trans h4;have a7:=(jZ.keep n7).trans h7;have bJ:=(f1.keep (b:=H.nx+11) (by omega)).trans gG;unfold SS.v;simp(disch:=go_size)only[go_sem,rB,rI,rK,rL,rN,rS,r6,a3,a7,bJ];refine Ok.mI (z7o hC (k:=j) (by omega) s _) ?_;rintro _ H2 ⟨⟨w,rfl,w1,w2⟩,f2⟩;have f12:=f1.trans f2;have pQ:=jZ.trans f2;have b3:=(pQ.keep n3).trans h3;have b4:=(pQ.keep n4).trans h4;have b7:=(pQ.keep n7).trans h7;have b11:=(f12.keep (b:=H.nx+11) (by omega)).trans gG;unfold SS.v;simp(disch:=go_size)only[go_sem,rB,rI,rK,rL,rN,rS,r6,b3,b4,b7,b11];refine Ok.ret ⟨?_,⟨pr.1,u,pr.2,ty.sp,w,ty.rl,lty.2.2⟩,true,rfl,⟨lp.1,u2,lp.2,lty.1.1,w2,lty.2.1⟩,fun _=>⟨u1,w1,hpm,g,hg,hmt⟩⟩;exact⟨pQ.nx,fun c hc hs=>(dG _ _ _ _ hs).trans (pQ.keep hc)⟩
structure LoX(X:List aN):Prop where
 nm:∀ p∈aJ X,Lo p.1/\Lo p.2
 ty:∀ a b g,kI X a b=some g->∀ t∈g.r.types,Lo t.sp/\Lo t.rl
def tu0:Tu:=⟨sE,sE,sE,sE,sE,sE,fun _=>rfl⟩
theorem ziv:tu0.lo:=by unfold Tu.lo tu0 sE;decide
theorem zlw(hX:bS H sv X){a b:SS}{g:aR}(h:kI X a b=some g):kR H g:=by
 unfold kI at h;split at h
 ·cases h
 ·rename_i s hs;exact(hX.sp s (vw hs)).rel g (vw h)
theorem qzv(hS:yD X){a b:SS}{g:aR}(h:kI X a b=some g):g.r.types.length<=100:=by
 unfold kI at h;split at h
 ·cases h
 ·rename_i s hs;exact hS.t s (vw hs) g (vw h)
theorem zrj(hC:aW C)(hk:4<=k)(hX:bS H sv X)(hS:yD X)(hL:LoX X)(p:Nat)(q r s:Nat)(h4:p<256/\q<256/\r<256/\s<256):Ok (C k (.f 25) [.agg [sv],.agg [.int .u8 (.ofNat p),.int .u8 (.ofNat q),.int .u8 (.ofNat r),.int .u8 (.ofNat s)]] H) fun r H'=>Fm No H H'/\TuR X r:=by
 obtain⟨j,rfl⟩:=aS hk;obtain⟨p4,q4,r4,s4⟩:=h4;rw[(hC j).zEc];unfold zEc zyb;simp(disch:=first|omega|exact ti rfl|simp only[np,nq];first|done|omega)only[go_sem,rB,rI,rK,rL,rN,rS,r6];refine Ok.ve (zxf hC (k:=j) (by omega) (hX.fm (by(repeat(first|exact Fm.refl _ _|assumption|refine Fm.push ?_ _|refine Fm.lF ?_ (by first|omega|simp only[np,nq];omega)|refine Fm.aF ?_ _ _ (by first|omega|simp only[np,nq];omega))))) hS) ?_;intro a H1 ha;have hal:=hS.all X.length;rw[uj]at hal;have e0:=ha.cO;have n1:=ha.fm.nx;simp only[np]at n1;have g0:H1.get H.nx=aB 0 [sv]:=(ha.fm.keep (by first|omega|simp only[np,nq];omega)).trans (by simp(disch:=first|omega|exact ti rfl|simp only[np,nq];first|done|omega)only[go_sem,rB,rI,rK,rL,rN,rS,r6]);have g1:H1.get (H.nx+1)=aB 0 [.int .u8 (.ofNat p),.int .u8 (.ofNat q),.int .u8 (.ofNat r),.int .u8 (.ofNat s)]:=(ha.fm.keep (by first|omega|simp only[np,nq];omega)).trans (by simp(disch:=first|omega|exact ti rfl|simp only[np,nq];first|done|omega)only[go_sem,rB,rI,rK,rL,rN,rS,r6]);have g2:H1.get (H.nx+1+1)=aB 0 tu0.cells:=(ha.fm.keep (by first|omega|simp only[np,nq];omega)).trans (by simp(disch:=first|omega|exact ti rfl|simp only[np,nq];first|done|omega)only[go_sem,rB,rI,rK,rL,rN,rS,r6];rfl);have f1:Fm No H H1:=Fm.trans (by(repeat(first|exact Fm.refl _ _|assumption|refine Fm.push ?_ _|refine Fm.lF ?_ (by first|omega|simp only[np,nq];omega)|refine Fm.aF ?_ _ _ (by first|omega|simp only[np,nq];omega)))) ha.fm;unfold tu0 Tu.cells SS.v sE at g2;by_cases hz:(aJ X).length=0
 ·simp(disch:=first|omega|exact ti rfl|simp only[np,nq];first|done|omega)only[go_sem,rB,rI,rK,rL,rN,rS,r6,e0,hz,g2];refine Ok.ret ⟨?_,tu0,false,rfl,ziv,fun h=>by cases h⟩;exact f1.aF _ _ (by omega)
 ·simp(disch:=first|omega|exact ti rfl|simp only[np,nq];first|done|omega)only[go_sem,rB,rI,rK,rL,rN,rS,r6,e0,hz];rw[qq8];unfold ql7;have hi:p%(aJ X).length<(aJ X).length:=xF _ (by omega);obtain⟨b,o,e1,e2,e3⟩:=(ha.rs (f:=pC) fun _=>rfl).qI hi;have i0:fQ 4 1 (.ptr (H.nx+1) 0) (iN 0)=.val (.ptr (H.nx+1) 0):=id rfl;have hpm:(aJ X)[p%(aJ X).length]∈aJ X:=lu hi;generalize (aJ X)[p%(aJ X).length]=pr at e3 hpm;unfold pC SS.v at e3;simp(disch:=first|omega|exact ti rfl|simp only[np,nq];first|done|omega)only[go_sem,rB,rI,rK,rL,rN,rS,r6,i0,g1,e0,e1,e3,g0];refine Ok.ve (z3v hC (k:=j) (by omega) (X:=X) ((hX.fm f1).fm (by(repeat(first|exact Fm.refl _ _|assumption|refine Fm.push ?_ _|refine Fm.lF ?_ (by first|omega|simp only[np,nq];omega)|refine Fm.aF ?_ _ _ (by first|omega|simp only[np,nq];omega))))) (by have:=hS.n;omega) (fun g hg=>by have:=hS.r g hg;omega) pr.1 pr.2) ?_;rintro fr H2 ⟨f2,hf⟩;have n2:=f2.nx;simp only[np,nq]at n2;have k0:H2.get H1.nx=aB 0 [.str pr.1.n pr.1.a,.str pr.2.n pr.2.a]:=(f2.keep (by first|omega|simp only[np,nq];omega)).trans (by simp(disch:=first|omega|exact ti rfl|simp only[np,nq];first|done|omega)only[go_sem,rB,rI,rK,rL,rN,rS,r6]);have k1:H2.get (H.nx+1)=aB 0 [.int .u8 (.ofNat p),.int .u8 (.ofNat q),.int .u8 (.ofNat r),.int .u8 (.ofNat s)]:=(f2.keep (by first|omega|simp only[np,nq];omega)).trans (by simp(disch:=first|omega|exact ti rfl|simp only[np,nq];first|done|omega)only[go_sem,rB,rI,rK,rL,rN,rS,r6,g1]);have k2:H2.get (H.nx+1+1)=aB 0 [.str 0 0,.str 0 0,.str 0 0,.str 0 0,.str 0 0,.str 0 0]:=(f2.keep (by first|omega|simp only[np,nq];omega)).trans (by simp(disch:=first|omega|exact ti rfl|simp only[np,nq];first|done|omega)only[go_sem,rB,rI,rK,rL,rN,rS,r6,g2]);have pQ:Fm No H H2:=Fm.trans (Fm.trans f1 (by(repeat(first|exact Fm.refl _ _|assumption|refine Fm.push ?_ _|refine Fm.lF ?_ (by first|omega|simp only[np,nq];omega)|refine Fm.aF ?_ _ _ (by first|omega|simp only[np,nq];omega))))) f2;unfold z3w at hf;cases hg:kI X pr.1 pr.2 with
  |none=>rw[hg]at hf;subst hf;unfold q48;simp(disch:=first|omega|exact ti rfl|simp only[np,nq];first|done|omega)only[go_sem,rB,rI,rK,rL,rN,rS,r6,k2];refine Ok.ret ⟨?_,tu0,false,rfl,ziv,fun h=>by cases h⟩;exact Fm.aF (Fm.aF (pQ.push _) _ _ (by omega)) _ _ (by omega)
  |some g=>
   rw[hg]at hf;subst hf;have hr:=(zlw hX hg).fm pQ;have hn:=qzv hS hg;have ht:=hr.ty;have e5:=ht.len;unfold fI SS.v;by_cases hz2:g.r.types.length=0
   ·simp(disch:=first|omega|exact ti rfl|simp only[np,nq];first|done|omega)only[go_sem,rB,rI,rK,rL,rN,rS,r6,e5,hz2,k2];refine Ok.ret ⟨?_,tu0,false,rfl,ziv,fun h=>by cases h⟩;exact Fm.aF (Fm.aF (pQ.push _) _ _ (by omega)) _ _ (by omega)
   ·simp(disch:=first|omega|exact ti rfl|simp only[np,nq];first|done|omega)only[go_sem,rB,rI,rK,rL,rN,rS,r6,e5,hz2,k2];have hmem:pr∈aJ X:=hpm;refine Ok.mono (aKr hC (j:=j) (by omega) (H:=((aO H2 _).put H2.nx _)) (x8:=H2.nx) (pr:=pr) (p:=p) (q:=q) (r:=r) (s:=s) (ts:=g.r.types) (tv:=g.tv) (l1:=.str g.r.name.n g.r.name.a) (l3:=g.cs.getD 0 .undef) (l4:=g.cs.getD 1 .undef) (l5:=g.cs.getD 2 .undef) (l6:=g.cs.getD 3 .undef) ?_ ?_ ?_ ?_ ?_ ?_ ?_ ?_ r4 ?_ hz2 hn ⟨(hL.nm _ hmem).1.1,(hL.nm _ hmem).2.1⟩ (hL.ty _ _ _ hg) hmem hg rfl) ?_
    ·simp(disch:=first|omega|exact ti rfl|simp only[np,nq];first|done|omega)only[go_sem,rB,rI,rK,rL,rN,rS,r6,k1]
    ·simp(disch:=first|omega|exact ti rfl|simp only[np,nq];first|done|omega)only[go_sem,rB,rI,rK,rL,rN,rS,r6,k2]
    ·simp(disch:=first|omega|exact ti rfl|simp only[np,nq];first|done|omega)only[go_sem,rB,rI,rK,rL,rN,rS,r6,k0]
    ·exact dS _ _ _
    ·simp(disch:=first|omega|exact ti rfl|simp only[np,nq];first|done|omega)only[go_sem,rB,rI,rK,rL,rN,rS,r6]<;>omega
    ·simp(disch:=first|omega|exact ti rfl|simp only[np,nq];first|done|omega)only[go_sem,rB,rI,rK,rL,rN,rS,r6]<;>omega
    ·simp(disch:=first|omega|exact ti rfl|simp only[np,nq];first|done|omega)only[go_sem,rB,rI,rK,rL,rN,rS,r6]<;>omega
    ·simp(disch:=first|omega|exact ti rfl|simp only[np,nq];first|done|omega)only[go_sem,rB,rI,rK,rL,rN,rS,r6]<;>omega
    ·exact ht.fm (((Fm.refl No H2).push _).aF _ _ (by omega))
    ·rintro r H3 ⟨f3,h3⟩;refine⟨?_,h3⟩;exact Fm.then (Fm.aF (pQ.push _) _ _ (by omega)) f3 fun c hc h=>by omega
structure Q4 where
 p:Nat
 q:Nat
 r:Nat
 s:Nat
 b:p<256/\q<256/\r<256/\s<256
def Q4.cells(x:Q4):List AV:=[.int .u8 (.ofNat x.p),.int .u8 (.ofNat x.q),.int .u8 (.ofNat x.r),.int .u8 (.ofNat x.s)]
theorem qw0(hC:aW C){j:Nat}(hj:4<=j){H0:Hp}{x1 x4:Nat}{cv lv sv:AV}{ls:List Q4}{X:List aN}(hX:bS H0 sv X)(hS:yD X)(hL:LoX X)(h1:H0.get x1=aB 0 [cv,lv])(h4:H0.get x4=aB 0 [sv])(n1:x1<H0.nx)(n4:x4<H0.nx)(hl:Rs 4 Q4.cells H0 lv ls){Q:pL}{q:pD}(hq:∀ w m H,Ac 6 Tu.cells H0 H w m->m.length<=20->(∀t∈m,t.lo/\kF X t)->Ok (q w H) Q):∀(k i:Nat) (w:AV) (m:List Tu) (H:Hp),i<=20->20-i<k->m.length<=i->(∀t∈m,t.lo/\kF X t)->Ac 6 Tu.cells H0 H w m -> Ok (qj7 (C j) q (.ptr x1 0) (.ptr x4 0) k w (iN i) H) Q
 |0,i,_,_,_,_,h,_,_,_=>by omega
 |k+1,i,w,m,H,hi,hk,hm,pm,ha=>by
  show Ok (q18 (C j) _ _ _ (qj7 (C j) _ _ _ k) _ _ H) Q;unfold q18;have g1:=(ha.fm.keep n1).trans h1;have g4:=(ha.fm.keep n4).trans h4;have e0:=hl.len;by_cases c1:i<ls.length
  ·by_cases c2:i<20
   ·simp only[go_sem,g1,e0,c1,c2];unfold q17;obtain⟨b,o,e1,e2,e3⟩:=(hl.fm ha.fm).qI c1;simp only[go_sem,rB,rI,rK,rL,rN,rS,r6,g1,g4,e1,e3];have fu:Fm No H ⟨H.t,H.nx+13⟩:=(Fm.refl No H).up 13;refine Ok.mI (zrj hC (k:=j) hj ((hX.fm ha.fm).fm fu) hS hL ls[i].p ls[i].q ls[i].r ls[i].s ls[i].b) ?_;rintro _ H1 ⟨f1,t,bb,rfl,lo,fp⟩;have jZ:=fu.trans f1;have k1:=(jZ.keep (lL n1 ha.fm.nx)).trans g1;have k4:=(jZ.keep (lL n4 ha.fm.nx)).trans g4;have k3:eB (H1.get b) o 4=some ls[i].cells:=by rw[jZ.keep e2];exact e3
    simp(disch:=first|omega|exact ti rfl|simp only[np,nq];first|done|omega)only[go_sem,rB,rI,rK,rL,rN,rS,r6,k1,k4,k3,vJ,qdh];have hz:Fm No H ((H1.put (H.nx+10) (aB 0 [.str 0 0,.str 0 0,.str 0 0,.str 0 0,.str 0 0,.str 0 0])).put (H.nx+10) (aB 0 t.cells)):=(jZ.aF _ _ (by omega)).aF _ _ (by omega);cases bb with
    |true=>
     simp(disch:=first|go_size|omega)only[go_sem,rB,rI,rK,rL,rN,rS,r6];refine Ok.ve ((ha.no (hz.push (aB 0 t.cells))).add t 96 rfl (by omega) (by omega)) ?_;intro w2 H2 ha2;unfold qnk;simp(disch:=first|omega|exact ti rfl|simp only[np,nq];first|done|omega)only[go_sem,rB,rI,rK,rL,rN,rS,r6];refine qw0 hC hj hX hS hL h1 h4 n1 n4 hl hq k (i+1) w2 (m++[t]) H2 (by omega) (by omega) (by simp;omega) ?_ ha2;intro y hy;rw[gz,gy]at hy;rcases hy with hy|rfl
     ·exact pm y hy
     ·simp_all
    |false=>unfold qnk;simp(disch:=first|omega|exact ti rfl|simp only[np,nq];first|done|omega)only[go_sem,rB,rI,rK,rL,rN,rS,r6];exact qw0 hC hj hX hS hL h1 h4 n1 n4 hl hq k (i+1) w m _ (by omega) (by omega) (by omega) pm (ha.no hz)
   ·simp only[go_sem,g1,e0,c1,c2];exact hq w m H ha (by omega) pm
  ·simp only[go_sem,g1,e0,c1];exact hq w m H ha (by omega) pm
theorem z3x(hC:aW C)(hk:21<=k){v:AV}{L:List (List Nat)}(hv:gV H v L):Ok (C k (.f 24) [.agg [v]] H) fun r H'=>∃ sv X,r=.agg [sv]/\lS H' sv X/\(∀b,In sv b->H.nx<=b)/\(∀g∈X,H.nx<=g.A)/\X.map aN.sp=xI L/\Fm No H H':=by
 obtain⟨j,rfl⟩:=aS hk;rw[(hC j).zAc];unfold zAc z0c;simp(disch:=first|go_size|omega)only[go_sem,rB,rI,rK,rL,rN,rS,r6];unfold zie;rw[dB];have f0:Fm No H (aO (aO H (aB 0 [v])) (aB 0 [.aA])):=by exact pU
 have hv0:=hv.fm f0;refine zkh hC (by omega) (H0:=aO (aO H (aB 0 [v])) (aB 0 [.aA])) (cb:=H.nx) (sb:=H.nx+3) hv0 (fun H1 sv l g hI hS=>?_) bX 0 [] ⟨sU,[],.aA,H.nx+4,H.nx+4⟩ (.sl (H.nx+2) 0 1 1 true) _ (gq _) (by have:bF L<=12:=um _ _;rw[dI];omega) ⟨?_,?_,?_,?_,?_,?_,?_,?_,?_,?_,?_,?_⟩ (.inl ⟨rfl,rfl,rfl⟩)
 ·rw[qrz];unfold qvi zii;rw[dB];have hraw:=hS.raw;refine qog hC (by omega) (H0:=aO (aO H (aB 0 [v])) (aB 0 [.aA])) (sb:=H.nx+3) (sv:=sv) (S:=sQ L) ?_ (fun p hp=>?_) (fun X H2 hX hI2=>?_) bX 1 (l++[g]) H1 ?_ ?_ ?_ ⟨hI.m,fun x hx=>⟨hI.an x hx,?_⟩,hI.sbk,⟨hI.sbl.1,hI.sbl.2.2⟩,fun b hb=>(hI.tK b hb).1,hI.fm⟩
  ·unfold sQ;have:bF L<=12:=um _ _;simp;omega
  ·have h1:=zju hp;refine⟨by omega,fun r hr=>?_⟩;obtain⟨n,_,rfl⟩:=h1.2 r hr;have:=qop L n;omega
  ·rw[qxu];unfold q34;have e0:=hI2.sbk;have nx2:=hI2.fm.nx;have er:H2.get (H.nx+1)=aB 0 [.aA]:=(hI2.fm.keep (by simp only[np,nq];omega)).trans (by simp(disch:=go_size)only[go_sem]);have fF:Fm (fun b=>b=H.nx+1) H2 (H2.put (H.nx+1) (aB 0 [sv])):=(Fm.refl _ _).put _ _ fun _=>rfl;have sb2:=hI2.sbl;simp only[go_sem,seval,e0,er];refine Ok.ret ⟨sv,X,rfl,(hI2.m.iH fF (fun b hb h=>?_) (fun g hg b h1 _ h=>?_)),fun b hb=>?_,fun g hg=>?_,hX,(f0.trans hI2.fm).then fF fun c hc h=>?_⟩
   ·have:=hI2.tK b hb;simp only[np]at this;omega
   ·have:=(hI2.an g hg).1;simp only[np]at this;omega
   ·have:=hI2.tK b hb;simp only[np]at this;omega
   ·have:=(hI2.an g hg).1;simp only[np]at this;omega
   ·omega
  ·have:=hS.len (um _ _);rw[<-hraw];simp
  ·rw[<-hraw];have:=hS.len (um _ _);rw[dI];simp;omega
  ·trivial
  ·rw[gz,gy]at hx;rcases hx with hx|rfl
   ·exact hI.sbd x hx
   ·have:=hI.sbl;omega
 ·exact⟨by simp only[np,nq];omega,by simp(disch:=first|go_size|omega)only[go_sem]⟩
 ·simp only[go_sem]
 ·simp only[np,nq];omega
 ·simp
 ·left;omega
 ·constructor<;>(rintro ⟨_,_,_,_,h⟩;injection h;omega)
 ·rintro b ⟨_,_,_,_,h⟩;cases h;simp only[np];omega
 ·simp
 ·refine⟨⟨rfl,.inr ⟨H.nx+2,0,true,0,_,rfl,?_,gq _,rfl,.inl rfl,?_⟩⟩,zq _ _,fun x hx=>?_,fun x hx b hb=>?_⟩
  ·simp(disch:=first|go_size|omega)only[go_sem];rfl
  ·simp only[np,nq];omega
  ·rw[ae,gy]at hx;subst hx;exact⟨rW.nil _ _ _,by simp only[np,nq];omega⟩
  ·simp_all
 ·intro x hx;rw[ae,gy]at hx;subst hx;simp only[np];omega
 ·simp only[np,nq];omega
 ·repeat first|exact Fm.refl _ _|assumption|refine Fm.push ?_ _|refine Fm.aF ?_ _ _ (by simp only[np,nq];omega)
theorem z7u(hC:aW C)(hk:22<=k){cv lv:AV}{L:List (List Nat)}{ls:List Q4}(hv:gV H cv L)(hl:Rs 4 Q4.cells H lv ls)(hX:∀ X:List aN,X.map aN.sp=xI L->yD X/\LoX X):Ok (C k (.f 7) [.agg [cv,lv]] H) fun r H'=>∃ sv X w m,r=.aX [.agg [sv],w]/\bS H' sv X/\X.map aN.sp=xI L/\Rs 6 Tu.cells H' w m/\m.length<=20/\(∀t∈m,t.lo/\kF X t)/\Fm No H H':=by
 obtain⟨j,rfl⟩:=aS hk;rw[(hC j).zDw];unfold zDw zyg;simp(disch:=first|go_size|omega)only[go_sem,rB,rI,rK,rL,rN,rS,r6];refine Ok.ve (z3x hC (k:=j) (by omega) (hv.fm (by(repeat(first|exact Fm.refl _ _|assumption|refine Fm.push ?_ _|refine Fm.lF ?_ (by(first|go_size|omega))|refine Fm.aF ?_ _ _ (by(first|go_size|omega))))))) ?_;rintro _ H1 ⟨sv,X,rfl,hM,hsb,hga,hm,f1⟩;have hs:=hM.sr;simp only[np]at hsb hga;obtain⟨hS,hL⟩:=hX X hm;have n1:=f1.nx;simp only[np]at n1;have g0:H1.get H.nx=aB 0 [cv,lv]:=(f1.keep (by(first|go_size|omega))).trans (by simp(disch:=first|go_size|omega)only[go_sem,rB,rI,rK,rL,rN,rS,r6]);have g1:H1.get (H.nx+1)=aB 0 [.aA]:=(f1.keep (by go_size)).trans (by simp(disch:=go_size)only[go_sem,rB,rI,rK,rL,rN,rS,r6]);have jZ:Fm No H H1:=Fm.trans (by exact pU) f1;simp(disch:=omega)only[go_sem,rB,rI,rK,rL,rN,rS,r6];unfold q19;rw[dB];generalize hG:(Hp.put _ H1.nx _)=G;have fG:Fm No H1 G:=by rw[<-hG];exact((Fm.refl No H1).push _).aF _ _ (lg _)
 have nG:H1.nx<G.nx:=by rw[<-hG];simp only[np,nq];omega
 have gG:G.get H1.nx=aB 0 [sv]:=by rw[<-hG];exact dS _ _ _
 have a0:=(fG.keep (b:=H.nx) (by omega)).trans g0;have a1:=(fG.keep (b:=H.nx+1) (by omega)).trans g1;refine qw0 hC (j:=j) (by omega) (hs.fm fG) hS hL a0 gG (by omega) nG (hl.fm (jZ.trans fG)) ?_ bX 0 .aA [] G (by omega) (by rw[dI];omega) (gq _) (fun t ht=>by cases ht) (Ac.nil 6 _ (Fm.refl _ _));intro w m H2 ha hm2 pm;unfold qh3;have b0:=(ha.fm.keep nG).trans gG;simp only[go_sem,b0];simp(disch:=first|go_size|omega)only[go_sem,rB,rI,rK,rL,rN,rS,r6];refine Ok.mI (zi8 hC (k:=j) (by omega) (P:=fun t=>t.lo/\kF X t) (fun _ h=>h.1) (by omega) pm (ha.rs vJ)) ?_;rintro w2 H3 ⟨m2,ha2,hm3,pm2⟩;have b1:=(ha2.fm.keep (lL nG ha.fm.nx)).trans b0;have a2:=((ha.fm.trans ha2.fm).keep (b:=H.nx+1) (by have:=fG.nx;omega)).trans a1;simp only[go_sem,seval,b1,a2];have eS:pN 64 (.agg [sv]) (.agg [sv])=true:=qk1 [sv] (by have:=hs.fl;simp only[lE5,List.all_nil,this,pg,uo];rfl);rw[eS];have fA:=(fG.trans ha.fm).trans ha2.fm;have nA:=fA.nx;have n2:=ha.fm.nx;have fB:Fm (fun b=>b=H.nx+1) H1 (H3.put (H.nx+1) (aB 0 [sv])):=⟨nA,fun c hc h=>(dG _ _ _ _ h).trans (fA.keep hc)⟩;have fC:Fm (fun b=>b=H.nx+1) H3 (H3.put (H.nx+1) (aB 0 [sv])):=(Fm.refl _ _).put _ _ fun _=>rfl;refine Ok.ret ⟨sv,X,w2,m2,rfl,(hM.iH fB (fun b hb h=>?_) (fun g hg b h1 _ h=>?_)).sr,hm,(ha2.rs vJ).iH fC (fun b hb h=>?_),by omega,pm2,(jZ.trans fA).aF _ _ (by omega)⟩
 ·have:=hsb b hb;omega
 ·have:=hga g hg;omega
 ·have:H2.nx<=b:=ha2.nw b hb;omega
end Go.Di
end
noncomputable section
namespace Go.Di
open Go.Ev Go.Di.T Go.Sort
variable {C:Nat->Ev.Call} {LA LO:LP} {L:List (List Nat)} {X:List aN}
variable {H H':Hp} {b k z:Nat} {l:List AV}
theorem zk6{n a:Nat}(h:0<n/\n<1000000):Lo ⟨n,a⟩:=⟨h.2,fun e=>absurd (show n=0 from e) (by omega)⟩
theorem mP.lo(h:mP L X):LoX X:=by
 have hn:∀ s∈X.map aN.name,Lo s:=fun s hs=>by
  rw[h.names,qg,qp]at hs;rcases hs with rfl|⟨i,_,rfl⟩
  ·trivial
  ·exact zk6 (by omega)
 have ha:∀ p∈aJ X,Lo p.1/\Lo p.2:=fun p hp=>by rw[h.all,qp]at hp;obtain⟨k,_,rfl⟩:=hp;exact⟨zk6 (by omega),zk6 (by omega)⟩
 refine⟨ha,fun a b g hg t ht=>?_⟩;unfold kI at hg;split at hg
 ·cases hg
 ·rename_i s hs;obtain⟨_,h2⟩:=h.val.ty s (vw hs) g (vw hg);obtain⟨h3,h4⟩:=h2 t ht;refine⟨hn _ h3,?_⟩;rcases h4 with e|h4
  ·rw[e];exact⟨by decide,fun _=>rfl⟩
  ·exact(ha _ h4).2
def ltS(s t:SS):Bool:=qd1 s.n s.n s.a t.n t.a
def oN(p q:SS×SS):Bool:=ltS p.1 q.1||(decide (p.1=q.1)&&ltS p.2 q.2)
theorem q7m(s t:SS):fO (mJ .lss).f (.str s.n s.a) (.str t.n t.a)=.val (.bool (ltS s t)):=id rfl
theorem qvv(s t:SS):fO (mJ .eql).f (.str s.n s.a) (.str t.n t.a)=.val (.bool (decide (s=t))):=by have:=tN s t;have e:fO (mJ .eql).f (.str s.n s.a) (.str t.n t.a)=.val (.bool (Nat.beq s.n t.n&&Nat.beq s.a t.a)):=rfl;have e2:bH s.v t.v=some (Nat.beq s.n t.n&&Nat.beq s.a t.a):=rfl;simp_all
theorem zs2(hC:aW C)(hk:1<=k)(p q:SS×SS)(H:Hp):Ok (C k (.f 63) [.agg (pC p),.agg (pC q)] H) fun r H'=>r=.bool (oN p q)/\Fm No H H':=by
 obtain⟨j,rfl⟩:=aS hk;rw[(hC j).zFu];unfold zFu zxh pC SS.v;have e1:=q7m p.1 q.1;have e2:=qvv p.1 q.1;have e3:=q7m p.2 q.2;have f:∀ c d,Fm No H (aO (aO H c) d):=fun c d=>by exact pU
 unfold oN;cases h1:ltS p.1 q.1 with
 |true=>rw[h1]at e1;simp(disch:=first|go_size|omega)only[go_sem,e1];exact Ok.ret ⟨rfl,f _ _⟩
 |false=>
  rw[h1]at e1;by_cases h2:p.1=q.1
  ·rw[gp h2]at e2 ⊢;simp(disch:=first|go_size|omega)only[go_sem,e1,e2,e3];exact Ok.ret ⟨by simp,f _ _⟩
  ·rw[qi h2]at e2 ⊢;simp(disch:=first|go_size|omega)only[go_sem,e1,e2];exact Ok.ret ⟨by simp,f _ _⟩
theorem zm4(b:Bool):mF false (some b)=.val (.bool b):=id rfl
theorem xW(p:SS×SS):(pC p).length=2:=id rfl
theorem qet(p:SS×SS):List.take 2 (pC p)=pC p:=id rfl
theorem aO8(p q:SS×SS):dQ (eqFields [(p1,⟨bH⟩,0),(p1,⟨bH⟩,1)]) (.agg (pC p)) (.agg (pC q))=some (decide (p=q)):=qw2 p q
theorem qzo{O:Ev.Call}{H:Hp}{v:AV}{l:List (SS×SS)}{x:SS×SS}{xb:Nat}(hv:Rs 2 pC H v l)(hx:H.get xb=aB 0 (pC x))(hn:l.length<=1000){Q:pL}{qr:pD}{q:pH}(hr:x∈l->Ok (qr (.bool true) H) Q)(hq:x∉l->Ok (q H) Q):∀(k i:Nat),i<=l.length->l.length-i<k->x∉l.take i->Ok (qqv O qr q v (.ptr xb 0) k (iN i) H) Q
 |0,i,_,h,_=>by omega
 |k+1,i,hi,hk,hm=>by
  show Ok (zco O _ _ _ _ (qqv O _ _ _ _ k) _ H) Q;unfold zco;have e0:=hv.len;by_cases hlt:i<l.length
  ·simp only[go_sem,e0,hlt];unfold zcm;obtain⟨b,o,e1,_,e2⟩:=hv.qI hlt;have e3:=aO8 l[i] x;by_cases h:l[i]=x
   ·rw[gp h]at e3;simp only[go_sem,seval,e1,e2,hx,xW,qet,e3,zm4];exact hr (by rw[<-h];exact lu hlt)
   ·rw[qi h]at e3;simp only[go_sem,seval,e1,e2,hx,xW,qet,e3,zm4];unfold zcn;simp(disch:=omega)only[go_sem];refine qzo hv hx hn hr hq k (i+1) (by omega) (by omega) fun hc=>?_;rw[ku hlt,gz,gy]at hc;simp_all
  ·simp only[go_sem,e0,hlt];exact hq (by rw[tu (by omega)]at hm;exact hm)
theorem z19(hC:aW C)(hk:1<=k){v:AV}{l:List (SS×SS)}(hv:Rs 2 pC H v l)(hn:l.length<=1000)(x:SS×SS):Ok (C k (.f 62) [v,.agg (pC x)] H) fun r H'=>r=.bool (decide (x∈l))/\Fm No H H':=by
 obtain⟨j,rfl⟩:=aS hk;rw[(hC j).zFt];unfold zFt zxi;have eb:pK 2 H.nx (.agg (pC x))=.new (.ptr H.nx 0) (aB 0 (pC x)):=id rfl;have f:Fm No H (aO H (aB 0 (pC x))):=by exact jY
 simp only[go_sem,eb];unfold zcp;rw[dB];refine qzo (x:=x) (hv.fm f) (by simp(disch:=omega)only[go_sem]) hn (fun h=>Ok.ret ⟨by rw[gp h],f⟩) (fun h=>?_) bX 0 (gq _) (by rw[dI];omega) (by simp);exact Ok.ret ⟨by rw[qi h],f⟩
def nO(x:SS×SS):List (SS×SS)->List (SS×SS)
 | []=>[x]
 |y::l=>if oN x y then x::y::l else y::nO x l
theorem qpf(x y:SS×SS)(l:List (SS×SS)):nO x (y::l)=if oN x y then x::y::l else y::nO x l:=rfl
def qV(l:List (SS×SS))(x:SS×SS):List (SS×SS):=if x∈l then l else nO x l
theorem qwu(x:SS×SS):∀ l,(nO x l).length=l.length+1
 | []=>rfl
 |y::l=>by
  unfold nO;split
  ·rfl
  ·rw[pg,qwu x l,pg]
theorem qmm(l:List (SS×SS))(x:SS×SS):(qV l x).length<=l.length+1:=by
 unfold qV;split
 ·omega
 ·rw[qwu];exact lg _
theorem qy0(hC:aW C){j:Nat}(hj:1<=j){H0:Hp}{v:AV}{l:List (SS×SS)}{x:SS×SS}{xb:Nat}(hv:Rs 2 pC H0 v l)(hx:H0.get xb=aB 0 (pC x))(hxl:xb<H0.nx)(hn:l.length<=1000){Q:pL}{q:AV->pD}(hq:∀ w b m H,Ac 2 pC H0 H w m->m++(if b then[]else[x])=nO x l->Ok (q w (.bool b) H) Q):∀(k i:Nat) (w:AV) (b:Bool) (m:List (SS×SS)) (H:Hp),i<=l.length->l.length-i<k->Ac 2 pC H0 H w m->m.length<=2*i->m++(if b then l.drop i else nO x (l.drop i))=nO x l -> Ok (qlc (C j) q v (.ptr xb 0) k w (.bool b) (iN i) H) Q
 |0,i,_,_,_,_,_,h,_,_,_=>by omega
 |k+1,i,w,b,m,H,hi,hk,ha,hml,hm=>by
  show Ok (zcs (C j) _ _ _ (qlc (C j) _ _ _ k) _ _ _ H) Q;unfold zcs;have e0:=hv.len;by_cases hlt:i<l.length
  ·simp only[go_sem,e0,hlt];unfold q03;have hdr:=ut hlt;have hf:=ha.fm;obtain⟨b1,o1,e1,e2,e3⟩:=(hv.fm hf).qI hlt;have gx:=(hf.keep hxl).trans hx;have nxf:=hf.nx;have fin:∀(w:AV) (b:Bool) (m:List (SS×SS)) (H:Hp),Ac 2 pC H0 H w m->m.length<=2*i+1->m++l[i]::(if b then l.drop (i+1)else nO x (l.drop (i+1)))=nO x l->Ok (qm7 (C j) (qlc (C j) q v (.ptr xb 0) k) v w (.bool b) (iN i) H) Q:=fun w b m H ha hml hm=>by
    unfold qm7;obtain⟨b1,o1,e1,e2,e3⟩:=(hv.fm ha.fm).qI hlt;simp(disch:=omega)only[go_sem,seval,e1,e3,xW,qet];refine Ok.ve ((ha.no ((Fm.refl No H).push (aB 0 (pC l[i])))).add l[i] 32 rfl (by omega) (by omega)) ?_;intro w2 H2 h2;unfold zcq;simp(disch:=omega)only[go_sem];refine qy0 hC hj hv hx hxl hn hq k (i+1) w2 b (m++[l[i]]) H2 (by omega) (by omega) h2 (by simp;omega) ?_;rw[qw];exact hm
   cases b with
   |true=>simp only[go_sem,e1,e3,gx,xW,qet];refine fin w true m _ ha (by omega) ?_;simp_all
   |false=>
    simp only[go_sem,seval,e1,e3,gx,xW,qet];refine Ok.mI (zs2 hC hj x l[i] _) ?_;rintro _ H2 ⟨rfl,f2⟩;replace f2:Fm No H H2:=f2;have gx2:=(f2.keep (by omega)).trans gx;have e32:eB (H2.get b1) o1 2=some (pC l[i]):=by rw[f2.keep e2];exact e3
    rw[hdr,qpf,kz (by decide)]at hm;cases hb:oN x l[i]with
    |true=>rw[hb,pz rfl]at hm;simp(disch:=omega)only[go_sem,seval,gx2,e32,xW,qet];refine Ok.ve (((ha.no f2).no ((Fm.refl No H2).push (aB 0 (pC x)))).add x 32 rfl (by omega) (by omega)) ?_;intro w2 H3 h3;refine fin w2 true (m++[x]) H3 h3 (by simp;omega) ?_;simp_all
    |false=>rw[hb,kz (by decide)]at hm;simp only[go_sem,gx2,e32,xW,qet];exact fin w false m H2 (ha.no f2) (by omega) hm
  ·simp only[go_sem,e0,hlt];have he:i=l.length:=by omega
   refine hq w b m H ha ?_;rw[he,lAO]at hm;exact hm
theorem zj4(hC:aW C)(hk:2<=k){v:AV}{l:List (SS×SS)}(hv:Rs 2 pC H v l)(hn:l.length<=1000)(x:SS×SS):Ok (C k (.f 33) [v,.agg (pC x)] H) fun r H'=>Rs 2 pC H' r (qV l x)/\Fm No H H':=by
 obtain⟨j,rfl⟩:=aS hk;rw[(hC j).zFn];unfold zFn zxk;have eb:pK 2 H.nx (.agg (pC x))=.new (.ptr H.nx 0) (aB 0 (pC x)):=id rfl;have f:Fm No H (aO H (aB 0 (pC x))):=by exact jY
 simp(disch:=omega)only[go_sem,eb,xW,qet];refine Ok.ve (z19 hC (k:=j) (by omega) (hv.fm f) hn x) ?_;rintro _ H1 ⟨rfl,f1⟩;have jZ:=f.trans f1;have g1:H1.get H.nx=aB 0 (pC x):=(f1.keep (by simp only[np,nq];omega)).trans (lC _ _);have n1:=f1.nx;simp only[np]at n1;unfold qV;by_cases h:x∈l
 ·rw[pz h,gp h];exact Ok.ret ⟨hv.fm jZ,jZ⟩
 ·rw[kz h,qi h];unfold q02 zct;rw[dB];refine qy0 hC (by omega) (hv.fm jZ) g1 (by omega) hn (fun w b m H2 ha hm=>?_) bX 0 .aA false [] H1 (gq _) (by rw[dI];omega) (Ac.nil 2 _ (Fm.refl _ _)) (gq _) (by simp);unfold qld;have g2:=(ha.fm.keep (by omega)).trans g1;cases b with
  |true=>rw[pz rfl,uh]at hm;exact Ok.ret ⟨by rw[<-hm];exact ha.rs xW,jZ.trans ha.fm⟩
  |false=>rw[kz (by decide)]at hm;have hl:=qwu x l;rw[<-hm,lq,lE0]at hl;simp(disch:=omega)only[go_sem,seval,g2,xW,qet];refine Ok.ve ((ha.no ((Fm.refl No H2).push (aB 0 (pC x)))).add x 32 rfl (by omega) (by omega)) ?_;intro w2 H3 h3;exact Ok.ret ⟨by rw[<-hm];exact h3.rs xW,jZ.trans h3.fm⟩
theorem qv8{d:Nat}(c:TT AV d):∀(a b o:Nat),Ev.tF c (a+b) o=Ev.tF c a o++Ev.tF c b (o+a)
 |0,b,o=>by rw[qf];rfl
 |a+1,b,o=>by rw[Nat.add_right_comm];show _::Ev.tF c (a+b) (o+1)=_::(Ev.tF c a (o+1)++Ev.tF c b (o+(a+1)));rw[qv8 c a b (o+1),show o+1+a=o+(a+1)by omega]
theorem zaz{B:bO}{o a b:Nat}{l m:List AV}(h:eB B o a=some l)(h':eB B (o+a) b=some m):eB B o (a+b)=some (l++m):=by
 unfold eB at h h' ⊢;split at h
 ·rename_i n c _ _;simp only[ble_eq]at h h' ⊢;by_cases hc:o+a+b<=n
  ·rw[gp hc]at h';rw[gp (by omega)]at h;rw[gp (by omega)];injection h with h;injection h' with h';rw[qy,qv8,h,h']
  ·simp_all
 ·cases h
theorem zay{B:bO}{o a:Nat}(h:eB B o a=some l):eB B o 0=some []:=by
 unfold eB at h ⊢;split at h
 ·rename_i n c _ _;simp only[ble_eq]at h ⊢;by_cases hc:o+a<=n
  ·rw[gp (by omega)];rfl
  ·simp_all
 ·cases h
theorem Rs.src{α:Type}{f:α->List AV}(hf:∀ x,(f x).length=z){v:AV}{l:List α}(h:Rs z f H v l)(hc:l=[]->v=.aA):oQ z H v=some ⟨l.length,l.flatMap f⟩:=by
 have hl:=h.len;by_cases hl0:l=[]
 ·subst hl0;rw[hc rfl];rfl
 ·have h0:=zk.2 hl0;obtain⟨b,_,_,_,⟨o,n,m,e,rfl⟩,_⟩:=h.at' 0 h0;have hn:n=l.length:=by
   have h1:aD (.sl b o n m e)=R0.val (iN n):=rfl;injection hl with hl;injection hl with _ hl;injection hl
  subst hn;have at1:∀ i (hi:i<l.length),eB (H.get b) (o+i*z) z=some (f l[i]):=fun i hi=>by obtain⟨b',o',i1,_,_,i4,_⟩:=h.at' i hi;rw[sV _ _ _ _ _ _ _ _ hi]at i1;simp_all
  have hz:=zay (at1 0 h0);have all:∀ i,i<=l.length->eB (H.get b) o (i*z)=some ((l.take i).flatMap f):=fun i=>by
   induction i with
   |zero=>intro _;rw[lAL]at hz ⊢;exact hz
   |succ i ih=>intro hi;have:=zaz (ih (by omega)) (at1 i hi);rw[ku hi,uA,uB,xh,au];exact this
  rw[qyc,all _ (lg _),uj]
theorem kR.nl{g:aR}(h:kR H g)(e:g.r.types=[]):g.tv=.aA:=by
 rcases h.tc with h1|⟨b,o,n,m,e',h1,_,h0⟩
 ·exact h1
 ·have hl:=h.ty.len;rw[h1,e]at hl;have h2:aD (.sl b o n m e')=R0.val (iN n):=rfl;rw[h2]at hl;injection hl with hl;simp_all
structure mY(H:Hp)(b:Nat)(rs:List (SS×aR)):Prop where
 ex:∃ es c,H.get b=.map es c/\es.map lD.key=(rs.map kq).map kyP/\∀(i:Nat) (e:lD) (p:SS×aR),es[i]? =some e->rs[i]? =some p->Rs 2 tC H e.val p.2.r.types
theorem mY.fm{rs:List (SS×aR)}(h:mY H b rs)(hb:b<H.nx)(f:Fm No H H'):mY H' b rs:=by obtain⟨es,c,h1,h2,h3⟩:=h.ex;exact⟨es,c,(f.keep hb).trans h1,h2,fun i e p a b=>(h3 i e p a b).fm f⟩
theorem Rs.aAi{α:Type}{f:α->List AV}{v:AV}{l:List α}{b c:Nat}{es:List lD}(h:Rs z f H v l)(hb:H.get b=.map es c)(k:bO):Rs z f (H.put b k) v l:=⟨h.len,fun i hi=>by
 obtain⟨b',o,h1,h2,h5,h3,h4⟩:=h.at' i hi;have hne:b'≠b:=fun h=>by rw[h,hb]at h3;cases h3
 exact⟨b',o,h1,h2,h5,by rw[dG _ _ _ _ hne];exact h3,fun j hj=>by rw[dG _ _ _ _ hne];exact h4 j hj⟩⟩
theorem mY.put{rs:List (SS×aR)}(h:mY H b rs)(p:SS×aR)(hp:kq p∉rs.map kq){w:AV}(hw:Rs 2 tC H w p.2.r.types):∃k,nI ⟨dQ (eqFields [(p1,⟨bH⟩,0),(p1,⟨bH⟩,1)]),some 2⟩ H (.map b) (.agg [.str p.1.n p.1.a,.str p.2.r.name.n p.2.r.name.a]) w=.ok .undef (H.put b k)/\mY (H.put b k) b (rs++[p]):=by
 obtain⟨es,cl,h1,h2,h3⟩:=h.ex;have hl:es.length=rs.length:=by have:=congrArg List.length h2;simpa using this
 obtain⟨g1,_⟩:=qhe qln (kq p) es (rs.map kq) 0 h2;refine⟨.map (es++[⟨kyP (kq p),w,cl⟩]) (cl+1),?_,⟨_,_,dS _ _ _,?_,fun i e q he hq=>?_⟩⟩
 ·have hf:qqe ⟨dQ (eqFields [(p1,⟨bH⟩,0),(p1,⟨bH⟩,1)]),some 2⟩ (kyP (kq p)) es=some none:=g1 hp;show nI _ H (.map b) (kyP (kq p)) w=_;unfold nI;simp_all
 ·simp_all
 ·by_cases hi:i<es.length
  ·rw[uf hi]at he;rw[uf (by omega)]at hq;exact(h3 i e q he hq).aAi h1 _
  ·have hi2:=(qm.1 he).1;have:i=es.length:=by simp at hi2;omega
   subst this;rw[uC (lg _),lAM]at he;rw[hl,uC (lg _),lAM]at hq;cases he;cases hq;exact hw.aAi h1 _
theorem mY.find{rs:List (SS×aR)}(h:mY H b rs)(z:AV){x y:SS}(hp:(x,y)∈rs.map kq):∃v,qL ⟨dQ (eqFields [(p1,⟨bH⟩,0),(p1,⟨bH⟩,1)]),some 2⟩ z true H (.map b) (.agg [.str x.n x.a,.str y.n y.a])=.val (.aX [v,.bool true])/\∀ p,rs[(rs.map kq).findIdx fun q=>decide (q=(x,y))]? =some p->Rs 2 tC H v p.2.r.types:=by obtain⟨es,c,h1,h2,h3⟩:=h.ex;obtain⟨_,g2⟩:=qhe qln (x,y) es (rs.map kq) 0 h2;obtain⟨e,x1,x2⟩:=g2 hp;refine⟨e.val,?_,fun p hp=>h3 _ e p x1 hp⟩;show(match(match H.get b with| .map es _=>some es|_=>none)with|some es=>zkz true z (xQ _ (kyP (x,y)) es 0)|none=>.bad)=_;rw[h1];simp only;rw[x2];rfl
theorem mY.miss{rs:List (SS×aR)}(h:mY H b rs)(z:AV){x y:SS}(hp:(x,y)∉rs.map kq):qL ⟨dQ (eqFields [(p1,⟨bH⟩,0),(p1,⟨bH⟩,1)]),some 2⟩ z true H (.map b) (.agg [.str x.n x.a,.str y.n y.a])=.val (.aX [z,.bool false]):=by obtain⟨es,c,h1,h2,h3⟩:=h.ex;obtain⟨g1,_⟩:=qhe qln (x,y) es (rs.map kq) 0 h2;show(match(match H.get b with| .map es _=>some es|_=>none)with|some es=>zkz true z (xQ _ (kyP (x,y)) es 0)|none=>.bad)=_;rw[h1];simp only;rw[g1 hp];rfl
theorem cpG{α:Type}{z wd:Nat}{f:α->List AV}(hf:∀ x,(f x).length=z){nm:Nat}(hg:H.get nm=aB 0 [])(hl:nm<H.nx){l:List α}(hn:l.length*wd<=1000000)(hn2:l.length<=1000000):Ok (j5 z wd H (.sl nm 0 0 0 true) (some ⟨l.length,l.flatMap f⟩)) fun w H'=>Gl z H' w l.length (l.flatMap f)/\Fm (· =nm) H H'/\∀ b,In w b->b=nm\/H.nx<=b:=by
 by_cases h0:l=[]
 ·subst h0;have e:j5 z wd H (.sl nm 0 0 0 true) (some ⟨0,[]⟩)=storeAt H nm 0 [] (.sl nm 0 0 0 true):=by
   unfold j5;simp;rfl
  have e2:storeAt H nm 0 [] (.sl nm 0 0 0 true)=.ok (.sl nm 0 0 0 true) (H.put nm (aB 0 [])):=by unfold storeAt;rw[hg];rfl
  refine⟨_,_,e.trans e2,⟨by simp,.inr ⟨_,_,_,_,_,rfl,dS _ _ _,lg _,rfl,.inl rfl,hl⟩⟩,(Fm.refl _ _).put _ _ fun _=>rfl,fun b hb=>?_⟩;obtain⟨_,_,_,_,hb⟩:=hb;simp_all
 ·have gl:Gl z H (.sl nm 0 0 0 true) 0 []:=⟨by simp,.inr ⟨_,_,_,_,_,rfl,hg,lg _,rfl,.inl rfl,hl⟩⟩;have hp:=zk.2 h0;have hx:(l.flatMap f).length=l.length*z:=by
   clear hn hn2 h0 hp
   induction l with
   |nil=>simp
   |cons a q ih=>rw[ug,lq,ih,pg,hf,xh];omega
  obtain⟨H',e,g,_,f,_⟩:=gl.append (w:=wd) hp hx (by rw[qf];omega) (by omega);rw[ae,qf]at g;rw[qf]at e;refine⟨_,H',e,g,f.mono fun b _ hb=>?_,fun b hb=>?_⟩
  ·obtain⟨_,_,_,_,hb⟩:=hb;cases hb;rfl
  ·obtain⟨_,_,_,_,hb⟩:=hb;simp_all
end Go.Di
end
