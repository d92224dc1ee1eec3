/-
 For FitsObjects: functions in direct style, their contracts, and the plain mathematics, part 8 of 9. No conditions beyond those that each theorem states.
-/
import Derived.Test.YtbfjjkjiokfdgaaGreatConG
import Derived.Test.YtbfjjkjiokfdgaaGreatConF
import Derived.Test.YtbfjjkjiokfdgaaGreatConD
import Derived.Test.YtbfjjkjiokfdgaaGreatConC
import Derived.Test.YtbfjjkjiokfdgaaGreatConE
set_option linter.unusedSimpArgs false
set_option linter.unusedVariables false
open Nat renaming reduceAdd->rB,reduceMul->rI,reduceSub->rK,reduceLeDiff->rL,reduceEqDiff->rN,reduceShiftRight->rS,reduceAnd->r6
noncomputable section
namespace Go.Di
open Go.Ev Go.Di.T Go.Sort
variable {C:Nat->Ev.Call}
variable {H:Hp} {i k n:Nat} {l:List AV}
theorem rdP{b q:Nat}{P:List AV}{M:List Nat}(hg:H.get b=aB q (P++aK M))(h:i<M.length):dI (H.get b) (P.length+i)=.val (.int .i64 (.ofNat M[i])):=by rw[hg,qb6,List.getElem?_append_right (by omega),Nat.add_sub_cancel_left];unfold aK;simp_all
theorem aXF(P:List AV)(M:List Nat)(x:Nat)(h:i<M.length):bH (P++aK M) (P.length+i) [.int .i64 (.ofNat x)]=P++aK (M.set i x):=by
 have hn:(aK M).length=M.length:=lU M;unfold bH;rw[List.take_append,List.take_of_length_le (by omega),List.drop_append,List.drop_eq_nil_of_le (by simp;omega)];rw[show P.length+i-P.length=i by omega,show P.length+i+[AV.int .i64 (.ofNat x)].length-P.length=i+1 by simp;omega];have:aK (M.set i x)=(aK M).set i (.int .i64 (.ofNat x)):=by unfold aK;rw[List.map_set]
 rw[this,List.set_eq_take_append_cons_drop,if_pos (by omega)];simp
theorem z1y(P:List AV)(M:List Nat)(hl:M.length=n)(h:k<=n):bH (P++aK M) (P.length+k) (bE [.int .i64 (.ofNat 0)] (n-k))=P++aK (M.take k++List.replicate (n-k) 0):=by
 have hn:(aK M).length=n:=by rw[lU,hl]
 have hr:bE [.int .i64 (.ofNat 0)] (n-k)=aK (List.replicate (n-k) 0):=by rw[qd1];unfold aK;rw[List.map_replicate]
 have hr2:(aK (List.replicate (n-k) 0)).length=n-k:=by rw[lU,List.length_replicate]
 unfold bH;rw[hr,hr2,List.take_append,List.take_of_length_le (by omega),List.drop_append,List.drop_eq_nil_of_le (by omega)];rw[show P.length+k-P.length=k by omega,List.drop_eq_nil_of_le (by omega)];have:aK (M.take k++List.replicate (n-k) 0)=(aK M).take k++aK (List.replicate (n-k) 0):=by unfold aK;rw[List.map_append,List.map_take]
 simp_all
structure Cp(l M:List Nat)(k p:Nat):Prop where
 len:M.length=l.length
 lt:k<p
 le:p<=l.length
 same:M.drop k=l.drop k
 asc:(M.take k).Pairwise (· < ·)
 mem:∀ x,x∈M.take k↔x∈l.take p
theorem Cp.at{l M:List Nat}{k p i:Nat}(h:Cp l M k p)(hi:k<=i)(hil:i<l.length):M[i]'(by rw[h.len];exact hil)=l[i]:=by
 have h1:(M.drop k)[i-k]? =(l.drop k)[i-k]? :=by rw[h.same]
 rw[List.getElem?_drop,List.getElem?_drop,show k+(i-k)=i by omega,List.getElem?_eq_getElem hil,List.getElem?_eq_getElem (by rw[h.len];exact hil)]at h1;simp_all
theorem qei{l:List Nat}{p:Nat}(h:p<l.length):l.take (p+1)=l.take p++[l[p]]:=List.take_succ_eq_append_getElem h
theorem qtj{l:List Nat}{p x:Nat}(h:x∈l.take p):∃ i,∃(hi:i<l.length),i<p/\l[i]=x:=by obtain⟨i,hi,e⟩:=List.mem_iff_getElem.1 h;rw[List.length_take]at hi;exact⟨i,by omega,by omega,by rw[<-e];simp⟩
theorem Cp.eq{l M:List Nat}{k p:Nat}(h:Cp l M k p)(hp:p<l.length)(he:l[p]=l[p-1]'(by omega)):Cp l M k (p+1):=by
 refine⟨h.len,by have:=h.lt;omega,hp,h.same,h.asc,fun x=>(h.mem x).trans ?_⟩;rw[qei hp,List.mem_append,List.mem_singleton];refine⟨Or.inl,fun hx=>hx.elim id fun hx=>?_⟩;have h0:=h.lt;rw[hx,he];have:l.take p=l.take (p-1)++[l[p-1]'(by omega)]:=by have:=qei (l:=l) (p:=p-1) (by omega);rwa [show p-1+1=p by omega]at this
 exact this▸List.mem_append_right _ (List.mem_singleton.2 rfl)
theorem Cp.ne{l M:List Nat}{k p:Nat}(h:Cp l M k p)(hs:l.Pairwise (· <= ·))(hp:p<l.length)(he:¬ l[p]=l[p-1]'(by omega)):Cp l (M.set k l[p]) (k+1) (p+1):=by
 have h0:=h.lt;have hml:=h.len;have ht:(M.set k l[p]).take (k+1)=M.take k++[l[p]]:=by rw[qei (l:=M.set k l[p]) (p:=k) (by rw[List.length_set];omega),List.getElem_set_self,List.take_set_of_le (Nat.le_refl k)]
 refine⟨by rw[List.length_set,hml],by omega,hp,?_,?_,fun x=>?_⟩
 ·rw[List.drop_set_of_lt (by omega)];have:=congrArg (List.drop 1) h.same;simp_all
 ·rw[ht,List.pairwise_append];refine⟨h.asc,List.pairwise_singleton _ _,fun a ha b hb=>?_⟩;rw[List.mem_singleton]at hb;subst hb;obtain⟨i,hi,hip,rfl⟩:=qtj ((h.mem a).1 ha);have hs':=List.pairwise_iff_getElem.1 hs;have a1:l[p-1]'(by omega)<=l[p]:=hs' (p-1) p (by omega) hp (by omega);have a2:l[i]<=l[p-1]'(by omega):=by
   rcases Nat.lt_or_ge i (p-1)with h2|h2
   ·simp_all
   ·have:i=p-1:=by omega
    simp_all
  omega
 ·rw[ht,qei hp,List.mem_append,List.mem_append,h.mem x]
theorem qjn{call:Ev.Call}{b o n q:Nat}{e:Bool}{P:List AV}{l:List Nat}(hs:l.Pairwise (· <= ·))(hP:P.length=o)(hl:l.length=n)(hn:n<900){c0:Nat}(hc0:c0<n){H1:Hp}{q2:pD}{Q:pL}(hq:∀ M k H,Cp l M k n->H.get b=aB q (P++aK M)->Fm (fun c=>c=b) H1 H->Ok (q2 (.int .i64 (.ofNat k)) H) Q):∀(f k k2:Nat) (M:List Nat) (H:Hp),n-(c0+k2)<f->1<=k2->Cp l M k (c0+k2)->H.get b=aB q (P++aK M)->Fm (fun c=>c=b) H1 H -> Ok (qdc call q2 (.sl b o n n e) (.sl b (o+c0) (n-c0) (n-c0) e) f (.int .i64 (.ofNat k)) (.int .i64 (.ofNat k2)) H) Q
 |0,k,k2,M,H,h,_,_,_,_=>by omega
 |f+1,k,k2,M,H,h,h1,hC,hg,hF=>by
  show Ok (qe2 call _ _ _ (qdc call _ _ _ f) _ _ H) Q;unfold qe2;have hlt:=hC.lt;have hle:=hC.le;have hml:=hC.len;by_cases hk:k2<n-c0
  ·have e1:=rdP hg (i:=c0+k2) (by omega);have e2:=rdP hg (i:=c0+(k2-1)) (by omega);rw[hC.at (by omega) (by omega),hP,<-Nat.add_assoc]at e1;rw[hC.at (by omega) (by omega),hP,<-Nat.add_assoc]at e2;simp only[go_sem,hk];unfold qic;have hpe:l[c0+k2-1]'(by omega)=l[c0+(k2-1)]'(by omega):=by congr 1;omega
   by_cases he:l[c0+k2]'(by omega)=l[c0+k2-1]'(by omega)
   ·rw[he,hpe]at e1;simp(disch:=first|omega|exact ti rfl|simp only[np,nq];first|done|omega)only[go_sem,rB,rI,rK,rL,rN,rS,r6,Nat.mul_one,e1,e2];unfold qdd;simp(disch:=first|omega|exact ti rfl|simp only[np,nq];first|done|omega)only[go_sem,rB,rI,rK,rL,rN,rS,r6];exact qjn hs hP hl hn hc0 hq f k (k2+1) M H (by omega) (by omega) (hC.eq (by omega) he) hg hF
   ·have he':¬ l[c0+k2]'(by omega)=l[c0+(k2-1)]'(by omega):=by rw[<-hpe];exact he
    have e3:=aXF P M (i:=k) (l[c0+k2]'(by omega)) (by omega);rw[hP]at e3;have e4:∀ x:AV,vZ (aB q (P++aK M)) (o+k) [x]=some (aB q (bH (P++aK M) (o+k) [x])):=fun x=>by rw[qhu,if_pos];rw[List.length_append,lU];simp only[List.length_cons,List.length_nil];omega
    simp(disch:=first|omega|exact ti rfl|simp only[np,nq];first|done|omega)only[go_sem,rB,rI,rK,rL,rN,rS,r6,Nat.mul_one,e1,e2,he'];rw[hg]at *;simp(disch:=first|omega|exact ti rfl|simp only[np,nq];first|done|omega)only[go_sem,rB,rI,rK,rL,rN,rS,r6,e4,e3];unfold qdd;simp(disch:=first|omega|exact ti rfl|simp only[np,nq];first|done|omega)only[go_sem,rB,rI,rK,rL,rN,rS,r6];exact qjn hs hP hl hn hc0 hq f (k+1) (k2+1) _ _ (by omega) (by omega) (hC.ne hs (by omega) he) (eD _ _ _) (hF.put _ _ fun _=>rfl)
  ·simp only[go_sem,hk];have:c0+k2=n:=by omega
   rw[this]at hC;exact hq M k H hC hg hF
theorem qnk{call:Ev.Call}{b o n q:Nat}{e:Bool}{P:List AV}{l:List Nat}(hs:l.Pairwise (· <= ·))(hP:P.length=o)(hl:l.length=n)(hn:n<900){H:Hp}(hg:H.get b=aB q (P++aK l))(hb:b<H.nx)(heq:e=true\/q=1){q2:pH}{Q:pL}(hq:∀ k R H',k<=n->R.length=k->R.Pairwise (· < ·)->(∀x,x∈R↔x∈l)->Gs 1 H' (.sl b o k n e) k (aK R)->Fm (fun c=>c=b) H H'->Q (.sl b o k n e) H')(hq2:l.Pairwise (· < ·)->Ok (q2 H) Q):∀(f k:Nat),n-k<f->1<=k->k<=n->(l.take k).Pairwise (· < ·) -> Ok (qd2 call (fun x H=>.ok x H) q2 (.sl b o n n e) f (.int .i64 (.ofNat k)) H) Q
 |0,k,h,_,_,_=>by omega
 |f+1,k,h,h1,hk,ha=>by
  show Ok (qfs call _ _ _ (qd2 call _ _ _ f) _ H) Q;unfold qfs;by_cases hlt:k<n
  ·have e1:=rdP hg (i:=k) (by omega);have e2:=rdP hg (i:=k-1) (by omega);rw[hP]at e1 e2;simp only[go_sem,hlt];unfold qib;by_cases he:l[k]'(by omega)=l[k-1]'(by omega)
   ·rw[he]at e1;have e3:=qi7 1 b o n n e (a:=k) (by omega) (Nat.le_refl _) hlt;simp(disch:=first|omega|exact ti rfl|simp only[np,nq];first|done|omega)only[go_sem,rB,rI,rK,rL,rN,rS,r6,Nat.mul_one,e1,e2,e3];unfold qid;rw[dH];have hC0:Cp l l k (k+1):=by
     refine⟨rfl,by omega,by omega,rfl,ha,fun x=>?_⟩;rw[qei (p:=k) (by omega),List.mem_append,List.mem_singleton];refine⟨Or.inl,fun hx=>hx.elim id fun hx=>?_⟩;have:l.take k=l.take (k-1)++[l[k-1]'(by omega)]:=by simp_all
     rw[hx,he];exact this▸List.mem_append_right _ (List.mem_singleton.2 rfl)
    refine qjn (H1:=H) hs hP hl hn (c0:=k) hlt (fun M k' H' hC hg' hF=>?_) cK k 1 l H (by rw[dM];omega) (Nat.le_refl 1) hC0 hg (Fm.refl _ _);unfold qe1;have c1:=hC.lt;have c2:=hC.len;have s1:=qi7 1 b o n n e (a:=k') (by omega) (Nat.le_refl _) c1;have s2:=q3x 1 b o n n e (k:=k') (by omega) (Nat.le_refl _) (by omega);have cl:=z1y P M (k:=k') (n:=n) (by omega) (by omega);rw[hP]at cl;have aMI:(bE [.int .i64 (.ofNat 0)] (n-k')).length=n-k':=by rw[qd1,List.length_replicate]
    have s3:qhm [.int .i64 (.ofNat 0)] H' (.sl b (o+k') (n-k') (n-k') e)=.ok .undef (H'.put b (aB q (P++aK (M.take k'++List.replicate (n-k') 0)))):=by show(bif Nat.beq (n-k') 0 then _ else storeAt H' b (o+k') (bE [.int .i64 (.ofNat 0)] (n-k')) .undef)=_;rw[beq_eq,decide_eq_false (by omega),cond_false,qb9 _ _ _ _ _ _ _ hg' (by rw[aMI,List.length_append,lU];omega),cl]
    simp only[go_sem,s1,s2,s3];have ht:(M.take k').length=k':=by rw[List.length_take];omega
    refine Ok.ret (hq k' (M.take k') _ (by omega) ht hC.asc (fun x=>by rw[hC.mem x,<-hl,List.take_length]) ?_ (hF.put _ _ fun _=>rfl));refine⟨by rw[lU,ht,Nat.mul_one],.inr ⟨b,o,n,e,q,_,rfl,by omega,eD _ _ _,?_,?_,heq,Nat.lt_of_lt_of_le hb hF.nx⟩⟩
    ·rw[List.length_append,lU,List.length_append,ht,List.length_replicate];omega
    ·rw[List.drop_append_of_le_length (by omega),List.drop_eq_nil_of_le (by omega),List.nil_append,Nat.mul_one];unfold aK;simp_all
   ·simp(disch:=first|omega|exact ti rfl|simp only[np,nq];first|done|omega)only[go_sem,rB,rI,rK,rL,rN,rS,r6,Nat.mul_one,e1,e2,he];unfold qj6;simp(disch:=first|omega|exact ti rfl|simp only[np,nq];first|done|omega)only[go_sem,rB,rI,rK,rL,rN,rS,r6];refine qnk hs hP hl hn hg hb heq hq hq2 f (k+1) (by omega) (by omega) (by omega) ?_;rw[qei (p:=k) (by omega),List.pairwise_append];refine⟨ha,List.pairwise_singleton _ _,fun a ha' c hc=>?_⟩;rw[List.mem_singleton]at hc;subst hc;obtain⟨i,hi,hip,rfl⟩:=qtj ha';have hs':=List.pairwise_iff_getElem.1 hs;have a1:l[k-1]'(by omega)<=l[k]'(by omega):=hs' (k-1) k (by omega) (by omega) (by omega);have a2:l[i]<=l[k-1]'(by omega):=by
     rcases Nat.lt_or_ge i (k-1)with h2|h2
     ·exact hs' i (k-1) hi (by omega) h2
     ·have:i=k-1:=by omega
      simp_all
    omega
  ·simp only[go_sem,hlt];have:k=n:=by omega
   subst this;rw[<-hl,List.take_length]at ha;exact hq2 ha
theorem q17(hO:r9 C)(hk:1<=k){v:AV}{l:List Nat}(hs:l.Pairwise (· <= ·))(hn:n<900)(hv:Gl 1 H v n (aK l)):Ok (C k (.f 123) [v] H) fun r H'=>∃ R:List Nat,R.Pairwise (· < ·)/\(∀x,x∈R↔x∈l)/\Gs 1 H' r R.length (aK R)/\(∀b,In r b->In v b)/\Fm (In v) H H':=by
 obtain⟨j,rfl⟩:=aX hk;have hln:l.length=n:=by have:=hv.len;rw[lU]at this;omega
 rw[(hO j).jJ];unfold jJ qhf;have e0:=hv.dA;by_cases h2:n<2
 ·simp only[go_sem,e0,h2];refine Ok.ret ⟨l,?_,fun x=>Iff.rfl,by rw[hln];exact hv.gs,fun b h=>h,Fm.refl _ _⟩
  match l,hln with
  | [],_=>exact List.Pairwise.nil
  | [x],_=>exact List.pairwise_singleton _ _
  |x::y::t,h=>simp at h;omega
 ·rcases hv.is with⟨_,h0⟩|⟨b,o,e,q,L,rfl,g1,g2,g3,g4,g5⟩
  ·omega
  have hP:(L.take o).length=o:=by rw[List.length_take];omega
  have hg:H.get b=aB q (L.take o++aK l):=by rw[g1,<-g3,List.take_append_drop]
  simp only[go_sem,e0,h2];unfold qia qj7;rw[dH];have hin:∀ c,c=b->In (.sl b o n n e) c:=fun c hc=>by subst hc;exact⟨_,_,_,_,rfl⟩
  refine qnk hs hP hln hn hg g5 g4 (fun k R H' hk hR ha hm hG hF=>?_) (fun ha=>?_) cK 1 (by rw[dM];omega) (Nat.le_refl 1) (by omega) ?_
  ·refine⟨R,ha,hm,by rw[hR];exact hG,fun c hc=>?_,hF.mono fun c _ hc=>hin c hc⟩;obtain⟨_,_,_,_,h'⟩:=hc;simp_all
  ·unfold qfr;exact Ok.ret ⟨l,ha,fun x=>Iff.rfl,by rw[hln];exact hv.gs,fun b h=>h,Fm.refl _ _⟩
  ·match l,hln with
   | [],h=>simp at h;omega
   |x::t,_=>simp
theorem Gs.clip{v:AV}(h:Gs 1 H v n l):∃ w,jX 1 v none (some (.int .i64 (.ofNat n))) (some (.int .i64 (.ofNat n)))=.val w/\Rl H w l/\iC w=.val (.int .i64 (.ofNat n))/\(∀b,In w b->In v b):=by
 rcases h.is with⟨rfl,rfl⟩|⟨b,o,m,e,q,L,rfl,h0,h1,h2,h3,h4,h5⟩
 ·exact⟨.aA,rfl,h.rl,rfl,fun b h=>h⟩
 ·have e1:jX 1 (.sl b o n m e) none (some (.int .i64 (.ofNat n))) (some (.int .i64 (.ofNat n)))=gZ b o 1 ⟨0,n,n⟩ true:=by
   show(match bounds n m none (some (.int .i64 (.ofNat n))) (some (.int .i64 (.ofNat n)))with|some bd=>gZ b o 1 bd true|none=>R0.bad)=_;have:bounds n m none (some (.int .i64 (.ofNat n))) (some (.int .i64 (.ofNat n)))=some ⟨0,n,n⟩:=by show(match(bif Nat.ble n m then some n else none)with|none=>none|some m=>match(bif Nat.ble n m then some n else none)with|none=>none|some h=>match(some 0:Option Nat)with|none=>none|some l=>some (Bd.mk l h m))=_;rw[ble_eq,decide_eq_true h0];simp only[cond_true,ble_eq,decide_eq_true (Nat.le_refl n)]
   rw[this]
  have hG:∀ e',Gs 1 H (.sl b o n m e') n l->Rl H (.sl b o n n true) l:=fun e' g=>by have r:=g.rl;exact⟨r.len,fun i hi=>by obtain⟨b',o',a1,a2,a3⟩:=r.at' i hi;exact⟨b',o',by have hll:=h.len;rw[sP _ _ _ _ _ _ _ _ (by omega)]at a1 ⊢;exact a1,a2,a3⟩⟩
  rw[e1];unfold gZ;simp only[beq_eq];by_cases hn:n=0
  ·subst hn;exact⟨.sl b o 0 0 true,rfl,hG e h,rfl,fun c hc=>by obtain⟨_,_,_,_,h'⟩:=hc;cases h';exact⟨_,_,_,_,rfl⟩⟩
  ·rw[decide_eq_false hn];refine⟨.sl b o n n true,?_,hG e h,rfl,fun c hc=>by obtain⟨_,_,_,_,h'⟩:=hc;cases h';exact⟨_,_,_,_,rfl⟩⟩;rfl
theorem zpy(hC:bA C)(hk:1<=k){v:AV}(h:Gs 1 H v n l):∃w,C k (.f 120) [v] H=.ok w H/\Rl H w l/\iC w=.val (.int .i64 (.ofNat n))/\(∀b,In w b->In v b):=by obtain⟨j,rfl⟩:=aX hk;obtain⟨w,e,h1,h2,h3⟩:=h.clip;refine⟨w,?_,h1,h2,h3⟩;rw[(hC j).zBd];unfold zBd zl5;simp only[go_sem,h.dA,e]
end Go.Di
end
noncomputable section
namespace Go.Di
open Go.Ev Go.Di.T Go.Sort
variable {C:Nat->Ev.Call} {LA LO:LP}
variable {H H' H0:Hp} {aT:Nat->List Nat} {i k m n:Nat} {ins o:List Nat}
theorem ziy(hO:r9 C)(hS:qR C)(hk:5<=k)(H:Hp):C k (.f 122) [.aA] H=.ok (.aY []) H:=by obtain⟨k,rfl⟩:∃ j,k=j+1:=⟨k-1,by omega⟩;exact(hO k).aEX H
def rD(ins:List Nat)(e:Edge):Bool:=e.s&&decide (ins.getD e.f 0=ins.getD e.t 0)
def iT(ins:List Nat)(es:List Edge):List Nat:=(es.filter (rD ins)).map fun e=>ins.getD e.f 0
theorem zgb(ins:List Nat)(es:List Edge)(h:i<es.length):iT ins (es.take (i+1))=iT ins (es.take i)++(if rD ins es[i]then[ins.getD es[i].f 0]else[]):=by unfold iT;rw[List.take_succ_eq_append_getElem h,List.filter_append,List.map_append];congr 1;cases hh:rD ins es[i]<;>simp[hh]
theorem zgc(ins:List Nat)(es:List Edge):(iT ins es).length<=es.length:=by unfold iT;rw[List.length_map];exact List.length_filter_le _ _
theorem q41{es:List Edge}{x:Nat}:x∈iT ins es↔∃ e∈es,e.s=true/\ins.getD e.f 0=ins.getD e.t 0/\ins.getD e.f 0=x:=by
 unfold iT rD;rw[List.mem_map];constructor
 ·rintro ⟨e,he,rfl⟩;rw[List.mem_filter,Bool.and_eq_true,decide_eq_true_eq]at he;exact⟨e,he.1,he.2.1,he.2.2,rfl⟩
 ·rintro ⟨e,he,h1,h2,h3⟩;exact⟨e,List.mem_filter.2 ⟨he,by rw[Bool.and_eq_true,decide_eq_true_eq];exact⟨h1,h2⟩⟩,h3⟩
theorem qgo{call:Ev.Call}{H1:Hp}{n c:Nat}{lv iv w:AV}{es:List Edge}{ins:List Nat}(hlen:es.length<200000)(hE:∀ e∈es,e.f<n/\e.t<n)(hw:jZ H1 w es)(hi:Gl 1 H1 iv n (aK ins))(hc:H1.get c=aB 0 [lv,iv])(hcl:c<H1.nx){q:pD}{Q:pL}(hq:∀ v H,Gl 1 H v (iT ins es).length (aK (iT ins es))->Fm No H1 H->(∀b,In v b->H1.nx<=b)->Ok (q v H) Q):∀(k i:Nat) (v:AV) (H:Hp),es.length-i<k->i<=es.length->Gl 1 H v (iT ins (es.take i)).length (aK (iT ins (es.take i)))->(∀b,In v b->H1.nx<=b)->Fm No H1 H -> Ok (qre call q (.ptr c 0) w (.int .i64 (.ofNat es.length)) k v (.int .i64 (.ofNat i)) H) Q
 |0,i,v,H,h,_,_,_,_=>by omega
 |k+1,i,v,H,h,hil,hg,hnew,hF=>by
  show Ok (qy5 call _ _ _ _ (qre call _ _ _ _ k) _ _ H) Q;unfold qy5;by_cases hlt:i<es.length
  ·simp only[go_sem,hlt];unfold zb5;have hw':jZ H w es:=hw.fm hF;have hi':Gl 1 H iv n (aK ins):=hi.no hF;have hc':H.get c=aB 0 [lv,iv]:=(hF.keep hcl).trans hc;have hcH:c<H.nx:=Nat.lt_of_lt_of_le hcl hF.nx;have hil:ins.length=n:=by have:=hi.len;rw[lU]at this;omega
   obtain⟨b,o1,e1,e2,e3⟩:=hw'.at hlt;obtain⟨r1,r2⟩:=hE es[i] (List.getElem_mem _);have gi:∀ x,x<n->(aK ins)[x]? =some (.int .i64 (.ofNat (ins.getD x 0))):=fun x hx=>by unfold aK;simp_all
   obtain⟨b1,o2,e4,e5,_,e6⟩:=hi'.at (gi _ r1);obtain⟨b2,o3,e7,e8,_,e9⟩:=hi'.at (gi _ r2);have hm:=zgb ins es hlt;have hle:=zgc ins (es.take i);rw[List.length_take]at hle;have fe:Fm No H ((aS H (aB 0 [.int .i64 (.ofNat 0),.int .i64 (.ofNat 0),.bool false])).put H.nx (aB 0 [.int .i64 (.ofNat es[i].f),.int .i64 (.ofNat es[i].t),.bool es[i].s])):=by exact mO
   cases hs:es[i].s with
   |false=>
    have hp:rD ins es[i]=false:=by unfold rD;rw[hs];rfl
    rw[hs]at fe;rw[hp]at hm;simp only[go_sem,e1,e3,Edge.cells,hs];unfold qll;simp(disch:=first|omega|exact ti rfl|simp only[np,nq];first|done|omega)only[go_sem,rB,rI,rK,rL,rN,rS,r6];rw[if_neg (by simp),List.append_nil]at hm;refine qgo hlen hE hw hi hc hcl hq k (i+1) v _ (by omega) (by omega) (by rw[hm];exact hg.no fe) hnew (hF.trans fe)
   |true=>
    rw[hs]at fe;by_cases he:ins.getD es[i].f 0=ins.getD es[i].t 0
    ·have hp:rD ins es[i]=true:=by unfold rD;rw[hs,decide_eq_true he];rfl
     rw[hp,if_pos rfl]at hm;have hml:(iT ins (es.take (i+1))).length=(iT ins (es.take i)).length+1:=by rw[hm,List.length_append];rfl
     generalize hH2:(aS H (aB 0 [.int .i64 (.ofNat 0),.int .i64 (.ofNat 0),.bool false])).put H.nx (aB 0 [.int .i64 (.ofNat es[i].f),.int .i64 (.ofNat es[i].t),.bool true])=H2 at *;have hx2:H2.get H.nx=aB 0 [.int .i64 (.ofNat es[i].f),.int .i64 (.ofNat es[i].t),.bool true]:=by rw[<-hH2,eD]
     have hc2:H2.get c=aB 0 [lv,iv]:=(fe.keep hcH).trans hc';have e6':dI (H2.get b1) o2=.val (.int .i64 (.ofNat (ins.getD es[i].f 0))):=by rw[fe.keep e5];exact e6
     have e9':dI (H2.get b2) o3=.val (.int .i64 (.ofNat (ins.getD es[i].t 0))):=by rw[fe.keep e8];exact e9
     have hgP:Gl 1 (aS H2 (aB 0 [.int .i64 (.ofNat (ins.getD es[i].f 0))])) v (iT ins (es.take i)).length (aK (iT ins (es.take i))):=(hg.no fe).no ((Fm.refl _ _).push _);obtain⟨H',a1,a2,_,a4,a5⟩:=hgP.append (w:=8) (k:=1) (x:=[.int .i64 (.ofNat (ins.getD es[i].f 0))]) (by omega) rfl (by omega) (by omega);rw[he]at a1 a2 a4 hgP;simp(disch:=first|omega|exact ti rfl|simp only[np,nq];first|done|omega)only[go_sem,rB,rI,rK,rL,rN,rS,r6,e1,e3,Edge.cells,hs,hH2,hx2,hc2,e4,e6',e7,e9',he,a1];unfold qll;simp(disch:=first|omega|exact ti rfl|simp only[np,nq];first|done|omega)only[go_sem,rB,rI,rK,rL,rN,rS,r6];have e10:aK (iT ins (es.take i))++[.int .i64 (.ofNat (ins.getD es[i].t 0))]=aK (iT ins (es.take (i+1))):=by rw[hm,he];simp[aK]
     rw[e10,<-hml]at a2;rw[<-hml];have hn1:=hF.nx;have hn2:=fe.nx;refine qgo hlen hE hw hi hc hcl hq k (i+1) _ H' (by omega) (by omega) a2 (fun b hb=>?_) (((hF.trans fe).trans ((Fm.refl _ _).push _)).then a4 fun c hc h=>by have:=hnew c h;omega);obtain⟨_,_,_,_,h⟩:=hb;cases h;omega
    ·have hp:rD ins es[i]=false:=by unfold rD;rw[hs,decide_eq_false he];rfl
     rw[hp]at hm;simp(disch:=first|omega|exact ti rfl)only[go_sem,seval,e1,e3,Edge.cells,hs,hc',e4,e6,e7,e9,he];unfold qll;simp(disch:=first|omega|exact ti rfl|simp only[np,nq];first|done|omega)only[go_sem,rB,rI,rK,rL,rN,rS,r6];rw[if_neg (by simp),List.append_nil]at hm;refine qgo hlen hE hw hi hc hcl hq k (i+1) v _ (by omega) (by omega) (by rw[hm];exact hg.no fe) hnew (hF.trans fe)
  ·simp only[go_sem,hlt];have:i=es.length:=by omega
   simp_all
theorem zpu(hC:bA C)(hO:r9 C)(hS:qR C)(hR:rM LA LO C)(hk:1000<=k){es:List Edge}(hE:qdw n es)(hn:n<=256)(hlen:es.length<900){gv:AV}(hg:jZ H gv es):Ok (C k (.f 90) [.agg [.int .i64 (.ofNat n),gv]] H) fun r H'=>∃(w:AV) (res:List (List Nat)) (ins R:List Nat),r=.aY [w,.int .i64 (.ofNat 0)]/\jL n (iW es) [] res/\(∀(j:Nat) (o:List Nat) (x:Nat),res[j]? =some o->x∈o->ins[x]? =some j) /\ R.Pairwise (· < ·)/\(∀x,x∈R↔x∈iT ins es)/\Rl H' w (aK R)/\iC w=.val (.int .i64 (.ofNat R.length))/\R.length<=900/\Fm No H H':=by
 obtain⟨j,rfl⟩:=aX hk;rw[(hC j).zBp];unfold zBp zup;simp(disch:=omega)only[go_sem,seval];have f0:Fm No H (aS H (aB 0 [.int .i64 (.ofNat n),gv])):=(Fm.refl _ _).push _;refine Ok.ve (z2e hC hO hS hR (k:=j) (by omega) hE hn (by omega) (hg.fm f0)) ?_;rintro r H1 ⟨lv,iv,os,dY,out,ins,res,rfl,aEL,hCR,f1⟩;have aZZ:=aEL.ord hE.rng;have hg1:H1.get H.nx=aB 0 [.int .i64 (.ofNat n),gv]:=(f1.keep (by simp only[np,nq];omega)).trans (lI _ _);have es3:∀ x y:AV,bH [AV.aA,AV.aA] 0 [x,y]=[x,y]:=fun _ _=>rfl;have n1:H.nx+1<=H1.nx:=f1.nx;simp(disch:=omega)only[go_sem,seval,es3,List.length_cons,List.length_nil];generalize hH2:(aS H1 (aB 0 [AV.aA,AV.aA])).put H1.nx (aB 0 [lv,iv])=H2;have f2:Fm No H1 H2:=by rw[<-hH2];exact((Fm.refl _ _).push _).aG _ _ (Nat.le_refl _)
 have g2:H2.get H1.nx=aB 0 [lv,iv]:=by rw[<-hH2,eD]
 have l2:H1.nx<H2.nx:=by rw[<-hH2];show H1.nx<H1.nx+1;omega
 have hg2:H2.get H.nx=aB 0 [.int .i64 (.ofNat n),gv]:=(f2.keep (by omega)).trans hg1;have vW:Fm No H H2:=(f0.trans f1).trans f2;have hE2:jZ H2 gv es:=hg.fm vW;rw[qo1];unfold qrf;have e0:=hE2.len;simp(disch:=first|omega|exact ti rfl|simp only[np,nq];first|done|omega)only[go_sem,rB,rI,rK,rL,rN,rS,r6,hg2,e0];unfold zb7;rw[dH];refine qgo (by omega) hE.rng hE2 (hCR.gi.no f2) g2 l2 (fun v H3 h3 f3 hnew=>?_) cK 0 .aA H2 (by rw[dM];omega) (Nat.zero_le _) (by simpa [iT,aK] using Gl.nil 1 H2) (fun b hb=>by obtain⟨_,_,_,_,h⟩:=hb;cases h) (Fm.refl _ _);have hml:=zgc dY es;have sorted:Ok (C j (.f 122) [v] H3) fun r H'=>r=.aY []/\∃ R:List Nat,R.Perm (iT dY es)/\R.Pairwise (· <= ·)/\Gl 1 H' v (iT dY es).length (aK R)/\Fm (In v) H3 H':=by
  rcases Nat.eq_zero_or_pos (iT dY es).length with h0|h0
  ·have hz:iT dY es=[]:=List.length_eq_zero_iff.1 h0;rw[hz]at h3 ⊢;rcases h3.is with⟨rfl,_⟩|⟨b,o,e,q,L,rfl,g1,g2,g3,g4,g5⟩
   ·exact⟨_,_,ziy hO hS (by omega) H3,rfl,[],List.Perm.refl _,List.Pairwise.nil,h3,Fm.refl _ _⟩
   ·obtain⟨j,rfl⟩:∃ i,j=i+1:=⟨j-1,by omega⟩;have g2:o<=L.length:=g2;have hst:storeAt H3 b o [] (.aY [])=.ok (.aY []) (H3.put b (aB q (bH L o []))):=qb9 _ _ _ _ _ _ _ g1 g2;have hL:bH L o []=L:=by unfold bH;simp
    rw[hL]at hst;have hs:qvc H3 b o 0=some (.ok (.aY []) (H3.put b (aB q L))):=by
     unfold qvc;have hr:fU (H3.get b) o 0=some []:=by rw[g1,qb2,if_pos (show o+0<=L.length from g2)];rfl
     rw[hr];have hz:zC []=[]:=by unfold zC;simp
     simp only[qm3,hz,List.map_nil,hst];rfl
    refine⟨_,_,(hO j).srt _ _ _ _ _ _ _ hs,rfl,[],List.Perm.refl _,List.Pairwise.nil,?_,(Fm.refl _ _).put _ _ fun _=>⟨_,_,_,_,rfl⟩⟩;exact⟨rfl,.inr ⟨b,o,e,q,L,rfl,eD _ _ _,g2,g3,g4,g5⟩⟩
  ·exact q55 hC hO hS (k:=j) (by omega) h0 (by omega) h3
 refine Ok.ve sorted ?_;rintro r H4 ⟨rfl,R,hp,hsd,h4,f4⟩;refine Ok.ve (q17 hO (k:=j) (by omega) hsd (by omega) h4) ?_;rintro r5 H5 ⟨R5,hasc,hmem,h5,hin,f5⟩;obtain⟨w,w1,w2,w3,_⟩:=zpy hC (k:=j) (by omega) h5;simp only[go_sem,w1];have hR5:R5.length<=900:=by have hnd:R5.Nodup:=hasc.imp fun h=>Nat.ne_of_lt h;have:R5.length<=R.length:=hnd.length_le_of_subset fun x hx=>(hmem x).1 hx;rw[hp.length_eq]at this;omega
 refine Ok.ret ⟨w,res,dY,R5,rfl,aZZ,hCR.ins,hasc,fun x=>(hmem x).trans hp.mem_iff,w2,w3,hR5,((vW.trans f3).then f4 fun c hc h=>?_).then f5 fun c hc h=>?_⟩
 ·have:=hnew c h;omega
 ·have:=hnew c h;omega
structure CB(H0:Hp)(n gb c:Nat)(gv lv iv:AV)(es:List Edge)(ins:List Nat):Prop where
 fe:jZ H0 gv es
 fg:H0.get gb=aB 0 [iN n,gv]
 gl:gb<H0.nx
 fc:H0.get c=aB 0 [lv,iv]
 cl:c<H0.nx
 fi:Gl 1 H0 iv n (aK ins)
 fr:∀ e∈es,e.f<n/\e.t<n
 len:es.length<200000
structure CI(H0:Hp)(m:Nat)(L:List Edge)(H:Hp):Prop where
 ex:∃ v,H.get H0.nx=aB 0 [iN m,v]/\Gl 3 H v L.length (z1l L)/\∀ b,In v b->H0.nx<b
 fm:Fm (fun b=>b=H0.nx) H0 H
 lt:H0.nx<H.nx
theorem CI.no{L:List Edge}(h:CI H0 m L H)(f:Fm No H H'):CI H0 m L H':=by obtain⟨v,h1,h2,h3⟩:=h.ex;exact⟨⟨v,(f.keep h.lt).trans h1,h2.no f,h3⟩,h.fm.then f fun _ _ h=>h.elim,Nat.lt_of_lt_of_le h.lt f.nx⟩
theorem CB.at{n gb c:Nat}{gv lv iv:AV}{es:List Edge}(h:CB H0 n gb c gv lv iv es ins)(f:Fm (fun b=>b=H0.nx) H0 H):jZ H gv es/\H.get gb=aB 0 [iN n,gv]/\gb<H.nx/\H.get c=aB 0 [lv,iv]/\c<H.nx/\Gl 1 H iv n (aK ins):=by have g1:=h.gl;have g2:=h.cl;have g3:=f.nx;exact⟨h.fe.keep f.nx fun b hb hlt=>f.get b hlt (fun e=>by have:=h.fe.lt hb;omega),(f.get _ g1 (by omega)).trans h.fg,by omega,(f.get _ g2 (by omega)).trans h.fc,by omega,h.fi.fm f fun b hb e=>by have:=h.fi.lt hb;omega⟩
theorem znw{res:List (List Nat)}(h:jL n aT [] res):res.length<=n:=by
 obtain⟨z1,z2,z3,z4,z5⟩:=h.all;have hle:∀(o:List (List Nat)),(∀c∈o,c≠[])->o.length<=o.flatten.length:=fun o=>by
  induction o with
  |nil=>intro _;exact Nat.le_refl _
  |cons c o ih=>intro h;have h1:=ih fun c hc=>h c (List.mem_cons_of_mem _ hc);have h2:0<c.length:=List.length_pos_iff.2 (h c List.mem_cons_self);rw[List.flatten_cons,List.length_append,List.length_cons];omega
 have:=hle res z4;omega
theorem aXh(a b:Nat):max (Int.ofNat a) (Int.ofNat b)=Int.ofNat (max a b):=by simp only[Int.ofNat_eq_natCast];omega
theorem qqg{call:Ev.Call}{H:Hp}{v:AV}{l:List Nat}(hv:Rl H v (aK l))(hl:l.length<900000){q:pD}{Q:pL}(hq:Ok (q (.int .i64 (.ofNat (jB l))) H) Q):∀(f i:Nat),l.length-i<f->i<=l.length->Ok (q2x call q v (.int .i64 (.ofNat l.length)) f (.int .i64 (.ofNat (jB (l.take i)))) (.int .i64 (.ofNat i)) H) Q
 |0,i,h,_=>by omega
 |f+1,i,h,hi=>by
  show Ok (zcq call _ _ _ (q2x call _ _ _ f) _ _ H) Q;unfold zcq;by_cases hlt:i<l.length
  ·obtain⟨b,o,e1,_,e2⟩:=hv.at' i (by rw[lU];exact hlt);rw[qhh]at e2;have hm:=aXh (jB (l.take i)) l[i];have hs:jB (l.take (i+1))=max (jB (l.take i)) l[i]:=by
    unfold jB;rw[List.take_succ_eq_append_getElem hlt,List.foldl_append];rfl
   simp only[go_sem,hlt];unfold zq6;simp only[go_sem,e1,e2,q1f,hm];unfold zq7;simp(disch:=first|omega|exact ti rfl|simp only[np,nq];first|done|omega)only[go_sem,rB,rI,rK,rL,rN,rS,r6];rw[<-hs];exact qqg hv hl hq f (i+1) (by omega) (by omega)
  ·simp only[go_sem,hlt];have:i=l.length:=by omega
   simp_all
theorem zom(hY:qqs C)(hk:1<=k){v:AV}{l:List Nat}(hv:Rl H v (aK l))(hl:l.length<900000):C k (.f 92) [v] H=.ok (.int .i64 (.ofNat (jB l))) H:=by
 obtain⟨j,rfl⟩:=aX hk;have key:Ok (C (j+1) (.f 92) [v] H) fun r H'=>r=.int .i64 (.ofNat (jB l))/\H'=H:=by rw[(hY j).zBc];unfold zBc zu3;have e0:=hv.len;rw[lU]at e0;simp only[go_sem,e0];unfold zq9;rw[dH];refine qqg hv hl ?_ cK 0 (by rw[dM];omega) (Nat.zero_le _);exact Ok.ret ⟨rfl,rfl⟩
 obtain⟨r,H',h,rfl,rfl⟩:=key;exact h
theorem step_ok(hY:qqs C)(hk:1<=k)(e:Edge)(H:Hp):Ok (C k (.f 91) [.agg e.cells] H) fun r H'=>r=.int .i64 (.ofNat (xN e))/\Fm No H H':=by
 obtain⟨j,rfl⟩:=aX hk;rw[(hY j).zBq];unfold zBq zuo Edge.cells xN;cases hs:e.s with
 |true=>simp(disch:=omega)only[go_sem,seval,hs];exact Ok.ret ⟨rfl,by(repeat(first|exact Fm.refl _ _|assumption|refine Fm.push ?_ _|refine Fm.oV ?_ (by first|omega|simp only[np,nq];omega)|refine Fm.aG ?_ _ _ (by first|omega|simp only[np,nq];omega)))⟩
 |false=>simp(disch:=omega)only[go_sem,seval,hs];exact Ok.ret ⟨rfl,by(repeat(first|exact Fm.refl _ _|assumption|refine Fm.push ?_ _|refine Fm.oV ?_ (by first|omega|simp only[np,nq];omega)|refine Fm.aG ?_ _ _ (by first|omega|simp only[np,nq];omega)))⟩
theorem zph{es:List Edge}{i c:Nat}(hc:c<es.length)(h1:ins.getD es[c].f 0=i)(h2:¬ ins.getD es[c].t 0=i):asks (es.take (c+1)) ins o i=asks (es.take c) ins o i++[o.getD es[c].t 0+xN es[c]]:=by unfold asks;rw[List.take_succ_eq_append_getElem hc,List.filter_append,List.map_append];simp_all
theorem zyd{es:List Edge}{i c:Nat}(hc:c<es.length)(h:¬(ins.getD es[c].f 0=i/\¬ ins.getD es[c].t 0=i)):asks (es.take (c+1)) ins o i=asks (es.take c) ins o i:=by unfold asks;rw[List.take_succ_eq_append_getElem hc,List.filter_append,List.map_append];simp_all
theorem zir(es:List Edge)(ins o:List Nat)(i:Nat):(asks es ins o i).length<=es.length:=by unfold asks;rw[List.length_map];exact List.length_filter_le _ _
theorem qmv(hY:qqs C){j:Nat}{H1:Hp}{n c ob i:Nat}{gv lv iv:AV}{es:List Edge}{ins o:List Nat}(hj:1<=j)(hg:jZ H1 gv es)(hlen:es.length<200000)(hE:∀ e∈es,e.f<n/\e.t<n)(hc:H1.get c=aB 0 [lv,iv])(hcl:c<H1.nx)(hiv:Gl 1 H1 iv n (aK ins))(hob:H1.get ob=aB 0 (aK o))(aCV:ob<H1.nx)(hol:o.length=n)(hos:∀ x,x<n->o.getD x 0<=1000){q:pD}{Q:pL}(hq:∀ w H,Gl 1 H w (asks es ins o i).length (aK (asks es ins o i))->Fm No H1 H->(∀b,In w b->H1.nx<=b)->Ok (q w H) Q):∀(f k:Nat) (w:AV) (H:Hp),es.length-k<f->k<=es.length->Gl 1 H w (asks (es.take k) ins o i).length (aK (asks (es.take k) ins o i))->(∀b,In w b->H1.nx<=b)->Fm No H1 H -> Ok (qiw (C j) q (.ptr c 0) (.sl ob 0 n n true) (.int .i64 (.ofNat i)) gv (.int .i64 (.ofNat es.length)) f w (.int .i64 (.ofNat k)) H) Q
 |0,k,w,H,h,_,_,_,_=>by omega
 |f+1,k,w,H,h,hk,hw,hnew,hF=>by
  show Ok (qzo (C j) _ _ _ _ _ _ (qiw (C j) _ _ _ _ _ _ f) _ _ H) Q;unfold qzo;by_cases hlt:k<es.length
  ·obtain⟨b,p,e1,e2,e3⟩:=(hg.fm hF).at hlt;obtain⟨r1,r2⟩:=hE es[k] (List.getElem_mem _);have hil:ins.length=n:=by have:=hiv.len;rw[lU]at this;omega
   obtain⟨b1,o1,c1,c2,_,c3⟩:=(hiv.no hF).at (zwy ins es[k].f (by omega));obtain⟨b2,o2,c4,c5,_,c6⟩:=(hiv.no hF).at (zwy ins es[k].t (by omega));have k1:H.get c=aB 0 [lv,iv]:=(hF.keep hcl).trans hc;have hcH:c<H.nx:=Nat.lt_of_lt_of_le hcl hF.nx;have k2:H.get ob=aB 0 (aK o):=(hF.keep aCV).trans hob;have aFI:ob<H.nx:=Nat.lt_of_lt_of_le aCV hF.nx;simp only[go_sem,hlt];rw[qo4];unfold qrr;have fx:Fm No H ((aS H (aB 0 [.int .i64 (.ofNat 0),.int .i64 (.ofNat 0),.bool false])).put H.nx (aB 0 es[k].cells)):=by exact mO
   have hle:=zir (es.take k) ins o i;rw[List.length_take]at hle;have aBL:¬(ins.getD es[k].f 0=i/\¬ ins.getD es[k].t 0=i)->Ok (qlp (C j) (qiw (C j) q (.ptr c 0) (.sl ob 0 n n true) (.int .i64 (.ofNat i)) gv (.int .i64 (.ofNat es.length)) f) w (.int .i64 (.ofNat k)) ((aS H (aB 0 [.int .i64 (.ofNat 0),.int .i64 (.ofNat 0),.bool false])).put H.nx (aB 0 es[k].cells))) Q:=fun hn=>by unfold qlp;simp(disch:=first|omega|exact ti rfl|simp only[np,nq];first|done|omega)only[go_sem,rB,rI,rK,rL,rN,rS,r6];exact qmv hY hj hg hlen hE hc hcl hiv hob aCV hol hos hq f (k+1) w _ (by omega) (by omega) (by rw[zyd hlt hn];exact hw.no fx) hnew (hF.trans fx)
   by_cases h1:ins.getD es[k].f 0=i
   ·by_cases h2:ins.getD es[k].t 0=i
    ·simp(disch:=first|omega|exact ti rfl)only[go_sem,seval,e1,e3,Edge.cells,k1,c1,c3,c4,c6,h1,h2];have:=aBL fun h=>h.2 h2;exact this
    ·have v4:=zwy o es[k].t (by omega);have ho4:=hos es[k].t r2;simp(disch:=first|omega|exact ti rfl)only[go_sem,seval,e1,e3,Edge.cells,k1,k2,c1,c3,c4,c6,h1,h2,v4];generalize hHx:(Hp.mk ((aS H (aB 0 [.int .i64 (.ofNat 0),.int .i64 (.ofNat 0),.bool false])).put H.nx (aB 0 [.int .i64 (.ofNat es[k].f),.int .i64 (.ofNat es[k].t),.bool es[k].s])).t (H.nx+1+12))=Hx at *;have fx:Fm No H Hx:=by rw[<-hHx];exact Fm.oV fx (by omega)
     have nx:Hx.nx=H.nx+1+12:=by rw[<-hHx]
     have kx:Hx.get H.nx=aB 0 [.int .i64 (.ofNat es[k].f),.int .i64 (.ofNat es[k].t),.bool es[k].s]:=by rw[<-hHx];exact eD _ _ _
     refine Ok.mY (step_ok hY (k:=j) hj es[k] Hx) ?_;rintro r H2 ⟨rfl,f2⟩;have kx2:H2.get H.nx=aB 0 [.int .i64 (.ofNat es[k].f),.int .i64 (.ofNat es[k].t),.bool es[k].s]:=(f2.keep (by omega)).trans kx;have k22:H2.get ob=aB 0 (aK o):=((fx.trans f2).keep aFI).trans k2;have hst:xN es[k]<=1:=by unfold xN;split<;>omega
     simp(disch:=omega)only[go_sem,seval,kx2,k22,v4];generalize hz:o.getD es[k].t 0+xN es[k]=z at *;have fP:Fm No H (H2.put (H.nx+1+9) (aB 0 [AV.int .i64 (.ofNat z)])):=(fx.trans f2).aG _ _ (by omega);have hgP:Gl 1 (H2.put (H.nx+1+9) (aB 0 [AV.int .i64 (.ofNat z)])) w _ _:=hw.no fP;obtain⟨H3,a1,a2,_,a4,a5⟩:=hgP.append (w:=8) (k:=1) (x:=[AV.int .i64 (.ofNat z)]) (by omega) rfl (by omega) (by omega);refine Ok.y7 a1 ?_;unfold qlp;simp(disch:=first|omega|exact ti rfl|simp only[np,nq];first|done|omega)only[go_sem,rB,rI,rK,rL,rN,rS,r6];have hs:=zph (o:=o) hlt h1 h2;rw[hz]at hs;have e10:aK (asks (es.take k) ins o i)++[AV.int .i64 (.ofNat z)]=aK (asks (es.take (k+1)) ins o i):=by rw[hs];simp[aK]
     have hml:(asks (es.take (k+1)) ins o i).length=(asks (es.take k) ins o i).length+1:=by rw[hs,List.length_append];rfl
     rw[e10,<-hml]at a2;rw[<-hml];have hn1:=hF.nx;have hn2:=f2.nx;refine qmv hY hj hg hlen hE hc hcl hiv hob aCV hol hos hq f (k+1) _ H3 (by omega) (by omega) a2 (fun b hb=>?_) ((hF.trans fP).then a4 fun c hc h=>by have:=hnew c h;omega);obtain⟨_,_,_,_,h⟩:=hb;cases h;omega
   ·simp(disch:=first|omega|exact ti rfl)only[go_sem,seval,e1,e3,Edge.cells,k1,c1,c3,h1];have:=aBL fun h=>h1 h.1;exact this
  ·simp only[go_sem,hlt];have:k=es.length:=by omega
   subst this;rw[List.take_length]at hw;exact hq w H hw hF hnew
theorem qv9(hY:qqs C){j:Nat}(hj:1<=j){H1:Hp}{n ob:Nat}{w cw:AV}{l c o:List Nat}(hw:Gl 1 H1 w l.length (aK l))(hl:l.length<900000)(hwo:∀ b,In w b->b≠ob)(hc:Gl 1 H1 cw c.length (aK c))(hcl:c.length<900000)(hco:∀ b,In cw b->b≠ob)(hcn:∀ x∈c,x<n)(hol:o.length=n){q:pH}{Q:pL}(hq:∀ H,H.get ob=aB 0 (aK (wE o (jB l) c))->Fm (fun b=>b=ob) H1 H->Ok (q H) Q):∀(f k:Nat) (H:Hp),c.length-k<f->k<=c.length->H.get ob=aB 0 (aK (wE o (jB l) (c.take k)))->Fm (fun b=>b=ob) H1 H -> Ok (qro (C j) q (.sl ob 0 n n true) w cw (.int .i64 (.ofNat c.length)) f (.int .i64 (.ofNat k)) H) Q
 |0,k,H,h,_,_,_=>by omega
 |f+1,k,H,h,hk,hg,hF=>by
  show Ok (qzp (C j) _ _ _ _ _ (qro (C j) _ _ _ _ _ f) _ H) Q;unfold qzp;by_cases hlt:k<c.length
  ·have hcH:Gl 1 H cw c.length (aK c):=hc.fm hF hco;have hwH:Rl H w (aK l):=(hw.fm hF hwo).rl;obtain⟨b,p,e1,_,_,e3⟩:=hcH.at (show(aK c)[k]? =some (.int .i64 (.ofNat c[k]))from qth c k hlt);have hx:=hcn c[k] (List.getElem_mem _);have hgr:=zom hY (k:=j) hj hwH hl;have hfl:(wE o (jB l) (c.take k)).length=n:=by rw[qm9,hol]
   have hst:=qtf (wE o (jB l) (c.take k)) c[k] (jB l) (by omega);have hle:c[k]+1<=(aK (wE o (jB l) (c.take k))).length:=by rw[lU];omega
   have hsn:(wE o (jB l) (c.take k)).set c[k] (jB l)=wE o (jB l) (c.take (k+1)):=by rw[List.take_succ_eq_append_getElem hlt,qqj]
   simp only[go_sem,hlt];unfold zcw;simp(disch:=omega)only[go_sem,seval,e1,e3,hgr,hg,hst,hle,Nat.mul_one,Nat.zero_add,List.length_cons,List.length_nil];unfold zcx;simp(disch:=first|omega|exact ti rfl|simp only[np,nq];first|done|omega)only[go_sem,rB,rI,rK,rL,rN,rS,r6];rw[hsn];exact qv9 hY hj hw hl hwo hc hcl hco hcn hol hq f (k+1) _ (by omega) (by omega) (eD _ _ _) (hF.put _ _ fun _=>rfl)
  ·simp only[go_sem,hlt];have:k=c.length:=by omega
   simp_all
theorem qwa(hY:qqs C){j:Nat}(hj:1<=j){HB H0 H1:Hp}{n a0 c:Nat}{gv lv iv:AV}{os:List AV}{es:List Edge}{ins:List Nat}{res:List (List Nat)}(hn:n<=256)(hg:jZ H0 gv es)(hlen:es.length<200000)(hE:∀ e∈es,e.f<n/\e.t<n)(ha:H0.get a0=aB 0 [.int .i64 (.ofNat n),gv])(aJH:a0<H0.nx)(hc:H0.get c=aB 0 [lv,iv])(hcl:c<H0.nx)(hCR:CR HB H0 n lv iv os res ins)(hN:NmC n res ins)(hlt:∀ o∈res,∀x∈o,x<n)(hd:∀ e∈es,ins.getD e.t 0<=ins.getD e.f 0)(hLn:res.length<=n)(hol:∀ o∈res,o.length<=n)(h01:Fm No H0 H1)(hx1:H0.nx<H1.nx){q:pH}{Q:pL}(hq:∀ o H,rJ n es ins res.length o->H.get H0.nx=aB 0 (aK o)->Fm (fun b=>b=H0.nx) H1 H->Ok (q H) Q):∀(f i:Nat) (o:List Nat) (H:Hp),res.length-i<f->i<=res.length->rJ n es ins i o->H.get H0.nx=aB 0 (aK o)->Fm (fun b=>b=H0.nx) H1 H -> Ok (qix (C j) q (.ptr a0 0) (.ptr c 0) (.sl H0.nx 0 n n true) lv (.int .i64 (.ofNat res.length)) f (.int .i64 (.ofNat i)) H) Q
 |0,i,o,H,h,_,_,_,_=>by omega
 |f+1,i,o,H,h,hi,hO,hgo,hF=>by
  show Ok (qlq (C j) _ _ _ _ _ _ (qix (C j) _ _ _ _ _ _ f) _ H) Q;unfold qlq;by_cases hil:i<res.length
  ·have kp:∀ b,b<H0.nx->H.get b=H0.get b:=fun b hb=>(hF.get b (by omega) (by omega)).trans (h01.keep hb);have hnx:H0.nx<=H.nx:=by have:=hF.nx;omega
   have aCw:=hCR.len;have gE:jZ H gv es:=hg.keep hnx fun b hb hlt=>kp b hlt;have gI:Gl 1 H iv n (aK ins):=hCR.gi.keep hnx fun b hb hlt=>kp b hlt;have gL:Gl 1 H lv os.length os:=hCR.gl.keep hnx fun b hb hlt=>kp b hlt;obtain⟨c1,_,_⟩:=hCR.at' i (os[i]'(by omega)) (res[i]'hil) (by simp) (by simp);have gC:Gl 1 H (os[i]'(by omega)) (res[i]'hil).length (aK (res[i]'hil)):=c1.keep hnx fun b hb hlt=>kp b hlt;have hci:∀ b,In (os[i]'(by omega)) b->b<H0.nx:=fun b hb=>c1.lt hb;obtain⟨b1,o1,e1,_,_,e2⟩:=gL.at (i:=i) (x:=os[i]'(by omega)) (by simp);have hcm:∀ x,x<n->(x∈res[i]'hil↔ins.getD x 0=i):=fun x hx=>by
    constructor
    ·intro h;exact hN.is i _ x (List.getElem?_eq_getElem hil) h
    ·intro h;obtain⟨j',o',h1,h2⟩:=hN.all x hx;have:=hN.is j' o' x h1 h2;rw[h]at this;subst this;simp_all
   have hcn:=hlt _ (List.getElem_mem hil);have bSU:=hol _ (List.getElem_mem hil);have k1:H.get a0=aB 0 [.int .i64 (.ofNat n),gv]:=(kp a0 aJH).trans ha;have k2:H.get c=aB 0 [lv,iv]:=(kp c hcl).trans hc;have e0:=gE.len;generalize os[i]'(by omega)=cw at *;generalize res[i]'hil=co at *;simp only[go_sem,hil];unfold zcu;simp only[go_sem,e1,e2,k1,e0];unfold zcz;rw[dH];have hbd:∀ x,x<n->o.getD x 0<=1000:=fun x hx=>by have h1:=hO.bd x hx;have h2:=hN.lt hx;omega
   refine qmv hY hj gE hlen hE k2 (Nat.lt_of_lt_of_le hcl hnx) gI hgo (by have:=hF.nx;omega) hO.len hbd (fun w H2 hw f2 hnew=>?_) cK 0 .aA H (by rw[dM];omega) (Nat.zero_le _) (by simpa [asks,aK] using Gl.nil 1 H) (fun b hb=>by obtain⟨_,_,_,_,h⟩:=hb;cases h) (Fm.refl _ _);unfold qrs;have gC2:=gC.no f2;have e3:=gC2.dA;simp only[go_sem,e3];unfold zc0;rw[dH];have hal:=zir es ins o i;have aFI:H0.nx<H.nx:=by have:=hF.nx;omega
   refine qv9 hY hj (H1:=H2) (o:=o) hw (by omega) (fun b hb=>by have:=hnew b hb;omega) gC2 (by omega) (fun b hb=>by have:=hci b hb;omega) hcn hO.len (fun H3 g3 f3=>?_) cK 0 H2 (by rw[dM];omega) (Nat.zero_le _) ((f2.keep aFI).trans hgo) (Fm.refl _ _);unfold qzn;simp(disch:=first|omega|exact ti rfl|simp only[np,nq];first|done|omega)only[go_sem,rB,rI,rK,rL,rN,rS,r6];exact qwa hY hj hn hg hlen hE ha aJH hc hcl hCR hN hlt hd hLn hol h01 hx1 hq f (i+1) _ H3 (by omega) (by omega) (hO.step hE hcm hd) g3 ((hF.then f2 fun _ _ h=>h.elim).then f3 fun _ _ h=>h)
  ·simp only[go_sem,hil];have:i=res.length:=by omega
   subst this;exact hq o H hO hgo hF
theorem znv{es:List Edge}(hE:∀ e∈es,e.f<n/\e.t<n){res:List (List Nat)}(hF:jL n (iW es) [] res)(h:NmC n res ins):∀ e∈es,ins.getD e.t 0<=ins.getD e.f 0:=fun e he=>by
 obtain⟨l1,l2⟩:=hE e he;obtain⟨j,o,h1,h2⟩:=h.all e.f l1;rcases qv4 hF h1 h2 l2 (qdu.2 ⟨e,he,rfl,rfl⟩)with g|⟨j',c',g1,g2,g3⟩
 ·simp at g
 ·rw[h.is j o e.f h1 h2,h.is j' c' e.t g2 g3];exact g1
theorem z0a{res:List (List Nat)}(hF:jL n aT [] res)(hi:∀(j:Nat) (o:List Nat) (x:Nat),res[j]? =some o->x∈o->ins[x]? =some j):NmC n res ins:=⟨fun j o y h1 h2=>by
  rw[List.getD_eq_getElem?_getD,hi j o y h1 h2];rfl,fun y hy=>by
  obtain⟨z1,z2,z3,z4,z5⟩:=hF.all;obtain⟨o,ho,hyo⟩:=List.mem_flatten.1 (z3 y hy);obtain⟨j,hj⟩:=List.mem_iff_getElem?.1 ho;exact⟨j,o,hj,hyo⟩⟩
theorem q8c(hC:bA C)(hY:qqs C)(hO:r9 C)(hS:qR C)(hR:rM LA LO C)(hk:1002<=k){es:List Edge}(hE:qdw n es)(hn:n<=256)(hlen:es.length<900){gv:AV}(hg:jZ H gv es):Ok (C k (.f 57) [.agg [.int .i64 (.ofNat n),gv]] H) fun r H'=>Fm No H H' /\ ((∃w o,r=.aY [w,.int .i64 (.ofNat 0)]/\Gl 1 H' w n (aK o)/\iC w=.val (.int .i64 (.ofNat n))/\Fit n es o/\Lst n es o/\∀ x,x<n->o.getD x 0<n) \/ (r=.aY [.aA,.int .i64 (.ofNat 12)]/\∃ e∈es,e.s=true/\Rc (iW es) e.t e.f)):=by
 obtain⟨j,rfl⟩:=aX hk;rw[(hY j).zAu];unfold zAu zu5;simp(disch:=first|omega|exact ti rfl|simp only[np,nq];first|done|omega)only[go_sem,seval];have f0:Fm No H (aS H (aB 0 [.int .i64 (.ofNat n),gv])):=by exact lT
 refine Ok.ve (z2e hC hO hS hR (k:=j) (by omega) hE hn (by omega) (hg.fm f0)) ?_;rintro r H1 ⟨lv,iv,os,dY,out,ins,res,rfl,aEL,hCR,f1⟩;have hF:=aEL.ord hE.rng;have n1:H.nx+1<=H1.nx:=f1.nx;have g1:H1.get H.nx=aB 0 [.int .i64 (.ofNat n),gv]:=(f1.keep (by simp only[np,nq];omega)).trans (lI _ _);have es3:∀ x y a b:AV,bH [a,b] 0 [x,y]=[x,y]:=fun _ _ _ _=>rfl;have fa:Fm No H1 ((aS H1 (aB 0 [.aA,.aA])).put H1.nx (aB 0 [lv,iv])):=by exact mO
 simp(disch:=omega)only[go_sem,seval,es3,List.length_cons,List.length_nil];generalize hH2:(aS H1 (aB 0 [AV.aA,AV.aA])).put H1.nx (aB 0 [lv,iv])=H2 at *;have c2:H2.get H1.nx=aB 0 [lv,iv]:=by rw[<-hH2,eD]
 have n2:H2.nx=H1.nx+1:=by rw[<-hH2];rfl
 have g2:H2.get H.nx=aB 0 [.int .i64 (.ofNat n),gv]:=(fa.keep (by omega)).trans g1;rw[qo2];unfold qrp;simp(disch:=first|omega|exact ti rfl|simp only[np,nq];first|done|omega)only[go_sem,rB,rI,rK,rL,rN,rS,r6,g2];refine Ok.ve (zpu hC hO hS hR (k:=j) (by omega) hE hn hlen (((hg.fm f0).fm f1).fm fa)) ?_;rintro r H3 ⟨wx,aKG,bMW,R3,rfl,hF3,aCZ,bDI,aEs,hx3,bTr,hRl,f3⟩;have hrr:=hF3.uniq hF;subst hrr;have n3:=f3.nx;have f03:=((f0.trans f1).trans fa).trans f3;have e0:=hx3.len;rw[lU]at e0;have hN:=z0a hF hCR.ins;have hN3:=z0a hF aCZ;by_cases hm:R3=[]
 ·subst hm;have e0':aF wx=.val (.int .i64 (.ofNat 0)):=e0;simp only[go_sem,e0',Nat.lt_irrefl];rw[qo3];unfold qrq;have g3:H3.get H.nx=aB 0 [.int .i64 (.ofNat n),gv]:=(f3.keep (by omega)).trans g2;have c3:H3.get H1.nx=aB 0 [lv,iv]:=(f3.keep (by omega)).trans c2;have hd:=znv hE.rng hF hN;have aLK:∀ e∈es,e.s=true->dY.getD e.f 0≠dY.getD e.t 0:=fun e he hs h=>by
   obtain⟨l1,l2⟩:=hE.rng e he;rw[hN.same hN3 l1,hN.same hN3 l2]at h;have:=(aEs _).2 (q41.2 ⟨e,he,hs,h,rfl⟩);cases this
  have hL:=znw hF;have aFC:=hCR.no (fa.trans f3);obtain⟨z1,z2,z3,z4,z5⟩:=hF.all;have elv:=aFC.gl.dA;rw[aFC.len]at elv;by_cases h0:0<n
  ·have mk:=qfv [.int .i64 (.ofNat 0)] 8 H3.nx n (by omega) (by omega);rw[qd1,qtg]at mk;simp only[go_sem,g3,h0,mk];rw[qiy];unfold qkk;have c4:(aS H3 (aB 0 (aK (List.replicate n 0)))).get H1.nx=aB 0 [lv,iv]:=by rw[qbt _ _ _ (by omega)];exact c3
   simp only[go_sem,c4,elv];unfold qzq;rw[dH];refine qwa hY (j:=j) (by omega) (HB:=aS H (aB 0 [.int .i64 (.ofNat n),gv])) (H0:=H3) (H1:=aS H3 (aB 0 (aK (List.replicate n 0)))) hn (hg.fm f03) (by omega) hE.rng g3 (by omega) c3 (by omega) aFC hN (fun o ho x hx=>z2 x (List.mem_flatten.2 ⟨o,ho,hx⟩)) hd hL (fun o ho=>?_) ((Fm.refl _ _).push _) (Nat.lt_succ_self _) (fun o H4 hO4 g4 f4=>?_) cK 0 (List.replicate n 0) _ (by rw[dM];omega) (Nat.zero_le _) (rJ.start n es dY) (lI _ _) (Fm.refl _ _)
   ·have:o.length<=aKG.flatten.length:=(List.sublist_flatten_of_mem ho).length_le;omega
   ·unfold q20;obtain⟨d1,d2,d3⟩:=hO4.done hE.rng hN hF hd aLK;have n4:=f4.nx;have n4':H3.nx+1<=H4.nx:=n4;refine Ok.ret ⟨(f03.push _).then f4 fun c hc h=>by have:=f03.nx;omega,Or.inl ⟨_,o,rfl,⟨by rw[lU,hO4.len,Nat.mul_one],.inr ⟨H3.nx,0,true,0,_,rfl,g4,Nat.zero_le _,List.drop_zero,Or.inl rfl,by omega⟩⟩,rfl,d1,d2,fun x hx=>?_⟩⟩;have h1:=d3 x hx;have h2:=hN.lt hx;omega
  ·have hn0:n=0:=by omega
   subst hn0;simp only[go_sem,g3,Nat.lt_irrefl];rw[qiy];unfold qkk;have hr0:aKG=[]:=List.length_eq_zero_iff.1 (by omega);subst hr0;have aR1:aF lv=.val (.int .i64 (.ofNat 0)):=elv;simp only[go_sem,c3,aR1,Nat.lt_irrefl];unfold qzq;rw[dH];show Ok (qlq (C j) _ _ _ _ _ _ (qix (C j) _ _ _ _ _ _ 999999) _ H3) _;unfold qlq;have hes:es=[]:=by
    rcases List.eq_nil_or_concat es with h|⟨l,e,h⟩
    ·exact h
    ·have:=hE.rng e (by rw[h];simp);omega
   exact Ok.ret ⟨f03,Or.inl ⟨_,[],rfl,Gl.nil _ _,rfl,⟨rfl,fun e he=>by rw[hes]at he;cases he⟩,fun S _ x hx=>absurd hx (Nat.not_lt_zero _),fun x hx=>absurd hx (Nat.not_lt_zero _)⟩⟩
 ·have hp:0<R3.length:=List.length_pos_iff.2 hm;simp only[go_sem,e0,hp];obtain⟨x,hx⟩:=List.exists_mem_of_ne_nil R3 hm;obtain⟨e,he,hs,h1,_⟩:=q41.1 ((aEs x).1 hx);obtain⟨l1,l2⟩:=hE.rng e he;exact Ok.ret ⟨f03,Or.inr ⟨rfl,e,he,hs,((hN3.eq hF l1 l2).1 h1).2⟩⟩
end Go.Di
end
noncomputable section
namespace Go.Di
open Go.Ev Go.Di.T Go.Sort
def lvN(s:SS):Nat:=lvl ((s.a-12402) / 256)
theorem qmz(n:Nat):lvN (eU n)=lvl n:=by unfold lvN eU lvl;simp
def xX(n:Nat)(s:SS)(neg:Bool):Prop:=lvN s<lvl n\/(neg=false/\lvN s=lvl n)
theorem zg7{n k:Nat}{neg:Bool}(h:qkd n k neg=true):xX n (eU k) neg:=by unfold qkd at h;unfold xX;rw[qmz];simpa using h
def NdL(n:Nat)(y:Nd):Prop:=(y.k=1->y.neg=false)/\(y.k=2->xX n y.rl y.neg)/\(y.k=3->xX n y.to y.neg)
theorem qtm{n:Nat}{neg:Bool}(hneg:neg=true->0<lvl n):∀ y∈(zI neg).nodes neg,NdL n y:=by
 unfold zI;cases neg
 ·intro y hy;simp[Ru.nodes]at hy;subst hy;exact⟨fun _=>rfl,fun h=>by simp at h,fun h=>by simp at h⟩
 ·intro y hy;simp[Ru.nodes]at hy;subst hy;refine⟨fun h=>by simp at h,fun _=>.inl ?_,fun h=>by simp at h⟩;rw[qmz];exact hneg rfl
theorem q0q{L:List (List Nat)}{n:Nat}(hn:n<bG L):∀(d i:Nat) (neg:Bool),(neg=true->0<lvl n)->∀ y∈(eF L n d i neg).1.nodes neg,NdL n y
 |0,i,neg,h=>by unfold eF;exact qtm h
 |d+1,i,neg,hneg=>by
  have hA:At (bG L) n neg:=⟨hn,Nat.min_le_right _ _,hneg⟩;unfold eF;split
  ·exact qtm hneg
  split
  ·exact qtm hneg
  split
  ·have hp:=qt9 hA;have hm:=qe5 (d:=sE) (Nat.mod_lt (dZ L n i / 8) hp);intro y hy;simp[wR,Ru.nodes]at hy;subst hy;refine⟨fun h=>by simp at h,fun _=>?_,fun h=>by simp at h⟩;have:∀ s∈cmpL (bG L) n neg,xX n s neg:=fun s hs=>by
    obtain⟨k,hk,rfl⟩:=List.mem_map.1 hs;exact zg7 (List.mem_filter.1 hk).2
   simp_all
  split
  ·unfold sQ;split
   ·exact qtm hneg
   ·rename_i h;have hm:=qe5 (d:=(⟨sE,sE⟩:ArS)) (Nat.mod_lt (dZ L n i / 8) (show 0<(kU L n neg).length by omega));intro y hy;simp only[Ru.nodes,List.mem_singleton]at hy;subst hy;refine⟨fun h=>by simp at h,fun h=>by simp at h,fun _=>?_⟩;have:∀ s∈kU L n neg,xX n s.to neg:=fun s hs=>by
     obtain⟨i,_,hs⟩:=List.mem_flatMap.1 hs;obtain⟨t,_,hs⟩:=List.mem_flatMap.1 hs;obtain⟨j,hj,rfl⟩:=List.mem_map.1 hs;have hp:=(List.mem_filter.1 hj).2;unfold arP at hp;rw[Bool.and_eq_true]at hp;exact zg7 hp.2
    exact this _ hm
  ·intro y hy;rw[Ru.nodes,List.mem_cons,List.mem_append]at hy;have hk:sG n (dZ L n i)≠1/\sG n (dZ L n i)≠2/\sG n (dZ L n i)≠3:=by unfold sG;split<;>(try split)<;>omega
   rcases hy with rfl|hy|hy
   ·exact⟨fun h=>absurd h hk.1,fun h=>absurd h hk.2.1,fun h=>absurd h hk.2.2⟩
   ·exact q0q hn d _ _ hneg _ hy
   ·refine q0q hn d _ _ (fun h=>?_) _ hy;rw[Bool.or_eq_true,decide_eq_true_iff]at h;rcases h with h|h
    ·exact hneg h
    ·unfold sG at h;split at h
     ·omega
     split at h
     ·omega
     ·omega
theorem zmq{L:List (List Nat)}{n:Nat}(hn:n<bG L){t:jS}(h:t∈jY L n)(hr:t.rl≠sE):lvN t.rl<=lvl n:=by
 unfold jY at h;rw[List.mem_append]at h;rcases h with h|h
 ·unfold rY at h;rw[List.mem_cons]at h;rcases h with rfl|h
  ·trivial
  ·rw[List.mem_map]at h;obtain⟨i,_,rfl⟩:=h;trivial
 ·split at h
  ·rw[List.mem_singleton]at h;have hm:=qe5 (d:=(⟨sE,sE⟩:jS)) (Nat.mod_lt (dZ L n 1 / 2) (qsr hn));rw[<-h]at hm;unfold pP at hm;rw[List.mem_map]at hm;obtain⟨k,hk,rfl⟩:=hm;rw[List.mem_filter]at hk;rw[qmz];simp_all
  ·cases h
variable {L:List (List Nat)} {X:List aR}
theorem mM.len(h:mM L X):(aN X).length=bG L:=by rw[h.all];simp
theorem mM.aEz(h:mM L X){a b:SS}(hl:cB X a b<(aN X).length):lvl (cB X a b)=lvN b:=by
 have h1:(aN X)[cB X a b]=(a,b):=by have:=List.findIdx_getElem (w:=hl);exact of_decide_eq_true this
 have h2:(aN X)[cB X a b]=prN (cB X a b):=by
  have:∀(l:List (SS×SS)) (hll:cB X a b<l.length),l=(List.range (bG L)).map prN->l[cB X a b]=prN (cB X a b):=fun l hll e=>by subst e;simp
  exact this _ hl h.all
 rw[h1]at h2;have h3:=congrArg Prod.snd h2;have h4:b=eU (cB X a b):=h3
 calc lvl (cB X a b)=lvN (eU (cB X a b)):=(qmz _).symm
  _=lvN b:=by rw[<-h4]
theorem mM.lev(h:mM L X){e:Edge}(he:e∈wN X X)(hf:e.f<(aN X).length)(ht:e.t<(aN X).length):lvl e.t<=lvl e.f/\(e.s=true->lvl e.t<lvl e.f):=by
 obtain⟨g,hg,he⟩:=List.mem_flatMap.1 he;obtain⟨x,hx,he⟩:=List.mem_flatMap.1 he;obtain⟨y,hy,he⟩:=List.mem_flatMap.1 he;obtain⟨p,hp,rfl⟩:=List.mem_map.1 he;obtain⟨i,n,_,_,_,_,hn,hr⟩:=h.x hg hx;have hnm:x.r.name=eU n:=by rw[hr,qdq];rfl
 have h1:lvl (cB X g.name x.r.name)=lvl n:=by rw[h.aEz hf,hnm,qmz]
 have h2:lvl (cB X p.1 p.2)=lvN p.2:=h.aEz ht;show lvl (cB X p.1 p.2)<=lvl (cB X g.name x.r.name)/\(y.neg=true->lvl (cB X p.1 p.2)<lvl (cB X g.name x.r.name));rw[h1,h2];have lK:x.r.rule=(eF L n 6 2 false).1:=by rw[hr,qb1];rfl
 rw[lK]at hy;obtain⟨q1,q2,q3⟩:=q0q hn 6 2 false (fun h=>by cases h) y hy;have key:∀ s,xX n s y.neg->lvN s<=lvl n/\(y.neg=true->lvN s<lvl n):=fun s hs=>by
  rcases hs with hs|⟨e,hs⟩
  ·omega
  ·simp_all
 unfold ndT at hp;split at hp
 ·rename_i hk;obtain⟨t,ht',rfl⟩:=List.mem_map.1 hp;obtain⟨ht1,ht2⟩:=List.mem_filter.1 ht';have:t∈jY L n:=by
   rw[hr]at ht1;exact qf3 _ _ t ht1
  exact⟨zmq hn this (by simpa using ht2),fun h=>by rw[q1 hk]at h;cases h⟩
 split at hp
 ·rename_i hk;rw[List.mem_singleton]at hp;subst hp;exact key _ (q2 hk)
 split at hp
 ·rename_i hk;obtain⟨s,_,rfl⟩:=List.mem_map.1 hp;exact key _ (q3 hk)
 ·cases hp
theorem zws{n:Nat}{es:List Edge}{lv:Nat->Nat}(h:∀ e∈es,lv e.t<=lv e.f/\(e.s=true->lv e.t<lv e.f)):¬ ∃e∈es,e.s=true/\Rc (iW es) e.t e.f:=by
 rintro ⟨e,he,hs,hr⟩;have down:∀ a b,Rc (iW es) a b->lv b<=lv a:=fun a b hab=>by
  induction hab with
  |refl=>exact Nat.le_refl _
  |step _ hc ih=>obtain⟨e',h1,h2,h3⟩:=qdu.1 hc;have:=(h e' h1).1;rw[h2,h3]at this;omega
 have:=down _ _ hr;have:=(h e he).2 hs;omega
end Go.Di
end
noncomputable section
namespace Go.Di
open Go.Ev Go.Di.T Go.Sort
variable {C:Nat->Ev.Call} {LA LO:LP} {L:List (List Nat)} {X:List aR}
def esG(X:List aR):List Edge:=iE (sortE (wN X X))
theorem q7n{n:Nat}(ms:List Nat)(hn:n<13):(qeg n ms).length<900:=by have:=zsa n ms n;have h:n*n<=12*12:=Nat.mul_le_mul (by omega) (by omega);unfold qeg;rw[List.length_map];omega
theorem mM.es(h:mM L X):qdw (aN X).length (esG X)/\(esG X).length<900:=by have e:esG X=qeg (aN X).length _:=h.val.same.symm;rw[e];exact⟨q5p _ _,q7n _ (by rw[h.len];exact qjb L)⟩
theorem mM.nb(h:mM L X):¬ ∃e∈esG X,e.s=true/\Rc (iW (esG X)) e.t e.f:=zws (n:=0) (lv:=lvl) fun e he=>by have hr:=h.es.1.rng e he;exact h.lev (qve.1 (q1k.1 he)) hr.1 hr.2
structure aZj(X:List aR)(o:List Nat):Prop where
 fit:Fit (aN X).length (esG X) o
 lst:Lst (aN X).length (esG X) o
 lt:∀ x,x<(aN X).length->o.getD x 0<(aN X).length
theorem zyh(hC:bA C)(hO:r9 C)(hS:qR C)(hR:rM LA LO C){k:Nat}(hk:1002<=k)(h:mM L X){gv:AV}{H:Hp}(hg:jZ H gv (esG X)):Ok (C k (.f 57) [.agg [iN ((aN X).length),gv]] H) fun r H'=>Fm No H H' /\ ∃w o,r=.aY [w,iN 0]/\Gl 1 H' w (aN X).length (aK o)/\iC w=.val (iN ((aN X).length))/\aZj X o:=by
 have hm:=qjb L;refine(q8c hC hC hO hS hR hk h.es.1 (by rw[h.len];omega) h.es.2 hg).mono fun r H' hh=>⟨hh.1,?_⟩;rcases hh.2 with⟨w,o,h1,h2,h3,h4,h5,h6⟩|⟨_,h2⟩
 ·exact⟨w,o,h1,h2,h3,h4,h5,h6⟩
 ·exact absurd h2 h.nb
theorem z2d(hC:bA C)(hN:qbv C)(hE:qqt C)(hO:r9 C)(hS:qR C)(hR:rM LA LO C){k:Nat}(hk:1003<=k){H:Hp}{sv:AV}(hX:dK H sv X)(h:mM L X):Ok (C k (.f 27) [.agg [sv]] H) fun r H'=>r=iN 0/\Fm No H H':=by
 obtain⟨j,rfl⟩:=aX hk;rw[(hC j).zAe];unfold zAe zve;simp(disch:=omega)only[go_sem];have f:Fm No H (aS H (aB 0 [sv])):=by exact lT
 refine Ok.ve (z2j hC hN hE (k:=j) (by omega) (hX.fm f) h.val) ?_;rintro _ H1 ⟨gv,rfl,hg,_,f1,_⟩;simp(disch:=omega)only[go_sem,seval];have fa:Fm No H1 ((aS H1 (aB 0 [iN 0,.aA])).put H1.nx (aB 0 [iN ((aN X).length),gv])):=by exact mO
 refine Ok.ve (zyh hC hO hS hR (k:=j) (by omega) h (hg.fm fa)) ?_;rintro _ H2 ⟨f2,w,o,rfl,_⟩;exact Ok.ret ⟨rfl,((f.trans f1).trans fa).trans f2⟩
end Go.Di
end
noncomputable section
namespace Go.Di
open Go.Ev Go.Di.T Go.Sort
variable {C:Nat->Ev.Call} {LA LO:LP}
variable {H:Hp} {X:List aR} {i j k:Nat} {sv:AV}
theorem zoc(n a:Nat):p8 (.str n a)=.val (iN n):=id rfl
attribute [go_sem] zoc
theorem qwk(s:SS)(h:i<s.n):qgy (.str s.n s.a) (iN i)=.val (.int .u8 (.ofNat (qfi s.a i))):=by unfold qgy;simp only[blt_eq,decide_eq_true h,cond_true]
structure Tu where
 a:SS
 b:SS
 c:SS
 x:SS
 y:SS
 z:SS
 o:z.n=0->z.a=0
def Tu.cells(t:Tu):List AV:=[t.a.v,t.b.v,t.c.v,t.x.v,t.y.v,t.z.v]
def Sg(H:Hp)(r:AV)(H':Hp):Prop:=(∃i:Int,r=.int .i64 i)/\Fm No H H'
theorem qp2{call:Ev.Call}{s t:SS}{H:Hp}{Q:pL}{qr:pD}{q:pH}(hr:∀ i,Ok (qr (.int .i64 i) H) Q)(hq:Ok (q H) Q):∀(k i:Nat),i<=s.n->s.n-i<k->s.n<1000000->Ok (qk8 call qr q s.v t.v k (iN i) H) Q
 |0,i,_,h,_=>by omega
 |k+1,i,hi,hk,hs=>by
  show Ok (q9j call _ _ _ _ (qk8 call _ _ _ _ k) _ H) Q;unfold q9j SS.v;by_cases h1:i<s.n
  ·by_cases h2:i<t.n
   ·simp only[go_sem,h1,h2];unfold qx3;have e1:=qwk s h1;have e2:=qwk t h2;simp only[go_sem,e1,e2];by_cases h3:qfi s.a i<qfi t.a i
    ·simp only[go_sem,h3];exact hr _
    ·simp only[go_sem,h3];unfold qx4;simp only[go_sem,e1,e2];by_cases h4:qfi t.a i<qfi s.a i
     ·simp only[go_sem,h4];exact hr _
     ·simp only[go_sem,h4];unfold qx5;simp(disch:=omega)only[go_sem];exact qp2 hr hq k (i+1) (by omega) (by omega) hs
   ·simp only[go_sem,h1,h2];exact hq
  ·simp only[go_sem,h1];exact hq
theorem qkz(hC:bA C)(hk:1<=k)(s t:SS)(hs:s.n<1000000)(H:Hp):Ok (C k (.f 106) [s.v,t.v] H) (Sg H):=by
 obtain⟨j,rfl⟩:=aX hk;rw[(hC j).zEv];unfold zEv zs5 q9k;rw[dH];refine qp2 (fun i=>Ok.ret ⟨⟨i,rfl⟩,Fm.refl _ _⟩) ?_ cK 0 (Nat.zero_le _) (by rw[dM];omega) hs;unfold qj1 SS.v;by_cases h1:s.n<t.n
 ·simp only[go_sem,h1];exact Ok.ret ⟨⟨_,rfl⟩,Fm.refl _ _⟩
 ·simp only[go_sem,h1];unfold q9i;by_cases h2:t.n<s.n
  ·simp only[go_sem,h2];exact Ok.ret ⟨⟨_,rfl⟩,Fm.refl _ _⟩
  ·simp only[go_sem,h2];exact Ok.ret ⟨⟨_,rfl⟩,Fm.refl _ _⟩
theorem Sg.of{H H1 H2:Hp}{r:AV}(f:Fm No H H1)(h:Sg H1 r H2):Sg H r H2:=⟨h.1,f.trans h.2⟩
theorem zh6(hC:bA C)(hk:2<=k)(x y u v:SS)(hx:x.n<1000000)(hy:y.n<1000000)(H:Hp):Ok (C k (.f 105) [.agg [x.v,y.v],.agg [u.v,v.v]] H) (Sg H):=by
 obtain⟨j,rfl⟩:=aX hk;rw[(hC j).zEu];unfold zEu zs6 SS.v;by_cases h:x.n=u.n/\x.a=u.a
 ·simp only[go_sem,zf8,h,and_self];unfold q9l;simp(disch:=first|omega|exact ti rfl|simp only[np,nq];first|done|omega)only[go_sem];refine Ok.ve (qkz hC (k:=j) (by omega) y v hy _) fun r H1 hr=>Ok.ret (hr.of (by exact qD))
 ·simp(disch:=first|omega|exact ti rfl|simp only[np,nq];first|done|omega)only[go_sem,zf8,h];refine Ok.ve (qkz hC (k:=j) (by omega) x u hx _) fun r H1 hr=>Ok.ret (hr.of (by exact qD))
theorem qhn(n b:Bool):mQ n (some b)=.val (.bool (bif n then !b else b)):=by cases n<;>rfl
theorem eqO(x y u v:SS):gW (eqFields [(p1,⟨bZ⟩,0),(p1,⟨bZ⟩,1)]) (.agg [.str x.n x.a,.str y.n y.a]) (.agg [.str u.n u.a,.str v.n v.a])=some (decide ((x,y)=(u,v))):=qt1 (x,y) (u,v)
theorem zD{o p:Option Bool}{a b:Bool}(h:o=some a)(g:p=some b):andThen o p=some (a&&b):=by rw[h,g];cases a<;>cases b<;>rfl
def gG(x y z u v w:SS):Bool:=decide (x=u)&&(decide (y=v)&&true)&&(decide (z=w)&&true)
theorem eqG(x y z u v w:SS):gW (eqFields [((pA 2),⟨gW (eqFields [(p1,⟨bZ⟩,0),(p1,⟨bZ⟩,1)])⟩,0),(p1,⟨bZ⟩,2)]) (.agg [.str x.n x.a,.str y.n y.a,.str z.n z.a]) (.agg [.str u.n u.a,.str v.n v.a,.str w.n w.a])=some (gG x y z u v w):=by exact zD (zD (wJ _ _) (zD (wJ _ _) rfl)) (zD (wJ _ _) rfl)
theorem zx0(hC:bA C)(hk:3<=k)(x y z u v w:SS)(hx:x.n<1000000)(hy:y.n<1000000)(hz:z.n<1000000)(H:Hp):Ok (C k (.f 82) [.agg [x.v,y.v,z.v],.agg [u.v,v.v,w.v]] H) (Sg H):=by
 obtain⟨j,rfl⟩:=aX hk;rw[(hC j).zEo];unfold zEo zs8 SS.v;have e:=eqO x y u v;cases h:decide ((x,y)=(u,v))with
 |true=>rw[h]at e;simp(disch:=first|omega|exact ti rfl|simp only[np,nq];first|done|omega)only[go_sem,seval,e,qhn];unfold q9n;simp(disch:=first|omega|exact ti rfl|simp only[np,nq];first|done|omega)only[go_sem];refine Ok.ve (qkz hC (k:=j) (by omega) z w hz _) fun r H1 hr=>Ok.ret (hr.of (by exact qD))
 |false=>rw[h]at e;simp(disch:=first|omega|exact ti rfl|simp only[np,nq];first|done|omega)only[go_sem,seval,e,qhn];refine Ok.ve (zh6 hC (k:=j) (by omega) x y u v hx hy _) fun r H1 hr=>Ok.ret (hr.of (by exact qD))
theorem zxz(hC:bA C)(hk:3<=k)(x y z u v w:SS)(hx:x.n<1000000)(hy:y.n<1000000)(hz:z.n<1000000)(H:Hp):Ok (C k (.f 83) [.agg [x.v,y.v,z.v],.agg [u.v,v.v,w.v]] H) (Sg H):=by
 obtain⟨j,rfl⟩:=aX hk;rw[(hC j).zEp];unfold zEp zs7 SS.v;have e:=eqO x y u v;cases h:decide ((x,y)=(u,v))with
 |true=>rw[h]at e;simp(disch:=first|omega|exact ti rfl|simp only[np,nq];first|done|omega)only[go_sem,seval,e,qhn];unfold q9m;simp(disch:=first|omega|exact ti rfl|simp only[np,nq];first|done|omega)only[go_sem];refine Ok.ve (qkz hC (k:=j) (by omega) z w hz _) fun r H1 hr=>Ok.ret (hr.of (by exact qD))
 |false=>rw[h]at e;simp(disch:=first|omega|exact ti rfl|simp only[np,nq];first|done|omega)only[go_sem,seval,e,qhn];refine Ok.ve (zh6 hC (k:=j) (by omega) x y u v hx hy _) fun r H1 hr=>Ok.ret (hr.of (by exact qD))
def Tu.lo(t:Tu):Prop:=t.a.n<1000000/\t.b.n<1000000/\t.c.n<1000000/\t.x.n<1000000/\t.y.n<1000000/\t.z.n<1000000
theorem zxy(hC:bA C)(hk:4<=k)(t u:Tu)(h:t.lo)(H:Hp):Ok (C k (.f 55) [.agg t.cells,.agg u.cells] H) (Sg H):=by
 obtain⟨j,rfl⟩:=aX hk;obtain⟨h1,h2,h3,h4,h5,h6⟩:=h;rw[(hC j).zEk];unfold zEk zs9 Tu.cells SS.v;have e:=eqG t.a t.b t.c u.a u.b u.c;cases h:gG t.a t.b t.c u.a u.b u.c with
 |true=>rw[h]at e;simp(disch:=first|omega|exact ti rfl|simp only[np,nq];first|done|omega)only[go_sem,seval,e,qhn];unfold q9o;simp(disch:=first|omega|exact ti rfl|simp only[np,nq];first|done|omega)only[go_sem,seval];refine Ok.ve (zxz hC (k:=j) (by omega) t.x t.y t.z u.x u.y u.z h4 h5 h6 _) fun r H1 hr=>Ok.ret (hr.of (by exact qD))
 |false=>rw[h]at e;simp(disch:=first|omega|exact ti rfl|simp only[np,nq];first|done|omega)only[go_sem,seval,e,qhn];refine Ok.ve (zx0 hC (k:=j) (by omega) t.a t.b t.c u.a u.b u.c h1 h2 h3 _) fun r H1 hr=>Ok.ret (hr.of (by exact qD))
theorem wC(t u:Tu):gW (eqFields [((pA 3),⟨gW (eqFields [((pA 2),⟨gW (eqFields [(p1,⟨bZ⟩,0),(p1,⟨bZ⟩,1)])⟩,0),(p1,⟨bZ⟩,2)])⟩,0),((pA 3),⟨gW (eqFields [((pA 2),⟨gW (eqFields [(p1,⟨bZ⟩,0),(p1,⟨bZ⟩,1)])⟩,0),(p1,⟨bZ⟩,2)])⟩,3)]) (.agg t.cells) (.agg u.cells)=some (gG t.a t.b t.c u.a u.b u.c&&(gG t.x t.y t.z u.x u.y u.z&&true)):=by
 show andThen (andThen (andThen (bZ t.a.v u.a.v) (andThen (bZ t.b.v u.b.v) (some true))) (andThen (bZ t.c.v u.c.v) (some true)))
  (andThen (andThen (andThen (bZ t.x.v u.x.v) (andThen (bZ t.y.v u.y.v) (some true))) (andThen (bZ t.z.v u.z.v) (some true))) (some true))=_
 exact zD (zD (zD (wJ _ _) (zD (wJ _ _) rfl)) (zD (wJ _ _) rfl))
  (zD (zD (zD (wJ _ _) (zD (wJ _ _) rfl)) (zD (wJ _ _) rfl)) rfl)
theorem qfh(t:Tu):t.cells.length=6:=id rfl
theorem zgy{call:Ev.Call}{v:AV}{l:List Tu}{t:Tu}{cb:Nat}{H:Hp}(hv:Rs 6 Tu.cells H v l)(ht:fU (H.get cb) 0 6=some t.cells)(hl:l.length<1000000){Q:pL}{qr:pD}{q:pH}(hr:Ok (qr (iN 1) H) Q)(hq:Ok (q H) Q):∀(k i:Nat),i<=l.length->l.length-i<k->Ok (qop call qr q v (.ptr cb 0) k (iN i) H) Q
 |0,i,_,h=>by omega
 |k+1,i,hi,hk=>by
  show Ok (q9s call _ _ _ _ (qop call _ _ _ _ k) _ H) Q;unfold q9s;have e0:=hv.len;by_cases h1:i<l.length
  ·simp only[go_sem,e0,h1];unfold q9p;obtain⟨b,o,e1,_,e2⟩:=hv.qJ h1;have e3:=wC l[i] t;simp only[go_sem,e1,e2,ht,e3,qhn];cases (gG l[i].a l[i].b l[i].c t.a t.b t.c&&gG l[i].x l[i].y l[i].z t.x t.y t.z)with
   |true=>exact hr
   |false=>unfold q9q;simp(disch:=omega)only[go_sem];exact zgy hv ht hl hr hq k (i+1) (by omega) (by omega)
  ·simp only[go_sem,e0,h1];exact hq
theorem aKq(hC:bA C)(hk:1<=k){v:AV}{l:List Tu}(hv:Rs 6 Tu.cells H v l)(hl:l.length<1000000)(t:Tu):Ok (C k (.f 54) [v,.agg t.cells] H) (Sg H):=by
 obtain⟨j,rfl⟩:=aX hk;rw[(hC j).zEj];unfold zEj zta;have f:Fm No H (aS H (aB 0 t.cells)):=by exact lT
 have e:bJ 6 H.nx (.agg t.cells)=.new (.ptr H.nx 0) (aB 0 t.cells):=id rfl;simp only[go_sem,e];unfold q9t;rw[dH];refine zgy (t:=t) (hv.fm f) ?_ hl (Ok.ret ⟨⟨_,rfl⟩,f⟩) ?_ cK 0 (Nat.zero_le _) (by rw[dM];omega)
 ·rw[lI];rfl
 ·unfold qk9;exact Ok.ret ⟨⟨_,rfl⟩,f⟩
theorem z04(hC:bA C)(hk:1<=k)(n:Nat)(H:Hp):Ok (C k (.f 53) [.int .u8 (.ofNat n)] H) fun r H'=>(∃s:SS,r=s.v/\0<s.n/\s.n<1000000)/\Fm No H H':=by
 obtain⟨j,rfl⟩:=aX hk;rw[(hC j).zEi];unfold zEi ztb;have h5:n%5<5:=Nat.mod_lt _ (by omega);have e:∀ m,m<5->∃ s:SS,([AV.str 1 49,.str 1 50,.str 1 51,.str 1 52,.str 4 1953460082]:List AV)[m]? =some s.v/\0<s.n/\s.n<1000000:=fun m hm=>by
  match m,hm with
  |0,_=>exact⟨⟨1,49⟩,rfl,by decide,by decide⟩
  |1,_=>exact⟨⟨1,50⟩,rfl,by decide,by decide⟩
  |2,_=>exact⟨⟨1,51⟩,rfl,by decide,by decide⟩
  |3,_=>exact⟨⟨1,52⟩,rfl,by decide,by decide⟩
  |4,_=>exact⟨⟨4,1953460082⟩,rfl,by decide,by decide⟩
 obtain⟨s,e1,e2,e3⟩:=e _ h5;have e0:iL 5 H.nx (bU (bE [.str 0 0] 5) [(0,1,(.str 1 49)),(1,1,(.str 1 50)),(2,1,(.str 1 51)),(3,1,(.str 1 52)),(4,1,(.str 4 1953460082))])=.new (.sl H.nx 0 5 5 true) (aB 0 [.str 1 49,.str 1 50,.str 1 51,.str 1 52,.str 4 1953460082]):=id rfl;rw[e0];simp(disch:=omega)only[go_sem,e1];refine Ok.ret ⟨⟨s,rfl,e2,e3⟩,?_⟩;exact lT
theorem qfo(t:Tu):List.take 6 t.cells=t.cells:=id rfl
def b2n(b:Bool):Nat:=bif b then 1 else 0
theorem aIT(hC:bA C){j:Nat}(hj:4<=j){P:Tu->Prop}(hP:∀ t,P t->t.lo){v w:AV}{l m:List Tu}{i:Nat}(hi:i<l.length)(hl:l.length<1000)(hm:m.length<1000)(pl:∀ t∈l,P t)(pm:∀ t∈m,P t){H0:Hp}(hv:Rs 6 Tu.cells H0 v l)(hw:Rs 6 Tu.cells H0 w m){Q:pL}{q:AV->pD}(hq:∀ u n f H,Ac 6 Tu.cells H0 H u n->n.length=m.length+b2n f->(∀t∈n,P t)->Ok (q u (.bool f) H) Q):∀(k e:Nat) (f:Bool) (u:AV) (n:List Tu) (H:Hp),e<=m.length->m.length-e<k->n.length=e+b2n f->(∀t∈n,P t)->Ac 6 Tu.cells H0 H u n -> Ok (qfl (C j) q v w (iN i) k u (.bool f) (iN e) H) Q
 |0,e,_,_,_,_,_,h,_,_,_=>by omega
 |k+1,e,f,u,n,H,he,hk,hn,pn,ha=>by
  show Ok (qya (C j) _ _ _ _ (qfl (C j) _ _ _ _ k) _ _ _ H) Q;unfold qya;have e0:=hw.len;by_cases h1:e<m.length
  ·simp only[go_sem,e0,h1];have tail:∀(f':Bool) (u':AV) (n':List Tu) (H':Hp),n'.length=e+b2n f'->(∀t∈n',P t)->Ac 6 Tu.cells H0 H' u' n' ->
     Ok (qla (C j) (qfl (C j) q v w (iN i) k) w u' (.bool f') (iN e) H') Q:=fun f' u' n' H' hn' pn' ha'=>by
    unfold qla;have hb':b2n f'<=1:=by cases f'<;>decide
    obtain⟨b,o,e1,e2,e3⟩:=(hw.fm ha'.fm).qJ h1;simp(disch:=omega)only[go_sem,seval,e1,e3,qfh,qfo];refine Ok.ve ((ha'.no ((Fm.refl No H').push (aB 0 m[e].cells))).add m[e] 96 rfl (by omega) (by omega)) ?_;intro u2 H2 ha2;unfold qx9;simp(disch:=omega)only[go_sem];refine aIT hC hj hP hi hl hm pl pm hv hw hq k (e+1) f' u2 (n'++[m[e]]) H2 (by omega) (by omega) (by simp[hn'];omega) ?_ ha2;intro t ht;rw[List.mem_append,List.mem_singleton]at ht;rcases ht with ht|rfl
    ·exact pn' t ht
    ·simp_all
   unfold qx8;cases f with
   |true=>simp only[go_sem];exact tail true u n H hn pn ha
   |false=>
    obtain⟨b,o,e1,e2,e3⟩:=(hv.fm ha.fm).qJ hi;obtain⟨b',o',e1',e2',e3'⟩:=(hw.fm ha.fm).qJ h1;simp only[go_sem,e1,e3,e1',e3'];refine Ok.mY (zxy hC (k:=j) (by omega) l[i] m[e] (hP _ (pl _ (List.getElem_mem hi))) _) ?_;rintro _ H1 ⟨⟨s,rfl⟩,f1⟩;have g:fU (H1.get b) o 6=some l[i].cells:=by rw[f1.keep e2];exact e3
    have g':fU (H1.get b') o' 6=some m[e].cells:=by rw[f1.keep e2'];exact e3'
    have ha1:=ha.no f1;by_cases hs:s<Int.ofNat 0
    ·simp(disch:=first|omega|exact ti rfl|simp only[np,nq];first|done|omega)only[go_sem,rB,rI,rK,rL,rN,rS,r6,g,g',hs,qfh,qfo];refine Ok.ve ((ha1.no ((Fm.refl No H1).push (aB 0 l[i].cells))).add l[i] 96 rfl (by unfold b2n at hn;simp at hn;omega) (by unfold b2n at hn;simp at hn;omega)) ?_;intro u2 H2 ha2;refine tail true u2 (n++[l[i]]) H2 (by unfold b2n at hn ⊢;simp at hn ⊢;omega) ?_ ha2;intro t ht;rw[List.mem_append,List.mem_singleton]at ht;rcases ht with ht|rfl
     ·exact pn t ht
     ·simp_all
    ·simp only[go_sem,g,g',hs,qfh,qfo];exact tail false u n H1 hn pn ha1
  ·simp only[go_sem,e0,h1];have:e=m.length:=by omega
   subst this;exact hq u n f H ha hn pn
theorem aCF(hC:bA C){j:Nat}(hj:4<=j){P:Tu->Prop}(hP:∀ t,P t->t.lo){v:AV}{l:List Tu}(hl:l.length<1000)(pl:∀ t∈l,P t){H0:Hp}(hv:Rs 6 Tu.cells H0 v l){Q:pL}{q:pD}(hq:∀ w m H,Ac 6 Tu.cells H0 H w m->m.length<=l.length->(∀t∈m,P t)->Ok (q w H) Q):∀(k i:Nat) (w:AV) (m:List Tu) (H:Hp),i<=l.length->l.length-i<k->m.length<=i->(∀t∈m,P t)->Ac 6 Tu.cells H0 H w m -> Ok (y9 (C j) q v k w (iN i) H) Q
 |0,i,_,_,_,_,h,_,_,_=>by omega
 |k+1,i,w,m,H,hi,hk,hm,pm,ha=>by
  show Ok (q9u (C j) _ _ (y9 (C j) _ _ k) _ _ H) Q;unfold q9u;have e0:=hv.len;by_cases h1:i<l.length
  ·simp only[go_sem,e0,h1];unfold qx6;obtain⟨b,o,e1,e2,e3⟩:=(hv.fm ha.fm).qJ h1;simp only[go_sem,e1,e3];refine Ok.ve (aKq hC (k:=j) (by omega) (ha.rs qfh) (by omega) l[i]) ?_;rintro _ H1 ⟨⟨s,rfl⟩,f1⟩;have ha1:=ha.no f1;by_cases hs:s=Int.ofNat 1
   ·simp only[go_sem,hs];unfold qoq;simp(disch:=omega)only[go_sem];exact aCF hC hj hP hl pl hv hq k (i+1) w m H1 (by omega) (by omega) (by omega) pm ha1
   ·simp only[go_sem,hs];unfold qx7 qyb;rw[dH];have e4:∀ H2,Fm No H1 H2->fU (H2.get b) o 6=some l[i].cells:=fun H2 f2=>by rw[f2.keep (Nat.lt_of_lt_of_le e2 f1.nx),f1.keep e2];exact e3
    refine aIT hC hj hP h1 hl (by omega) pl pm ((hv.fm ha1.fm)) (ha1.rs qfh) ?_ cK 0 false .aA [] H1 (Nat.zero_le _) (by rw[dM];omega) rfl (fun t ht=>by cases ht) (Ac.nil 6 _ (Fm.refl _ _));intro u n f H2 ha2 hn pn;unfold qfm;have e5:=e4 H2 ha2.fm;cases f with
    |true=>unfold quf qoq;simp(disch:=omega)only[go_sem];exact aCF hC hj hP hl pl hv hq k (i+1) u n H2 (by omega) (by omega) (by unfold b2n at hn;simp at hn;omega) pn (Ac.trans ha1.fm ha2)
    |false=>
     simp(disch:=omega)only[go_sem,seval,e1,e5,qfh,qfo];refine Ok.ve ((ha2.no ((Fm.refl No H2).push (aB 0 l[i].cells))).add l[i] 96 rfl (by unfold b2n at hn;simp at hn;omega) (by unfold b2n at hn;simp at hn;omega)) ?_;intro u2 H3 ha3;unfold quf qoq;simp(disch:=omega)only[go_sem];refine aCF hC hj hP hl pl hv hq k (i+1) u2 (n++[l[i]]) H3 (by omega) (by omega) (by unfold b2n at hn;simp at hn ⊢;omega) ?_ (Ac.trans ha1.fm ha3);intro t ht;rw[List.mem_append,List.mem_singleton]at ht;rcases ht with ht|rfl
     ·exact pn t ht
     ·simp_all
  ·simp only[go_sem,e0,h1];exact hq w m H ha (by omega) pm
theorem zeu(hC:bA C)(hk:5<=k){P:Tu->Prop}(hP:∀ t,P t->t.lo){v:AV}{l:List Tu}(hl:l.length<1000)(pl:∀ t∈l,P t)(hv:Rs 6 Tu.cells H v l):Ok (C k (.f 26) [v] H) fun r H'=>∃ m,Ac 6 Tu.cells H H' r m/\m.length<=l.length/\∀ t∈m,P t:=by obtain⟨j,rfl⟩:=aX hk;rw[(hC j).zEd];unfold zEd ztc q9v;rw[dH];refine aCF hC (j:=j) (by omega) hP hl pl hv ?_ cK 0 .aA [] H (Nat.zero_le _) (by rw[dM];omega) (Nat.zero_le _) (fun t ht=>by cases ht) (Ac.nil 6 _ (Fm.refl _ _));intro w m H1 ha hm pm;exact Ok.ret ⟨m,ha,hm,pm⟩
def Lo(s:SS):Prop:=s.n<1000000/\(s.n=0->s.a=0)
def TuR(r:AV):Prop:=∃(t:Tu) (b:Bool),r=.aY [.agg t.cells,.bool b]/\t.lo
theorem aJQ(hC:bA C)(hj:1<=j){x3 x4 x7 x8 p q r s:Nat}{tv:AV}{ts:List jS}{pr:SS×SS}{l1 l3 l4 l5 l6:AV}(h3:H.get x3=aB 0 [.int .u8 (.ofNat p),.int .u8 (.ofNat q),.int .u8 (.ofNat r),.int .u8 (.ofNat s)])(h4:H.get x4=aB 0 [.str 0 0,.str 0 0,.str 0 0,.str 0 0,.str 0 0,.str 0 0])(h7:H.get x7=aB 0 [.str pr.1.n pr.1.a,.str pr.2.n pr.2.a])(h8:H.get x8=aB 0 [l1,tv,l3,l4,l5,l6])(n3:x3<H.nx)(n4:x4<H.nx)(n7:x7<H.nx)(n8:x8<H.nx)(r4:r<256)(ht:Rs 2 tC H tv ts)(hn:ts.length≠0)(hn2:ts.length<=100)(lp:pr.1.n<1000000/\pr.2.n<1000000)(lt:∀ t∈ts,Lo t.sp/\Lo t.rl):Ok (qqx (C j) (.ptr x3 0) (.ptr x4 0) (.ptr x7 0) (.ptr x8 0) H) fun r H'=>Fm (· =x4) H H'/\TuR r:=by
 have e5:=ht.len;have hi:r%ts.length<ts.length:=Nat.mod_lt _ (by omega);obtain⟨b,o,e1,e2,e3⟩:=ht.qJ hi;have i1:fD 4 1 (.ptr x3 0) (iN 1)=.val (.ptr x3 1):=id rfl;have i2:fD 4 1 (.ptr x3 0) (iN 2)=.val (.ptr x3 2):=id rfl;have i3:fD 4 1 (.ptr x3 0) (iN 3)=.val (.ptr x3 3):=id rfl;unfold tC SS.v at e3;have lty:=lt _ (List.getElem_mem hi);generalize ts[r%ts.length]=ty at e3 lty;rw[qot];unfold qkj;simp(maxSteps:=2000000) (disch:=first|omega|exact ti rfl|(simp only[np,nq];done)|(simp only[np,nq];omega))only[go_sem,Nat.reduceAdd,Nat.reduceMul,Nat.reduceSub,Nat.reduceLeDiff,Nat.reduceEqDiff,Nat.reduceShiftRight,Nat.reduceAnd,h3,h7,h8,i1,i2,i3,e5,e1,e3];generalize hH:(Hp.mk _ (H.nx+13))=G;have fG:Fm No H G:=by rw[<-hH];exact(((Fm.refl No H).up 13).aG _ _ (by omega)).aG _ _ (by omega)
 have gG:G.get (H.nx+11)=aB 0 [.str ty.sp.n ty.sp.a,.str ty.rl.n ty.rl.a]:=by rw[<-hH];exact eD _ _ _
 have nG:G.nx=H.nx+13:=by rw[<-hH]
 refine Ok.mY (z04 hC (k:=j) (by omega) q _) ?_;rintro _ H1 ⟨⟨u,rfl,u1,u2⟩,f1⟩;have o7:=fG.trans f1;have a3:=(o7.keep n3).trans h3;have a7:=(o7.keep n7).trans h7;have bK:=(f1.keep (b:=H.nx+11) (by omega)).trans gG;simp only[go_sem,seval,a3,a7,bK];refine Ok.mY (z04 hC (k:=j) (by omega) s _) ?_;rintro _ H2 ⟨⟨w,rfl,w1,w2⟩,f2⟩;have f12:=f1.trans f2;have vW:=o7.trans f2;have b3:=(vW.keep n3).trans h3;have b4:=(vW.keep n4).trans h4;have b7:=(vW.keep n7).trans h7;have b11:=(f12.keep (b:=H.nx+11) (by omega)).trans gG;unfold SS.v;simp only[go_sem,seval,b3,b4,b7,b11];refine Ok.ret ⟨?_,⟨pr.1,u,pr.2,ty.sp,w,ty.rl,lty.2.2⟩,true,rfl,lp.1,u2,lp.2,lty.1.1,w2,lty.2.1⟩;exact⟨vW.nx,fun c hc hs=>(dJ _ _ _ _ hs).trans (vW.keep hc)⟩
structure LoX(X:List aR):Prop where
 nm:∀ p∈aN X,Lo p.1/\Lo p.2
 ty:∀ a b g,oJ X a b=some g->∀ t∈g.r.types,Lo t.sp/\Lo t.rl
def tu0:Tu:=⟨sE,sE,sE,sE,sE,sE,fun _=>rfl⟩
theorem zeh:tu0.lo:=by unfold Tu.lo tu0 sE;decide
theorem zha(hX:dK H sv X){a b:SS}{g:bB}(h:oJ X a b=some g):oW H g:=by
 unfold oJ at h;split at h
 ·cases h
 ·rename_i s hs;exact(hX.sp s (List.mem_of_find?_eq_some hs)).rel g (List.mem_of_find?_eq_some h)
theorem zhb(hS:wI X){a b:SS}{g:bB}(h:oJ X a b=some g):g.r.types.length<=100:=by
 unfold oJ at h;split at h
 ·cases h
 ·rename_i s hs;exact hS.t s (List.mem_of_find?_eq_some hs) g (List.mem_of_find?_eq_some h)
theorem zmt(hC:bA C)(hk:4<=k)(hX:dK H sv X)(hS:wI X)(hL:LoX X)(p:Nat)(q r s:Nat)(h4:p<256/\q<256/\r<256/\s<256):Ok (C k (.f 25) [.agg [sv],.agg [.int .u8 (.ofNat p),.int .u8 (.ofNat q),.int .u8 (.ofNat r),.int .u8 (.ofNat s)]] H) fun r H'=>Fm No H H'/\TuR r:=by
 obtain⟨j,rfl⟩:=aX hk;obtain⟨p4,q4,r4,s4⟩:=h4;rw[(hC j).zEc];unfold zEc ztd;simp(disch:=first|omega|exact ti rfl|simp only[np,nq];first|done|omega)only[go_sem];refine Ok.ve (zsj hC (k:=j) (by omega) (hX.fm (by exact fP3)) hS) ?_;intro a H1 ha;have hal:=hS.all X.length;rw[List.take_length]at hal;have e0:=ha.dA;have n1:=ha.fm.nx;simp only[np]at n1;have g0:H1.get H.nx=aB 0 [sv]:=(ha.fm.keep (by simp only[np,nq];omega)).trans (by simp(disch:=first|omega|exact ti rfl|simp only[np,nq];first|done|omega)only[go_sem]);have g1:H1.get (H.nx+1)=aB 0 [.int .u8 (.ofNat p),.int .u8 (.ofNat q),.int .u8 (.ofNat r),.int .u8 (.ofNat s)]:=(ha.fm.keep (by simp only[np,nq];omega)).trans (by simp(disch:=first|omega|exact ti rfl|simp only[np,nq];first|done|omega)only[go_sem]);have g2:H1.get (H.nx+1+1)=aB 0 tu0.cells:=(ha.fm.keep (by simp only[np,nq];omega)).trans (by simp(disch:=first|omega|exact ti rfl|simp only[np,nq];first|done|omega)only[go_sem];rfl);have f1:Fm No H H1:=Fm.trans (by exact fP3) ha.fm;unfold tu0 Tu.cells SS.v sE at g2;by_cases hz:(aN X).length=0
 ·simp only[go_sem,seval,e0,hz,g2];refine Ok.ret ⟨?_,tu0,false,rfl,zeh⟩;exact f1.aG _ _ (by omega)
 ·simp only[go_sem,e0,hz];rw[qor];unfold qki;have hi:p%(aN X).length<(aN X).length:=Nat.mod_lt _ (by omega);obtain⟨b,o,e1,e2,e3⟩:=(ha.rs (f:=pC) fun _=>rfl).qJ hi;have i0:fD 4 1 (.ptr (H.nx+1) 0) (iN 0)=.val (.ptr (H.nx+1) 0):=id rfl;have hpm:(aN X)[p%(aN X).length]∈aN X:=List.getElem_mem hi;generalize (aN X)[p%(aN X).length]=pr at e3 hpm;unfold pC SS.v at e3;simp(disch:=first|omega|exact ti rfl|simp only[np,nq];first|done|omega)only[go_sem,rB,rI,rK,rL,rN,rS,r6,i0,g1,e0,e1,e3,g0];refine Ok.ve (zyk hC (k:=j) (by omega) (X:=X) ((hX.fm f1).fm (by exact mO)) (by have:=hS.n;omega) (fun g hg=>by have:=hS.r g hg;omega) pr.1 pr.2) ?_;rintro fr H2 ⟨f2,hf⟩;have n2:=f2.nx;simp only[np,nq]at n2;have k0:H2.get H1.nx=aB 0 [.str pr.1.n pr.1.a,.str pr.2.n pr.2.a]:=(f2.keep (by simp only[np,nq];omega)).trans (by simp only[go_sem]);have k1:H2.get (H.nx+1)=aB 0 [.int .u8 (.ofNat p),.int .u8 (.ofNat q),.int .u8 (.ofNat r),.int .u8 (.ofNat s)]:=(f2.keep (by simp only[np,nq];omega)).trans (by simp(disch:=omega)only[go_sem,g1]);have k2:H2.get (H.nx+1+1)=aB 0 [.str 0 0,.str 0 0,.str 0 0,.str 0 0,.str 0 0,.str 0 0]:=(f2.keep (by simp only[np,nq];omega)).trans (by simp(disch:=omega)only[go_sem,g2]);have vW:Fm No H H2:=Fm.trans (Fm.trans f1 (by exact mO)) f2;unfold zyl at hf;cases hg:oJ X pr.1 pr.2 with
  |none=>rw[hg]at hf;subst hf;unfold q06;simp(disch:=first|omega|exact ti rfl)only[go_sem,seval,k2];refine Ok.ret ⟨?_,tu0,false,rfl,zeh⟩;exact Fm.aG (Fm.aG (vW.push _) _ _ (by omega)) _ _ (by omega)
  |some g=>
   rw[hg]at hf;subst hf;have hr:=(zha hX hg).fm vW;have hn:=zhb hS hg;have ht:=hr.ty;have e5:=ht.len;unfold iI SS.v;by_cases hz2:g.r.types.length=0
   ·simp(disch:=first|omega|exact ti rfl)only[go_sem,seval,e5,hz2,k2];refine Ok.ret ⟨?_,tu0,false,rfl,zeh⟩;exact Fm.aG (Fm.aG (vW.push _) _ _ (by omega)) _ _ (by omega)
   ·simp(disch:=first|omega|exact ti rfl|simp only[np,nq];first|done|omega)only[go_sem,rB,rI,rK,rL,rN,rS,r6,e5,hz2,k2];have hmem:pr∈aN X:=hpm;refine Ok.mono (aJQ hC (j:=j) (by omega) (H:=((aS H2 _).put H2.nx _)) (x8:=H2.nx) (pr:=pr) (p:=p) (q:=q) (r:=r) (s:=s) (ts:=g.r.types) (tv:=g.tv) (l1:=.str g.r.name.n g.r.name.a) (l3:=g.cs.getD 0 .undef) (l4:=g.cs.getD 1 .undef) (l5:=g.cs.getD 2 .undef) (l6:=g.cs.getD 3 .undef) ?_ ?_ ?_ ?_ ?_ ?_ ?_ ?_ r4 ?_ hz2 hn ⟨(hL.nm _ hmem).1.1,(hL.nm _ hmem).2.1⟩ (hL.ty _ _ _ hg)) ?_
    ·simp(disch:=omega)only[go_sem,k1]
    ·simp(disch:=omega)only[go_sem,k2]
    ·simp(disch:=omega)only[go_sem,k0]
    ·exact eD _ _ _
    ·simp only[go_sem]<;>omega
    ·simp only[go_sem]<;>omega
    ·simp only[go_sem]<;>omega
    ·simp only[go_sem]<;>omega
    ·exact ht.fm (((Fm.refl No H2).push _).aG _ _ (by omega))
    ·rintro r H3 ⟨f3,h3⟩;refine⟨?_,h3⟩;exact Fm.then (Fm.aG (vW.push _) _ _ (by omega)) f3 fun c hc h=>by omega
structure Q4 where
 p:Nat
 q:Nat
 r:Nat
 s:Nat
 b:p<256/\q<256/\r<256/\s<256
def Q4.cells(x:Q4):List AV:=[.int .u8 (.ofNat x.p),.int .u8 (.ofNat x.q),.int .u8 (.ofNat x.r),.int .u8 (.ofNat x.s)]
theorem qtx(hC:bA C){j:Nat}(hj:4<=j){H0:Hp}{x1 x4:Nat}{cv lv sv:AV}{ls:List Q4}{X:List aR}(hX:dK H0 sv X)(hS:wI X)(hL:LoX X)(h1:H0.get x1=aB 0 [cv,lv])(h4:H0.get x4=aB 0 [sv])(n1:x1<H0.nx)(n4:x4<H0.nx)(hl:Rs 4 Q4.cells H0 lv ls){Q:pL}{q:pD}(hq:∀ w m H,Ac 6 Tu.cells H0 H w m->m.length<=20->(∀t∈m,t.lo)->Ok (q w H) Q):∀(k i:Nat) (w:AV) (m:List Tu) (H:Hp),i<=20->20-i<k->m.length<=i->(∀t∈m,t.lo)->Ac 6 Tu.cells H0 H w m -> Ok (qiq (C j) q (.ptr x1 0) (.ptr x4 0) k w (iN i) H) Q
 |0,i,_,_,_,_,h,_,_,_=>by omega
 |k+1,i,w,m,H,hi,hk,hm,pm,ha=>by
  show Ok (qye (C j) _ _ _ (qiq (C j) _ _ _ k) _ _ H) Q;unfold qye;have g1:=(ha.fm.keep n1).trans h1;have g4:=(ha.fm.keep n4).trans h4;have e0:=hl.len;by_cases c1:i<ls.length
  ·by_cases c2:i<20
   ·simp only[go_sem,g1,e0,c1,c2];unfold qyd;obtain⟨b,o,e1,e2,e3⟩:=(hl.fm ha.fm).qJ c1;simp only[go_sem,seval,g1,g4,e1,e3];have fu:Fm No H ⟨H.t,H.nx+13⟩:=(Fm.refl No H).up 13;refine Ok.mY (zmt hC (k:=j) hj ((hX.fm ha.fm).fm fu) hS hL ls[i].p ls[i].q ls[i].r ls[i].s ls[i].b) ?_;rintro _ H1 ⟨f1,t,bb,rfl,lo⟩;have o7:=fu.trans f1;have k1:=(o7.keep (Nat.lt_of_lt_of_le n1 ha.fm.nx)).trans g1;have k4:=(o7.keep (Nat.lt_of_lt_of_le n4 ha.fm.nx)).trans g4;have k3:fU (H1.get b) o 4=some ls[i].cells:=by rw[o7.keep e2];exact e3
    simp(disch:=first|omega|exact ti rfl|simp only[np,nq];first|done|omega)only[go_sem,seval,k1,k4,k3,qfh,qfo];have hz:Fm No H ((H1.put (H.nx+10) (aB 0 [.str 0 0,.str 0 0,.str 0 0,.str 0 0,.str 0 0,.str 0 0])).put (H.nx+10) (aB 0 t.cells)):=(o7.aG _ _ (by omega)).aG _ _ (by omega);cases bb with
    |true=>
     refine Ok.ve ((ha.no (hz.push (aB 0 t.cells))).add t 96 rfl (by omega) (by omega)) ?_;intro w2 H2 ha2;unfold qlb;simp(disch:=omega)only[go_sem];refine qtx hC hj hX hS hL h1 h4 n1 n4 hl hq k (i+1) w2 (m++[t]) H2 (by omega) (by omega) (by simp;omega) ?_ ha2;intro y hy;rw[List.mem_append,List.mem_singleton]at hy;rcases hy with hy|rfl
     ·exact pm y hy
     ·exact lo
    |false=>unfold qlb;simp(disch:=omega)only[go_sem];exact qtx hC hj hX hS hL h1 h4 n1 n4 hl hq k (i+1) w m _ (by omega) (by omega) (by omega) pm (ha.no hz)
   ·simp only[go_sem,g1,e0,c1,c2];exact hq w m H ha (by omega) pm
  ·simp only[go_sem,g1,e0,c1];exact hq w m H ha (by omega) pm
theorem zym(hC:bA C)(hk:21<=k){v:AV}{L:List (List Nat)}(hv:gN H v L):Ok (C k (.f 24) [.agg [v]] H) fun r H'=>∃ sv X,r=.agg [sv]/\kP H' sv X/\(∀b,In sv b->H.nx<=b)/\(∀g∈X,H.nx<=g.A)/\X.map aR.sp=uP L/\Fm No H H':=by
 obtain⟨j,rfl⟩:=aX hk;rw[(hC j).zAc];unfold zAc zvf;simp(disch:=first|omega|exact ti rfl|simp only[np,nq];first|done|omega)only[go_sem,seval];unfold zd0;rw[dH];have f0:Fm No H (aS (aS H (aB 0 [v])) (aB 0 [.aA])):=by exact qD
 have hv0:=hv.fm f0;refine zf1 hC (by omega) (H0:=aS (aS H (aB 0 [v])) (aB 0 [.aA])) (cb:=H.nx) (sb:=H.nx+3) hv0 (fun H1 sv l g hI hS=>?_) cK 0 [] ⟨sU,[],.aA,H.nx+4,H.nx+4⟩ (.sl (H.nx+2) 0 1 1 true) _ (Nat.zero_le _) (by have:bG L<=12:=Nat.min_le_right _ _;rw[dM];omega) ⟨?_,?_,?_,?_,?_,?_,?_,?_,?_,?_,?_,?_⟩ (.inl ⟨rfl,rfl,rfl⟩)
 ·rw[qpf];unfold qse zd3;rw[dH];have hraw:=hS.raw;refine ql6 hC (by omega) (H0:=aS (aS H (aB 0 [v])) (aB 0 [.aA])) (sb:=H.nx+3) (sv:=sv) (S:=rA L) ?_ (fun p hp=>?_) (fun X H2 hX hI2=>?_) cK 1 (l++[g]) H1 ?_ ?_ ?_ ⟨hI.m,fun x hx=>⟨hI.an x hx,?_⟩,hI.sbk,⟨hI.sbl.1,hI.sbl.2.2⟩,fun b hb=>(hI.rU b hb).1,hI.fm⟩
  ·unfold rA;have:bG L<=12:=Nat.min_le_right _ _;simp;omega
  ·have h1:=zff hp;refine⟨by omega,fun r hr=>?_⟩;obtain⟨n,_,rfl⟩:=h1.2 r hr;have:=qmf L n;omega
  ·rw[quu];unfold qz0;have e0:=hI2.sbk;have nx2:=hI2.fm.nx;have er:H2.get (H.nx+1)=aB 0 [.aA]:=(hI2.fm.keep (by simp only[np,nq];omega)).trans (by simp(disch:=first|omega|exact ti rfl|simp only[np,nq];first|done|omega)only[go_sem]);have fF:Fm (fun b=>b=H.nx+1) H2 (H2.put (H.nx+1) (aB 0 [sv])):=(Fm.refl _ _).put _ _ fun _=>rfl;have sb2:=hI2.sbl;simp only[go_sem,seval,e0,er];refine Ok.ret ⟨sv,X,rfl,(hI2.m.iQ fF (fun b hb h=>?_) (fun g hg b h1 _ h=>?_)),fun b hb=>?_,fun g hg=>?_,hX,(f0.trans hI2.fm).then fF fun c hc h=>?_⟩
   ·have:=hI2.rU b hb;simp only[np]at this;omega
   ·have:=(hI2.an g hg).1;simp only[np]at this;omega
   ·have:=hI2.rU b hb;simp only[np]at this;omega
   ·have:=(hI2.an g hg).1;simp only[np]at this;omega
   ·omega
  ·have:=hS.len (Nat.min_le_right _ _);rw[<-hraw];simp
  ·rw[<-hraw];have:=hS.len (Nat.min_le_right _ _);rw[dM];simp;omega
  ·trivial
  ·rw[List.mem_append,List.mem_singleton]at hx;rcases hx with hx|rfl
   ·exact hI.sbd x hx
   ·have:=hI.sbl;omega
 ·exact⟨by simp only[np,nq];omega,by simp(disch:=first|omega|exact ti rfl|simp only[np,nq];first|done|omega)only[go_sem]⟩
 ·simp only[go_sem]
 ·simp only[np,nq];omega
 ·simp
 ·left;omega
 ·constructor<;>(rintro ⟨_,_,_,_,h⟩;injection h;omega)
 ·rintro b ⟨_,_,_,_,h⟩;cases h;simp only[np];omega
 ·simp
 ·refine⟨⟨rfl,.inr ⟨H.nx+2,0,true,0,_,rfl,?_,Nat.zero_le _,rfl,.inl rfl,?_⟩⟩,List.pairwise_singleton _ _,fun x hx=>?_,fun x hx b hb=>?_⟩
  ·simp(disch:=first|omega|exact ti rfl|simp only[np,nq];first|done|omega)only[go_sem];rfl
  ·simp only[np,nq];omega
  ·rw[List.nil_append,List.mem_singleton]at hx;subst hx;exact⟨qP.nil _ _ _,by simp only[np,nq];omega⟩
  ·simp_all
 ·intro x hx;rw[List.nil_append,List.mem_singleton]at hx;subst hx;simp only[np];omega
 ·simp only[np,nq];omega
 ·repeat first|exact Fm.refl _ _|assumption|refine Fm.push ?_ _|refine Fm.aG ?_ _ _ (by simp only[np,nq];omega)
theorem z08(hC:bA C)(hk:22<=k){cv lv:AV}{L:List (List Nat)}{ls:List Q4}(hv:gN H cv L)(hl:Rs 4 Q4.cells H lv ls)(hX:∀ X:List aR,X.map aR.sp=uP L->wI X/\LoX X):Ok (C k (.f 7) [.agg [cv,lv]] H) fun r H'=>∃ sv X w m,r=.aY [.agg [sv],w]/\dK H' sv X/\X.map aR.sp=uP L/\Rs 6 Tu.cells H' w m/\m.length<=20/\(∀t∈m,t.lo)/\Fm No H H':=by
 obtain⟨j,rfl⟩:=aX hk;rw[(hC j).zDw];unfold zDw zte;simp(disch:=first|omega|exact ti rfl|simp only[np,nq];first|done|omega)only[go_sem];refine Ok.ve (zym hC (k:=j) (by omega) (hv.fm (by exact qD))) ?_;rintro _ H1 ⟨sv,X,rfl,hM,hsb,hga,hm,f1⟩;have hs:=hM.sr;simp only[np]at hsb hga;obtain⟨hS,hL⟩:=hX X hm;have n1:=f1.nx;simp only[np]at n1;have g0:H1.get H.nx=aB 0 [cv,lv]:=(f1.keep (by simp only[np,nq];omega)).trans (by simp(disch:=first|omega|exact ti rfl|simp only[np,nq];first|done|omega)only[go_sem]);have g1:H1.get (H.nx+1)=aB 0 [.aA]:=(f1.keep (by simp only[np,nq];omega)).trans (by simp(disch:=first|omega|exact ti rfl|simp only[np,nq];first|done|omega)only[go_sem]);have o7:Fm No H H1:=Fm.trans (by exact qD) f1;simp(disch:=omega)only[go_sem,seval];unfold qyf;rw[dH];generalize hG:(Hp.put _ H1.nx _)=G;have fG:Fm No H1 G:=by rw[<-hG];exact((Fm.refl No H1).push _).aG _ _ (Nat.le_refl _)
 have nG:H1.nx<G.nx:=by rw[<-hG];simp only[np,nq];omega
 have gG:G.get H1.nx=aB 0 [sv]:=by rw[<-hG];exact eD _ _ _
 have a0:=(fG.keep (b:=H.nx) (by omega)).trans g0;have a1:=(fG.keep (b:=H.nx+1) (by omega)).trans g1;refine qtx hC (j:=j) (by omega) (hs.fm fG) hS hL a0 gG (by omega) nG (hl.fm (o7.trans fG)) ?_ cK 0 .aA [] G (by omega) (by rw[dM];omega) (Nat.zero_le _) (fun t ht=>by cases ht) (Ac.nil 6 _ (Fm.refl _ _));intro w m H2 ha hm2 pm;unfold qg3;have b0:=(ha.fm.keep nG).trans gG;simp only[go_sem,b0];refine Ok.mY (zeu hC (k:=j) (by omega) (P:=Tu.lo) (fun _ h=>h) (by omega) pm (ha.rs qfh)) ?_;rintro w2 H3 ⟨m2,ha2,hm3,pm2⟩;have b1:=(ha2.fm.keep (Nat.lt_of_lt_of_le nG ha.fm.nx)).trans b0;have a2:=((ha.fm.trans ha2.fm).keep (b:=H.nx+1) (by have:=fG.nx;omega)).trans a1;simp only[go_sem,seval,b1,a2];have eS:nV 64 (.agg [sv]) (.agg [sv])=true:=qjm [sv] (by have:=hs.fl;simp only[List.all_cons,List.all_nil,this,List.length_cons,List.length_nil];rfl);rw[eS];have fA:=(fG.trans ha.fm).trans ha2.fm;have nA:=fA.nx;have n2:=ha.fm.nx;have fB:Fm (fun b=>b=H.nx+1) H1 (H3.put (H.nx+1) (aB 0 [sv])):=⟨nA,fun c hc h=>(dJ _ _ _ _ h).trans (fA.keep hc)⟩;have fC:Fm (fun b=>b=H.nx+1) H3 (H3.put (H.nx+1) (aB 0 [sv])):=(Fm.refl _ _).put _ _ fun _=>rfl;refine Ok.ret ⟨sv,X,w2,m2,rfl,(hM.iQ fB (fun b hb h=>?_) (fun g hg b h1 _ h=>?_)).sr,hm,(ha2.rs qfh).iQ fC (fun b hb h=>?_),by omega,pm2,(o7.trans fA).aG _ _ (by omega)⟩
 ·have:=hsb b hb;omega
 ·have:=hga g hg;omega
 ·have:H2.nx<=b:=ha2.nw b hb;omega
end Go.Di
end
noncomputable section
namespace Go.Di
open Go.Ev Go.Di.T Go.Sort
variable {C:Nat->Ev.Call} {LA LO:LP} {L:List (List Nat)} {X:List aR}
variable {H:Hp} {i k:Nat} {l:List AV}
theorem zgn{n a:Nat}(h:0<n/\n<1000000):Lo ⟨n,a⟩:=⟨h.2,fun e=>absurd (show n=0 from e) (by omega)⟩
theorem mM.lo(h:mM L X):LoX X:=by
 have hn:∀ s∈X.map aR.name,Lo s:=fun s hs=>by
  rw[h.names,List.mem_cons,List.mem_map]at hs;rcases hs with rfl|⟨i,_,rfl⟩
  ·trivial
  ·exact zgn (by omega)
 have ha:∀ p∈aN X,Lo p.1/\Lo p.2:=fun p hp=>by rw[h.all,List.mem_map]at hp;obtain⟨k,_,rfl⟩:=hp;exact⟨zgn (by omega),zgn (by omega)⟩
 refine⟨ha,fun a b g hg t ht=>?_⟩;unfold oJ at hg;split at hg
 ·cases hg
 ·rename_i s hs;obtain⟨_,h2⟩:=h.val.ty s (List.mem_of_find?_eq_some hs) g (List.mem_of_find?_eq_some hg);obtain⟨h3,h4⟩:=h2 t ht;refine⟨hn _ h3,?_⟩;rcases h4 with e|h4
  ·rw[e];exact⟨by decide,fun _=>rfl⟩
  ·exact(ha _ h4).2
def ltS(s t:SS):Bool:=qdl s.n s.n s.a t.n t.a
def nL(p q:SS×SS):Bool:=ltS p.1 q.1||(decide (p.1=q.1)&&ltS p.2 q.2)
theorem q3o(s t:SS):gH (mP .lss).f (.str s.n s.a) (.str t.n t.a)=.val (.bool (ltS s t)):=id rfl
theorem qkp(s t:SS):gH (mP .eql).f (.str s.n s.a) (.str t.n t.a)=.val (.bool (decide (s=t))):=by have:=wJ s t;have e:gH (mP .eql).f (.str s.n s.a) (.str t.n t.a)=.val (.bool (Nat.beq s.n t.n&&Nat.beq s.a t.a)):=rfl;have e2:bZ s.v t.v=some (Nat.beq s.n t.n&&Nat.beq s.a t.a):=rfl;simp_all
theorem zoa(hC:bA C)(hk:1<=k)(p q:SS×SS)(H:Hp):Ok (C k (.f 63) [.agg (pC p),.agg (pC q)] H) fun r H'=>r=.bool (nL p q)/\Fm No H H':=by
 obtain⟨j,rfl⟩:=aX hk;rw[(hC j).zFu];unfold zFu zsl pC SS.v;have e1:=q3o p.1 q.1;have e2:=qkp p.1 q.1;have e3:=q3o p.2 q.2;have f:∀ c d,Fm No H (aS (aS H c) d):=fun c d=>by exact qD
 unfold nL;cases h1:ltS p.1 q.1 with
 |true=>rw[h1]at e1;simp(disch:=first|omega|exact ti rfl|simp only[np,nq];first|done|omega)only[go_sem,e1];exact Ok.ret ⟨rfl,f _ _⟩
 |false=>
  rw[h1]at e1;by_cases h2:p.1=q.1
  ·rw[decide_eq_true h2]at e2 ⊢;simp(disch:=first|omega|exact ti rfl|simp only[np,nq];first|done|omega)only[go_sem,e1,e2,e3];exact Ok.ret ⟨by simp,f _ _⟩
  ·rw[decide_eq_false h2]at e2 ⊢;simp(disch:=first|omega|exact ti rfl|simp only[np,nq];first|done|omega)only[go_sem,e1,e2];exact Ok.ret ⟨by simp,f _ _⟩
theorem zil(b:Bool):mQ false (some b)=.val (.bool b):=id rfl
theorem wG(p:SS×SS):(pC p).length=2:=id rfl
theorem qec(p:SS×SS):List.take 2 (pC p)=pC p:=id rfl
theorem aET(p q:SS×SS):gW (eqFields [(p1,⟨bZ⟩,0),(p1,⟨bZ⟩,1)]) (.agg (pC p)) (.agg (pC q))=some (decide (p=q)):=qt1 p q
theorem qwm{call:Ev.Call}{H:Hp}{v:AV}{l:List (SS×SS)}{x:SS×SS}{xb:Nat}(hv:Rs 2 pC H v l)(hx:H.get xb=aB 0 (pC x))(hn:l.length<=1000){Q:pL}{qr:pD}{q:pH}(hr:x∈l->Ok (qr (.bool true) H) Q)(hq:x∉l->Ok (q H) Q):∀(k i:Nat),i<=l.length->l.length-i<k->x∉l.take i->Ok (qn7 call qr q v (.ptr xb 0) k (iN i) H) Q
 |0,i,_,h,_=>by omega
 |k+1,i,hi,hk,hm=>by
  show Ok (q8i call _ _ _ _ (qn7 call _ _ _ _ k) _ H) Q;unfold q8i;have e0:=hv.len;by_cases hlt:i<l.length
  ·simp only[go_sem,e0,hlt];unfold q8g;obtain⟨b,o,e1,_,e2⟩:=hv.qJ hlt;have e3:=aET l[i] x;by_cases h:l[i]=x
   ·rw[decide_eq_true h]at e3;simp only[go_sem,seval,e1,e2,hx,wG,qec,e3,zil];exact hr (by rw[<-h];exact List.getElem_mem hlt)
   ·rw[decide_eq_false h]at e3;simp only[go_sem,seval,e1,e2,hx,wG,qec,e3,zil];unfold q8h;simp(disch:=omega)only[go_sem];refine qwm hv hx hn hr hq k (i+1) (by omega) (by omega) fun hc=>?_;rw[List.take_succ_eq_append_getElem hlt,List.mem_append,List.mem_singleton]at hc;simp_all
  ·simp only[go_sem,e0,hlt];exact hq (by rw[List.take_of_length_le (by omega)]at hm;exact hm)
theorem zxb(hC:bA C)(hk:1<=k){v:AV}{l:List (SS×SS)}(hv:Rs 2 pC H v l)(hn:l.length<=1000)(x:SS×SS):Ok (C k (.f 62) [v,.agg (pC x)] H) fun r H'=>r=.bool (decide (x∈l))/\Fm No H H':=by
 obtain⟨j,rfl⟩:=aX hk;rw[(hC j).zFt];unfold zFt zsm;have eb:bJ 2 H.nx (.agg (pC x))=.new (.ptr H.nx 0) (aB 0 (pC x)):=id rfl;have f:Fm No H (aS H (aB 0 (pC x))):=by exact lT
 simp only[go_sem,eb];unfold q8j;rw[dH];refine qwm (x:=x) (hv.fm f) (by simp(disch:=omega)only[go_sem]) hn (fun h=>Ok.ret ⟨by rw[decide_eq_true h],f⟩) (fun h=>?_) cK 0 (Nat.zero_le _) (by rw[dM];omega) (by simp);exact Ok.ret ⟨by rw[decide_eq_false h],f⟩
def mD(x:SS×SS):List (SS×SS)->List (SS×SS)
 | []=>[x]
 |y::l=>if nL x y then x::y::l else y::mD x l
theorem qm4(x y:SS×SS)(l:List (SS×SS)):mD x (y::l)=if nL x y then x::y::l else y::mD x l:=rfl
def pO(l:List (SS×SS))(x:SS×SS):List (SS×SS):=if x∈l then l else mD x l
theorem qtq(x:SS×SS):∀ l,(mD x l).length=l.length+1
 | []=>rfl
 |y::l=>by
  unfold mD;split
  ·rfl
  ·rw[List.length_cons,qtq x l,List.length_cons]
theorem qs9(l:List (SS×SS))(x:SS×SS):(pO l x).length<=l.length+1:=by
 unfold pO;split
 ·omega
 ·rw[qtq];exact Nat.le_refl _
theorem qvy(hC:bA C){j:Nat}(hj:1<=j){H0:Hp}{v:AV}{l:List (SS×SS)}{x:SS×SS}{xb:Nat}(hv:Rs 2 pC H0 v l)(hx:H0.get xb=aB 0 (pC x))(hxl:xb<H0.nx)(hn:l.length<=1000){Q:pL}{q:AV->pD}(hq:∀ w b m H,Ac 2 pC H0 H w m->m++(if b then[]else[x])=mD x l->Ok (q w (.bool b) H) Q):∀(k i:Nat) (w:AV) (b:Bool) (m:List (SS×SS)) (H:Hp),i<=l.length->l.length-i<k->Ac 2 pC H0 H w m->m.length<=2*i->m++(if b then l.drop i else mD x (l.drop i))=mD x l -> Ok (qjz (C j) q v (.ptr xb 0) k w (.bool b) (iN i) H) Q
 |0,i,_,_,_,_,_,h,_,_,_=>by omega
 |k+1,i,w,b,m,H,hi,hk,ha,hml,hm=>by
  show Ok (q8o (C j) _ _ _ (qjz (C j) _ _ _ k) _ _ _ H) Q;unfold q8o;have e0:=hv.len;by_cases hlt:i<l.length
  ·simp only[go_sem,e0,hlt];unfold qxm;have hdr:=List.drop_eq_getElem_cons hlt;have hf:=ha.fm;obtain⟨b1,o1,e1,e2,e3⟩:=(hv.fm hf).qJ hlt;have gx:=(hf.keep hxl).trans hx;have nxf:=hf.nx;have fin:∀(w:AV) (b:Bool) (m:List (SS×SS)) (H:Hp),Ac 2 pC H0 H w m->m.length<=2*i+1->m++l[i]::(if b then l.drop (i+1)else mD x (l.drop (i+1)))=mD x l->Ok (qk5 (C j) (qjz (C j) q v (.ptr xb 0) k) v w (.bool b) (iN i) H) Q:=fun w b m H ha hml hm=>by
    unfold qk5;obtain⟨b1,o1,e1,e2,e3⟩:=(hv.fm ha.fm).qJ hlt;simp(disch:=omega)only[go_sem,seval,e1,e3,wG,qec];refine Ok.ve ((ha.no ((Fm.refl No H).push (aB 0 (pC l[i])))).add l[i] 32 rfl (by omega) (by omega)) ?_;intro w2 H2 h2;unfold q8m;simp(disch:=omega)only[go_sem];refine qvy hC hj hv hx hxl hn hq k (i+1) w2 b (m++[l[i]]) H2 (by omega) (by omega) h2 (by simp;omega) ?_;rw[List.append_assoc];exact hm
   cases b with
   |true=>simp only[go_sem,e1,e3,gx,wG,qec];refine fin w true m _ ha (by omega) ?_;simp_all
   |false=>
    simp only[go_sem,seval,e1,e3,gx,wG,qec];refine Ok.mY (zoa hC hj x l[i] _) ?_;rintro _ H2 ⟨rfl,f2⟩;replace f2:Fm No H H2:=f2;have gx2:=(f2.keep (by omega)).trans gx;have e32:fU (H2.get b1) o1 2=some (pC l[i]):=by rw[f2.keep e2];exact e3
    rw[hdr,qm4,if_neg (by decide)]at hm;cases hb:nL x l[i]with
    |true=>rw[hb,if_pos rfl]at hm;simp(disch:=omega)only[go_sem,seval,gx2,e32,wG,qec];refine Ok.ve (((ha.no f2).no ((Fm.refl No H2).push (aB 0 (pC x)))).add x 32 rfl (by omega) (by omega)) ?_;intro w2 H3 h3;refine fin w2 true (m++[x]) H3 h3 (by simp;omega) ?_;simp_all
    |false=>rw[hb,if_neg (by decide)]at hm;simp only[go_sem,gx2,e32,wG,qec];exact fin w false m H2 (ha.no f2) (by omega) hm
  ·simp only[go_sem,e0,hlt];have he:i=l.length:=by omega
   refine hq w b m H ha ?_;rw[he,List.drop_length]at hm;exact hm
theorem q0x(hC:bA C)(hk:2<=k){v:AV}{l:List (SS×SS)}(hv:Rs 2 pC H v l)(hn:l.length<=1000)(x:SS×SS):Ok (C k (.f 33) [v,.agg (pC x)] H) fun r H'=>Rs 2 pC H' r (pO l x)/\Fm No H H':=by
 obtain⟨j,rfl⟩:=aX hk;rw[(hC j).zFn];unfold zFn zsp;have eb:bJ 2 H.nx (.agg (pC x))=.new (.ptr H.nx 0) (aB 0 (pC x)):=id rfl;have f:Fm No H (aS H (aB 0 (pC x))):=by exact lT
 simp(disch:=omega)only[go_sem,eb,wG,qec];refine Ok.ve (zxb hC (k:=j) (by omega) (hv.fm f) hn x) ?_;rintro _ H1 ⟨rfl,f1⟩;have o7:=f.trans f1;have g1:H1.get H.nx=aB 0 (pC x):=(f1.keep (by simp only[np,nq];omega)).trans (lI _ _);have n1:=f1.nx;simp only[np]at n1;unfold pO;by_cases h:x∈l
 ·rw[if_pos h,decide_eq_true h];exact Ok.ret ⟨hv.fm o7,o7⟩
 ·rw[if_neg h,decide_eq_false h];unfold qxl q8p;rw[dH];refine qvy hC (by omega) (hv.fm o7) g1 (by omega) hn (fun w b m H2 ha hm=>?_) cK 0 .aA false [] H1 (Nat.zero_le _) (by rw[dM];omega) (Ac.nil 2 _ (Fm.refl _ _)) (Nat.zero_le _) (by simp);unfold qj0;have g2:=(ha.fm.keep (by omega)).trans g1;cases b with
  |true=>rw[if_pos rfl,List.append_nil]at hm;exact Ok.ret ⟨by rw[<-hm];exact ha.rs wG,o7.trans ha.fm⟩
  |false=>rw[if_neg (by decide)]at hm;have hl:=qtq x l;rw[<-hm,List.length_append,List.length_singleton]at hl;simp(disch:=omega)only[go_sem,seval,g2,wG,qec];refine Ok.ve ((ha.no ((Fm.refl No H2).push (aB 0 (pC x)))).add x 32 rfl (by omega) (by omega)) ?_;intro w2 H3 h3;exact Ok.ret ⟨by rw[<-hm];exact h3.rs wG,o7.trans h3.fm⟩
theorem q0s{d:Nat}(c:TT AV d):∀(a b o:Nat),Ev.q8 c (a+b) o=Ev.q8 c a o++Ev.q8 c b (o+a)
 |0,b,o=>by rw[Nat.zero_add];rfl
 |a+1,b,o=>by rw[Nat.add_right_comm];show _::Ev.q8 c (a+b) (o+1)=_::(Ev.q8 c a (o+1)++Ev.q8 c b (o+(a+1)));rw[q0s c a b (o+1),show o+1+a=o+(a+1)by omega]
theorem q0r{d:Nat}(c:TT AV d):∀(a o:Nat),(Ev.q8 c a o).length=a
 |0,_=>rfl
 |a+1,o=>congrArg (· +1) (q0r c a (o+1))
theorem qgg{B:bM}{o n:Nat}(h:fU B o n=some l)(hik:i+k<=n):fU B (o+i) k=some ((l.drop i).take k):=by
 unfold fU at h ⊢;split at h
 ·rename_i m c _ _;simp only[ble_eq]at h ⊢;by_cases hc:o+n<=m
  ·rw[decide_eq_true hc]at h;rw[decide_eq_true (by omega)];injection h with h;rw[cond_true,<-h,show n=i+(k+(n-i-k))by omega,q0s,q0s,List.drop_left' (q0r _ _ _),List.take_left' (q0r _ _ _)]
  ·simp_all
 ·cases h
def vY(o:List (SS×SS))(t:Tu):List (SS×SS):=pO (pO o (t.a,t.b)) (t.x,t.y)
def wD(o:List (SS×SS))(t:Tu):List (SS×SS):=if t.z=sE then pO o (t.x,t.y)else o
theorem q7h{α:Type}(f:α->Tu->α)(o:α){l:List Tu}(h:i<l.length):(l.take (i+1)).foldl f o=f ((l.take i).foldl f o) l[i]:=by rw[List.take_succ_eq_append_getElem h,List.foldl_append];rfl
theorem zfj(hC:bA C){j:Nat}(hj:2<=j){H0:Hp}{v:AV}{l:List Tu}(hv:Rs 6 Tu.cells H0 v l)(hn:l.length<=20){Q:pL}{q:pD}(hq:∀ w H,Rs 2 pC H w (l.foldl vY [])->Fm No H0 H->Ok (q w H) Q):∀(k i:Nat) (w:AV) (H:Hp),i<=l.length->l.length-i<k->Rs 2 pC H w ((l.take i).foldl vY [])->((l.take i).foldl vY []).length<=2*i->Fm No H0 H -> Ok (qok (C j) q v k w (iN i) H) Q
 |0,i,_,_,_,h,_,_,_=>by omega
 |k+1,i,w,H,hi,hk,hw,hwl,hf=>by
  show Ok (q9d (C j) _ _ (qok (C j) _ _ k) _ _ H) Q;unfold q9d;have e0:=hv.len;by_cases hlt:i<l.length
  ·simp only[go_sem,e0,hlt];unfold qxt;obtain⟨b1,o1,e1,e2,e3⟩:=(hv.fm hf).qJ hlt;have r1:fU (H.get b1) o1 2=some (pC (l[i].a,l[i].b)):=qgg (i:=0) e3 (by decide);have r2:fU (H.get b1) (o1+3) 2=some (pC (l[i].x,l[i].y)):=qgg (i:=3) e3 (by decide);simp only[go_sem,e1,r1,r2];refine Ok.mY (q0x hC hj hw (by omega) (l[i].a,l[i].b)) ?_;rintro u H1 ⟨hu,f1⟩;replace f1:Fm No H H1:=f1;have r3:fU (H1.get b1) (o1+3) 2=some (pC (l[i].x,l[i].y)):=by rw[f1.keep e2];exact r2
   have hul:=qs9 ((l.take i).foldl vY []) (l[i].a,l[i].b);simp(disch:=first|omega|exact ti rfl)only[go_sem,r3];refine Ok.mY (q0x hC hj hu (by omega) (l[i].x,l[i].y)) ?_;rintro u2 H2 ⟨hu2,f2⟩;have bLQ:=qs9 (pO ((l.take i).foldl vY []) (l[i].a,l[i].b)) (l[i].x,l[i].y);unfold q9c;simp(disch:=omega)only[go_sem];refine zfj hC hj hv hn hq k (i+1) u2 H2 (by omega) (by omega) ?_ ?_ ((hf.trans f1).trans f2)
   ·rw[q7h _ _ hlt];exact hu2
   ·rw[q7h _ _ hlt];show(pO _ _).length<=_;omega
  ·simp only[go_sem,e0,hlt];rw[List.take_of_length_le (by omega)]at hw;simp_all
theorem zzw(hC:bA C)(hk:3<=k){v:AV}{l:List Tu}(hv:Rs 6 Tu.cells H v l)(hn:l.length<=20):Ok (C k (.f 11) [v] H) fun r H'=>Rs 2 pC H' r (l.foldl vY [])/\Fm No H H':=by obtain⟨j,rfl⟩:=aX hk;rw[(hC j).zFc];unfold zFc zs1 q9e;rw[dH];refine zfj hC (by omega) hv hn (fun w H' hw hf=>?_) cK 0 .aA H (Nat.zero_le _) (by rw[dM];omega) ⟨rfl,fun i hi=>by simp at hi⟩ (by simp) (Fm.refl _ _);exact Ok.ret ⟨hw,hf⟩
theorem zro(s:SS):gH (mP .eql).f (.str s.n s.a) (.str 0 0)=.val (.bool (decide (s=sE))):=qkp s sE
theorem q0u(hC:bA C){j:Nat}(hj:2<=j){H0:Hp}{v:AV}{l:List Tu}(hv:Rs 6 Tu.cells H0 v l)(hn:l.length<=20){Q:pL}{q:pD}(hq:∀ w H,Rs 2 pC H w (l.foldl wD [])->Fm No H0 H->Ok (q w H) Q):∀(k i:Nat) (w:AV) (H:Hp),i<=l.length->l.length-i<k->Rs 2 pC H w ((l.take i).foldl wD [])->((l.take i).foldl wD []).length<=i->Fm No H0 H -> Ok (qog (C j) q v k w (iN i) H) Q
 |0,i,_,_,_,h,_,_,_=>by omega
 |k+1,i,w,H,hi,hk,hw,hwl,hf=>by
  show Ok (q86 (C j) _ _ (qog (C j) _ _ k) _ _ H) Q;unfold q86;have e0:=hv.len;by_cases hlt:i<l.length
  ·simp only[go_sem,e0,hlt];unfold qxr;obtain⟨b1,o1,e1,e2,_,e3,e4⟩:=(hv.fm hf).at' i hlt;have r2:fU (H.get b1) (o1+3) 2=some (pC (l[i].x,l[i].y)):=qgg (i:=3) e3 (by decide);have r3:dI (H.get b1) (o1+5)=.val (.str l[i].z.n l[i].z.a):=e4 5 (by show 5<6;decide);have es:=zro l[i].z;by_cases h:l[i].z=sE
   ·rw[decide_eq_true h]at es;simp only[go_sem,e1,r2,r3,es];refine Ok.ve (q0x hC hj hw (by omega) (l[i].x,l[i].y)) ?_;rintro u H1 ⟨hu,f1⟩;have hul:=qs9 ((l.take i).foldl wD []) (l[i].x,l[i].y);unfold que;simp(disch:=omega)only[go_sem];refine q0u hC hj hv hn hq k (i+1) u H1 (by omega) (by omega) ?_ ?_ (hf.trans f1)
    ·rw[q7h _ _ hlt];unfold wD;rw[if_pos h];exact hu
    ·rw[q7h _ _ hlt];unfold wD;rw[if_pos h];unfold wD at hwl hul;omega
   ·rw[decide_eq_false h]at es;simp only[go_sem,e1,r2,r3,es];unfold que;simp(disch:=omega)only[go_sem];refine q0u hC hj hv hn hq k (i+1) w H (by omega) (by omega) ?_ ?_ hf
    ·rw[q7h _ _ hlt];unfold wD;rw[if_neg h];exact hw
    ·rw[q7h _ _ hlt];unfold wD;rw[if_neg h];unfold wD at hwl;omega
  ·simp only[go_sem,e0,hlt];rw[List.take_of_length_le (by omega)]at hw;simp_all
theorem aJ7(hC:bA C)(hk:3<=k){v:AV}{l:List Tu}(hv:Rs 6 Tu.cells H v l)(hn:l.length<=20):Ok (C k (.f 13) [v] H) fun r H'=>Rs 2 pC H' r (l.foldl wD [])/\Fm No H H':=by obtain⟨j,rfl⟩:=aX hk;rw[(hC j).zFf];unfold zFf zsx q87;rw[dH];refine q0u hC (by omega) hv hn (fun w H' hw hf=>?_) cK 0 .aA H (Nat.zero_le _) (by rw[dM];omega) ⟨rfl,fun i hi=>by simp at hi⟩ (by simp) (Fm.refl _ _);exact Ok.ret ⟨hw,hf⟩
end Go.Di
end
noncomputable section
namespace Go.Di
open Go.Ev
def q18(call:Ev.Call)(x2:AV)(H:Hp):R1:=vq (aQ H x2) H fun a1 H=>.ok a1 H
def qF(call:Ev.Call)(l:Nat)(L:TT AV 2)(x2 x5:AV)(H:Hp):R1:=vq (aQ H x2) H fun a5 H=>vq (aV 2 H x5) H fun a6 H=>vq (iL 1 H.nx (bU (bE [.str 0 0,.str 0 0] 1) [(0,2,a6)])) H fun a7 H=>ve (iD 2 32 H a5 (jE 2 H a7)) fun a8 H=>ve (fQ H x2 a8) fun _ H=>endRound l (.ok .normal L H)
def zi8(LA:LP)(call:Ev.Call)(L:TT AV 2)(x1:AV)(H:Hp):R1:=fin (endLoop H.nx (qf4 call x1 [.yield H.nx] (aS H (LA.blk true L))) L) (vH 0 (thn (fun L H=>q18 call (G L 2) H) (aBf fun L _=>some (G L 4))))
def zja(LA:LP)(call:Ev.Call)(L:TT AV 2)(x0 x1:AV)(H:Hp):R1:=vq (iY H.nx x0) H fun a0 H=>zi8 LA call (pu L [(2,a0),(4,.aA),(6,x1)]) x1 H
def aF6(LA:LP)(call:Ev.Call)(x0 x1:AV)(H:Hp):R1:=zja LA call (mU [x0,x1] 0 (same .undef 2)) x0 x1 H
structure aRq(LQ:LP)(c d:Ev.Call):Prop where
 app:∀(x0 x1:AV) (H:Hp),c (.f 125) [x0,x1] H=Di.aF6 LQ d x0 x1 H
 aIs:∀(L:TT AV 2) (l:Nat) (x y:AV) (H:Hp),H.get l=LQ.blk true L->l<H.nx->c (.y l) [.agg [x,y]] H=Di.qF d l L (G L 2) (.ptr H.nx 0) (((aS H (aB 0 [.str 0 0,.str 0 0])).put H.nx (aB 0 [x,y])).put l (LQ.blk false L))
abbrev qnt(LQ:LP)(C:Nat->Ev.Call):Prop:=∀ k,aRq LQ (C (k+1)) (C k)
end Go.Di
end
noncomputable section
namespace Go.Di
open Go.Ev Go.Di.T Go.Sort
variable {C:Nat->Ev.Call} {LQ:LP} {L:List (List Nat)} {X:List aR}
structure wP(LQ:LP)(H0:Hp)(M:TT AV 2)(l sb:Nat)(m:List (SS×SS))(H:Hp):Prop where
 fm:Fm No H0 H
 lp:H.get l=LQ.blk true M
 hl:H0.nx<=l/\l<H.nx
 hs:H0.nx<=sb/\sb<H.nx
 ne:sb≠l
 vs:∃ v,H.get sb=aB 0 [v]/\Gl 2 H v m.length (m.flatMap pC)/\∀ b,In v b->H0.nx<=b/\b≠l/\b≠sb
theorem wP.no{H0 H G:Hp}{M:TT AV 2}{l sb:Nat}{m:List (SS×SS)}(h:wP LQ H0 M l sb m H)(f:Fm No H G):wP LQ H0 M l sb m G:=by have nx:=f.nx;have h1:=h.hl;have h2:=h.hs;obtain⟨v,g1,g2,g3⟩:=h.vs;exact⟨h.fm.trans f,(f.keep h1.2).trans h.lp,⟨h1.1,by omega⟩,⟨h2.1,by omega⟩,h.ne,v,(f.keep h2.2).trans g1,g2.no f,g3⟩
theorem zi7{call:Ev.Call}{H0:Hp}{M:TT AV 2}{l sb:Nat}{m:List (SS×SS)}(hx:m.length<900000){p:SS×SS}{K H:Hp}(hK:wP LQ H0 M l sb m K)(fK:Fm No K H):Ok (qF call l M (.ptr sb 0) (.ptr H.nx 0) (((aS H (aB 0 [.str 0 0,.str 0 0])).put H.nx (aB 0 [p.1.v,p.2.v])).put l (LQ.blk false M))) fun r H'=>r=.bool true/\wP LQ H0 M l sb (m++[p]) H'/\∀ b,K.nx<=b->b<H.nx->H'.get b=H.get b:=by
 have hI:=hK.no fK;obtain⟨G,hG⟩:∃ G,G=((aS H (aB 0 [.str 0 0,.str 0 0])).put H.nx (aB 0 [p.1.v,p.2.v])):=⟨_,rfl⟩;have fG:Fm No H G:=by rw[hG];exact mO
 have nG:G.nx=H.nx+1:=by rw[hG];rfl
 have gG:G.get H.nx=aB 0 (pC p):=by rw[hG];exact eD _ _ _
 rw[<-hG];have hI':=hI.no fG;have hlt:=hI.hl.2;have hst:=hI.hs.2;have hsl:=hI.ne;obtain⟨v,g1,g2,g3⟩:=hK.vs;have hvK:=fun b hb=>g2.lt (b:=b) hb;have hlK:=hK.hl.2;have hsK:=hK.hs.2;replace g1:=((fK.trans fG).keep hsK).trans g1;replace g2:=g2.no (fK.trans fG);unfold qF;have gs:(G.put l (LQ.blk false M)).get sb=aB 0 [v]:=by rw[dJ _ _ _ _ hsl];exact g1
 have gn:(G.put l (LQ.blk false M)).get H.nx=aB 0 (pC p):=by rw[dJ _ _ _ _ (by omega)];exact gG
 have gv:Gl 2 (G.put l (LQ.blk false M)) v m.length (m.flatMap pC):=g2.keep (Nat.le_refl _) fun b hb _=>dJ _ _ _ _ (g3 b hb).2.1;have gv':Gl 2 (aS (G.put l (LQ.blk false M)) (aB 0 (pC p))) v m.length (m.flatMap pC):=gv.no ((Fm.refl _ _).push _);obtain⟨H2,e1,e2,e3,e4,e5⟩:=gv'.append (w:=32) (k:=1) (x:=pC p) (by omega) rfl (by omega) (by omega);have hnx:(aS (G.put l (LQ.blk false M)) (aB 0 (pC p))).nx=G.nx+1:=rfl;have gs2:H2.get sb=aB 0 [v]:=by rw[e4.get sb (by rw[hnx];omega) fun h=>(g3 sb h).2.2 rfl,qbu _ _ _ (by rw[nq];omega)];exact gs
 have gl2:H2.get l=LQ.blk false M:=by rw[e4.get l (by rw[hnx];omega) fun h=>(g3 l h).2.1 rfl,qbu _ _ _ (by rw[nq];omega),eD]
 simp(disch:=first|omega|exact ti rfl|simp only[np,nq];first|done|omega)only[go_sem,seval,gs,gn,wG,qec,e1,gs2,List.length_cons,List.length_nil];have gl3:(H2.put sb (aB 0 [.sl (G.nx+1) 0 (m.length+1) (m.length+1) false])).get l=LQ.blk false M:=by rw[dJ _ _ _ _ (Ne.symm hsl)];exact gl2
 rw[q1i gl3];have f1:Fm No H0 (aS (G.put l (LQ.blk false M)) (aB 0 (pC p))):=((hI'.fm.aG l _ hI.hl.1).push _);have f2:Fm No H0 H2:=f1.then e4 fun c hc h=>absurd (g3 c h).1 (by omega);have f3:Fm No H0 ((H2.put sb (aB 0 [.sl (G.nx+1) 0 (m.length+1) (m.length+1) false])).put l (LQ.blk true M)):=(f2.aG sb _ hI.hs.1).aG l _ hI.hl.1;have h0:=hI'.fm.nx;refine Ok.ret ⟨rfl,⟨f3,eD _ _ _,⟨hI.hl.1,?_⟩,⟨hI.hs.1,?_⟩,hsl,.sl (G.nx+1) 0 (m.length+1) (m.length+1) false,?_,?_,?_⟩,fun b hb hb2=>?_⟩
 ·show l<H2.nx;omega
 ·show sb<H2.nx;omega
 ·rw[dJ _ _ _ _ hsl,eD]
 ·rw[List.length_append,List.flatMap_append,List.flatMap_singleton];refine e2.keep (Nat.le_refl _) fun b hb _=>?_;obtain⟨_,_,_,_,hb⟩:=hb;cases hb;rw[dJ _ _ _ _ (by omega),dJ _ _ _ _ (by omega)]
 ·rintro b ⟨_,_,_,_,hb⟩;cases hb;omega
 ·rw[dJ _ _ _ _ (by omega),dJ _ _ _ _ (by omega),e4.get b (by rw[hnx];omega) fun h=>by have:=hvK b h;omega,qbu _ _ _ (by rw[nq];omega),dJ _ _ _ _ (by omega)];exact fG.keep hb2
def nM(t:Tu):List (SS×SS):=[(t.a,t.b),(t.x,t.y)]
def lM(t:Tu):List (SS×SS):=if t.z=sE then[(t.x,t.y)]else[]
theorem z09(f:Tu->List (SS×SS)){l:List Tu}{i:Nat}(h:i<l.length):(l.take (i+1)).flatMap f=(l.take i).flatMap f++f l[i]:=by rw[List.take_succ_eq_append_getElem h,List.flatMap_append,List.flatMap_singleton]
theorem q4w{C0:Ev.Call}{v:AV}{l:List Tu}{H0:Hp}(hv:Rs 6 Tu.cells H0 v l)(hn:l.length<=20){y:Nat}{Inv:List (SS×SS)->Hp->Prop}(hf:∀ m H,Inv m H->Fm No H0 H)(hno:∀ m H G,Inv m H->Fm No H G->Inv m G)(hy:∀ m p H G,m.length<100->Inv m H->Fm No H G->Ok (C0 (.y y) [.agg (pC p)] G) fun r H'=>r=.bool true/\Inv (m++[p]) H'/\∀ b,H.nx<=b->b<G.nx->H'.get b=G.get b){bL q2e:pH}{Q:pL}(hq:∀ H,Inv (l.flatMap nM) H->Ok (q2e H) Q):∀(k i:Nat) (H:Hp),l.length-i<k->i<=l.length->((l.take i).flatMap nM).length<=2*i->Inv ((l.take i).flatMap nM) H -> Ok (qoa C0 bL q2e (.yield y) v (iN (l.length)) k (iN i) H) Q
 |0,i,H,h,_,_,_=>by omega
 |k+1,i,H,h,hi,hl,hI=>by
  show Ok (q8s C0 _ _ _ _ _ (qoa C0 _ _ _ _ _ k) _ H) Q;unfold q8s;by_cases hlt:i<l.length
  ·obtain⟨b1,o1,e1,e2,e3⟩:=(hv.fm (hf _ H hI)).qJ hlt;have fp:Fm No H ((aS H (aB 0 [.str 0 0,.str 0 0,.str 0 0,.str 0 0,.str 0 0,.str 0 0])).put H.nx (aB 0 l[i].cells)):=by exact mO
   have et:aB 0 l[i].cells=aB 0 [.str l[i].a.n l[i].a.a,.str l[i].b.n l[i].b.a,.str l[i].c.n l[i].c.a,.str l[i].x.n l[i].x.a,.str l[i].y.n l[i].y.a,.str l[i].z.n l[i].z.a]:=id rfl;simp only[go_sem,hlt];unfold qxn;simp(disch:=omega)only[go_sem,seval,e1,e3,qfh,qfo,et,qjr];refine Ok.ve (hy _ (l[i].a,l[i].b) _ _ (by omega) hI fp) ?_;rintro _ H1 ⟨rfl,hI2,hk⟩;have g1:H1.get H.nx=aB 0 l[i].cells:=(hk H.nx (Nat.le_refl _) (by simp only[np,nq];omega)).trans (eD _ _ _);simp only[go_sem,g1,qjr];refine Ok.ve (hy _ (l[i].x,l[i].y) _ _ (by rw[List.length_append,List.length_singleton];omega) hI2 (Fm.refl _ _)) ?_;rintro _ H2 ⟨rfl,tQ,_⟩;unfold q8q;simp(disch:=omega)only[go_sem];have he:=z09 nM hlt;refine q4w hv hn hf hno hy hq k (i+1) H2 (by omega) (by omega) ?_ ?_
   ·rw[he,List.length_append];show _+2<=_;omega
   ·rw[he];rw[List.append_assoc]at tQ;exact tQ
  ·have:i=l.length:=by omega
   simp only[go_sem,hlt];simp_all
theorem qsp{C0:Ev.Call}{v:AV}{l:List Tu}{H0:Hp}(hv:Rs 6 Tu.cells H0 v l)(hn:l.length<=20){y:Nat}{Inv:List (SS×SS)->Hp->Prop}(hf:∀ m H,Inv m H->Fm No H0 H)(hno:∀ m H G,Inv m H->Fm No H G->Inv m G)(hy:∀ m p H G,m.length<100->Inv m H->Fm No H G->Ok (C0 (.y y) [.agg (pC p)] G) fun r H'=>r=.bool true/\Inv (m++[p]) H'/\∀ b,H.nx<=b->b<G.nx->H'.get b=G.get b){bL q2e:pH}{Q:pL}(hq:∀ H,Inv (l.flatMap lM) H->Ok (q2e H) Q):∀(k i:Nat) (H:Hp),l.length-i<k->i<=l.length->((l.take i).flatMap lM).length<=i->Inv ((l.take i).flatMap lM) H -> Ok (qn9 C0 bL q2e (.yield y) v (iN (l.length)) k (iN i) H) Q
 |0,i,H,h,_,_,_=>by omega
 |k+1,i,H,h,hi,hl,hI=>by
  show Ok (q8k C0 _ _ _ _ _ (qn9 C0 _ _ _ _ _ k) _ H) Q;unfold q8k;by_cases hlt:i<l.length
  ·obtain⟨b1,o1,e1,e2,e3⟩:=(hv.fm (hf _ H hI)).qJ hlt;have fp:Fm No H ((aS H (aB 0 [.str 0 0,.str 0 0,.str 0 0,.str 0 0,.str 0 0,.str 0 0])).put H.nx (aB 0 l[i].cells)):=by exact mO
   have et:aB 0 l[i].cells=aB 0 [.str l[i].a.n l[i].a.a,.str l[i].b.n l[i].b.a,.str l[i].c.n l[i].c.a,.str l[i].x.n l[i].x.a,.str l[i].y.n l[i].y.a,.str l[i].z.n l[i].z.a]:=id rfl;have es:=zro l[i].z;have he:=z09 lM hlt;simp only[go_sem,hlt];unfold qxk;by_cases hz:l[i].z=sE
   ·rw[decide_eq_true hz]at es;have hu:lM l[i]=[(l[i].x,l[i].y)]:=if_pos hz;simp(disch:=first|omega|exact ti rfl)only[go_sem,seval,e1,e3,qfh,qfo,et,qjr,es];refine Ok.ve (hy _ (l[i].x,l[i].y) _ _ (by omega) hI fp) ?_;rintro _ H1 ⟨rfl,hI2,_⟩;unfold q2a;simp(disch:=omega)only[go_sem];refine qsp hv hn hf hno hy hq k (i+1) H1 (by omega) (by omega) ?_ ?_
    ·simp_all
    ·simp_all
   ·rw[decide_eq_false hz]at es;have hu:lM l[i]=[]:=if_neg hz;simp(disch:=first|omega|exact ti rfl)only[go_sem,seval,e1,e3,qfh,qfo,et,qjr,es];unfold q2a;simp(disch:=omega)only[go_sem];refine qsp hv hn hf hno hy hq k (i+1) _ (by omega) (by omega) ?_ ?_
    ·rw[he,hu,List.append_nil];omega
    ·rw[he,hu,List.append_nil];exact hno _ _ _ hI fp
  ·have:i=l.length:=by omega
   simp only[go_sem,hlt];simp_all
end Go.Di
end
noncomputable section
namespace Go.Di
open Go.Ev Go.Di.T Go.Sort
variable {C:Nat->Ev.Call}
theorem aUr:CpW 2 pC nO iA:=⟨wG,by decide,fun neg x y=>by unfold nO;rw[aET];rfl,rfl⟩
theorem q15(hC:bA C){k:Nat}(hk:1<=k){H:Hp}{b q:Nat}{A:List AV}{S:List (SS×SS)}{e:Bool}(hb:b<H.nx)(hn:S.length<900000)(h0:0<S.length)(hg:H.get b=aB q (A++S.flatMap pC++[])):Ok (C k (.f 60) [.sl b A.length S.length S.length e] H) fun w H'=>CpO pC H b q A (iE S) w e H':=by obtain⟨j,rfl⟩:=aX hk;rw[(hC j).zFr];exact zsc aUr hb hn h0 hg
end Go.Di
end
