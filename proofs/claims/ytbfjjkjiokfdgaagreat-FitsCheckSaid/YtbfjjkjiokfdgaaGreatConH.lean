/-
 For FitsCheck: functions in direct style, their contracts, and the plain mathematics, part 8 of 9. No conditions beyond those that each theorem states.
-/
import Derived.Test.YtbfjjkjiokfdgaaGreatConG
import Derived.Test.YtbfjjkjiokfdgaaGreatConF
import Derived.Test.YtbfjjkjiokfdgaaGreatConD
set_option linter.unusedSimpArgs false
set_option linter.unusedVariables false
open Nat renaming reduceAdd->rB,reduceMul->rI,reduceSub->rK,reduceLeDiff->rL,reduceEqDiff->rN,reduceShiftRight->rS,reduceAnd->r6
section
namespace Go.Di
open Go.Ev Go.Di.T Go.Sort
variable {C:Nat->Ev.Call}
theorem rdP{H:Hp}{b q:Nat}{P:List AV}{M:List Nat}(hg:H.get b=aD q (P++aO M)){i:Nat}(h:i<M.length):dO (H.get b) (P.length+i)=.val (.int .i64 (.ofNat M[i])):=by rw[hg,qb6,List.getElem?_append_right (by omega),Nat.add_sub_cancel_left];unfold aO;simp_all
theorem aVU(P:List AV)(M:List Nat){i:Nat}(x:Nat)(h:i<M.length):bJ (P++aO M) (P.length+i) [.int .i64 (.ofNat x)]=P++aO (M.set i x):=by
 have hn:(aO M).length=M.length:=lX M;unfold bJ;rw[List.take_append,List.take_of_length_le (by omega),List.drop_append,List.drop_eq_nil_of_le (by simp;omega)];rw[show P.length+i-P.length=i by omega,show P.length+i+[AV.int .i64 (.ofNat x)].length-P.length=i+1 by simp;omega];have:aO (M.set i x)=(aO M).set i (.int .i64 (.ofNat x)):=by unfold aO;rw[List.map_set]
 rw[this,List.set_eq_take_append_cons_drop,if_pos (by omega)];simp
theorem zzp(P:List AV)(M:List Nat){k n:Nat}(hl:M.length=n)(h:k<=n):bJ (P++aO M) (P.length+k) (bC [.int .i64 (.ofNat 0)] (n-k))=P++aO (M.take k++List.replicate (n-k) 0):=by
 have hn:(aO M).length=n:=by rw[lX,hl]
 have hr:bC [.int .i64 (.ofNat 0)] (n-k)=aO (List.replicate (n-k) 0):=by rw[qdz];unfold aO;rw[List.map_replicate]
 have hr2:(aO (List.replicate (n-k) 0)).length=n-k:=by rw[lX,List.length_replicate]
 unfold bJ;rw[hr,hr2,List.take_append,List.take_of_length_le (by omega),List.drop_append,List.drop_eq_nil_of_le (by omega)];rw[show P.length+k-P.length=k by omega,List.drop_eq_nil_of_le (by omega)];have:aO (M.take k++List.replicate (n-k) 0)=(aO M).take k++aO (List.replicate (n-k) 0):=by unfold aO;rw[List.map_append,List.map_take]
 simp_all
structure Cp(l M:List Nat)(k p:Nat):Prop where
 len:M.length=l.length
 lt:k<p
 le:p<=l.length
 same:M.drop k=l.drop k
 asc:(M.take k).Pairwise (· < ·)
 mem:∀ x,x∈M.take k↔x∈l.take p
theorem Cp.at{l M:List Nat}{k p i:Nat}(h:Cp l M k p)(hi:k<=i)(hil:i<l.length):M[i]'(by rw[h.len];exact hil)=l[i]:=by
 have h1:(M.drop k)[i-k]? =(l.drop k)[i-k]? :=by rw[h.same]
 rw[List.getElem?_drop,List.getElem?_drop,show k+(i-k)=i by omega,List.getElem?_eq_getElem hil,List.getElem?_eq_getElem (by rw[h.len];exact hil)]at h1;simp_all
theorem qei{l:List Nat}{p:Nat}(h:p<l.length):l.take (p+1)=l.take p++[l[p]]:=List.take_succ_eq_append_getElem h
theorem qtg{l:List Nat}{p x:Nat}(h:x∈l.take p):∃ i,∃(hi:i<l.length),i<p/\l[i]=x:=by obtain⟨i,hi,e⟩:=List.mem_iff_getElem.1 h;rw[List.length_take]at hi;exact⟨i,by omega,by omega,by rw[<-e];simp⟩
theorem Cp.eq{l M:List Nat}{k p:Nat}(h:Cp l M k p)(hp:p<l.length)(he:l[p]=l[p-1]'(by omega)):Cp l M k (p+1):=by
 refine⟨h.len,by have:=h.lt;omega,hp,h.same,h.asc,fun x=>(h.mem x).trans ?_⟩;rw[qei hp,List.mem_append,List.mem_singleton];refine⟨Or.inl,fun hx=>hx.elim id fun hx=>?_⟩;have h0:=h.lt;rw[hx,he];have:l.take p=l.take (p-1)++[l[p-1]'(by omega)]:=by have:=qei (l:=l) (p:=p-1) (by omega);rwa [show p-1+1=p by omega]at this
 exact this▸List.mem_append_right _ (List.mem_singleton.2 rfl)
theorem Cp.ne{l M:List Nat}{k p:Nat}(h:Cp l M k p)(hs:l.Pairwise (· <= ·))(hp:p<l.length)(he:¬ l[p]=l[p-1]'(by omega)):Cp l (M.set k l[p]) (k+1) (p+1):=by
 have h0:=h.lt;have hml:=h.len;have ht:(M.set k l[p]).take (k+1)=M.take k++[l[p]]:=by rw[qei (l:=M.set k l[p]) (p:=k) (by rw[List.length_set];omega),List.getElem_set_self,List.take_set_of_le (Nat.le_refl k)]
 refine⟨by rw[List.length_set,hml],by omega,hp,?_,?_,fun x=>?_⟩
 ·rw[List.drop_set_of_lt (by omega)];have:=congrArg (List.drop 1) h.same;simp_all
 ·rw[ht,List.pairwise_append];refine⟨h.asc,List.pairwise_singleton _ _,fun a ha b hb=>?_⟩;rw[List.mem_singleton]at hb;subst hb;obtain⟨i,hi,hip,rfl⟩:=qtg ((h.mem a).1 ha);have hs':=List.pairwise_iff_getElem.1 hs;have a1:l[p-1]'(by omega)<=l[p]:=hs' (p-1) p (by omega) hp (by omega);have a2:l[i]<=l[p-1]'(by omega):=by
   rcases Nat.lt_or_ge i (p-1)with h2|h2
   ·simp_all
   ·have:i=p-1:=by omega
    simp_all
  omega
 ·rw[ht,qei hp,List.mem_append,List.mem_append,h.mem x]
theorem qjm{call:Ev.Call}{b o n q:Nat}{e:Bool}{P:List AV}{l:List Nat}(hs:l.Pairwise (· <= ·))(hP:P.length=o)(hl:l.length=n)(hn:n<900){c0:Nat}(hc0:c0<n){H1:Hp}{q2:pD}{Q:pL}(hq:∀ M k H,Cp l M k n->H.get b=aD q (P++aO M)->Fm (fun c=>c=b) H1 H->Ok (q2 (.int .i64 (.ofNat k)) H) Q):∀(f k k2:Nat) (M:List Nat) (H:Hp),n-(c0+k2)<f->1<=k2->Cp l M k (c0+k2)->H.get b=aD q (P++aO M)->Fm (fun c=>c=b) H1 H -> Ok (qdd call q2 (.sl b o n n e) (.sl b (o+c0) (n-c0) (n-c0) e) f (.int .i64 (.ofNat k)) (.int .i64 (.ofNat k2)) H) Q
 |0,k,k2,M,H,h,_,_,_,_=>by omega
 |f+1,k,k2,M,H,h,h1,hC,hg,hF=>by
  show Ok (qey call _ _ _ (qdd call _ _ _ f) _ _ H) Q;unfold qey;have hlt:=hC.lt;have hle:=hC.le;have hml:=hC.len;by_cases hk:k2<n-c0
  ·have e1:=rdP hg (i:=c0+k2) (by omega);have e2:=rdP hg (i:=c0+(k2-1)) (by omega);rw[hC.at (by omega) (by omega),hP,<-Nat.add_assoc]at e1;rw[hC.at (by omega) (by omega),hP,<-Nat.add_assoc]at e2;simp only[go_sem,hk];unfold qh9;have hpe:l[c0+k2-1]'(by omega)=l[c0+(k2-1)]'(by omega):=by congr 1;omega
   by_cases he:l[c0+k2]'(by omega)=l[c0+k2-1]'(by omega)
   ·rw[he,hpe]at e1;simp(disch:=first|omega|exact ti rfl|(simp only[np,nq];first|done|omega))only[go_sem,rB,rI,rK,rL,rN,rS,r6,Nat.mul_one,e1,e2];unfold qde;simp(disch:=first|omega|exact ti rfl|(simp only[np,nq];first|done|omega))only[go_sem,rB,rI,rK,rL,rN,rS,r6];exact qjm hs hP hl hn hc0 hq f k (k2+1) M H (by omega) (by omega) (hC.eq (by omega) he) hg hF
   ·have he':¬ l[c0+k2]'(by omega)=l[c0+(k2-1)]'(by omega):=by rw[<-hpe];exact he
    have e3:=aVU P M (i:=k) (l[c0+k2]'(by omega)) (by omega);rw[hP]at e3;have e4:∀ x:AV,vS (aD q (P++aO M)) (o+k) [x]=some (aD q (bJ (P++aO M) (o+k) [x])):=fun x=>by rw[qhs,if_pos];rw[List.length_append,lX];simp only[List.length_cons,List.length_nil];omega
    simp(disch:=first|omega|exact ti rfl|(simp only[np,nq];first|done|omega))only[go_sem,rB,rI,rK,rL,rN,rS,r6,Nat.mul_one,e1,e2,he'];rw[hg]at *;simp(disch:=first|omega|exact ti rfl|(simp only[np,nq];first|done|omega))only[go_sem,rB,rI,rK,rL,rN,rS,r6,e4,e3];unfold qde;simp(disch:=first|omega|exact ti rfl|(simp only[np,nq];first|done|omega))only[go_sem,rB,rI,rK,rL,rN,rS,r6];exact qjm hs hP hl hn hc0 hq f (k+1) (k2+1) _ _ (by omega) (by omega) (hC.ne hs (by omega) he) (eB _ _ _) (hF.put _ _ fun _=>rfl)
  ·simp only[go_sem,hk];have:c0+k2=n:=by omega
   rw[this]at hC;exact hq M k H hC hg hF
theorem qnr{call:Ev.Call}{b o n q:Nat}{e:Bool}{P:List AV}{l:List Nat}(hs:l.Pairwise (· <= ·))(hP:P.length=o)(hl:l.length=n)(hn:n<900){H:Hp}(hg:H.get b=aD q (P++aO l))(hb:b<H.nx)(heq:e=true\/q=1){q2:pH}{Q:pL}(hq:∀ k R H',k<=n->R.length=k->R.Pairwise (· < ·)->(∀x,x∈R↔x∈l)->Gs 1 H' (.sl b o k n e) k (aO R)->Fm (fun c=>c=b) H H'->Q (.sl b o k n e) H')(hq2:l.Pairwise (· < ·)->Ok (q2 H) Q):∀(f k:Nat),n-k<f->1<=k->k<=n->(l.take k).Pairwise (· < ·) -> Ok (qd0 call (fun x H=>.ok x H) q2 (.sl b o n n e) f (.int .i64 (.ofNat k)) H) Q
 |0,k,h,_,_,_=>by omega
 |f+1,k,h,h1,hk,ha=>by
  show Ok (qfn call _ _ _ (qd0 call _ _ _ f) _ H) Q;unfold qfn;by_cases hlt:k<n
  ·have e1:=rdP hg (i:=k) (by omega);have e2:=rdP hg (i:=k-1) (by omega);rw[hP]at e1 e2;simp only[go_sem,hlt];unfold qh8;by_cases he:l[k]'(by omega)=l[k-1]'(by omega)
   ·rw[he]at e1;have e3:=qi6 1 b o n n e (a:=k) (by omega) (Nat.le_refl _) hlt;simp(disch:=first|omega|exact ti rfl|(simp only[np,nq];first|done|omega))only[go_sem,rB,rI,rK,rL,rN,rS,r6,Nat.mul_one,e1,e2,e3];unfold qia;rw[dK];have hC0:Cp l l k (k+1):=by
     refine⟨rfl,by omega,by omega,rfl,ha,fun x=>?_⟩;rw[qei (p:=k) (by omega),List.mem_append,List.mem_singleton];refine⟨Or.inl,fun hx=>hx.elim id fun hx=>?_⟩;have:l.take k=l.take (k-1)++[l[k-1]'(by omega)]:=by simp_all
     rw[hx,he];exact this▸List.mem_append_right _ (List.mem_singleton.2 rfl)
    refine qjm (H1:=H) hs hP hl hn (c0:=k) hlt (fun M k' H' hC hg' hF=>?_) cZ k 1 l H (by rw[dM];omega) (Nat.le_refl 1) hC0 hg (Fm.refl _ _);unfold qex;have c1:=hC.lt;have c2:=hC.len;have s1:=qi6 1 b o n n e (a:=k') (by omega) (Nat.le_refl _) c1;have s2:=q27 1 b o n n e (k:=k') (by omega) (Nat.le_refl _) (by omega);have cl:=zzp P M (k:=k') (n:=n) (by omega) (by omega);rw[hP]at cl;have aIJ:(bC [.int .i64 (.ofNat 0)] (n-k')).length=n-k':=by rw[qdz,List.length_replicate]
    have s3:qhj [.int .i64 (.ofNat 0)] H' (.sl b (o+k') (n-k') (n-k') e)=.ok .undef (H'.put b (aD q (P++aO (M.take k'++List.replicate (n-k') 0)))):=by show(bif Nat.beq (n-k') 0 then _ else storeAt H' b (o+k') (bC [.int .i64 (.ofNat 0)] (n-k')) .undef)=_;rw[beq_eq,decide_eq_false (by omega),cond_false,qcm _ _ _ _ _ _ _ hg' (by rw[aIJ,List.length_append,lX];omega),cl]
    simp only[go_sem,s1,s2,s3];have ht:(M.take k').length=k':=by rw[List.length_take];omega
    refine Ok.ret (hq k' (M.take k') _ (by omega) ht hC.asc (fun x=>by rw[hC.mem x,<-hl,List.take_length]) ?_ (hF.put _ _ fun _=>rfl));refine⟨by rw[lX,ht,Nat.mul_one],.inr ⟨b,o,n,e,q,_,rfl,by omega,eB _ _ _,?_,?_,heq,Nat.lt_of_lt_of_le hb hF.nx⟩⟩
    ·rw[List.length_append,lX,List.length_append,ht,List.length_replicate];omega
    ·rw[List.drop_append_of_le_length (by omega),List.drop_eq_nil_of_le (by omega),List.nil_append,Nat.mul_one];unfold aO;simp_all
   ·simp(disch:=first|omega|exact ti rfl|(simp only[np,nq];first|done|omega))only[go_sem,rB,rI,rK,rL,rN,rS,r6,Nat.mul_one,e1,e2,he];unfold qj2;simp(disch:=first|omega|exact ti rfl|(simp only[np,nq];first|done|omega))only[go_sem,rB,rI,rK,rL,rN,rS,r6];refine qnr hs hP hl hn hg hb heq hq hq2 f (k+1) (by omega) (by omega) (by omega) ?_;rw[qei (p:=k) (by omega),List.pairwise_append];refine⟨ha,List.pairwise_singleton _ _,fun a ha' c hc=>?_⟩;rw[List.mem_singleton]at hc;subst hc;obtain⟨i,hi,hip,rfl⟩:=qtg ha';have hs':=List.pairwise_iff_getElem.1 hs;have a1:l[k-1]'(by omega)<=l[k]'(by omega):=hs' (k-1) k (by omega) (by omega) (by omega);have a2:l[i]<=l[k-1]'(by omega):=by
     rcases Nat.lt_or_ge i (k-1)with h2|h2
     ·exact hs' i (k-1) hi (by omega) h2
     ·have:i=k-1:=by omega
      simp_all
    omega
  ·simp only[go_sem,hlt];have:k=n:=by omega
   subst this;rw[<-hl,List.take_length]at ha;exact hq2 ha
theorem q1j(hO:pP C){k:Nat}(hk:1<=k){n:Nat}{v:AV}{l:List Nat}{H:Hp}(hs:l.Pairwise (· <= ·))(hn:n<900)(hv:Gl 1 H v n (aO l)):Ok (C k (.f 123) [v] H) fun r H'=>∃ R:List Nat,R.Pairwise (· < ·)/\(∀x,x∈R↔x∈l)/\Gs 1 H' r R.length (aO R)/\(∀b,In r b->In v b)/\Fm (In v) H H':=by
 obtain⟨j,rfl⟩:=aW hk;have hln:l.length=n:=by have:=hv.len;rw[lX]at this;omega
 rw[(hO j).jP];unfold jP qhc;have e0:=hv.dD;by_cases h2:n<2
 ·simp only[go_sem,e0,h2];refine Ok.ret ⟨l,?_,fun x=>Iff.rfl,by rw[hln];exact hv.gs,fun b h=>h,Fm.refl _ _⟩
  match l,hln with
  | [],_=>exact List.Pairwise.nil
  | [x],_=>exact List.pairwise_singleton _ _
  |x::y::t,h=>simp at h;omega
 ·rcases hv.is with⟨_,h0⟩|⟨b,o,e,q,L,rfl,g1,g2,g3,g4,g5⟩
  ·omega
  have hP:(L.take o).length=o:=by rw[List.length_take];omega
  have hg:H.get b=aD q (L.take o++aO l):=by rw[g1,<-g3,List.take_append_drop]
  simp only[go_sem,e0,h2];unfold qh7 qj3;rw[dK];have hin:∀ c,c=b->In (.sl b o n n e) c:=fun c hc=>by subst hc;exact⟨_,_,_,_,rfl⟩
  refine qnr hs hP hln hn hg g5 g4 (fun k R H' hk hR ha hm hG hF=>?_) (fun ha=>?_) cZ 1 (by rw[dM];omega) (Nat.le_refl 1) (by omega) ?_
  ·refine⟨R,ha,hm,by rw[hR];exact hG,fun c hc=>?_,hF.mono fun c _ hc=>hin c hc⟩;obtain⟨_,_,_,_,h'⟩:=hc;simp_all
  ·unfold qfm;exact Ok.ret ⟨l,ha,fun x=>Iff.rfl,by rw[hln];exact hv.gs,fun b h=>h,Fm.refl _ _⟩
  ·match l,hln with
   | [],h=>simp at h;omega
   |x::t,_=>simp
theorem Gs.clip{n:Nat}{H:Hp}{v:AV}{l:List AV}(h:Gs 1 H v n l):∃ w,lC 1 v none (some (.int .i64 (.ofNat n))) (some (.int .i64 (.ofNat n)))=.val w/\Rl H w l/\gZ w=.val (.int .i64 (.ofNat n))/\(∀b,In w b->In v b):=by
 rcases h.is with⟨rfl,rfl⟩|⟨b,o,m,e,q,L,rfl,h0,h1,h2,h3,h4,h5⟩
 ·exact⟨.aA,rfl,h.rl,rfl,fun b h=>h⟩
 ·have e1:lC 1 (.sl b o n m e) none (some (.int .i64 (.ofNat n))) (some (.int .i64 (.ofNat n)))=gY b o 1 ⟨0,n,n⟩ true:=by
   show(match bounds n m none (some (.int .i64 (.ofNat n))) (some (.int .i64 (.ofNat n)))with|some bd=>gY b o 1 bd true|none=>R0.bad)=_;have:bounds n m none (some (.int .i64 (.ofNat n))) (some (.int .i64 (.ofNat n)))=some ⟨0,n,n⟩:=by show(match(bif Nat.ble n m then some n else none)with|none=>none|some m=>match(bif Nat.ble n m then some n else none)with|none=>none|some h=>match(some 0:Option Nat)with|none=>none|some l=>some (Bd.mk l h m))=_;rw[ble_eq,decide_eq_true h0];simp only[cond_true,ble_eq,decide_eq_true (Nat.le_refl n)]
   rw[this]
  have hG:∀ e',Gs 1 H (.sl b o n m e') n l->Rl H (.sl b o n n true) l:=fun e' g=>by have r:=g.rl;exact⟨r.len,fun i hi=>by obtain⟨b',o',a1,a2,a3⟩:=r.at' i hi;exact⟨b',o',by have hll:=h.len;rw[sP _ _ _ _ _ _ _ _ (by omega)]at a1 ⊢;exact a1,a2,a3⟩⟩
  rw[e1];unfold gY;simp only[beq_eq];by_cases hn:n=0
  ·subst hn;exact⟨.sl b o 0 0 true,rfl,hG e h,rfl,fun c hc=>by obtain⟨_,_,_,_,h'⟩:=hc;cases h';exact⟨_,_,_,_,rfl⟩⟩
  ·rw[decide_eq_false hn];refine⟨.sl b o n n true,?_,hG e h,rfl,fun c hc=>by obtain⟨_,_,_,_,h'⟩:=hc;cases h';exact⟨_,_,_,_,rfl⟩⟩;rfl
theorem zob(hC:aZ C){k:Nat}(hk:1<=k){n:Nat}{H:Hp}{v:AV}{l:List AV}(h:Gs 1 H v n l):∃w,C k (.f 120) [v] H=.ok w H/\Rl H w l/\gZ w=.val (.int .i64 (.ofNat n))/\(∀b,In w b->In v b):=by obtain⟨j,rfl⟩:=aW hk;obtain⟨w,e,h1,h2,h3⟩:=h.clip;refine⟨w,?_,h1,h2,h3⟩;rw[(hC j).zBd];unfold zBd zkl;simp only[go_sem,h.dD,e]
end Go.Di
end
section
namespace Go.Di
open Go.Ev Go.Di.T Go.Sort
variable {C:Nat->Ev.Call} {LA LO:LP}
theorem zhh(hO:pP C)(hS:oV C){k:Nat}(hk:5<=k)(H:Hp):C k (.f 122) [.aA] H=.ok (.bG []) H:=by obtain⟨k,rfl⟩:∃ j,k=j+1:=⟨k-1,by omega⟩;exact(hO k).aFV H
def qY(ins:List Nat)(e:Edge):Bool:=e.s&&decide (ins.getD e.f 0=ins.getD e.t 0)
def iK(ins:List Nat)(es:List Edge):List Nat:=(es.filter (qY ins)).map fun e=>ins.getD e.f 0
theorem zev(ins:List Nat)(es:List Edge){i:Nat}(h:i<es.length):iK ins (es.take (i+1))=iK ins (es.take i)++(if qY ins es[i]then[ins.getD es[i].f 0]else[]):=by unfold iK;rw[List.take_succ_eq_append_getElem h,List.filter_append,List.map_append];congr 1;cases hh:qY ins es[i]<;>simp[hh]
theorem zew(ins:List Nat)(es:List Edge):(iK ins es).length<=es.length:=by unfold iK;rw[List.length_map];exact List.length_filter_le _ _
theorem q38{ins:List Nat}{es:List Edge}{x:Nat}:x∈iK ins es↔∃ e∈es,e.s=true/\ins.getD e.f 0=ins.getD e.t 0/\ins.getD e.f 0=x:=by
 unfold iK qY;rw[List.mem_map];constructor
 ·rintro ⟨e,he,rfl⟩;rw[List.mem_filter,Bool.and_eq_true,decide_eq_true_eq]at he;exact⟨e,he.1,he.2.1,he.2.2,rfl⟩
 ·rintro ⟨e,he,h1,h2,h3⟩;exact⟨e,List.mem_filter.2 ⟨he,by rw[Bool.and_eq_true,decide_eq_true_eq];exact⟨h1,h2⟩⟩,h3⟩
theorem qgj{call:Ev.Call}{H1:Hp}{n c:Nat}{lv iv w:AV}{es:List Edge}{ins:List Nat}(hlen:es.length<200000)(hE:∀ e∈es,e.f<n/\e.t<n)(hw:jX H1 w es)(hi:Gl 1 H1 iv n (aO ins))(hc:H1.get c=aD 0 [lv,iv])(hcl:c<H1.nx){q:pD}{Q:pL}(hq:∀ v H,Gl 1 H v (iK ins es).length (aO (iK ins es))->Fm No H1 H->(∀b,In v b->H1.nx<=b)->Ok (q v H) Q):∀(k i:Nat) (v:AV) (H:Hp),es.length-i<k->i<=es.length->Gl 1 H v (iK ins (es.take i)).length (aO (iK ins (es.take i)))->(∀b,In v b->H1.nx<=b)->Fm No H1 H -> Ok (qrc call q (.ptr c 0) w (.int .i64 (.ofNat es.length)) k v (.int .i64 (.ofNat i)) H) Q
 |0,i,v,H,h,_,_,_,_=>by omega
 |k+1,i,v,H,h,hil,hg,hnew,hF=>by
  show Ok (qy0 call _ _ _ _ (qrc call _ _ _ _ k) _ _ H) Q;unfold qy0;by_cases hlt:i<es.length
  ·simp only[go_sem,hlt];unfold zaw;have hw':jX H w es:=hw.fm hF;have hi':Gl 1 H iv n (aO ins):=hi.no hF;have hc':H.get c=aD 0 [lv,iv]:=(hF.keep hcl).trans hc;have hcH:c<H.nx:=Nat.lt_of_lt_of_le hcl hF.nx;have hil:ins.length=n:=by have:=hi.len;rw[lX]at this;omega
   obtain⟨b,o1,e1,e2,e3⟩:=hw'.at hlt;obtain⟨r1,r2⟩:=hE es[i] (List.getElem_mem _);have gi:∀ x,x<n->(aO ins)[x]? =some (.int .i64 (.ofNat (ins.getD x 0))):=fun x hx=>by unfold aO;simp_all
   obtain⟨b1,o2,e4,e5,_,e6⟩:=hi'.at (gi _ r1);obtain⟨b2,o3,e7,e8,_,e9⟩:=hi'.at (gi _ r2);have hm:=zev ins es hlt;have hle:=zew ins (es.take i);rw[List.length_take]at hle;have fe:Fm No H ((aT H (aD 0 [.int .i64 (.ofNat 0),.int .i64 (.ofNat 0),.bool false])).put H.nx (aD 0 [.int .i64 (.ofNat es[i].f),.int .i64 (.ofNat es[i].t),.bool es[i].s])):=by exact nH
   cases hs:es[i].s with
   |false=>
    have hp:qY ins es[i]=false:=by unfold qY;rw[hs];rfl
    rw[hs]at fe;rw[hp]at hm;simp only[go_sem,e1,e3,Edge.cells,hs];unfold qls;simp(disch:=first|omega|exact ti rfl|(simp only[np,nq];first|done|omega))only[go_sem,rB,rI,rK,rL,rN,rS,r6];rw[if_neg (by simp),List.append_nil]at hm;refine qgj hlen hE hw hi hc hcl hq k (i+1) v _ (by omega) (by omega) (by rw[hm];exact hg.no fe) hnew (hF.trans fe)
   |true=>
    rw[hs]at fe;by_cases he:ins.getD es[i].f 0=ins.getD es[i].t 0
    ·have hp:qY ins es[i]=true:=by unfold qY;rw[hs,decide_eq_true he];rfl
     rw[hp,if_pos rfl]at hm;have hml:(iK ins (es.take (i+1))).length=(iK ins (es.take i)).length+1:=by rw[hm,List.length_append];rfl
     generalize hH2:(aT H (aD 0 [.int .i64 (.ofNat 0),.int .i64 (.ofNat 0),.bool false])).put H.nx (aD 0 [.int .i64 (.ofNat es[i].f),.int .i64 (.ofNat es[i].t),.bool true])=H2 at *;have hx2:H2.get H.nx=aD 0 [.int .i64 (.ofNat es[i].f),.int .i64 (.ofNat es[i].t),.bool true]:=by rw[<-hH2,eB]
     have hc2:H2.get c=aD 0 [lv,iv]:=(fe.keep hcH).trans hc';have e6':dO (H2.get b1) o2=.val (.int .i64 (.ofNat (ins.getD es[i].f 0))):=by rw[fe.keep e5];exact e6
     have e9':dO (H2.get b2) o3=.val (.int .i64 (.ofNat (ins.getD es[i].t 0))):=by rw[fe.keep e8];exact e9
     have hgP:Gl 1 (aT H2 (aD 0 [.int .i64 (.ofNat (ins.getD es[i].f 0))])) v (iK ins (es.take i)).length (aO (iK ins (es.take i))):=(hg.no fe).no ((Fm.refl _ _).push _);obtain⟨H',a1,a2,_,a4,a5⟩:=hgP.append (w:=8) (k:=1) (x:=[.int .i64 (.ofNat (ins.getD es[i].f 0))]) (by omega) rfl (by omega) (by omega);rw[he]at a1 a2 a4 hgP;simp(disch:=first|omega|exact ti rfl|(simp only[np,nq];first|done|omega))only[go_sem,rB,rI,rK,rL,rN,rS,r6,e1,e3,Edge.cells,hs,hH2,hx2,hc2,e4,e6',e7,e9',he,a1];unfold qls;simp(disch:=first|omega|exact ti rfl|(simp only[np,nq];first|done|omega))only[go_sem,rB,rI,rK,rL,rN,rS,r6];have e10:aO (iK ins (es.take i))++[.int .i64 (.ofNat (ins.getD es[i].t 0))]=aO (iK ins (es.take (i+1))):=by rw[hm,he];simp[aO]
     rw[e10,<-hml]at a2;rw[<-hml];have hn1:=hF.nx;have hn2:=fe.nx;refine qgj hlen hE hw hi hc hcl hq k (i+1) _ H' (by omega) (by omega) a2 (fun b hb=>?_) (((hF.trans fe).trans ((Fm.refl _ _).push _)).then a4 fun c hc h=>by have:=hnew c h;omega);obtain⟨_,_,_,_,h⟩:=hb;cases h;omega
    ·have hp:qY ins es[i]=false:=by unfold qY;rw[hs,decide_eq_false he];rfl
     rw[hp]at hm;simp(disch:=first|omega|exact ti rfl)only[go_sem,seval,e1,e3,Edge.cells,hs,hc',e4,e6,e7,e9,he];unfold qls;simp(disch:=first|omega|exact ti rfl|(simp only[np,nq];first|done|omega))only[go_sem,rB,rI,rK,rL,rN,rS,r6];rw[if_neg (by simp),List.append_nil]at hm;refine qgj hlen hE hw hi hc hcl hq k (i+1) v _ (by omega) (by omega) (by rw[hm];exact hg.no fe) hnew (hF.trans fe)
  ·simp only[go_sem,hlt];have:i=es.length:=by omega
   simp_all
theorem zn6(hC:aZ C)(hO:pP C)(hS:oV C)(hR:pJ LA LO C){k:Nat}(hk:1000<=k){n:Nat}{es:List Edge}(hE:qdu n es)(hn:n<=256)(hlen:es.length<900){gv:AV}{H:Hp}(hg:jX H gv es):Ok (C k (.f 90) [.agg [.int .i64 (.ofNat n),gv]] H) fun r H'=>∃(w:AV) (res:List (List Nat)) (ins R:List Nat),r=.bG [w,.int .i64 (.ofNat 0)]/\jJ n (iR es) [] res/\(∀(j:Nat) (o:List Nat) (x:Nat),res[j]? =some o->x∈o->ins[x]? =some j) /\ R.Pairwise (· < ·)/\(∀x,x∈R↔x∈iK ins es)/\Rl H' w (aO R)/\gZ w=.val (.int .i64 (.ofNat R.length))/\R.length<=900/\Fm No H H':=by
 obtain⟨j,rfl⟩:=aW hk;rw[(hC j).zBp];unfold zBp zst;simp(disch:=omega)only[go_sem,seval];have f0:Fm No H (aT H (aD 0 [.int .i64 (.ofNat n),gv])):=(Fm.refl _ _).push _;refine Ok.ve (zz2 hC hO hS hR (k:=j) (by omega) hE hn (by omega) (hg.fm f0)) ?_;rintro r H1 ⟨lv,iv,os,d9,out,ins,res,rfl,aEE,hCR,f1⟩;have aV2:=aEE.ord hE.rng;have hg1:H1.get H.nx=aD 0 [.int .i64 (.ofNat n),gv]:=(f1.keep (by simp only[np,nq];omega)).trans (mP _ _);have es3:∀ x y:AV,bJ [AV.aA,AV.aA] 0 [x,y]=[x,y]:=fun _ _=>rfl;have n1:H.nx+1<=H1.nx:=f1.nx;simp(disch:=omega)only[go_sem,seval,es3,List.length_cons,List.length_nil];generalize hH2:(aT H1 (aD 0 [AV.aA,AV.aA])).put H1.nx (aD 0 [lv,iv])=H2;have f2:Fm No H1 H2:=by rw[<-hH2];exact((Fm.refl _ _).push _).aG _ _ (Nat.le_refl _)
 have g2:H2.get H1.nx=aD 0 [lv,iv]:=by rw[<-hH2,eB]
 have l2:H1.nx<H2.nx:=by rw[<-hH2];show H1.nx<H1.nx+1;omega
 have hg2:H2.get H.nx=aD 0 [.int .i64 (.ofNat n),gv]:=(f2.keep (by omega)).trans hg1;have oJ:Fm No H H2:=(f0.trans f1).trans f2;have hE2:jX H2 gv es:=hg.fm oJ;rw[qou];unfold qrd;have e0:=hE2.len;simp(disch:=first|omega|exact ti rfl|(simp only[np,nq];first|done|omega))only[go_sem,rB,rI,rK,rL,rN,rS,r6,hg2,e0];unfold zay;rw[dK];refine qgj (by omega) hE.rng hE2 (hCR.gi.no f2) g2 l2 (fun v H3 h3 f3 hnew=>?_) cZ 0 .aA H2 (by rw[dM];omega) (Nat.zero_le _) (by simpa [iK,aO] using Gl.nil 1 H2) (fun b hb=>by obtain⟨_,_,_,_,h⟩:=hb;cases h) (Fm.refl _ _);have hml:=zew d9 es;have sorted:Ok (C j (.f 122) [v] H3) fun r H'=>r=.bG []/\∃ R:List Nat,R.Perm (iK d9 es)/\R.Pairwise (· <= ·)/\Gl 1 H' v (iK d9 es).length (aO R)/\Fm (In v) H3 H':=by
  rcases Nat.eq_zero_or_pos (iK d9 es).length with h0|h0
  ·have hz:iK d9 es=[]:=List.length_eq_zero_iff.1 h0;rw[hz]at h3 ⊢;rcases h3.is with⟨rfl,_⟩|⟨b,o,e,q,L,rfl,g1,g2,g3,g4,g5⟩
   ·exact⟨_,_,zhh hO hS (by omega) H3,rfl,[],List.Perm.refl _,List.Pairwise.nil,h3,Fm.refl _ _⟩
   ·obtain⟨j,rfl⟩:∃ i,j=i+1:=⟨j-1,by omega⟩;have g2:o<=L.length:=g2;have hst:storeAt H3 b o [] (.bG [])=.ok (.bG []) (H3.put b (aD q (bJ L o []))):=qcm _ _ _ _ _ _ _ g1 g2;have hL:bJ L o []=L:=by unfold bJ;simp
    rw[hL]at hst;have hs:qu2 H3 b o 0=some (.ok (.bG []) (H3.put b (aD q L))):=by
     unfold qu2;have hr:gN (H3.get b) o 0=some []:=by rw[g1,qb5,if_pos (show o+0<=L.length from g2)];rfl
     rw[hr];have hz:yO []=[]:=by unfold yO;simp
     simp only[qnd,hz,List.map_nil,hst];rfl
    refine⟨_,_,(hO j).srt _ _ _ _ _ _ _ hs,rfl,[],List.Perm.refl _,List.Pairwise.nil,?_,(Fm.refl _ _).put _ _ fun _=>⟨_,_,_,_,rfl⟩⟩;exact⟨rfl,.inr ⟨b,o,e,q,L,rfl,eB _ _ _,g2,g3,g4,g5⟩⟩
  ·exact q46 hC hO hS (k:=j) (by omega) h0 (by omega) h3
 refine Ok.ve sorted ?_;rintro r H4 ⟨rfl,R,hp,hsd,h4,f4⟩;refine Ok.ve (q1j hO (k:=j) (by omega) hsd (by omega) h4) ?_;rintro r5 H5 ⟨R5,hasc,hmem,h5,hin,f5⟩;obtain⟨w,w1,w2,w3,_⟩:=zob hC (k:=j) (by omega) h5;simp only[go_sem,w1];have hR5:R5.length<=900:=by have hnd:R5.Nodup:=hasc.imp fun h=>Nat.ne_of_lt h;have:R5.length<=R.length:=hnd.length_le_of_subset fun x hx=>(hmem x).1 hx;rw[hp.length_eq]at this;omega
 refine Ok.ret ⟨w,res,d9,R5,rfl,aV2,hCR.ins,hasc,fun x=>(hmem x).trans hp.mem_iff,w2,w3,hR5,((oJ.trans f3).then f4 fun c hc h=>?_).then f5 fun c hc h=>?_⟩
 ·have:=hnew c h;omega
 ·have:=hnew c h;omega
structure CB(H0:Hp)(n gb c:Nat)(gv lv iv:AV)(es:List Edge)(ins:List Nat):Prop where
 fe:jX H0 gv es
 fg:H0.get gb=aD 0 [iN n,gv]
 gl:gb<H0.nx
 fc:H0.get c=aD 0 [lv,iv]
 cl:c<H0.nx
 fi:Gl 1 H0 iv n (aO ins)
 fr:∀ e∈es,e.f<n/\e.t<n
 len:es.length<200000
structure CI(H0:Hp)(m:Nat)(L:List Edge)(H:Hp):Prop where
 ex:∃ v,H.get H0.nx=aD 0 [iN m,v]/\Gl 3 H v L.length (zzc L)/\∀ b,In v b->H0.nx<b
 fm:Fm (fun b=>b=H0.nx) H0 H
 lt:H0.nx<H.nx
theorem CI.no{H0:Hp}{m:Nat}{L:List Edge}{H H':Hp}(h:CI H0 m L H)(f:Fm No H H'):CI H0 m L H':=by obtain⟨v,h1,h2,h3⟩:=h.ex;exact⟨⟨v,(f.keep h.lt).trans h1,h2.no f,h3⟩,h.fm.then f fun _ _ h=>h.elim,Nat.lt_of_lt_of_le h.lt f.nx⟩
theorem CB.at{H0:Hp}{n gb c:Nat}{gv lv iv:AV}{es:List Edge}{ins:List Nat}(h:CB H0 n gb c gv lv iv es ins){H:Hp}(f:Fm (fun b=>b=H0.nx) H0 H):jX H gv es/\H.get gb=aD 0 [iN n,gv]/\gb<H.nx/\H.get c=aD 0 [lv,iv]/\c<H.nx/\Gl 1 H iv n (aO ins):=by have g1:=h.gl;have g2:=h.cl;have g3:=f.nx;exact⟨h.fe.keep f.nx fun b hb hlt=>f.get b hlt (fun e=>by have:=h.fe.lt hb;omega),(f.get _ g1 (by omega)).trans h.fg,by omega,(f.get _ g2 (by omega)).trans h.fc,by omega,h.fi.fm f fun b hb e=>by have:=h.fi.lt hb;omega⟩
theorem zmd{n:Nat}{aU:Nat->List Nat}{res:List (List Nat)}(h:jJ n aU [] res):res.length<=n:=by
 obtain⟨z1,z2,z3,z4,z5⟩:=h.all;have hle:∀(o:List (List Nat)),(∀c∈o,c≠[])->o.length<=o.flatten.length:=fun o=>by
  induction o with
  |nil=>intro _;exact Nat.le_refl _
  |cons c o ih=>intro h;have h1:=ih fun c hc=>h c (List.mem_cons_of_mem _ hc);have h2:0<c.length:=List.length_pos_iff.2 (h c List.mem_cons_self);rw[List.flatten_cons,List.length_append,List.length_cons];omega
 have:=hle res z4;omega
theorem aAJ(a b:Nat):max (Int.ofNat a) (Int.ofNat b)=Int.ofNat (max a b):=by simp only[Int.ofNat_eq_natCast];omega
theorem qp9{call:Ev.Call}{H:Hp}{v:AV}{l:List Nat}(hv:Rl H v (aO l))(hl:l.length<900000){q:pD}{Q:pL}(hq:Ok (q (.int .i64 (.ofNat (iY l))) H) Q):∀(f i:Nat),l.length-i<f->i<=l.length->Ok (q2a call q v (.int .i64 (.ofNat l.length)) f (.int .i64 (.ofNat (iY (l.take i)))) (.int .i64 (.ofNat i)) H) Q
 |0,i,h,_=>by omega
 |f+1,i,h,hi=>by
  show Ok (zbh call _ _ _ (q2a call _ _ _ f) _ _ H) Q;unfold zbh;by_cases hlt:i<l.length
  ·obtain⟨b,o,e1,_,e2⟩:=hv.at' i (by rw[lX];exact hlt);rw[qhe]at e2;have hm:=aAJ (iY (l.take i)) l[i];have hs:iY (l.take (i+1))=max (iY (l.take i)) l[i]:=by
    unfold iY;rw[List.take_succ_eq_append_getElem hlt,List.foldl_append];rfl
   simp only[go_sem,hlt];unfold zpn;simp only[go_sem,e1,e2,qhg,hm];unfold zpo;simp(disch:=first|omega|exact ti rfl|(simp only[np,nq];first|done|omega))only[go_sem,rB,rI,rK,rL,rN,rS,r6];rw[<-hs];exact qp9 hv hl hq f (i+1) (by omega) (by omega)
  ·simp only[go_sem,hlt];have:i=l.length:=by omega
   simp_all
theorem zmz(hY:qql C){k:Nat}(hk:1<=k){H:Hp}{v:AV}{l:List Nat}(hv:Rl H v (aO l))(hl:l.length<900000):C k (.f 92) [v] H=.ok (.int .i64 (.ofNat (iY l))) H:=by
 obtain⟨j,rfl⟩:=aW hk;have key:Ok (C (j+1) (.f 92) [v] H) fun r H'=>r=.int .i64 (.ofNat (iY l))/\H'=H:=by rw[(hY j).zBc];unfold zBc zs6;have e0:=hv.len;rw[lX]at e0;simp only[go_sem,e0];unfold zpq;rw[dK];refine qp9 hv hl ?_ cZ 0 (by rw[dM];omega) (Nat.zero_le _);exact Ok.ret ⟨rfl,rfl⟩
 obtain⟨r,H',h,rfl,rfl⟩:=key;exact h
theorem step_ok(hY:qql C){k:Nat}(hk:1<=k)(e:Edge)(H:Hp):Ok (C k (.f 91) [.agg e.cells] H) fun r H'=>r=.int .i64 (.ofNat (xN e))/\Fm No H H':=by
 obtain⟨j,rfl⟩:=aW hk;rw[(hY j).zBq];unfold zBq zss Edge.cells xN;cases hs:e.s with
 |true=>simp(disch:=omega)only[go_sem,seval,hs];exact Ok.ret ⟨rfl,by(repeat(first|exact Fm.refl _ _|assumption|refine Fm.push ?_ _|refine Fm.oK ?_ (by(first|omega|(simp only[np,nq];omega)))|refine Fm.aG ?_ _ _ (by(first|omega|(simp only[np,nq];omega)))))⟩
 |false=>simp(disch:=omega)only[go_sem,seval,hs];exact Ok.ret ⟨rfl,by(repeat(first|exact Fm.refl _ _|assumption|refine Fm.push ?_ _|refine Fm.oK ?_ (by(first|omega|(simp only[np,nq];omega)))|refine Fm.aG ?_ _ _ (by(first|omega|(simp only[np,nq];omega)))))⟩
theorem znt{es:List Edge}{ins o:List Nat}{i c:Nat}(hc:c<es.length)(h1:ins.getD es[c].f 0=i)(h2:¬ ins.getD es[c].t 0=i):asks (es.take (c+1)) ins o i=asks (es.take c) ins o i++[o.getD es[c].t 0+xN es[c]]:=by unfold asks;rw[List.take_succ_eq_append_getElem hc,List.filter_append,List.map_append];simp_all
theorem zwb{es:List Edge}{ins o:List Nat}{i c:Nat}(hc:c<es.length)(h:¬(ins.getD es[c].f 0=i/\¬ ins.getD es[c].t 0=i)):asks (es.take (c+1)) ins o i=asks (es.take c) ins o i:=by unfold asks;rw[List.take_succ_eq_append_getElem hc,List.filter_append,List.map_append];simp_all
theorem zha(es:List Edge)(ins o:List Nat)(i:Nat):(asks es ins o i).length<=es.length:=by unfold asks;rw[List.length_map];exact List.length_filter_le _ _
theorem qm3(hY:qql C){j:Nat}{H1:Hp}{n c ob i:Nat}{gv lv iv:AV}{es:List Edge}{ins o:List Nat}(hj:1<=j)(hg:jX H1 gv es)(hlen:es.length<200000)(hE:∀ e∈es,e.f<n/\e.t<n)(hc:H1.get c=aD 0 [lv,iv])(hcl:c<H1.nx)(hiv:Gl 1 H1 iv n (aO ins))(yX:H1.get ob=aD 0 (aO o))(aCW:ob<H1.nx)(hol:o.length=n)(hos:∀ x,x<n->o.getD x 0<=1000){q:pD}{Q:pL}(hq:∀ w H,Gl 1 H w (asks es ins o i).length (aO (asks es ins o i))->Fm No H1 H->(∀b,In w b->H1.nx<=b)->Ok (q w H) Q):∀(f k:Nat) (w:AV) (H:Hp),es.length-k<f->k<=es.length->Gl 1 H w (asks (es.take k) ins o i).length (aO (asks (es.take k) ins o i))->(∀b,In w b->H1.nx<=b)->Fm No H1 H -> Ok (qiv (C j) q (.ptr c 0) (.sl ob 0 n n true) (.int .i64 (.ofNat i)) gv (.int .i64 (.ofNat es.length)) f w (.int .i64 (.ofNat k)) H) Q
 |0,k,w,H,h,_,_,_,_=>by omega
 |f+1,k,w,H,h,hk,hw,hnew,hF=>by
  show Ok (qzj (C j) _ _ _ _ _ _ (qiv (C j) _ _ _ _ _ _ f) _ _ H) Q;unfold qzj;by_cases hlt:k<es.length
  ·obtain⟨b,p,e1,e2,e3⟩:=(hg.fm hF).at hlt;obtain⟨r1,r2⟩:=hE es[k] (List.getElem_mem _);have hil:ins.length=n:=by have:=hiv.len;rw[lX]at this;omega
   obtain⟨b1,o1,c1,c2,_,c3⟩:=(hiv.no hF).at (zuw ins es[k].f (by omega));obtain⟨b2,o2,c4,c5,_,c6⟩:=(hiv.no hF).at (zuw ins es[k].t (by omega));have k1:H.get c=aD 0 [lv,iv]:=(hF.keep hcl).trans hc;have hcH:c<H.nx:=Nat.lt_of_lt_of_le hcl hF.nx;have k2:H.get ob=aD 0 (aO o):=(hF.keep aCW).trans yX;have aEx:ob<H.nx:=Nat.lt_of_lt_of_le aCW hF.nx;simp only[go_sem,hlt];rw[qox];unfold qrp;have fx:Fm No H ((aT H (aD 0 [.int .i64 (.ofNat 0),.int .i64 (.ofNat 0),.bool false])).put H.nx (aD 0 es[k].cells)):=by exact nH
   have hle:=zha (es.take k) ins o i;rw[List.length_take]at hle;have aAU:¬(ins.getD es[k].f 0=i/\¬ ins.getD es[k].t 0=i)->Ok (qlw (C j) (qiv (C j) q (.ptr c 0) (.sl ob 0 n n true) (.int .i64 (.ofNat i)) gv (.int .i64 (.ofNat es.length)) f) w (.int .i64 (.ofNat k)) ((aT H (aD 0 [.int .i64 (.ofNat 0),.int .i64 (.ofNat 0),.bool false])).put H.nx (aD 0 es[k].cells))) Q:=fun hn=>by unfold qlw;simp(disch:=first|omega|exact ti rfl|(simp only[np,nq];first|done|omega))only[go_sem,rB,rI,rK,rL,rN,rS,r6];exact qm3 hY hj hg hlen hE hc hcl hiv yX aCW hol hos hq f (k+1) w _ (by omega) (by omega) (by rw[zwb hlt hn];exact hw.no fx) hnew (hF.trans fx)
   by_cases h1:ins.getD es[k].f 0=i
   ·by_cases h2:ins.getD es[k].t 0=i
    ·simp(disch:=first|omega|exact ti rfl)only[go_sem,seval,e1,e3,Edge.cells,k1,c1,c3,c4,c6,h1,h2];have:=aAU fun h=>h.2 h2;exact this
    ·have v4:=zuw o es[k].t (by omega);have ho4:=hos es[k].t r2;simp(disch:=first|omega|exact ti rfl)only[go_sem,seval,e1,e3,Edge.cells,k1,k2,c1,c3,c4,c6,h1,h2,v4];generalize hHx:(Hp.mk ((aT H (aD 0 [.int .i64 (.ofNat 0),.int .i64 (.ofNat 0),.bool false])).put H.nx (aD 0 [.int .i64 (.ofNat es[k].f),.int .i64 (.ofNat es[k].t),.bool es[k].s])).t (H.nx+1+12))=Hx at *;have fx:Fm No H Hx:=by rw[<-hHx];exact Fm.oK fx (by omega)
     have nx:Hx.nx=H.nx+1+12:=by rw[<-hHx]
     have kx:Hx.get H.nx=aD 0 [.int .i64 (.ofNat es[k].f),.int .i64 (.ofNat es[k].t),.bool es[k].s]:=by rw[<-hHx];exact eB _ _ _
     refine Ok.kI (step_ok hY (k:=j) hj es[k] Hx) ?_;rintro r H2 ⟨rfl,f2⟩;have kx2:H2.get H.nx=aD 0 [.int .i64 (.ofNat es[k].f),.int .i64 (.ofNat es[k].t),.bool es[k].s]:=(f2.keep (by omega)).trans kx;have k22:H2.get ob=aD 0 (aO o):=((fx.trans f2).keep aEx).trans k2;have hst:xN es[k]<=1:=by unfold xN;split<;>omega
     simp(disch:=omega)only[go_sem,seval,kx2,k22,v4];generalize hz:o.getD es[k].t 0+xN es[k]=z at *;have fP:Fm No H (H2.put (H.nx+1+9) (aD 0 [AV.int .i64 (.ofNat z)])):=(fx.trans f2).aG _ _ (by omega);have hgP:Gl 1 (H2.put (H.nx+1+9) (aD 0 [AV.int .i64 (.ofNat z)])) w _ _:=hw.no fP;obtain⟨H3,a1,a2,_,a4,a5⟩:=hgP.append (w:=8) (k:=1) (x:=[AV.int .i64 (.ofNat z)]) (by omega) rfl (by omega) (by omega);refine Ok.yF a1 ?_;unfold qlw;simp(disch:=first|omega|exact ti rfl|(simp only[np,nq];first|done|omega))only[go_sem,rB,rI,rK,rL,rN,rS,r6];have hs:=znt (o:=o) hlt h1 h2;rw[hz]at hs;have e10:aO (asks (es.take k) ins o i)++[AV.int .i64 (.ofNat z)]=aO (asks (es.take (k+1)) ins o i):=by rw[hs];simp[aO]
     have hml:(asks (es.take (k+1)) ins o i).length=(asks (es.take k) ins o i).length+1:=by rw[hs,List.length_append];rfl
     rw[e10,<-hml]at a2;rw[<-hml];have hn1:=hF.nx;have hn2:=f2.nx;refine qm3 hY hj hg hlen hE hc hcl hiv yX aCW hol hos hq f (k+1) _ H3 (by omega) (by omega) a2 (fun b hb=>?_) ((hF.trans fP).then a4 fun c hc h=>by have:=hnew c h;omega);obtain⟨_,_,_,_,h⟩:=hb;cases h;omega
   ·simp(disch:=first|omega|exact ti rfl)only[go_sem,seval,e1,e3,Edge.cells,k1,c1,c3,h1];have:=aAU fun h=>h1 h.1;exact this
  ·simp only[go_sem,hlt];have:k=es.length:=by omega
   subst this;rw[List.take_length]at hw;exact hq w H hw hF hnew
theorem qvy(hY:qql C){j:Nat}(hj:1<=j){H1:Hp}{n ob:Nat}{w cw:AV}{l c o:List Nat}(hw:Gl 1 H1 w l.length (aO l))(hl:l.length<900000)(hwo:∀ b,In w b->b≠ob)(hc:Gl 1 H1 cw c.length (aO c))(hcl:c.length<900000)(hco:∀ b,In cw b->b≠ob)(hcn:∀ x∈c,x<n)(hol:o.length=n){q:pH}{Q:pL}(hq:∀ H,H.get ob=aD 0 (aO (vU o (iY l) c))->Fm (fun b=>b=ob) H1 H->Ok (q H) Q):∀(f k:Nat) (H:Hp),c.length-k<f->k<=c.length->H.get ob=aD 0 (aO (vU o (iY l) (c.take k)))->Fm (fun b=>b=ob) H1 H -> Ok (qrm (C j) q (.sl ob 0 n n true) w cw (.int .i64 (.ofNat c.length)) f (.int .i64 (.ofNat k)) H) Q
 |0,k,H,h,_,_,_=>by omega
 |f+1,k,H,h,hk,hg,hF=>by
  show Ok (qzk (C j) _ _ _ _ _ (qrm (C j) _ _ _ _ _ f) _ H) Q;unfold qzk;by_cases hlt:k<c.length
  ·have hcH:Gl 1 H cw c.length (aO c):=hc.fm hF hco;have hwH:Rl H w (aO l):=(hw.fm hF hwo).rl;obtain⟨b,p,e1,_,_,e3⟩:=hcH.at (show(aO c)[k]? =some (.int .i64 (.ofNat c[k]))from qte c k hlt);have hx:=hcn c[k] (List.getElem_mem _);have hgr:=zmz hY (k:=j) hj hwH hl;have hfl:(vU o (iY l) (c.take k)).length=n:=by rw[qni,hol]
   have hst:=qtc (vU o (iY l) (c.take k)) c[k] (iY l) (by omega);have hle:c[k]+1<=(aO (vU o (iY l) (c.take k))).length:=by rw[lX];omega
   have hsn:(vU o (iY l) (c.take k)).set c[k] (iY l)=vU o (iY l) (c.take (k+1)):=by rw[List.take_succ_eq_append_getElem hlt,qqc]
   simp only[go_sem,hlt];unfold zbn;simp(disch:=omega)only[go_sem,seval,e1,e3,hgr,hg,hst,hle,Nat.mul_one,Nat.zero_add,List.length_cons,List.length_nil];unfold zbo;simp(disch:=first|omega|exact ti rfl|(simp only[np,nq];first|done|omega))only[go_sem,rB,rI,rK,rL,rN,rS,r6];rw[hsn];exact qvy hY hj hw hl hwo hc hcl hco hcn hol hq f (k+1) _ (by omega) (by omega) (eB _ _ _) (hF.put _ _ fun _=>rfl)
  ·simp only[go_sem,hlt];have:k=c.length:=by omega
   simp_all
theorem qvz(hY:qql C){j:Nat}(hj:1<=j){HB H0 H1:Hp}{n a0 c:Nat}{gv lv iv:AV}{os:List AV}{es:List Edge}{ins:List Nat}{res:List (List Nat)}(hn:n<=256)(hg:jX H0 gv es)(hlen:es.length<200000)(hE:∀ e∈es,e.f<n/\e.t<n)(ha:H0.get a0=aD 0 [.int .i64 (.ofNat n),gv])(aLT:a0<H0.nx)(hc:H0.get c=aD 0 [lv,iv])(hcl:c<H0.nx)(hCR:CR HB H0 n lv iv os res ins)(hN:NmC n res ins)(hlt:∀ o∈res,∀x∈o,x<n)(hd:∀ e∈es,ins.getD e.t 0<=ins.getD e.f 0)(hLn:res.length<=n)(hol:∀ o∈res,o.length<=n)(h01:Fm No H0 H1)(hx1:H0.nx<H1.nx){q:pH}{Q:pL}(hq:∀ o H,qZ n es ins res.length o->H.get H0.nx=aD 0 (aO o)->Fm (fun b=>b=H0.nx) H1 H->Ok (q H) Q):∀(f i:Nat) (o:List Nat) (H:Hp),res.length-i<f->i<=res.length->qZ n es ins i o->H.get H0.nx=aD 0 (aO o)->Fm (fun b=>b=H0.nx) H1 H -> Ok (qiw (C j) q (.ptr a0 0) (.ptr c 0) (.sl H0.nx 0 n n true) lv (.int .i64 (.ofNat res.length)) f (.int .i64 (.ofNat i)) H) Q
 |0,i,o,H,h,_,_,_,_=>by omega
 |f+1,i,o,H,h,hi,hO,hgo,hF=>by
  show Ok (qlx (C j) _ _ _ _ _ _ (qiw (C j) _ _ _ _ _ _ f) _ H) Q;unfold qlx;by_cases hil:i<res.length
  ·have kp:∀ b,b<H0.nx->H.get b=H0.get b:=fun b hb=>(hF.get b (by omega) (by omega)).trans (h01.keep hb);have hnx:H0.nx<=H.nx:=by have:=hF.nx;omega
   have aCF:=hCR.len;have gE:jX H gv es:=hg.keep hnx fun b hb hlt=>kp b hlt;have gI:Gl 1 H iv n (aO ins):=hCR.gi.keep hnx fun b hb hlt=>kp b hlt;have gL:Gl 1 H lv os.length os:=hCR.gl.keep hnx fun b hb hlt=>kp b hlt;obtain⟨c1,_,_⟩:=hCR.at' i (os[i]'(by omega)) (res[i]'hil) (by simp) (by simp);have gC:Gl 1 H (os[i]'(by omega)) (res[i]'hil).length (aO (res[i]'hil)):=c1.keep hnx fun b hb hlt=>kp b hlt;have hci:∀ b,In (os[i]'(by omega)) b->b<H0.nx:=fun b hb=>c1.lt hb;obtain⟨b1,o1,e1,_,_,e2⟩:=gL.at (i:=i) (x:=os[i]'(by omega)) (by simp);have hcm:∀ x,x<n->(x∈res[i]'hil↔ins.getD x 0=i):=fun x hx=>by
    constructor
    ·intro h;exact hN.is i _ x (List.getElem?_eq_getElem hil) h
    ·intro h;obtain⟨j',o',h1,h2⟩:=hN.all x hx;have:=hN.is j' o' x h1 h2;rw[h]at this;subst this;simp_all
   have hcn:=hlt _ (List.getElem_mem hil);have bSi:=hol _ (List.getElem_mem hil);have k1:H.get a0=aD 0 [.int .i64 (.ofNat n),gv]:=(kp a0 aLT).trans ha;have k2:H.get c=aD 0 [lv,iv]:=(kp c hcl).trans hc;have e0:=gE.len;generalize os[i]'(by omega)=cw at *;generalize res[i]'hil=co at *;simp only[go_sem,hil];unfold zbl;simp only[go_sem,e1,e2,k1,e0];unfold zbq;rw[dK];have hbd:∀ x,x<n->o.getD x 0<=1000:=fun x hx=>by have h1:=hO.bd x hx;have h2:=hN.lt hx;omega
   refine qm3 hY hj gE hlen hE k2 (Nat.lt_of_lt_of_le hcl hnx) gI hgo (by have:=hF.nx;omega) hO.len hbd (fun w H2 hw f2 hnew=>?_) cZ 0 .aA H (by rw[dM];omega) (Nat.zero_le _) (by simpa [asks,aO] using Gl.nil 1 H) (fun b hb=>by obtain⟨_,_,_,_,h⟩:=hb;cases h) (Fm.refl _ _);unfold qrq;have gC2:=gC.no f2;have e3:=gC2.dD;simp only[go_sem,e3];unfold zbr;rw[dK];have hal:=zha es ins o i;have aEx:H0.nx<H.nx:=by have:=hF.nx;omega
   refine qvy hY hj (H1:=H2) (o:=o) hw (by omega) (fun b hb=>by have:=hnew b hb;omega) gC2 (by omega) (fun b hb=>by have:=hci b hb;omega) hcn hO.len (fun H3 g3 f3=>?_) cZ 0 H2 (by rw[dM];omega) (Nat.zero_le _) ((f2.keep aEx).trans hgo) (Fm.refl _ _);unfold qzi;simp(disch:=first|omega|exact ti rfl|(simp only[np,nq];first|done|omega))only[go_sem,rB,rI,rK,rL,rN,rS,r6];exact qvz hY hj hn hg hlen hE ha aLT hc hcl hCR hN hlt hd hLn hol h01 hx1 hq f (i+1) _ H3 (by omega) (by omega) (hO.step hE hcm hd) g3 ((hF.then f2 fun _ _ h=>h.elim).then f3 fun _ _ h=>h)
  ·simp only[go_sem,hil];have:i=res.length:=by omega
   subst this;exact hq o H hO hgo hF
theorem zmc{n:Nat}{es:List Edge}(hE:∀ e∈es,e.f<n/\e.t<n){res:List (List Nat)}{ins:List Nat}(hF:jJ n (iR es) [] res)(h:NmC n res ins):∀ e∈es,ins.getD e.t 0<=ins.getD e.f 0:=fun e he=>by
 obtain⟨l1,l2⟩:=hE e he;obtain⟨j,o,h1,h2⟩:=h.all e.f l1;rcases qvs hF h1 h2 l2 (qds.2 ⟨e,he,rfl,rfl⟩)with g|⟨j',c',g1,g2,g3⟩
 ·simp at g
 ·rw[h.is j o e.f h1 h2,h.is j' c' e.t g2 g3];exact g1
theorem zx4{n:Nat}{aU:Nat->List Nat}{res:List (List Nat)}{ins:List Nat}(hF:jJ n aU [] res)(hi:∀(j:Nat) (o:List Nat) (x:Nat),res[j]? =some o->x∈o->ins[x]? =some j):NmC n res ins:=⟨fun j o y h1 h2=>by
  rw[List.getD_eq_getElem?_getD,hi j o y h1 h2];rfl,fun y hy=>by
  obtain⟨z1,z2,z3,z4,z5⟩:=hF.all;obtain⟨o,ho,hyo⟩:=List.mem_flatten.1 (z3 y hy);obtain⟨j,hj⟩:=List.mem_iff_getElem?.1 ho;exact⟨j,o,hj,hyo⟩⟩
theorem q7f(hC:aZ C)(hY:qql C)(hO:pP C)(hS:oV C)(hR:pJ LA LO C){k:Nat}(hk:1002<=k){n:Nat}{es:List Edge}(hE:qdu n es)(hn:n<=256)(hlen:es.length<900){gv:AV}{H:Hp}(hg:jX H gv es):Ok (C k (.f 57) [.agg [.int .i64 (.ofNat n),gv]] H) fun r H'=>Fm No H H' /\ ((∃w o,r=.bG [w,.int .i64 (.ofNat 0)]/\Gl 1 H' w n (aO o)/\gZ w=.val (.int .i64 (.ofNat n))/\Fit n es o/\Lst n es o/\∀ x,x<n->o.getD x 0<n) \/ (r=.bG [.aA,.int .i64 (.ofNat 12)]/\∃ e∈es,e.s=true/\Rc (iR es) e.t e.f)):=by
 obtain⟨j,rfl⟩:=aW hk;rw[(hY j).zAu];unfold zAu zs8;simp(disch:=first|omega|exact ti rfl|(simp only[np,nq];first|done|omega))only[go_sem,seval];have f0:Fm No H (aT H (aD 0 [.int .i64 (.ofNat n),gv])):=by exact jS
 refine Ok.ve (zz2 hC hO hS hR (k:=j) (by omega) hE hn (by omega) (hg.fm f0)) ?_;rintro r H1 ⟨lv,iv,os,d9,out,ins,res,rfl,aEE,hCR,f1⟩;have hF:=aEE.ord hE.rng;have n1:H.nx+1<=H1.nx:=f1.nx;have g1:H1.get H.nx=aD 0 [.int .i64 (.ofNat n),gv]:=(f1.keep (by simp only[np,nq];omega)).trans (mP _ _);have es3:∀ x y a b:AV,bJ [a,b] 0 [x,y]=[x,y]:=fun _ _ _ _=>rfl;have fa:Fm No H1 ((aT H1 (aD 0 [.aA,.aA])).put H1.nx (aD 0 [lv,iv])):=by exact nH
 simp(disch:=omega)only[go_sem,seval,es3,List.length_cons,List.length_nil];generalize hH2:(aT H1 (aD 0 [AV.aA,AV.aA])).put H1.nx (aD 0 [lv,iv])=H2 at *;have c2:H2.get H1.nx=aD 0 [lv,iv]:=by rw[<-hH2,eB]
 have n2:H2.nx=H1.nx+1:=by rw[<-hH2];rfl
 have g2:H2.get H.nx=aD 0 [.int .i64 (.ofNat n),gv]:=(fa.keep (by omega)).trans g1;rw[qov];unfold qrn;simp(disch:=first|omega|exact ti rfl|(simp only[np,nq];first|done|omega))only[go_sem,rB,rI,rK,rL,rN,rS,r6,g2];refine Ok.ve (zn6 hC hO hS hR (k:=j) (by omega) hE hn hlen (((hg.fm f0).fm f1).fm fa)) ?_;rintro r H3 ⟨wx,aKW,bJ8,R3,rfl,hF3,aCt,bIE,aDH,hx3,bPR,hRl,f3⟩;have hrr:=hF3.uniq hF;subst hrr;have n3:=f3.nx;have f03:=((f0.trans f1).trans fa).trans f3;have e0:=hx3.len;rw[lX]at e0;have hN:=zx4 hF hCR.ins;have hN3:=zx4 hF aCt;by_cases hm:R3=[]
 ·subst hm;have e0':aF wx=.val (.int .i64 (.ofNat 0)):=e0;simp only[go_sem,e0',Nat.lt_irrefl];rw[qow];unfold qro;have g3:H3.get H.nx=aD 0 [.int .i64 (.ofNat n),gv]:=(f3.keep (by omega)).trans g2;have c3:H3.get H1.nx=aD 0 [lv,iv]:=(f3.keep (by omega)).trans c2;have hd:=zmc hE.rng hF hN;have aJ1:∀ e∈es,e.s=true->d9.getD e.f 0≠d9.getD e.t 0:=fun e he hs h=>by
   obtain⟨l1,l2⟩:=hE.rng e he;rw[hN.same hN3 l1,hN.same hN3 l2]at h;have:=(aDH _).2 (q38.2 ⟨e,he,hs,h,rfl⟩);cases this
  have hL:=zmd hF;have aFg:=hCR.no (fa.trans f3);obtain⟨z1,z2,z3,z4,z5⟩:=hF.all;have elv:=aFg.gl.dD;rw[aFg.len]at elv;by_cases h0:0<n
  ·have mk:=qfr [.int .i64 (.ofNat 0)] 8 H3.nx n (by omega) (by omega);rw[qdz,qtd]at mk;simp only[go_sem,g3,h0,mk];rw[qix];unfold qki;have c4:(aT H3 (aD 0 (aO (List.replicate n 0)))).get H1.nx=aD 0 [lv,iv]:=by rw[qb8 _ _ _ (by omega)];exact c3
   simp only[go_sem,c4,elv];unfold qzl;rw[dK];refine qvz hY (j:=j) (by omega) (HB:=aT H (aD 0 [.int .i64 (.ofNat n),gv])) (H0:=H3) (H1:=aT H3 (aD 0 (aO (List.replicate n 0)))) hn (hg.fm f03) (by omega) hE.rng g3 (by omega) c3 (by omega) aFg hN (fun o ho x hx=>z2 x (List.mem_flatten.2 ⟨o,ho,hx⟩)) hd hL (fun o ho=>?_) ((Fm.refl _ _).push _) (Nat.lt_succ_self _) (fun o H4 hO4 g4 f4=>?_) cZ 0 (List.replicate n 0) _ (by rw[dM];omega) (Nat.zero_le _) (qZ.start n es d9) (mP _ _) (Fm.refl _ _)
   ·have:o.length<=aKW.flatten.length:=(List.sublist_flatten_of_mem ho).length_le;omega
   ·unfold q2c;obtain⟨d1,d2,d3⟩:=hO4.done hE.rng hN hF hd aJ1;have n4:=f4.nx;have n4':H3.nx+1<=H4.nx:=n4;refine Ok.ret ⟨(f03.push _).then f4 fun c hc h=>by have:=f03.nx;omega,Or.inl ⟨_,o,rfl,⟨by rw[lX,hO4.len,Nat.mul_one],.inr ⟨H3.nx,0,true,0,_,rfl,g4,Nat.zero_le _,List.drop_zero,Or.inl rfl,by omega⟩⟩,rfl,d1,d2,fun x hx=>?_⟩⟩;have h1:=d3 x hx;have h2:=hN.lt hx;omega
  ·have hn0:n=0:=by omega
   subst hn0;simp only[go_sem,g3,Nat.lt_irrefl];rw[qix];unfold qki;have hr0:aKW=[]:=List.length_eq_zero_iff.1 (by omega);subst hr0;have aRr:aF lv=.val (.int .i64 (.ofNat 0)):=elv;simp only[go_sem,c3,aRr,Nat.lt_irrefl];unfold qzl;rw[dK];show Ok (qlx (C j) _ _ _ _ _ _ (qiw (C j) _ _ _ _ _ _ 999999) _ H3) _;unfold qlx;have hes:es=[]:=by
    rcases List.eq_nil_or_concat es with h|⟨l,e,h⟩
    ·exact h
    ·have:=hE.rng e (by rw[h];simp);omega
   exact Ok.ret ⟨f03,Or.inl ⟨_,[],rfl,Gl.nil _ _,rfl,⟨rfl,fun e he=>by rw[hes]at he;cases he⟩,fun S _ x hx=>absurd hx (Nat.not_lt_zero _),fun x hx=>absurd hx (Nat.not_lt_zero _)⟩⟩
 ·have hp:0<R3.length:=List.length_pos_iff.2 hm;simp only[go_sem,e0,hp];obtain⟨x,hx⟩:=List.exists_mem_of_ne_nil R3 hm;obtain⟨e,he,hs,h1,_⟩:=q38.1 ((aDH x).1 hx);obtain⟨l1,l2⟩:=hE.rng e he;exact Ok.ret ⟨f03,Or.inr ⟨rfl,e,he,hs,((hN3.eq hF l1 l2).1 h1).2⟩⟩
end Go.Di
end
section
namespace Go.Di
open Go.Ev Go.Di.T Go.Sort
def lvN(s:SS):Nat:=lvl ((s.a-12402) / 256)
theorem qm9(n:Nat):lvN (eY n)=lvl n:=by unfold lvN eY lvl;simp
def wJ(n:Nat)(s:SS)(neg:Bool):Prop:=lvN s<lvl n\/(neg=false/\lvN s=lvl n)
theorem zfu{n k:Nat}{neg:Bool}(h:qkb n k neg=true):wJ n (eY k) neg:=by unfold qkb at h;unfold wJ;rw[qm9];simpa using h
def NdL(n:Nat)(y:Nd):Prop:=(y.k=1->y.neg=false)/\(y.k=2->wJ n y.rl y.neg)/\(y.k=3->wJ n y.to y.neg)
theorem qtj{n:Nat}{neg:Bool}(hneg:neg=true->0<lvl n):∀ y∈(yK neg).nodes neg,NdL n y:=by
 unfold yK;cases neg
 ·intro y hy;simp[Ru.nodes]at hy;subst hy;exact⟨fun _=>rfl,fun h=>by simp at h,fun h=>by simp at h⟩
 ·intro y hy;simp[Ru.nodes]at hy;subst hy;refine⟨fun h=>by simp at h,fun _=>.inl ?_,fun h=>by simp at h⟩;rw[qm9];exact hneg rfl
theorem q0i{L:List (List Nat)}{n:Nat}(hn:n<bF L):∀(d i:Nat) (neg:Bool),(neg=true->0<lvl n)->∀ y∈(eF L n d i neg).1.nodes neg,NdL n y
 |0,i,neg,h=>by unfold eF;exact qtj h
 |d+1,i,neg,hneg=>by
  have hA:At (bF L) n neg:=⟨hn,Nat.min_le_right _ _,hneg⟩;unfold eF;split
  ·exact qtj hneg
  split
  ·exact qtj hneg
  split
  ·have hp:=qt1 hA;have hm:=qe0 (d:=sE) (Nat.mod_lt (eD L n i / 8) hp);intro y hy;simp[xB,Ru.nodes]at hy;subst hy;refine⟨fun h=>by simp at h,fun _=>?_,fun h=>by simp at h⟩;have:∀ s∈cmpL (bF L) n neg,wJ n s neg:=fun s hs=>by
    obtain⟨k,hk,rfl⟩:=List.mem_map.1 hs;exact zfu (List.mem_filter.1 hk).2
   simp_all
  split
  ·unfold rT;split
   ·exact qtj hneg
   ·rename_i h;have hm:=qe0 (d:=(⟨sE,sE⟩:ArS)) (Nat.mod_lt (eD L n i / 8) (show 0<(lF L n neg).length by omega));intro y hy;simp only[Ru.nodes,List.mem_singleton]at hy;subst hy;refine⟨fun h=>by simp at h,fun h=>by simp at h,fun _=>?_⟩;have:∀ s∈lF L n neg,wJ n s.to neg:=fun s hs=>by
     obtain⟨i,_,hs⟩:=List.mem_flatMap.1 hs;obtain⟨t,_,hs⟩:=List.mem_flatMap.1 hs;obtain⟨j,hj,rfl⟩:=List.mem_map.1 hs;have hp:=(List.mem_filter.1 hj).2;unfold arP at hp;rw[Bool.and_eq_true]at hp;exact zfu hp.2
    exact this _ hm
  ·intro y hy;rw[Ru.nodes,List.mem_cons,List.mem_append]at hy;have hk:sM n (eD L n i)≠1/\sM n (eD L n i)≠2/\sM n (eD L n i)≠3:=by unfold sM;split<;>(try split)<;>omega
   rcases hy with rfl|hy|hy
   ·exact⟨fun h=>absurd h hk.1,fun h=>absurd h hk.2.1,fun h=>absurd h hk.2.2⟩
   ·exact q0i hn d _ _ hneg _ hy
   ·refine q0i hn d _ _ (fun h=>?_) _ hy;rw[Bool.or_eq_true,decide_eq_true_iff]at h;rcases h with h|h
    ·exact hneg h
    ·unfold sM at h;split at h
     ·omega
     split at h
     ·omega
     ·omega
theorem zk6{L:List (List Nat)}{n:Nat}(hn:n<bF L){t:iP}(h:t∈jY L n)(hr:t.rl≠sE):lvN t.rl<=lvl n:=by
 unfold jY at h;rw[List.mem_append]at h;rcases h with h|h
 ·unfold rH at h;rw[List.mem_cons]at h;rcases h with rfl|h
  ·trivial
  ·rw[List.mem_map]at h;obtain⟨i,_,rfl⟩:=h;trivial
 ·split at h
  ·rw[List.mem_singleton]at h;have hm:=qe0 (d:=(⟨sE,sE⟩:iP)) (Nat.mod_lt (eD L n 1 / 2) (qsp hn));rw[<-h]at hm;unfold p8 at hm;rw[List.mem_map]at hm;obtain⟨k,hk,rfl⟩:=hm;rw[List.mem_filter]at hk;rw[qm9];simp_all
  ·cases h
variable {L:List (List Nat)} {X:List aS}
theorem lT.len(h:lT L X):(aQ X).length=bF L:=by rw[h.all];simp
theorem lT.aDB(h:lT L X){a b:SS}(hl:cK X a b<(aQ X).length):lvl (cK X a b)=lvN b:=by
 have h1:(aQ X)[cK X a b]=(a,b):=by have:=List.findIdx_getElem (w:=hl);exact of_decide_eq_true this
 have h2:(aQ X)[cK X a b]=prN (cK X a b):=by
  have:∀(l:List (SS×SS)) (hll:cK X a b<l.length),l=(List.range (bF L)).map prN->l[cK X a b]=prN (cK X a b):=fun l hll e=>by subst e;simp
  exact this _ hl h.all
 rw[h1]at h2;have h3:=congrArg Prod.snd h2;have h4:b=eY (cK X a b):=h3
 calc lvl (cK X a b)=lvN (eY (cK X a b)):=(qm9 _).symm
  _=lvN b:=by rw[<-h4]
theorem lT.lev(h:lT L X){e:Edge}(he:e∈vO X X)(hf:e.f<(aQ X).length)(ht:e.t<(aQ X).length):lvl e.t<=lvl e.f/\(e.s=true->lvl e.t<lvl e.f):=by
 obtain⟨g,hg,he⟩:=List.mem_flatMap.1 he;obtain⟨x,hx,he⟩:=List.mem_flatMap.1 he;obtain⟨y,hy,he⟩:=List.mem_flatMap.1 he;obtain⟨p,hp,rfl⟩:=List.mem_map.1 he;obtain⟨i,n,_,_,_,_,hn,hr⟩:=h.x hg hx;have hnm:x.r.name=eY n:=by rw[hr,qdo];rfl
 have h1:lvl (cK X g.name x.r.name)=lvl n:=by rw[h.aDB hf,hnm,qm9]
 have h2:lvl (cK X p.1 p.2)=lvN p.2:=h.aDB ht;show lvl (cK X p.1 p.2)<=lvl (cK X g.name x.r.name)/\(y.neg=true->lvl (cK X p.1 p.2)<lvl (cK X g.name x.r.name));rw[h1,h2];have lM:x.r.rule=(eF L n 6 2 false).1:=by rw[hr,qbz];rfl
 rw[lM]at hy;obtain⟨q1,q2,q3⟩:=q0i hn 6 2 false (fun h=>by cases h) y hy;have key:∀ s,wJ n s y.neg->lvN s<=lvl n/\(y.neg=true->lvN s<lvl n):=fun s hs=>by
  rcases hs with hs|⟨e,hs⟩
  ·omega
  ·simp_all
 unfold y8 at hp;split at hp
 ·rename_i hk;obtain⟨t,ht',rfl⟩:=List.mem_map.1 hp;obtain⟨ht1,ht2⟩:=List.mem_filter.1 ht';have:t∈jY L n:=by
   rw[hr]at ht1;exact qfy _ _ t ht1
  exact⟨zk6 hn this (by simpa using ht2),fun h=>by rw[q1 hk]at h;cases h⟩
 split at hp
 ·rename_i hk;rw[List.mem_singleton]at hp;subst hp;exact key _ (q2 hk)
 split at hp
 ·rename_i hk;obtain⟨s,_,rfl⟩:=List.mem_map.1 hp;exact key _ (q3 hk)
 ·cases hp
theorem zuq{n:Nat}{es:List Edge}{lv:Nat->Nat}(h:∀ e∈es,lv e.t<=lv e.f/\(e.s=true->lv e.t<lv e.f)):¬ ∃e∈es,e.s=true/\Rc (iR es) e.t e.f:=by
 rintro ⟨e,he,hs,hr⟩;have down:∀ a b,Rc (iR es) a b->lv b<=lv a:=fun a b hab=>by
  induction hab with
  |refl=>exact Nat.le_refl _
  |step _ hc ih=>obtain⟨e',h1,h2,h3⟩:=qds.1 hc;have:=(h e' h1).1;rw[h2,h3]at this;omega
 have:=down _ _ hr;have:=(h e he).2 hs;omega
end Go.Di
end
section
namespace Go.Di
open Go.Ev Go.Di.T Go.Sort
variable {C:Nat->Ev.Call} {LA LO:LP} {L:List (List Nat)} {X:List aS}
def esG(X:List aS):List Edge:=jH (sortE (vO X X))
theorem q6p{n:Nat}(ms:List Nat)(hn:n<13):(qeh n ms).length<900:=by have:=zqj n ms n;have h:n*n<=12*12:=Nat.mul_le_mul (by omega) (by omega);unfold qeh;rw[List.length_map];omega
theorem lT.es(h:lT L X):qdu (aQ X).length (esG X)/\(esG X).length<900:=by have e:esG X=qeh (aQ X).length _:=h.val.same.symm;rw[e];exact⟨q4q _ _,q6p _ (by rw[h.len];exact qja L)⟩
theorem lT.nb(h:lT L X):¬ ∃e∈esG X,e.s=true/\Rc (iR (esG X)) e.t e.f:=zuq (n:=0) (lv:=lvl) fun e he=>by have hr:=h.es.1.rng e he;exact h.lev (qu3.1 (zgm.1 he)) hr.1 hr.2
structure aSp(X:List aS)(o:List Nat):Prop where
 fit:Fit (aQ X).length (esG X) o
 lst:Lst (aQ X).length (esG X) o
 lt:∀ x,x<(aQ X).length->o.getD x 0<(aQ X).length
theorem zwf(hC:aZ C)(hO:pP C)(hS:oV C)(hR:pJ LA LO C){k:Nat}(hk:1002<=k)(h:lT L X){gv:AV}{H:Hp}(hg:jX H gv (esG X)):Ok (C k (.f 57) [.agg [iN ((aQ X).length),gv]] H) fun r H'=>Fm No H H' /\ ∃w o,r=.bG [w,iN 0]/\Gl 1 H' w (aQ X).length (aO o)/\gZ w=.val (iN ((aQ X).length))/\aSp X o:=by
 have hm:=qja L;refine(q7f hC hC hO hS hR hk h.es.1 (by rw[h.len];omega) h.es.2 hg).mono fun r H' hh=>⟨hh.1,?_⟩;rcases hh.2 with⟨w,o,h1,h2,h3,h4,h5,h6⟩|⟨_,h2⟩
 ·exact⟨w,o,h1,h2,h3,h4,h5,h6⟩
 ·exact absurd h2 h.nb
theorem zhi(hC:aZ C)(hN:l8 C)(hE:qim C)(hO:pP C)(hS:oV C)(hR:pJ LA LO C){k:Nat}(hk:1003<=k){H:Hp}{sv:AV}(hX:dH H sv X)(h:lT L X):Ok (C k (.f 27) [.agg [sv]] H) fun r H'=>r=iN 0/\Fm No H H':=by
 obtain⟨j,rfl⟩:=aW hk;rw[(hC j).zAe];unfold zAe zth;simp(disch:=omega)only[go_sem];have f:Fm No H (aT H (aD 0 [sv])):=by exact jS
 refine Ok.ve (zz7 hC hN hE (k:=j) (by omega) (hX.fm f) h.val) ?_;rintro _ H1 ⟨gv,rfl,hg,_,f1,_⟩;simp(disch:=omega)only[go_sem,seval];have fa:Fm No H1 ((aT H1 (aD 0 [iN 0,.aA])).put H1.nx (aD 0 [iN ((aQ X).length),gv])):=by exact nH
 refine Ok.ve (zwf hC hO hS hR (k:=j) (by omega) h (hg.fm fa)) ?_;rintro _ H2 ⟨f2,w,o,rfl,_⟩;exact Ok.ret ⟨rfl,((f.trans f1).trans fa).trans f2⟩
end Go.Di
end
section
namespace Go.Di
open Go.Ev Go.Di.T Go.Sort
variable {C:Nat->Ev.Call} {LA LO:LP}
theorem qd3(n a:Nat):iF (.str n a)=.val (iN n):=id rfl
attribute [go_sem] qd3
def okB(x:Nat):Bool:=(decide (97<=x)&&decide (x<=122))||(decide (48<=x)&&decide (x<=57))
def vK(s:SS)(i:Nat):Bool:=(List.range i).all fun j=>okB (rW s.a j)
def gW(s:SS):Bool:=decide (0<s.n)&&(decide (s.n<=16)&&vK s s.n)
def nmE(s:SS):Nat:=if gW s then 0 else 6
theorem qid(s:SS){i:Nat}(h:i<s.n):tF (.str s.n s.a) (iN i)=.val (.int .u8 (.ofNat (rW s.a i))):=by unfold tF;simp only[blt_eq,decide_eq_true h,cond_true]
theorem qkx(s:SS)(i:Nat):vK s (i+1)=(vK s i&&okB (rW s.a i)):=by unfold vK;rw[List.range_succ,List.all_append];simp
theorem zqa{s:SS}{i j:Nat}(h:i<=j)(hj:vK s j=true):vK s i=true:=by unfold vK at hj ⊢;rw[List.all_eq_true]at hj ⊢;exact fun x hx=>hj x (List.mem_range.2 (by have:=List.mem_range.1 hx;omega))
theorem qm7{call:Ev.Call}{s:SS}{H:Hp}{Q:pL}{qr:pD}{q:pH}(hs:s.n<=16)(hr:vK s s.n=false->Ok (qr (iN 6) H) Q)(hq:vK s s.n=true->Ok (q H) Q):∀(k i:Nat),i<=s.n->s.n-i<k->vK s i=true->Ok (qk5 call qr q s.v (iN (s.n)) k (iN i) H) Q
 |0,i,_,h,_=>by omega
 |k+1,i,hi,hk,ho=>by
  show Ok (q7i call _ _ _ _ (qk5 call _ _ _ _ k) _ H) Q;unfold q7i;by_cases hlt:i<s.n
  ·simp only[go_sem,hlt];unfold qxb SS.v;have e1:=qid s hlt;have bad:okB (rW s.a i)=false->Ok (qr (iN 6) H) Q:=fun h=>hr (by
    cases hh:vK s s.n with
    |false=>rfl
    |true=>have:=zqa (show i+1<=s.n by omega) hh;rw[qkx,h,Bool.and_false]at this;cases this)
   have good:okB (rW s.a i)=true->Ok (q1l call (qk5 call qr q s.v (iN (s.n)) k) (iN i) H) Q:=fun h=>by unfold q1l;simp(disch:=omega)only[go_sem];exact qm7 hs hr hq k (i+1) (by omega) (by omega) (by rw[qkx,ho,h];rfl)
   generalize rW s.a i=x at *;unfold okB at bad good;by_cases h1:x<97
   ·by_cases h2:x<48
    ·simp only[go_sem,e1,h1,h2];exact bad (by simp;omega)
    ·by_cases h3:57<x
     ·simp only[go_sem,e1,h1,h2,h3];exact bad (by simp;omega)
     ·simp only[go_sem,e1,h1,h2,h3];exact good (by simp;omega)
   ·by_cases h4:122<x
    ·have h2:¬ x<48:=by omega
     have h3:57<x:=by omega
     simp only[go_sem,e1,h1,h4,h2,h3];simp_all
    ·simp only[go_sem,e1,h1,h4];exact good (by simp;omega)
  ·simp only[go_sem,hlt];have he:i=s.n:=by omega
   simp_all
theorem zet(hC:aZ C){k:Nat}(hk:1<=k)(s:SS)(H:Hp):Ok (C k (.f 163) [s.v] H) fun r H'=>r=iN ((nmE s))/\Fm No H H':=by
 obtain⟨j,rfl⟩:=aW hk;rw[(hC j).zEy];unfold zEy zqr SS.v;by_cases h1:s.n<1
 ·simp only[go_sem,h1];refine Ok.ret ⟨?_,Fm.refl _ _⟩;unfold nmE gW;simp_all
 ·by_cases h2:16<s.n
  ·simp only[go_sem,h1,h2];refine Ok.ret ⟨?_,Fm.refl _ _⟩;unfold nmE gW;rw[decide_eq_false (show ¬s.n<=16 by omega),Bool.false_and,Bool.and_false];rfl
  ·simp only[go_sem,h1,h2];unfold qxa;simp only[go_sem];unfold q7j;rw[dK];have e:gW s=vK s s.n:=by unfold gW;rw[decide_eq_true (by omega),decide_eq_true (by omega),Bool.true_and,Bool.true_and]
   refine qm7 (by omega) (fun h=>?_) (fun h=>?_) cZ 0 (Nat.zero_le _) (by rw[dM];omega) rfl
   ·exact Ok.ret ⟨by unfold nmE;rw[e,h];rfl,Fm.refl _ _⟩
   ·unfold qk6;exact Ok.ret ⟨by unfold nmE;rw[e,h];rfl,Fm.refl _ _⟩
theorem qmp{call:Ev.Call}{s:SS}{H:Hp}{Q:pL}{q:pD}(hs:s.n<=16)(hq:Ok (q (.bool (vK s s.n)) H) Q):∀(k i:Nat) (b:Bool),i<=s.n->s.n-i<k->vK s i=b->(b=false->vK s s.n=false)->Ok (qjx call q s.v k (.bool b) (iN i) H) Q
 |0,i,_,_,h,_,_=>by omega
 |k+1,i,b,hi,hk,ho,hb=>by
  show Ok (qt5 call _ _ (qjx call _ _ k) _ _ H) Q;unfold qt5 SS.v;by_cases hlt:i<s.n
  ·cases b with
   |false=>simp only[go_sem,hlt];simp_all
   |true=>
    simp only[go_sem,hlt];unfold qxg;have e1:=qid s hlt;have next:Ok (qqo call (qjx call q s.v k) (.bool (okB (rW s.a i))) (iN i) H) Q:=by
     unfold qqo;simp(disch:=omega)only[go_sem];refine qmp hs hq k (i+1) _ (by omega) (by omega) (by rw[qkx,ho,Bool.true_and]) fun h=>?_;cases hh:vK s s.n with
     |false=>rfl
     |true=>have:=zqa (show i+1<=s.n by omega) hh;rw[qkx,h,Bool.and_false]at this;cases this
    unfold SS.v at next
    generalize rW s.a i=x at *;unfold okB at next
    by_cases h1:97<=x
    ·by_cases h2:x<=122
     ·simp only[go_sem,e1,h1,h2];simp only[h1,h2,decide_true,Bool.and_self,Bool.true_or]at next
      exact next
     ·have h3:48<=x:=by omega
      have h4:¬ x<=57:=by omega
      simp only[go_sem,e1,h1,h2,h3,h4];simp_all
    ·by_cases h3:48<=x
     ·by_cases h4:x<=57
      ·simp only[go_sem,e1,h1,h3,h4];simp_all
      ·simp only[go_sem,e1,h1,h3,h4];simp_all
     ·simp only[go_sem,e1,h1,h3];simp_all
  ·simp only[go_sem,hlt];have he:i=s.n:=by omega
   simp_all
theorem qh3(hC:aZ C){k:Nat}(hk:1<=k)(s:SS)(H:Hp):Ok (C k (.f 101) [s.v] H) fun r H'=>r=iN ((nmE s))/\Fm No H H':=by
 obtain⟨j,rfl⟩:=aW hk;rw[(hC j).zEr];unfold zEr zqy SS.v;have fin:∀ b,b=gW s->Ok (qho (C j) (.bool b) H) fun r H'=>r=iN ((nmE s))/\Fm No H H':=fun b hb=>by
  unfold qho nmE;rw[<-hb];cases b
  ·simp only[go_sem];exact Ok.ret ⟨rfl,Fm.refl _ _⟩
  ·simp only[go_sem];exact Ok.ret ⟨rfl,Fm.refl _ _⟩
 have small:∀ b,gW s=b->b=false->(0<s.n/\s.n<=16->False)->Ok (qt6 (C j) (fun x3 H=>qho (C j) x3 H) (.str s.n s.a) (.bool false) (iN 0) H) fun r H'=>r=iN ((nmE s))/\Fm No H H':=fun b hb hf _=>by
  unfold qt6;obtain⟨m,hm⟩:∃ m,cZ=m+1:=⟨999999,by rw[dM]⟩;rw[dK,hm];show Ok (qt5 (C j) _ _ (qjx (C j) _ _ m) _ _ H) _;unfold qt5;by_cases h0:0<s.n
  ·simp only[go_sem,h0];simp_all
  ·simp only[go_sem,h0];simp_all
 by_cases h1:0<s.n
 ·by_cases h2:s.n<=16
  ·simp only[go_sem,h1,h2];unfold qt6;rw[dK];refine qmp h2 (fin _ ?_) cZ 0 true (Nat.zero_le _) (by rw[dM];omega) rfl (fun h=>by cases h);unfold gW;simp_all
  ·simp only[go_sem,h1,h2];exact small _ rfl (by unfold gW;rw[decide_eq_false h2,Bool.false_and,Bool.and_false]) (fun h=>h2 h.2)
 ·simp only[go_sem,h1];exact small _ rfl (by unfold gW;rw[decide_eq_false h1,Bool.false_and]) (fun h=>h1 h.1)
def nmA(l:List SS):Bool:=l.all gW
def pM(b:Bool):Nat:=if b then 0 else 6
theorem zeq(s:SS):nmE s=pM (gW s):=rfl
theorem qtb(a b:Bool):max (pM a) (pM b)=pM (a&&b):=by cases a<;>cases b<;>rfl
theorem qv1(hC:aZ C){j:Nat}(hj:1<=j){v:AV}{l:List SS}{H0:Hp}(hv:Rs 1 sC H0 v l)(hl:l.length<1000){Q:pL}{qr:pD}{q:pH}(hr:∀ H,Fm No H0 H->nmA l=false->Ok (qr (iN 6) H) Q)(hq:∀ H,Fm No H0 H->nmA l=true->Ok (q H) Q):∀(k i:Nat) (H:Hp),i<=l.length->l.length-i<k->nmA (l.take i)=true->Fm No H0 H->Ok (qob (C j) qr q v (iN (l.length)) k (iN i) H) Q
 |0,i,_,_,h,_,_=>by omega
 |k+1,i,H,hi,hk,ho,hf=>by
  show Ok (q7l (C j) _ _ _ _ (qob (C j) _ _ _ _ k) _ H) Q;unfold q7l;by_cases hlt:i<l.length
  ·simp only[go_sem,hlt];unfold qxc;obtain⟨b1,o1,e1,e2,_,_,e4⟩:=(hv.fm hf).at' i hlt;have r0:dO (H.get b1) o1=.val l[i].v:=e4 0 (by rw[qve];omega);simp only[go_sem,e1,r0];refine Ok.ve (zet hC (k:=j) (by omega) l[i] H) ?_;rintro _ H1 ⟨rfl,f1⟩;rw[zeq];cases hb:gW l[i]with
   |false=>refine hr H1 (hf.trans f1) ?_;unfold nmA;rw[List.all_eq_false];exact⟨l[i],List.getElem_mem hlt,by rw[hb];simp⟩
   |true=>unfold q7k;simp(disch:=omega)only[go_sem];refine qv1 hC hj hv hl hr hq k (i+1) H1 (by omega) (by omega) ?_ (hf.trans f1);unfold nmA at ho ⊢;rw[List.take_succ_eq_append_getElem hlt,List.all_append,ho];simp[hb]
  ·simp only[go_sem,hlt];have he:i=l.length:=by omega
   simp_all
theorem zeu(hC:aZ C){k:Nat}(hk:2<=k){v:AV}{l:List SS}{H:Hp}(hv:Rs 1 sC H v l)(hl:l.length<1000):Ok (C k (.f 128) [v] H) fun r H'=>r=iN ((pM (nmA l)))/\Fm No H H':=by
 obtain⟨j,rfl⟩:=aW hk;rw[(hC j).zEw];unfold zEw zqt;have e0:=hv.len;simp only[go_sem,e0];unfold q7m;rw[dK];refine qv1 hC (j:=j) (by omega) hv hl (fun H1 f1 h=>?_) (fun H1 f1 h=>?_) cZ 0 H (Nat.zero_le _) (by rw[dM];omega) rfl (Fm.refl _ _)
 ·exact Ok.ret ⟨by rw[h];rfl,f1⟩
 ·unfold qk7;exact Ok.ret ⟨by rw[h];rfl,f1⟩
theorem rs2{H:Hp}{b:Nat}{x y:SS}(h:H.get b=aD 0 [x.v,y.v])(hl:b<H.nx):Rs 1 sC H (.sl b 0 2 2 true) [x,y]:=
 Gl.rs qve ⟨rfl,.inr ⟨b,0,true,0,_,rfl,h,Nat.zero_le _,rfl,.inl rfl,hl⟩⟩
theorem rs3{H:Hp}{b:Nat}{x y z:SS}(h:H.get b=aD 0 [x.v,y.v,z.v])(hl:b<H.nx):Rs 1 sC H (.sl b 0 3 3 true) [x,y,z]:=
 Gl.rs qve ⟨rfl,.inr ⟨b,0,true,0,_,rfl,h,Nat.zero_le _,rfl,.inl rfl,hl⟩⟩
theorem q6d(hC:aZ C){k:Nat}(hk:3<=k)(x y:SS)(H:Hp):Ok (C k (.f 129) [.agg [x.v,y.v]] H) fun r H'=>r=iN ((pM (gW x&&gW y)))/\Fm No H H':=by
 obtain⟨j,rfl⟩:=aW hk;rw[(hC j).zEx];unfold zEx zqs SS.v;simp(disch:=omega)only[go_sem];have f:Fm No H (aT (aT H (aD 0 [.str x.n x.a,.str y.n y.a])) (aD 0 [.str x.n x.a,.str y.n y.a])):=by exact nM
 refine Ok.ve (zeu hC (k:=j) (by omega) (l:=[x,y]) (rs2 (by simp(disch:=first|omega|exact ti rfl|(simp only[np,nq];first|done|omega))only[go_sem,SS.v]) (by simp only[np,nq];omega)) (by simp)) ?_;rintro _ H1 ⟨rfl,f1⟩;refine Ok.ret ⟨by simp[nmA],f.trans f1⟩
theorem q37(hC:aZ C){k:Nat}(hk:3<=k)(x y z:SS)(H:Hp):Ok (C k (.f 97) [.agg [x.v,y.v,z.v]] H) fun r H'=>r=iN ((pM (gW x&&(gW y&&gW z))))/\Fm No H H':=by
 obtain⟨j,rfl⟩:=aW hk;rw[(hC j).zEs];unfold zEs zqx SS.v;simp(disch:=omega)only[go_sem];have f:Fm No H (aT (aT H (aD 0 [.str x.n x.a,.str y.n y.a,.str z.n z.a])) (aD 0 [.str x.n x.a,.str y.n y.a,.str z.n z.a])):=by exact nM
 refine Ok.ve (zeu hC (k:=j) (by omega) (l:=[x,y,z]) (rs3 (by simp(disch:=first|omega|exact ti rfl|(simp only[np,nq];first|done|omega))only[go_sem,SS.v]) (by simp only[np,nq];omega)) (by simp)) ?_;rintro _ H1 ⟨rfl,f1⟩;refine Ok.ret ⟨by simp[nmA],f.trans f1⟩
def sbB(x y z:SS):Bool:=gW x&&(gW y&&(z.n==0||gW z))
theorem q0t(hC:aZ C){k:Nat}(hk:4<=k)(x y z:SS)(hz:z.n=0->z.a=0)(H:Hp):Ok (C k (.f 98) [.agg [x.v,y.v,z.v]] H) fun r H'=>r=iN ((pM (sbB x y z)))/\Fm No H H':=by
 obtain⟨j,rfl⟩:=aW hk;rw[(hC j).zEt];unfold zEt zqw SS.v sbB;by_cases h:z.n=0
 ·have ha:=hz h;simp(disch:=omega)only[go_sem,h,ha];refine Ok.ve (q6d hC (k:=j) (by omega) x y _) ?_;rintro _ H1 ⟨rfl,f1⟩;refine Ok.ret ⟨by simp,?_⟩;exact Fm.trans (by exact jS) f1
 ·have hb:(z.n==0)=false:=by simp[h]
  simp(disch:=omega)only[go_sem,h,hb];unfold q7s;simp(disch:=omega)only[go_sem];refine Ok.ve (q37 hC (k:=j) (by omega) x y z _) ?_;rintro _ H1 ⟨rfl,f1⟩;refine Ok.ret ⟨by simp,?_⟩;exact Fm.trans (by exact jS) f1
theorem qjb(hC:aZ C){k:Nat}(hk:2<=k)(x y:SS)(H:Hp):Ok (C k (.f 100) [.agg [x.v,y.v]] H) fun r H'=>r=iN ((pM (gW x&&gW y)))/\Fm No H H':=by
 obtain⟨j,rfl⟩:=aW hk;rw[(hC j).zEq];unfold zEq zqz SS.v;simp(disch:=omega)only[go_sem];refine Ok.kI (qh3 hC (k:=j) (by omega) x _) ?_;rintro _ H1 ⟨rfl,f1⟩;have g1:H1.get H.nx=aD 0 [.str x.n x.a,.str y.n y.a]:=by rw[f1.keep (by simp only[np,nq];omega)];simp(disch:=omega)only[go_sem]
 simp only[go_sem,g1];refine Ok.kI (qh3 hC (k:=j) (by omega) y _) ?_;rintro _ H2 ⟨rfl,f2⟩;rw[zeq,zeq];have hm:=aAJ (pM (gW x)) (pM (gW y));have hf:=qtb (gW x) (gW y);simp only[go_sem,qhg,hm,hf];refine Ok.ret ⟨rfl,?_⟩;exact Fm.trans (Fm.trans (by exact jS) f1) f2
theorem zlw(hC:aZ C){k:Nat}(hk:3<=k)(x y z:SS)(H:Hp):Ok (C k (.f 67) [.agg [x.v,y.v,z.v]] H) fun r H'=>r=iN ((pM (gW x&&(gW y&&gW z))))/\Fm No H H':=by
 obtain⟨j,rfl⟩:=aW hk;rw[(hC j).zEl];unfold zEl zq4 SS.v;simp(disch:=omega)only[go_sem,seval];refine Ok.kI (qjb hC (k:=j) (by omega) x y _) ?_;rintro _ H1 ⟨rfl,f1⟩;have g1:H1.get H.nx=aD 0 [.str x.n x.a,.str y.n y.a,.str z.n z.a]:=by rw[f1.keep (by simp only[np,nq];omega)];simp(disch:=omega)only[go_sem]
 simp only[go_sem,g1];refine Ok.kI (qh3 hC (k:=j) (by omega) z _) ?_;rintro _ H2 ⟨rfl,f2⟩;rw[zeq];have hm:=aAJ (pM (gW x&&gW y)) (pM (gW z));have hf:=qtb (gW x&&gW y) (gW z);simp only[go_sem,qhg,hm,hf];refine Ok.ret ⟨by simp[Bool.and_assoc],?_⟩;exact Fm.trans (Fm.trans (by exact jS) f1) f2
theorem q0l(hC:aZ C){k:Nat}(hk:4<=k)(x y z:SS)(H:Hp):Ok (C k (.f 68) [.agg [x.v,y.v,z.v]] H) fun r H'=>r=iN ((pM (sbB x y z)))/\Fm No H H':=by
 obtain⟨j,rfl⟩:=aW hk;rw[(hC j).zEm];unfold zEm zq3 SS.v sbB;by_cases h:z.n=0
 ·simp(disch:=omega)only[go_sem,h];refine Ok.ve (qjb hC (k:=j) (by omega) x y _) ?_;rintro _ H1 ⟨rfl,f1⟩;refine Ok.ret ⟨by simp,?_⟩;exact Fm.trans (by exact jS) f1
 ·have hb:(z.n==0)=false:=by simp[h]
  simp(disch:=omega)only[go_sem,h,hb];unfold qxh;simp(disch:=omega)only[go_sem,seval];refine Ok.kI (qjb hC (k:=j) (by omega) x y _) ?_;rintro _ H1 ⟨rfl,f1⟩;have g1:H1.get H.nx=aD 0 [.str x.n x.a,.str y.n y.a,.str z.n z.a]:=by rw[f1.keep (by simp only[np,nq];omega)];simp(disch:=omega)only[go_sem]
  simp only[go_sem,g1];refine Ok.kI (qh3 hC (k:=j) (by omega) z _) ?_;rintro _ H2 ⟨rfl,f2⟩;rw[zeq];have hm:=aAJ (pM (gW x&&gW y)) (pM (gW z));have hf:=qtb (gW x&&gW y) (gW z);simp only[go_sem,qhg,hm,hf];refine Ok.ret ⟨by simp[Bool.and_assoc],?_⟩;exact Fm.trans (Fm.trans (by exact jS) f1) f2
structure Tu where
 a:SS
 b:SS
 c:SS
 x:SS
 y:SS
 z:SS
 o:z.n=0->z.a=0
def Tu.cells(t:Tu):List AV:=[t.a.v,t.b.v,t.c.v,t.x.v,t.y.v,t.z.v]
def Tu.ok(t:Tu):Bool:=(gW t.a&&(gW t.b&&gW t.c))&&sbB t.x t.y t.z
theorem zc8(hC:aZ C){k:Nat}(hk:5<=k)(t:Tu)(H:Hp):Ok (C k (.f 64) [.agg t.cells] H) fun r H'=>r=iN ((pM t.ok))/\Fm No H H':=by
 obtain⟨j,rfl⟩:=aW hk;rw[(hC j).zEn];unfold zEn zq2 Tu.cells Tu.ok SS.v;simp(disch:=omega)only[go_sem];refine Ok.ve (q37 hC (k:=j) (by omega) t.a t.b t.c _) ?_;rintro _ H1 ⟨rfl,f1⟩;have g1:H1.get H.nx=aD 0 [.str t.a.n t.a.a,.str t.b.n t.b.a,.str t.c.n t.c.a,.str t.x.n t.x.a,.str t.y.n t.y.a,.str t.z.n t.z.a]:=by rw[f1.keep (by simp only[np,nq];omega)];simp(disch:=omega)only[go_sem]
 cases hb:(gW t.a&&(gW t.b&&gW t.c))with
 |false=>refine Ok.ret ⟨rfl,?_⟩;exact Fm.trans (by exact jS) f1
 |true=>unfold q7v;simp only[go_sem,g1];refine Ok.ve (q0t hC (k:=j) (by omega) t.x t.y t.z t.o _) ?_;rintro _ H2 ⟨rfl,f2⟩;refine Ok.ret ⟨by simp[pM],?_⟩;exact Fm.trans (Fm.trans (by exact jS) f1) f2
theorem zd7(hC:aZ C){k:Nat}(hk:5<=k)(t:Tu)(H:Hp):Ok (C k (.f 40) [.agg t.cells] H) fun r H'=>r=iN ((pM t.ok))/\Fm No H H':=by
 obtain⟨j,rfl⟩:=aW hk;rw[(hC j).zEe];unfold zEe zrb Tu.cells Tu.ok SS.v;simp(disch:=omega)only[go_sem,seval];refine Ok.kI (zlw hC (k:=j) (by omega) t.a t.b t.c _) ?_;rintro _ H1 ⟨rfl,f1⟩;have g1:H1.get H.nx=aD 0 [.str t.a.n t.a.a,.str t.b.n t.b.a,.str t.c.n t.c.a,.str t.x.n t.x.a,.str t.y.n t.y.a,.str t.z.n t.z.a]:=by rw[f1.keep (by simp only[np,nq];omega)];simp(disch:=omega)only[go_sem]
 simp(disch:=first|omega|exact ti rfl)only[go_sem,seval,g1];refine Ok.kI (q0l hC (k:=j) (by omega) t.x t.y t.z _) ?_;rintro _ H2 ⟨rfl,f2⟩;have hm:=aAJ (pM (gW t.a&&(gW t.b&&gW t.c))) (pM (sbB t.x t.y t.z));have hf:=qtb (gW t.a&&(gW t.b&&gW t.c)) (sbB t.x t.y t.z);simp only[go_sem,qhg,hm,hf];refine Ok.ret ⟨rfl,?_⟩;exact Fm.trans (Fm.trans (by exact jS) f1) f2
def Sg(H:Hp)(r:AV)(H':Hp):Prop:=(∃i:Int,r=.int .i64 i)/\Fm No H H'
theorem qpu{call:Ev.Call}{s t:SS}{H:Hp}{Q:pL}{qr:pD}{q:pH}(hr:∀ i,Ok (qr (.int .i64 i) H) Q)(hq:Ok (q H) Q):∀(k i:Nat),i<=s.n->s.n-i<k->s.n<1000000->Ok (qk8 call qr q s.v t.v k (iN i) H) Q
 |0,i,_,h,_=>by omega
 |k+1,i,hi,hk,hs=>by
  show Ok (q7o call _ _ _ _ (qk8 call _ _ _ _ k) _ H) Q;unfold q7o SS.v;by_cases h1:i<s.n
  ·by_cases h2:i<t.n
   ·simp only[go_sem,h1,h2];unfold qxd;have e1:=qid s h1;have e2:=qid t h2;simp only[go_sem,e1,e2];by_cases h3:rW s.a i<rW t.a i
    ·simp only[go_sem,h3];exact hr _
    ·simp only[go_sem,h3];unfold qxe;simp only[go_sem,e1,e2];by_cases h4:rW t.a i<rW s.a i
     ·simp only[go_sem,h4];exact hr _
     ·simp only[go_sem,h4];unfold qxf;simp(disch:=omega)only[go_sem];exact qpu hr hq k (i+1) (by omega) (by omega) hs
   ·simp only[go_sem,h1,h2];exact hq
  ·simp only[go_sem,h1];exact hq
theorem qkw(hC:aZ C){k:Nat}(hk:1<=k)(s t:SS)(hs:s.n<1000000)(H:Hp):Ok (C k (.f 106) [s.v,t.v] H) (Sg H):=by
 obtain⟨j,rfl⟩:=aW hk;rw[(hC j).zEv];unfold zEv zqu q7p;rw[dK];refine qpu (fun i=>Ok.ret ⟨⟨i,rfl⟩,Fm.refl _ _⟩) ?_ cZ 0 (Nat.zero_le _) (by rw[dM];omega) hs;unfold qjw SS.v;by_cases h1:s.n<t.n
 ·simp only[go_sem,h1];exact Ok.ret ⟨⟨_,rfl⟩,Fm.refl _ _⟩
 ·simp only[go_sem,h1];unfold q7n;by_cases h2:t.n<s.n
  ·simp only[go_sem,h2];exact Ok.ret ⟨⟨_,rfl⟩,Fm.refl _ _⟩
  ·simp only[go_sem,h2];exact Ok.ret ⟨⟨_,rfl⟩,Fm.refl _ _⟩
theorem Sg.of{H H1 H2:Hp}{r:AV}(f:Fm No H H1)(h:Sg H1 r H2):Sg H r H2:=⟨h.1,f.trans h.2⟩
theorem zgr(hC:aZ C){k:Nat}(hk:2<=k)(x y u v:SS)(hx:x.n<1000000)(hy:y.n<1000000)(H:Hp):Ok (C k (.f 105) [.agg [x.v,y.v],.agg [u.v,v.v]] H) (Sg H):=by
 obtain⟨j,rfl⟩:=aW hk;rw[(hC j).zEu];unfold zEu zqv SS.v;by_cases h:x.n=u.n/\x.a=u.a
 ·simp only[go_sem,zer,h,and_self];unfold q7q;simp(disch:=first|omega|exact ti rfl|(simp only[np,nq];first|done|omega))only[go_sem];refine Ok.ve (qkw hC (k:=j) (by omega) y v hy _) fun r H1 hr=>Ok.ret (hr.of (by exact nM))
 ·simp(disch:=first|omega|exact ti rfl|(simp only[np,nq];first|done|omega))only[go_sem,zer,h];refine Ok.ve (qkw hC (k:=j) (by omega) x u hx _) fun r H1 hr=>Ok.ret (hr.of (by exact nM))
theorem qhk(n b:Bool):oL n (some b)=.val (.bool (bif n then !b else b)):=by cases n<;>rfl
theorem eqO(x y u v:SS):fI (eqFields [(p1,⟨bX⟩,0),(p1,⟨bX⟩,1)]) (.agg [.str x.n x.a,.str y.n y.a]) (.agg [.str u.n u.a,.str v.n v.a])=some (decide ((x,y)=(u,v))):=q05 (x,y) (u,v)
theorem yC{o p:Option Bool}{a b:Bool}(h:o=some a)(g:p=some b):andThen o p=some (a&&b):=by rw[h,g];cases a<;>cases b<;>rfl
def gG(x y z u v w:SS):Bool:=decide (x=u)&&(decide (y=v)&&true)&&(decide (z=w)&&true)
theorem eqG(x y z u v w:SS):fI (eqFields [((pA 2),⟨fI (eqFields [(p1,⟨bX⟩,0),(p1,⟨bX⟩,1)])⟩,0),(p1,⟨bX⟩,2)]) (.agg [.str x.n x.a,.str y.n y.a,.str z.n z.a]) (.agg [.str u.n u.a,.str v.n v.a,.str w.n w.a])=some (gG x y z u v w):=by exact yC (yC (qch _ _) (yC (qch _ _) rfl)) (yC (qch _ _) rfl)
theorem zvy(hC:aZ C){k:Nat}(hk:3<=k)(x y z u v w:SS)(hx:x.n<1000000)(hy:y.n<1000000)(hz:z.n<1000000)(H:Hp):Ok (C k (.f 82) [.agg [x.v,y.v,z.v],.agg [u.v,v.v,w.v]] H) (Sg H):=by
 obtain⟨j,rfl⟩:=aW hk;rw[(hC j).zEo];unfold zEo zq1 SS.v;have e:=eqO x y u v;cases h:decide ((x,y)=(u,v))with
 |true=>rw[h]at e;simp(disch:=first|omega|exact ti rfl|(simp only[np,nq];first|done|omega))only[go_sem,seval,e,qhk];unfold q7u;simp(disch:=first|omega|exact ti rfl|(simp only[np,nq];first|done|omega))only[go_sem];refine Ok.ve (qkw hC (k:=j) (by omega) z w hz _) fun r H1 hr=>Ok.ret (hr.of (by exact nM))
 |false=>rw[h]at e;simp(disch:=first|omega|exact ti rfl|(simp only[np,nq];first|done|omega))only[go_sem,seval,e,qhk];refine Ok.ve (zgr hC (k:=j) (by omega) x y u v hx hy _) fun r H1 hr=>Ok.ret (hr.of (by exact nM))
theorem zvx(hC:aZ C){k:Nat}(hk:3<=k)(x y z u v w:SS)(hx:x.n<1000000)(hy:y.n<1000000)(hz:z.n<1000000)(H:Hp):Ok (C k (.f 83) [.agg [x.v,y.v,z.v],.agg [u.v,v.v,w.v]] H) (Sg H):=by
 obtain⟨j,rfl⟩:=aW hk;rw[(hC j).zEp];unfold zEp zq0 SS.v;have e:=eqO x y u v;cases h:decide ((x,y)=(u,v))with
 |true=>rw[h]at e;simp(disch:=first|omega|exact ti rfl|(simp only[np,nq];first|done|omega))only[go_sem,seval,e,qhk];unfold q7t;simp(disch:=first|omega|exact ti rfl|(simp only[np,nq];first|done|omega))only[go_sem];refine Ok.ve (qkw hC (k:=j) (by omega) z w hz _) fun r H1 hr=>Ok.ret (hr.of (by exact nM))
 |false=>rw[h]at e;simp(disch:=first|omega|exact ti rfl|(simp only[np,nq];first|done|omega))only[go_sem,seval,e,qhk];refine Ok.ve (zgr hC (k:=j) (by omega) x y u v hx hy _) fun r H1 hr=>Ok.ret (hr.of (by exact nM))
def Tu.lo(t:Tu):Prop:=t.a.n<1000000/\t.b.n<1000000/\t.c.n<1000000/\t.x.n<1000000/\t.y.n<1000000/\t.z.n<1000000
theorem zvw(hC:aZ C){k:Nat}(hk:4<=k)(t u:Tu)(h:t.lo)(H:Hp):Ok (C k (.f 55) [.agg t.cells,.agg u.cells] H) (Sg H):=by
 obtain⟨j,rfl⟩:=aW hk;obtain⟨h1,h2,h3,h4,h5,h6⟩:=h;rw[(hC j).zEk];unfold zEk zq5 Tu.cells SS.v;have e:=eqG t.a t.b t.c u.a u.b u.c;cases h:gG t.a t.b t.c u.a u.b u.c with
 |true=>rw[h]at e;simp(disch:=first|omega|exact ti rfl|(simp only[np,nq];first|done|omega))only[go_sem,seval,e,qhk];unfold q7w;simp(disch:=first|omega|exact ti rfl|(simp only[np,nq];first|done|omega))only[go_sem,seval];refine Ok.ve (zvx hC (k:=j) (by omega) t.x t.y t.z u.x u.y u.z h4 h5 h6 _) fun r H1 hr=>Ok.ret (hr.of (by exact nM))
 |false=>rw[h]at e;simp(disch:=first|omega|exact ti rfl|(simp only[np,nq];first|done|omega))only[go_sem,seval,e,qhk];refine Ok.ve (zvy hC (k:=j) (by omega) t.a t.b t.c u.a u.b u.c h1 h2 h3 _) fun r H1 hr=>Ok.ret (hr.of (by exact nM))
theorem uO(t u:Tu):fI (eqFields [((pA 3),⟨fI (eqFields [((pA 2),⟨fI (eqFields [(p1,⟨bX⟩,0),(p1,⟨bX⟩,1)])⟩,0),(p1,⟨bX⟩,2)])⟩,0),((pA 3),⟨fI (eqFields [((pA 2),⟨fI (eqFields [(p1,⟨bX⟩,0),(p1,⟨bX⟩,1)])⟩,0),(p1,⟨bX⟩,2)])⟩,3)]) (.agg t.cells) (.agg u.cells)=some (gG t.a t.b t.c u.a u.b u.c&&(gG t.x t.y t.z u.x u.y u.z&&true)):=by
 show andThen (andThen (andThen (bX t.a.v u.a.v) (andThen (bX t.b.v u.b.v) (some true))) (andThen (bX t.c.v u.c.v) (some true)))
  (andThen (andThen (andThen (bX t.x.v u.x.v) (andThen (bX t.y.v u.y.v) (some true))) (andThen (bX t.z.v u.z.v) (some true))) (some true))=_
 exact yC (yC (yC (qch _ _) (yC (qch _ _) rfl)) (yC (qch _ _) rfl))
  (yC (yC (yC (qch _ _) (yC (qch _ _) rfl)) (yC (qch _ _) rfl)) rfl)
theorem mQ(t:Tu):t.cells.length=6:=id rfl
theorem zfl{call:Ev.Call}{v:AV}{l:List Tu}{t:Tu}{cb:Nat}{H:Hp}(hv:Rs 6 Tu.cells H v l)(ht:gN (H.get cb) 0 6=some t.cells)(hl:l.length<1000000){Q:pL}{qr:pD}{q:pH}(hr:Ok (qr (iN 1) H) Q)(hq:Ok (q H) Q):∀(k i:Nat),i<=l.length->l.length-i<k->Ok (qoc call qr q v (.ptr cb 0) k (iN i) H) Q
 |0,i,_,h=>by omega
 |k+1,i,hi,hk=>by
  show Ok (q7z call _ _ _ _ (qoc call _ _ _ _ k) _ H) Q;unfold q7z;have e0:=hv.len;by_cases h1:i<l.length
  ·simp only[go_sem,e0,h1];unfold q7x;obtain⟨b,o,e1,_,e2⟩:=hv.vI h1;have e3:=uO l[i] t;simp only[go_sem,e1,e2,ht,e3,qhk];cases (gG l[i].a l[i].b l[i].c t.a t.b t.c&&gG l[i].x l[i].y l[i].z t.x t.y t.z)with
   |true=>exact hr
   |false=>unfold q7y;simp(disch:=omega)only[go_sem];exact zfl hv ht hl hr hq k (i+1) (by omega) (by omega)
  ·simp only[go_sem,e0,h1];exact hq
theorem aI1(hC:aZ C){k:Nat}(hk:1<=k){v:AV}{l:List Tu}{H:Hp}(hv:Rs 6 Tu.cells H v l)(hl:l.length<1000000)(t:Tu):Ok (C k (.f 54) [v,.agg t.cells] H) (Sg H):=by
 obtain⟨j,rfl⟩:=aW hk;rw[(hC j).zEj];unfold zEj zq6;have f:Fm No H (aT H (aD 0 t.cells)):=by exact jS
 have e:bB 6 H.nx (.agg t.cells)=.new (.ptr H.nx 0) (aD 0 t.cells):=id rfl;simp only[go_sem,e];unfold q70;rw[dK];refine zfl (t:=t) (hv.fm f) ?_ hl (Ok.ret ⟨⟨_,rfl⟩,f⟩) ?_ cZ 0 (Nat.zero_le _) (by rw[dM];omega)
 ·rw[mP];rfl
 ·unfold qk9;exact Ok.ret ⟨⟨_,rfl⟩,f⟩
theorem zyy(hC:aZ C){k:Nat}(hk:1<=k)(n:Nat)(H:Hp):Ok (C k (.f 53) [.int .u8 (.ofNat n)] H) fun r H'=>(∃s:SS,r=s.v/\0<s.n/\s.n<1000000)/\Fm No H H':=by
 obtain⟨j,rfl⟩:=aW hk;rw[(hC j).zEi];unfold zEi zq7;have h5:n%5<5:=Nat.mod_lt _ (by omega);have e:∀ m,m<5->∃ s:SS,([AV.str 1 49,.str 1 50,.str 1 51,.str 1 52,.str 4 1953460082]:List AV)[m]? =some s.v/\0<s.n/\s.n<1000000:=fun m hm=>by
  match m,hm with
  |0,_=>exact⟨⟨1,49⟩,rfl,by decide,by decide⟩
  |1,_=>exact⟨⟨1,50⟩,rfl,by decide,by decide⟩
  |2,_=>exact⟨⟨1,51⟩,rfl,by decide,by decide⟩
  |3,_=>exact⟨⟨1,52⟩,rfl,by decide,by decide⟩
  |4,_=>exact⟨⟨4,1953460082⟩,rfl,by decide,by decide⟩
 obtain⟨s,e1,e2,e3⟩:=e _ h5;have e0:iB 5 H.nx (bT (bC [.str 0 0] 5) [(0,1,(.str 1 49)),(1,1,(.str 1 50)),(2,1,(.str 1 51)),(3,1,(.str 1 52)),(4,1,(.str 4 1953460082))])=.new (.sl H.nx 0 5 5 true) (aD 0 [.str 1 49,.str 1 50,.str 1 51,.str 1 52,.str 4 1953460082]):=id rfl;rw[e0];simp(disch:=omega)only[go_sem,e1];refine Ok.ret ⟨⟨s,rfl,e2,e3⟩,?_⟩;exact jS
theorem qI(t:Tu):List.take 6 t.cells=t.cells:=id rfl
def b2n(b:Bool):Nat:=bif b then 1 else 0
theorem aLF(hC:aZ C){j:Nat}(hj:4<=j){P:Tu->Prop}(hP:∀ t,P t->t.lo){v w:AV}{l m:List Tu}{i:Nat}(hi:i<l.length)(hl:l.length<1000)(hm:m.length<1000)(pl:∀ t∈l,P t)(pm:∀ t∈m,P t){H0:Hp}(hv:Rs 6 Tu.cells H0 v l)(hw:Rs 6 Tu.cells H0 w m){Q:pL}{q:AV->pD}(hq:∀ u n f H,Ac 6 Tu.cells H0 H u n->n.length=m.length+b2n f->(∀t∈n,P t)->Ok (q u (.bool f) H) Q):∀(k e:Nat) (f:Bool) (u:AV) (n:List Tu) (H:Hp),e<=m.length->m.length-e<k->n.length=e+b2n f->(∀t∈n,P t)->Ac 6 Tu.cells H0 H u n -> Ok (qff (C j) q v w (iN i) k u (.bool f) (iN e) H) Q
 |0,e,_,_,_,_,_,h,_,_,_=>by omega
 |k+1,e,f,u,n,H,he,hk,hn,pn,ha=>by
  show Ok (qxs (C j) _ _ _ _ (qff (C j) _ _ _ _ k) _ _ _ H) Q;unfold qxs;have e0:=hw.len;by_cases h1:e<m.length
  ·simp only[go_sem,e0,h1];have tail:∀(f':Bool) (u':AV) (n':List Tu) (H':Hp),n'.length=e+b2n f'->(∀t∈n',P t)->Ac 6 Tu.cells H0 H' u' n' ->
     Ok (qlb (C j) (qff (C j) q v w (iN i) k) w u' (.bool f') (iN e) H') Q:=fun f' u' n' H' hn' pn' ha'=>by
    unfold qlb;have hb':b2n f'<=1:=by cases f'<;>decide
    obtain⟨b,o,e1,e2,e3⟩:=(hw.fm ha'.fm).vI h1;simp(disch:=omega)only[go_sem,seval,e1,e3,mQ,qI];refine Ok.ve ((ha'.no ((Fm.refl No H').push (aD 0 m[e].cells))).add m[e] 96 rfl (by omega) (by omega)) ?_;intro u2 H2 ha2;unfold qxr;simp(disch:=omega)only[go_sem];refine aLF hC hj hP hi hl hm pl pm hv hw hq k (e+1) f' u2 (n'++[m[e]]) H2 (by omega) (by omega) (by simp[hn'];omega) ?_ ha2;intro t ht;rw[List.mem_append,List.mem_singleton]at ht;rcases ht with ht|rfl
    ·exact pn' t ht
    ·simp_all
   unfold qxq;cases f with
   |true=>simp only[go_sem];exact tail true u n H hn pn ha
   |false=>
    obtain⟨b,o,e1,e2,e3⟩:=(hv.fm ha.fm).vI hi;obtain⟨b',o',e1',e2',e3'⟩:=(hw.fm ha.fm).vI h1;simp only[go_sem,e1,e3,e1',e3'];refine Ok.kI (zvw hC (k:=j) (by omega) l[i] m[e] (hP _ (pl _ (List.getElem_mem hi))) _) ?_;rintro _ H1 ⟨⟨s,rfl⟩,f1⟩;have g:gN (H1.get b) o 6=some l[i].cells:=by rw[f1.keep e2];exact e3
    have g':gN (H1.get b') o' 6=some m[e].cells:=by rw[f1.keep e2'];exact e3'
    have ha1:=ha.no f1;by_cases hs:s<Int.ofNat 0
    ·simp(disch:=first|omega|exact ti rfl|(simp only[np,nq];first|done|omega))only[go_sem,rB,rI,rK,rL,rN,rS,r6,g,g',hs,mQ,qI];refine Ok.ve ((ha1.no ((Fm.refl No H1).push (aD 0 l[i].cells))).add l[i] 96 rfl (by unfold b2n at hn;simp at hn;omega) (by unfold b2n at hn;simp at hn;omega)) ?_;intro u2 H2 ha2;refine tail true u2 (n++[l[i]]) H2 (by unfold b2n at hn ⊢;simp at hn ⊢;omega) ?_ ha2;intro t ht;rw[List.mem_append,List.mem_singleton]at ht;rcases ht with ht|rfl
     ·exact pn t ht
     ·simp_all
    ·simp only[go_sem,g,g',hs,mQ,qI];exact tail false u n H1 hn pn ha1
  ·simp only[go_sem,e0,h1];have:e=m.length:=by omega
   subst this;exact hq u n f H ha hn pn
theorem aCU(hC:aZ C){j:Nat}(hj:4<=j){P:Tu->Prop}(hP:∀ t,P t->t.lo){v:AV}{l:List Tu}(hl:l.length<1000)(pl:∀ t∈l,P t){H0:Hp}(hv:Rs 6 Tu.cells H0 v l){Q:pL}{q:pD}(hq:∀ w m H,Ac 6 Tu.cells H0 H w m->m.length<=l.length->(∀t∈m,P t)->Ok (q w H) Q):∀(k i:Nat) (w:AV) (m:List Tu) (H:Hp),i<=l.length->l.length-i<k->m.length<=i->(∀t∈m,P t)->Ac 6 Tu.cells H0 H w m -> Ok (yR (C j) q v k w (iN i) H) Q
 |0,i,_,_,_,_,h,_,_,_=>by omega
 |k+1,i,w,m,H,hi,hk,hm,pm,ha=>by
  show Ok (q74 (C j) _ _ (yR (C j) _ _ k) _ _ H) Q;unfold q74;have e0:=hv.len;by_cases h1:i<l.length
  ·simp only[go_sem,e0,h1];unfold qxo;obtain⟨b,o,e1,e2,e3⟩:=(hv.fm ha.fm).vI h1;simp only[go_sem,e1,e3];refine Ok.ve (aI1 hC (k:=j) (by omega) (ha.rs mQ) (by omega) l[i]) ?_;rintro _ H1 ⟨⟨s,rfl⟩,f1⟩;have ha1:=ha.no f1;by_cases hs:s=Int.ofNat 1
   ·simp only[go_sem,hs];unfold qod;simp(disch:=omega)only[go_sem];exact aCU hC hj hP hl pl hv hq k (i+1) w m H1 (by omega) (by omega) (by omega) pm ha1
   ·simp only[go_sem,hs];unfold qxp qxt;rw[dK];have e4:∀ H2,Fm No H1 H2->gN (H2.get b) o 6=some l[i].cells:=fun H2 f2=>by rw[f2.keep (Nat.lt_of_lt_of_le e2 f1.nx),f1.keep e2];exact e3
    refine aLF hC hj hP h1 hl (by omega) pl pm ((hv.fm ha1.fm)) (ha1.rs mQ) ?_ cZ 0 false .aA [] H1 (Nat.zero_le _) (by rw[dM];omega) rfl (fun t ht=>by cases ht) (Ac.nil 6 _ (Fm.refl _ _));intro u n f H2 ha2 hn pn;unfold qfg;have e5:=e4 H2 ha2.fm;cases f with
    |true=>unfold qt7 qod;simp(disch:=omega)only[go_sem];exact aCU hC hj hP hl pl hv hq k (i+1) u n H2 (by omega) (by omega) (by unfold b2n at hn;simp at hn;omega) pn (Ac.trans ha1.fm ha2)
    |false=>
     simp(disch:=omega)only[go_sem,seval,e1,e5,mQ,qI];refine Ok.ve ((ha2.no ((Fm.refl No H2).push (aD 0 l[i].cells))).add l[i] 96 rfl (by unfold b2n at hn;simp at hn;omega) (by unfold b2n at hn;simp at hn;omega)) ?_;intro u2 H3 ha3;unfold qt7 qod;simp(disch:=omega)only[go_sem];refine aCU hC hj hP hl pl hv hq k (i+1) u2 (n++[l[i]]) H3 (by omega) (by omega) (by unfold b2n at hn;simp at hn ⊢;omega) ?_ (Ac.trans ha1.fm ha3);intro t ht;rw[List.mem_append,List.mem_singleton]at ht;rcases ht with ht|rfl
     ·exact pn t ht
     ·simp_all
  ·simp only[go_sem,e0,h1];exact hq w m H ha (by omega) pm
theorem zdj(hC:aZ C){k:Nat}(hk:5<=k){P:Tu->Prop}(hP:∀ t,P t->t.lo){v:AV}{l:List Tu}(hl:l.length<1000)(pl:∀ t∈l,P t){H:Hp}(hv:Rs 6 Tu.cells H v l):Ok (C k (.f 26) [v] H) fun r H'=>∃ m,Ac 6 Tu.cells H H' r m/\m.length<=l.length/\∀ t∈m,P t:=by obtain⟨j,rfl⟩:=aW hk;rw[(hC j).zEd];unfold zEd zrc q75;rw[dK];refine aCU hC (j:=j) (by omega) hP hl pl hv ?_ cZ 0 .aA [] H (Nat.zero_le _) (by rw[dM];omega) (Nat.zero_le _) (fun t ht=>by cases ht) (Ac.nil 6 _ (Fm.refl _ _));intro w m H1 ha hm pm;exact Ok.ret ⟨m,ha,hm,pm⟩
def Lo(s:SS):Prop:=s.n<1000000/\(s.n=0->s.a=0)
def TuR(r:AV):Prop:=∃(t:Tu) (b:Bool),r=.bG [.agg t.cells,.bool b]/\t.lo
theorem aI6(hC:aZ C){j:Nat}(hj:1<=j){H:Hp}{x3 x4 x7 x8 p q r s:Nat}{tv:AV}{ts:List iP}{pr:SS×SS}{l1 l3 l4 l5 l6:AV}(h3:H.get x3=aD 0 [.int .u8 (.ofNat p),.int .u8 (.ofNat q),.int .u8 (.ofNat r),.int .u8 (.ofNat s)])(h4:H.get x4=aD 0 [.str 0 0,.str 0 0,.str 0 0,.str 0 0,.str 0 0,.str 0 0])(h7:H.get x7=aD 0 [.str pr.1.n pr.1.a,.str pr.2.n pr.2.a])(h8:H.get x8=aD 0 [l1,tv,l3,l4,l5,l6])(n3:x3<H.nx)(n4:x4<H.nx)(n7:x7<H.nx)(n8:x8<H.nx)(r4:r<256)(ht:Rs 2 tC H tv ts)(hn:ts.length≠0)(hn2:ts.length<=100)(lp:pr.1.n<1000000/\pr.2.n<1000000)(lt:∀ t∈ts,Lo t.sp/\Lo t.rl):Ok (qqp (C j) (.ptr x3 0) (.ptr x4 0) (.ptr x7 0) (.ptr x8 0) H) fun r H'=>Fm (· =x4) H H'/\TuR r:=by
 have e5:=ht.len;have hi:r%ts.length<ts.length:=Nat.mod_lt _ (by omega);obtain⟨b,o,e1,e2,e3⟩:=ht.vI hi;have i1:fJ 4 1 (.ptr x3 0) (iN 1)=.val (.ptr x3 1):=id rfl;have i2:fJ 4 1 (.ptr x3 0) (iN 2)=.val (.ptr x3 2):=id rfl;have i3:fJ 4 1 (.ptr x3 0) (iN 3)=.val (.ptr x3 3):=id rfl;unfold tC SS.v at e3;have lty:=lt _ (List.getElem_mem hi);generalize ts[r%ts.length]=ty at e3 lty;rw[qof];unfold qkf;simp(maxSteps:=2000000) (disch:=first|omega|exact ti rfl|(simp only[np,nq];done)|(simp only[np,nq];omega))only[go_sem,Nat.reduceAdd,Nat.reduceMul,Nat.reduceSub,Nat.reduceLeDiff,Nat.reduceEqDiff,Nat.reduceShiftRight,Nat.reduceAnd,h3,h7,h8,i1,i2,i3,e5,e1,e3];generalize hH:(Hp.mk _ (H.nx+13))=G;have fG:Fm No H G:=by rw[<-hH];exact(((Fm.refl No H).up 13).aG _ _ (by omega)).aG _ _ (by omega)
 have gG:G.get (H.nx+11)=aD 0 [.str ty.sp.n ty.sp.a,.str ty.rl.n ty.rl.a]:=by rw[<-hH];exact eB _ _ _
 have nG:G.nx=H.nx+13:=by rw[<-hH]
 refine Ok.kI (zyy hC (k:=j) (by omega) q _) ?_;rintro _ H1 ⟨⟨u,rfl,u1,u2⟩,f1⟩;have lW:=fG.trans f1;have a3:=(lW.keep n3).trans h3;have a7:=(lW.keep n7).trans h7;have bL:=(f1.keep (b:=H.nx+11) (by omega)).trans gG;simp only[go_sem,seval,a3,a7,bL];refine Ok.kI (zyy hC (k:=j) (by omega) s _) ?_;rintro _ H2 ⟨⟨w,rfl,w1,w2⟩,f2⟩;have f12:=f1.trans f2;have oJ:=lW.trans f2;have b3:=(oJ.keep n3).trans h3;have b4:=(oJ.keep n4).trans h4;have b7:=(oJ.keep n7).trans h7;have b11:=(f12.keep (b:=H.nx+11) (by omega)).trans gG;unfold SS.v;simp only[go_sem,seval,b3,b4,b7,b11];refine Ok.ret ⟨?_,⟨pr.1,u,pr.2,ty.sp,w,ty.rl,lty.2.2⟩,true,rfl,lp.1,u2,lp.2,lty.1.1,w2,lty.2.1⟩;exact⟨oJ.nx,fun c hc hs=>(dW _ _ _ _ hs).trans (oJ.keep hc)⟩
structure LoX(X:List aS):Prop where
 nm:∀ p∈aQ X,Lo p.1/\Lo p.2
 ty:∀ a b g,lZ X a b=some g->∀ t∈g.r.types,Lo t.sp/\Lo t.rl
def tu0:Tu:=⟨sE,sE,sE,sE,sE,sE,fun _=>rfl⟩
theorem zc6:tu0.lo:=by unfold Tu.lo tu0 sE;decide
theorem qwh{H:Hp}{sv:AV}{X:List aS}(hX:dH H sv X){a b:SS}{g:aX}(h:lZ X a b=some g):oQ H g:=by
 unfold lZ at h;split at h
 ·cases h
 ·rename_i s hs;exact(hX.sp s (List.mem_of_find?_eq_some hs)).rel g (List.mem_of_find?_eq_some h)
theorem qie{X:List aS}(hS:vT X){a b:SS}{g:aX}(h:lZ X a b=some g):g.r.types.length<=100:=by
 unfold lZ at h;split at h
 ·cases h
 ·rename_i s hs;exact hS.t s (List.mem_of_find?_eq_some hs) g (List.mem_of_find?_eq_some h)
theorem zk9(hC:aZ C){k:Nat}(hk:4<=k){H:Hp}{sv:AV}{X:List aS}(hX:dH H sv X)(hS:vT X)(hL:LoX X)(p:Nat)(q r s:Nat)(h4:p<256/\q<256/\r<256/\s<256):Ok (C k (.f 25) [.agg [sv],.agg [.int .u8 (.ofNat p),.int .u8 (.ofNat q),.int .u8 (.ofNat r),.int .u8 (.ofNat s)]] H) fun r H'=>Fm No H H'/\TuR r:=by
 obtain⟨j,rfl⟩:=aW hk;obtain⟨p4,q4,r4,s4⟩:=h4;rw[(hC j).zEc];unfold zEc zrd;simp(disch:=first|omega|exact ti rfl|(simp only[np,nq];first|done|omega))only[go_sem];refine Ok.ve (zz9 hC (k:=j) (by omega) (hX.fm (by exact fP3)) hS) ?_;intro a H1 ha;have hal:=hS.all X.length;rw[List.take_length]at hal;have e0:=ha.dD;have n1:=ha.fm.nx;simp only[np]at n1;have g0:H1.get H.nx=aD 0 [sv]:=(ha.fm.keep (by simp only[np,nq];omega)).trans (by simp(disch:=first|omega|exact ti rfl|(simp only[np,nq];first|done|omega))only[go_sem]);have g1:H1.get (H.nx+1)=aD 0 [.int .u8 (.ofNat p),.int .u8 (.ofNat q),.int .u8 (.ofNat r),.int .u8 (.ofNat s)]:=(ha.fm.keep (by simp only[np,nq];omega)).trans (by simp(disch:=first|omega|exact ti rfl|(simp only[np,nq];first|done|omega))only[go_sem]);have g2:H1.get (H.nx+1+1)=aD 0 tu0.cells:=(ha.fm.keep (by simp only[np,nq];omega)).trans (by simp(disch:=first|omega|exact ti rfl|(simp only[np,nq];first|done|omega))only[go_sem];rfl);have f1:Fm No H H1:=Fm.trans (by exact fP3) ha.fm;unfold tu0 Tu.cells SS.v sE at g2;by_cases hz:(aQ X).length=0
 ·simp only[go_sem,seval,e0,hz,g2];refine Ok.ret ⟨?_,tu0,false,rfl,zc6⟩;exact f1.aG _ _ (by omega)
 ·simp only[go_sem,e0,hz];rw[qoe];unfold qke;have hi:p%(aQ X).length<(aQ X).length:=Nat.mod_lt _ (by omega);obtain⟨b,o,e1,e2,e3⟩:=(ha.rs (f:=pC) fun _=>rfl).vI hi;have i0:fJ 4 1 (.ptr (H.nx+1) 0) (iN 0)=.val (.ptr (H.nx+1) 0):=id rfl;have hpm:(aQ X)[p%(aQ X).length]∈aQ X:=List.getElem_mem hi;generalize (aQ X)[p%(aQ X).length]=pr at e3 hpm;unfold pC SS.v at e3;simp(disch:=first|omega|exact ti rfl|(simp only[np,nq];first|done|omega))only[go_sem,rB,rI,rK,rL,rN,rS,r6,i0,g1,e0,e1,e3,g0];refine Ok.ve (zho hC (k:=j) (by omega) (X:=X) ((hX.fm f1).fm (by exact nH)) (by have:=hS.n;omega) (fun g hg=>by have:=hS.r g hg;omega) pr.1 pr.2) ?_;rintro fr H2 ⟨f2,hf⟩;have n2:=f2.nx;simp only[np,nq]at n2;have k0:H2.get H1.nx=aD 0 [.str pr.1.n pr.1.a,.str pr.2.n pr.2.a]:=(f2.keep (by simp only[np,nq];omega)).trans (by simp only[go_sem]);have k1:H2.get (H.nx+1)=aD 0 [.int .u8 (.ofNat p),.int .u8 (.ofNat q),.int .u8 (.ofNat r),.int .u8 (.ofNat s)]:=(f2.keep (by simp only[np,nq];omega)).trans (by simp(disch:=omega)only[go_sem,g1]);have k2:H2.get (H.nx+1+1)=aD 0 [.str 0 0,.str 0 0,.str 0 0,.str 0 0,.str 0 0,.str 0 0]:=(f2.keep (by simp only[np,nq];omega)).trans (by simp(disch:=omega)only[go_sem,g2]);have oJ:Fm No H H2:=Fm.trans (Fm.trans f1 (by exact nH)) f2;unfold zn8 at hf;cases hg:lZ X pr.1 pr.2 with
  |none=>rw[hg]at hf;subst hf;unfold qm6;simp(disch:=first|omega|exact ti rfl)only[go_sem,seval,k2];refine Ok.ret ⟨?_,tu0,false,rfl,zc6⟩;exact Fm.aG (Fm.aG (oJ.push _) _ _ (by omega)) _ _ (by omega)
  |some g=>
   rw[hg]at hf;subst hf;have hr:=(qwh hX hg).fm oJ;have hn:=qie hS hg;have ht:=hr.ty;have e5:=ht.len;unfold gQ SS.v;by_cases hz2:g.r.types.length=0
   ·simp(disch:=first|omega|exact ti rfl)only[go_sem,seval,e5,hz2,k2];refine Ok.ret ⟨?_,tu0,false,rfl,zc6⟩;exact Fm.aG (Fm.aG (oJ.push _) _ _ (by omega)) _ _ (by omega)
   ·simp(disch:=first|omega|exact ti rfl|(simp only[np,nq];first|done|omega))only[go_sem,rB,rI,rK,rL,rN,rS,r6,e5,hz2,k2];have hmem:pr∈aQ X:=hpm;refine Ok.mono (aI6 hC (j:=j) (by omega) (H:=((aT H2 _).put H2.nx _)) (x8:=H2.nx) (pr:=pr) (p:=p) (q:=q) (r:=r) (s:=s) (ts:=g.r.types) (tv:=g.tv) (l1:=.str g.r.name.n g.r.name.a) (l3:=g.cs.getD 0 .undef) (l4:=g.cs.getD 1 .undef) (l5:=g.cs.getD 2 .undef) (l6:=g.cs.getD 3 .undef) ?_ ?_ ?_ ?_ ?_ ?_ ?_ ?_ r4 ?_ hz2 hn ⟨(hL.nm _ hmem).1.1,(hL.nm _ hmem).2.1⟩ (hL.ty _ _ _ hg)) ?_
    ·simp(disch:=omega)only[go_sem,k1]
    ·simp(disch:=omega)only[go_sem,k2]
    ·simp(disch:=omega)only[go_sem,k0]
    ·exact eB _ _ _
    ·simp only[go_sem]<;>omega
    ·simp only[go_sem]<;>omega
    ·simp only[go_sem]<;>omega
    ·simp only[go_sem]<;>omega
    ·exact ht.fm (((Fm.refl No H2).push _).aG _ _ (by omega))
    ·rintro r H3 ⟨f3,h3⟩;refine⟨?_,h3⟩;exact Fm.then (Fm.aG (oJ.push _) _ _ (by omega)) f3 fun c hc h=>by omega
structure Q4 where
 p:Nat
 q:Nat
 r:Nat
 s:Nat
 b:p<256/\q<256/\r<256/\s<256
def Q4.cells(x:Q4):List AV:=[.int .u8 (.ofNat x.p),.int .u8 (.ofNat x.q),.int .u8 (.ofNat x.r),.int .u8 (.ofNat x.s)]
theorem qtr(hC:aZ C){j:Nat}(hj:4<=j){H0:Hp}{x1 x4:Nat}{cv lv sv:AV}{ls:List Q4}{X:List aS}(hX:dH H0 sv X)(hS:vT X)(hL:LoX X)(h1:H0.get x1=aD 0 [cv,lv])(h4:H0.get x4=aD 0 [sv])(n1:x1<H0.nx)(n4:x4<H0.nx)(hl:Rs 4 Q4.cells H0 lv ls){Q:pL}{q:pD}(hq:∀ w m H,Ac 6 Tu.cells H0 H w m->m.length<=20->(∀t∈m,t.lo)->Ok (q w H) Q):∀(k i:Nat) (w:AV) (m:List Tu) (H:Hp),i<=20->20-i<k->m.length<=i->(∀t∈m,t.lo)->Ac 6 Tu.cells H0 H w m -> Ok (qip (C j) q (.ptr x1 0) (.ptr x4 0) k w (iN i) H) Q
 |0,i,_,_,_,_,h,_,_,_=>by omega
 |k+1,i,w,m,H,hi,hk,hm,pm,ha=>by
  show Ok (qx4 (C j) _ _ _ (qip (C j) _ _ _ k) _ _ H) Q;unfold qx4;have g1:=(ha.fm.keep n1).trans h1;have g4:=(ha.fm.keep n4).trans h4;have e0:=hl.len;by_cases c1:i<ls.length
  ·by_cases c2:i<20
   ·simp only[go_sem,g1,e0,c1,c2];unfold qx3;obtain⟨b,o,e1,e2,e3⟩:=(hl.fm ha.fm).vI c1;simp only[go_sem,seval,g1,g4,e1,e3];have fu:Fm No H ⟨H.t,H.nx+13⟩:=(Fm.refl No H).up 13;refine Ok.kI (zk9 hC (k:=j) hj ((hX.fm ha.fm).fm fu) hS hL ls[i].p ls[i].q ls[i].r ls[i].s ls[i].b) ?_;rintro _ H1 ⟨f1,t,bb,rfl,lo⟩;have lW:=fu.trans f1;have k1:=(lW.keep (Nat.lt_of_lt_of_le n1 ha.fm.nx)).trans g1;have k4:=(lW.keep (Nat.lt_of_lt_of_le n4 ha.fm.nx)).trans g4;have k3:gN (H1.get b) o 4=some ls[i].cells:=by rw[lW.keep e2];exact e3
    simp(disch:=first|omega|exact ti rfl|(simp only[np,nq];first|done|omega))only[go_sem,seval,k1,k4,k3,mQ,qI];have hz:Fm No H ((H1.put (H.nx+10) (aD 0 [.str 0 0,.str 0 0,.str 0 0,.str 0 0,.str 0 0,.str 0 0])).put (H.nx+10) (aD 0 t.cells)):=(lW.aG _ _ (by omega)).aG _ _ (by omega);cases bb with
    |true=>
     refine Ok.ve ((ha.no (hz.push (aD 0 t.cells))).add t 96 rfl (by omega) (by omega)) ?_;intro w2 H2 ha2;unfold qlf;simp(disch:=omega)only[go_sem];refine qtr hC hj hX hS hL h1 h4 n1 n4 hl hq k (i+1) w2 (m++[t]) H2 (by omega) (by omega) (by simp;omega) ?_ ha2;intro y hy;rw[List.mem_append,List.mem_singleton]at hy;rcases hy with hy|rfl
     ·exact pm y hy
     ·exact lo
    |false=>unfold qlf;simp(disch:=omega)only[go_sem];exact qtr hC hj hX hS hL h1 h4 n1 n4 hl hq k (i+1) w m _ (by omega) (by omega) (by omega) pm (ha.no hz)
   ·simp only[go_sem,g1,e0,c1,c2];exact hq w m H ha (by omega) pm
  ·simp only[go_sem,g1,e0,c1];exact hq w m H ha (by omega) pm
theorem zwi(hC:aZ C){k:Nat}(hk:21<=k){v:AV}{L:List (List Nat)}{H:Hp}(hv:gH H v L):Ok (C k (.f 24) [.agg [v]] H) fun r H'=>∃ sv X,r=.agg [sv]/\lH H' sv X/\(∀b,In sv b->H.nx<=b)/\(∀g∈X,H.nx<=g.A)/\X.map aS.sp=u7 L/\Fm No H H':=by
 obtain⟨j,rfl⟩:=aW hk;rw[(hC j).zAc];unfold zAc zti;simp(disch:=first|omega|exact ti rfl|(simp only[np,nq];first|done|omega))only[go_sem,seval];unfold zcr;rw[dK];have f0:Fm No H (aT (aT H (aD 0 [v])) (aD 0 [.aA])):=by exact nM
 have hv0:=hv.fm f0;refine zep hC (by omega) (H0:=aT (aT H (aD 0 [v])) (aD 0 [.aA])) (cb:=H.nx) (sb:=H.nx+3) hv0 (fun H1 sv l g hI hS=>?_) cZ 0 [] ⟨sU,[],.aA,H.nx+4,H.nx+4⟩ (.sl (H.nx+2) 0 1 1 true) _ (Nat.zero_le _) (by have:bF L<=12:=Nat.min_le_right _ _;rw[dM];omega) ⟨?_,?_,?_,?_,?_,?_,?_,?_,?_,?_,?_,?_⟩ (.inl ⟨rfl,rfl,rfl⟩)
 ·rw[qo8];unfold qsc zcu;rw[dK];have hraw:=hS.raw;refine qmd hC (by omega) (H0:=aT (aT H (aD 0 [v])) (aD 0 [.aA])) (sb:=H.nx+3) (sv:=sv) (S:=qO L) ?_ (fun p hp=>?_) (fun X H2 hX hI2=>?_) cZ 1 (l++[g]) H1 ?_ ?_ ?_ ⟨hI.m,fun x hx=>⟨hI.an x hx,?_⟩,hI.sbk,⟨hI.zZ.1,hI.zZ.2.2⟩,fun b hb=>(hI.rJ b hb).1,hI.fm⟩
  ·unfold qO;have:bF L<=12:=Nat.min_le_right _ _;simp;omega
  ·have h1:=zd3 hp;refine⟨by omega,fun r hr=>?_⟩;obtain⟨n,_,rfl⟩:=h1.2 r hr;have:=qml L n;omega
  ·rw[qul];unfold qzv;have e0:=hI2.sbk;have nx2:=hI2.fm.nx;have er:H2.get (H.nx+1)=aD 0 [.aA]:=(hI2.fm.keep (by simp only[np,nq];omega)).trans (by simp(disch:=first|omega|exact ti rfl|(simp only[np,nq];first|done|omega))only[go_sem]);have fF:Fm (fun b=>b=H.nx+1) H2 (H2.put (H.nx+1) (aD 0 [sv])):=(Fm.refl _ _).put _ _ fun _=>rfl;have sb2:=hI2.zZ;simp only[go_sem,seval,e0,er];refine Ok.ret ⟨sv,X,rfl,(hI2.m.iM fF (fun b hb h=>?_) (fun g hg b h1 _ h=>?_)),fun b hb=>?_,fun g hg=>?_,hX,(f0.trans hI2.fm).then fF fun c hc h=>?_⟩
   ·have:=hI2.rJ b hb;simp only[np]at this;omega
   ·have:=(hI2.an g hg).1;simp only[np]at this;omega
   ·have:=hI2.rJ b hb;simp only[np]at this;omega
   ·have:=(hI2.an g hg).1;simp only[np]at this;omega
   ·omega
  ·have:=hS.len (Nat.min_le_right _ _);rw[<-hraw];simp
  ·rw[<-hraw];have:=hS.len (Nat.min_le_right _ _);rw[dM];simp;omega
  ·trivial
  ·rw[List.mem_append,List.mem_singleton]at hx;rcases hx with hx|rfl
   ·exact hI.sbd x hx
   ·have:=hI.zZ;omega
 ·exact⟨by simp only[np,nq];omega,by simp(disch:=first|omega|exact ti rfl|(simp only[np,nq];first|done|omega))only[go_sem]⟩
 ·simp only[go_sem]
 ·simp only[np,nq];omega
 ·simp
 ·left;omega
 ·constructor<;>(rintro ⟨_,_,_,_,h⟩;injection h;omega)
 ·rintro b ⟨_,_,_,_,h⟩;cases h;simp only[np];omega
 ·simp
 ·refine⟨⟨rfl,.inr ⟨H.nx+2,0,true,0,_,rfl,?_,Nat.zero_le _,rfl,.inl rfl,?_⟩⟩,List.pairwise_singleton _ _,fun x hx=>?_,fun x hx b hb=>?_⟩
  ·simp(disch:=first|omega|exact ti rfl|(simp only[np,nq];first|done|omega))only[go_sem];rfl
  ·simp only[np,nq];omega
  ·rw[List.nil_append,List.mem_singleton]at hx;subst hx;exact⟨qM.nil _ _ _,by simp only[np,nq];omega⟩
  ·simp_all
 ·intro x hx;rw[List.nil_append,List.mem_singleton]at hx;subst hx;simp only[np];omega
 ·simp only[np,nq];omega
 ·repeat first|exact Fm.refl _ _|assumption|refine Fm.push ?_ _|refine Fm.aG ?_ _ _ (by simp only[np,nq];omega)
theorem zy2(hC:aZ C){k:Nat}(hk:22<=k){cv lv:AV}{L:List (List Nat)}{ls:List Q4}{H:Hp}(hv:gH H cv L)(hl:Rs 4 Q4.cells H lv ls)(hX:∀ X:List aS,X.map aS.sp=u7 L->vT X/\LoX X):Ok (C k (.f 7) [.agg [cv,lv]] H) fun r H'=>∃ sv X w m,r=.bG [.agg [sv],w]/\dH H' sv X/\X.map aS.sp=u7 L/\Rs 6 Tu.cells H' w m/\m.length<=20/\(∀t∈m,t.lo)/\Fm No H H':=by
 obtain⟨j,rfl⟩:=aW hk;rw[(hC j).zDw];unfold zDw zrj;simp(disch:=first|omega|exact ti rfl|(simp only[np,nq];first|done|omega))only[go_sem];refine Ok.ve (zwi hC (k:=j) (by omega) (hv.fm (by exact nM))) ?_;rintro _ H1 ⟨sv,X,rfl,hM,hsb,hga,hm,f1⟩;have hs:=hM.sr;simp only[np]at hsb hga;obtain⟨hS,hL⟩:=hX X hm;have n1:=f1.nx;simp only[np]at n1;have g0:H1.get H.nx=aD 0 [cv,lv]:=(f1.keep (by simp only[np,nq];omega)).trans (by simp(disch:=first|omega|exact ti rfl|(simp only[np,nq];first|done|omega))only[go_sem]);have g1:H1.get (H.nx+1)=aD 0 [.aA]:=(f1.keep (by simp only[np,nq];omega)).trans (by simp(disch:=first|omega|exact ti rfl|(simp only[np,nq];first|done|omega))only[go_sem]);have lW:Fm No H H1:=Fm.trans (by exact nM) f1;simp(disch:=omega)only[go_sem,seval];unfold qx5;rw[dK];generalize hG:(Hp.put _ H1.nx _)=G;have fG:Fm No H1 G:=by rw[<-hG];exact((Fm.refl No H1).push _).aG _ _ (Nat.le_refl _)
 have nG:H1.nx<G.nx:=by rw[<-hG];simp only[np,nq];omega
 have gG:G.get H1.nx=aD 0 [sv]:=by rw[<-hG];exact eB _ _ _
 have a0:=(fG.keep (b:=H.nx) (by omega)).trans g0;have a1:=(fG.keep (b:=H.nx+1) (by omega)).trans g1;refine qtr hC (j:=j) (by omega) (hs.fm fG) hS hL a0 gG (by omega) nG (hl.fm (lW.trans fG)) ?_ cZ 0 .aA [] G (by omega) (by rw[dM];omega) (Nat.zero_le _) (fun t ht=>by cases ht) (Ac.nil 6 _ (Fm.refl _ _));intro w m H2 ha hm2 pm;unfold qgz;have b0:=(ha.fm.keep nG).trans gG;simp only[go_sem,b0];refine Ok.kI (zdj hC (k:=j) (by omega) (P:=Tu.lo) (fun _ h=>h) (by omega) pm (ha.rs mQ)) ?_;rintro w2 H3 ⟨m2,ha2,hm3,pm2⟩;have b1:=(ha2.fm.keep (Nat.lt_of_lt_of_le nG ha.fm.nx)).trans b0;have a2:=((ha.fm.trans ha2.fm).keep (b:=H.nx+1) (by have:=fG.nx;omega)).trans a1;simp only[go_sem,seval,b1,a2];have eS:oD 64 (.agg [sv]) (.agg [sv])=true:=qjl [sv] (by have:=hs.fl;simp only[List.all_cons,List.all_nil,this,List.length_cons,List.length_nil];rfl);rw[eS];have fA:=(fG.trans ha.fm).trans ha2.fm;have nA:=fA.nx;have n2:=ha.fm.nx;have fB:Fm (fun b=>b=H.nx+1) H1 (H3.put (H.nx+1) (aD 0 [sv])):=⟨nA,fun c hc h=>(dW _ _ _ _ h).trans (fA.keep hc)⟩;have fC:Fm (fun b=>b=H.nx+1) H3 (H3.put (H.nx+1) (aD 0 [sv])):=(Fm.refl _ _).put _ _ fun _=>rfl;refine Ok.ret ⟨sv,X,w2,m2,rfl,(hM.iM fB (fun b hb h=>?_) (fun g hg b h1 _ h=>?_)).sr,hm,(ha2.rs mQ).iM fC (fun b hb h=>?_),by omega,pm2,(lW.trans fA).aG _ _ (by omega)⟩
 ·have:=hsb b hb;omega
 ·have:=hga g hg;omega
 ·have:H2.nx<=b:=ha2.nw b hb;omega
def zR(t:Tu)(y:iP):Bool:=decide (y.sp.n=t.x.n/\y.sp.a=t.x.a)&&decide (y.rl.n=t.z.n/\y.rl.a=t.z.a)
theorem q3p{call:Ev.Call}{H:Hp}{x3 x5:Nat}{tv l1 l3 l4 l5 l6:AV}{ts:List iP}{t:Tu}(h3:H.get x3=aD 0 t.cells)(h5:H.get x5=aD 0 [l1,tv,l3,l4,l5,l6])(ht:Rs 2 tC H tv ts)(hn:ts.length<=100){Q:pL}{qr:pD}{q:pH}(hr:ts.any (zR t)=true->Ok (qr (iN 0) H) Q)(hq:ts.any (zR t)=false->Ok (q H) Q):∀(k i:Nat),i<=ts.length->ts.length-i<k->(ts.take i).any (zR t)=false->Ok (qfh call qr q (.ptr x3 0) (.ptr x5 0) k (iN i) H) Q
 |0,i,_,h,_=>by omega
 |k+1,i,hi,hk,ho=>by
  show Ok (qx1 call _ _ _ _ (qfh call _ _ _ _ k) _ H) Q;unfold qx1;have e0:=ht.len;by_cases h1:i<ts.length
  ·simp only[go_sem,h5,e0,h1];rw[qol];unfold qkh;obtain⟨b,o,e1,e2,_,_,e4⟩:=ht.at' i h1;have r0:dO (H.get b) o=.val (.str ts[i].sp.n ts[i].sp.a):=e4 0 (by rw[qgt];omega);have r1:dO (H.get b) (o+1)=.val (.str ts[i].rl.n ts[i].rl.a):=e4 1 (by rw[qgt];omega);have hs:(ts.take (i+1)).any (zR t)=zR t ts[i]:=by
    rw[List.take_succ_eq_append_getElem h1,List.any_append,ho];simp
   unfold Tu.cells SS.v at h3;have sF:zR t ts[i]=false->Ok (qqr call (qfh call qr q (.ptr x3 0) (.ptr x5 0) k) (iN i) H) Q:=fun hf=>by unfold qqr;simp(disch:=omega)only[go_sem];exact q3p h3 h5 ht hn hr hq k (i+1) (by omega) (by omega) (by rw[hs,hf])
   by_cases c1:ts[i].sp.n=t.x.n/\ts[i].sp.a=t.x.a
   ·have c1t:=eq_true c1;by_cases c2:ts[i].rl.n=t.z.n/\ts[i].rl.a=t.z.a
    ·have c2t:=eq_true c2;simp only[go_sem,h3,h5,e1,r0,r1,c1t,c2t];refine hr ?_;rw[List.any_eq_true];exact⟨ts[i],List.getElem_mem h1,by unfold zR;rw[decide_eq_true c1,decide_eq_true c2];rfl⟩
    ·simp only[go_sem,h3,h5,e1,r0,r1,c1t,c2];exact sF (by unfold zR;rw[decide_eq_false c2];simp)
   ·simp only[go_sem,h3,h5,e1,r0,r1,c1];exact sF (by unfold zR;rw[decide_eq_false c1];rfl)
  ·simp only[go_sem,h5,e0,h1];have:i=ts.length:=by omega
   simp_all
def pE(X:List aS)(t:Tu):Nat:=bif t.ok then(match lZ X t.a t.c with|none=>6|some g=>bif g.r.types.any (zR t)then 0 else 11)else 6
theorem zxr(hC:aZ C){k:Nat}(hk:6<=k){H:Hp}{sv:AV}{X:List aS}(hX:dH H sv X)(hS:vT X)(t:Tu):Ok (C k (.f 20) [.agg [sv],.agg t.cells] H) fun r H'=>r=iN ((pE X t))/\Fm No H H':=by
 obtain⟨j,rfl⟩:=aW hk;rw[(hC j).zDx];unfold zDx zri;have eb:bB 6 (H.nx+1) (.agg t.cells)=.new (.ptr (H.nx+1) 0) (aD 0 t.cells):=id rfl;have et:aD 0 t.cells=aD 0 [.str t.a.n t.a.a,.str t.b.n t.b.a,.str t.c.n t.c.a,.str t.x.n t.x.a,.str t.y.n t.y.a,.str t.z.n t.z.a]:=id rfl;simp(disch:=first|omega|exact ti rfl|(simp only[np,nq];first|done|omega))only[go_sem,seval,eb,et];refine Ok.ve (zho hC (k:=j) (by omega) (X:=X) (hX.fm (by exact nM)) (by have:=hS.n;omega) (fun g hg=>by have:=hS.r g hg;omega) t.a t.c) ?_;rintro fr H1 ⟨f1,hf⟩;have n1:=f1.nx;simp only[np]at n1;have g1:H1.get (H.nx+1)=aD 0 [.str t.a.n t.a.a,.str t.b.n t.b.a,.str t.c.n t.c.a,.str t.x.n t.x.a,.str t.y.n t.y.a,.str t.z.n t.z.a]:=(f1.keep (by simp only[np,nq];omega)).trans (by simp(disch:=first|omega|exact ti rfl|(simp only[np,nq];first|done|omega))only[go_sem]);have lW:Fm No H H1:=Fm.trans (by exact nM) f1;have fin:∀(G:Hp) (b:Bool) (c:List AV),Fm No H1 G->c.length=6->G.get H1.nx=aD 0 c->H1.nx<G.nx->(b=true->∃ g,lZ X t.a t.c=some g/\c=gQ g)->(b=false->lZ X t.a t.c=none) ->
   Ok (ve (C j (.f 40) [.agg t.cells] G) fun a47 H_5=>vq (aB (aJ .neq).f a47 (iN 0)) H_5 fun a48 H_6=>vg (aL false a48) (.val (.bool b)) H_6 fun a49 H_7=>vg (aL false a48) ((mR .not).f a49) H_7 fun a50 H_8=>vq (dX a48 (.bool true) a50) H_8 fun a51 H_9=>cd a51 (.ok (iN 6) H_9) (qqq (C j) (.ptr (H.nx+1) 0) (.ptr H1.nx 0) H_9)) fun r H'=>r=iN ((pE X t))/\Fm No H H':=fun G b c fG hc gG nG ht hf=>by
  refine Ok.ve (zd7 hC (k:=j) (by omega) t G) ?_;rintro _ H2 ⟨rfl,f2⟩;unfold pE;cases t.ok with
  |false=>unfold pM;simp only[go_sem];exact Ok.ret ⟨rfl,(lW.trans fG).trans f2⟩
  |true=>
   unfold pM;cases b with
   |false=>rw[hf rfl];simp only[go_sem];exact Ok.ret ⟨rfl,(lW.trans fG).trans f2⟩
   |true=>
    obtain⟨g,hg,rfl⟩:=ht rfl;rw[hg];simp only[go_sem];have fa:=(lW.trans fG).trans f2;have hr:=(qwh hX hg).fm fa;rw[qok];unfold qkg qx2;rw[dK];refine q3p (t:=t) (((fG.trans f2).keep (b:=H.nx+1) (by omega)).trans g1) ((f2.keep nG).trans gG) hr.ty (qie hS hg) (fun h=>?_) (fun h=>?_) cZ 0 (Nat.zero_le _) (by have:=qie hS hg;rw[dM];omega) rfl
    ·rw[h];exact Ok.ret ⟨rfl,fa⟩
    ·rw[h];unfold qfi;exact Ok.ret ⟨rfl,fa⟩
 unfold zn8 at hf;have fP:∀ c,Fm No H1 ((aT H1 (aD 0 [.str 0 0,.aA,.int .u8 (.ofNat 0),.str 0 0,.str 0 0,.aA])).put H1.nx (aD 0 c)):=fun c=>((Fm.refl No H1).push _).aG _ _ (Nat.le_refl _);cases hg:lZ X t.a t.c with
 |none=>rw[hg]at hf;subst hf;have k1:=(fP qm6).keep (b:=H.nx+1) (by omega) |>.trans g1;unfold qm6 at k1 ⊢;simp(disch:=omega)only[go_sem,seval,k1,g1];exact fin _ false qm6 (fP qm6) rfl (eB _ _ _) (by simp only[np,nq];omega) (fun h=>by cases h) (fun _=>hg)
 |some g=>rw[hg]at hf;subst hf;unfold gQ SS.v;simp(disch:=omega)only[go_sem,seval,g1];exact fin _ true (gQ g) (fP (gQ g)) rfl (eB _ _ _) (by simp only[np,nq];omega) (fun _=>⟨g,hg,rfl⟩) (fun h=>by cases h)
end Go.Di
end
section
namespace Go.Di
open Go.Ev Go.Di.T Go.Sort
variable {C:Nat->Ev.Call} {LA LO:LP} {L:List (List Nat)} {X:List aS}
theorem ze8{n a:Nat}(h:0<n/\n<1000000):Lo ⟨n,a⟩:=⟨h.2,fun e=>absurd (show n=0 from e) (by omega)⟩
theorem lT.lo(h:lT L X):LoX X:=by
 have hn:∀ s∈X.map aS.name,Lo s:=fun s hs=>by
  rw[h.names,List.mem_cons,List.mem_map]at hs;rcases hs with rfl|⟨i,_,rfl⟩
  ·trivial
  ·exact ze8 (by omega)
 have ha:∀ p∈aQ X,Lo p.1/\Lo p.2:=fun p hp=>by rw[h.all,List.mem_map]at hp;obtain⟨k,_,rfl⟩:=hp;exact⟨ze8 (by omega),ze8 (by omega)⟩
 refine⟨ha,fun a b g hg t ht=>?_⟩;unfold lZ at hg;split at hg
 ·cases hg
 ·rename_i s hs;obtain⟨_,h2⟩:=h.val.ty s (List.mem_of_find?_eq_some hs) g (List.mem_of_find?_eq_some hg);obtain⟨h3,h4⟩:=h2 t ht;refine⟨hn _ h3,?_⟩;rcases h4 with e|h4
  ·rw[e];exact⟨by decide,fun _=>rfl⟩
  ·exact(ha _ h4).2
theorem zd1{d:Nat}(c:TT AV d):∀(a b o:Nat),Ev.rM c (a+b) o=Ev.rM c a o++Ev.rM c b (o+a)
 |0,b,o=>by rw[Nat.zero_add];rfl
 |a+1,b,o=>by rw[Nat.add_right_comm];show _::Ev.rM c (a+b) (o+1)=_::(Ev.rM c a (o+1)++Ev.rM c b (o+(a+1)));rw[zd1 c a b (o+1),show o+1+a=o+(a+1)by omega]
theorem q5w{B:bQ}{o a b:Nat}{l m:List AV}(h:gN B o a=some l)(h':gN B (o+a) b=some m):gN B o (a+b)=some (l++m):=by
 unfold gN at h h' ⊢;split at h
 ·rename_i n c _ _;simp only[ble_eq]at h h' ⊢;by_cases hc:o+a+b<=n
  ·rw[decide_eq_true hc]at h';rw[decide_eq_true (by omega)]at h;rw[decide_eq_true (by omega)];injection h with h;injection h' with h';rw[cond_true,zd1,h,h']
  ·simp_all
 ·cases h
theorem q5v{B:bQ}{o a:Nat}{l:List AV}(h:gN B o a=some l):gN B o 0=some []:=by
 unfold gN at h ⊢;split at h
 ·rename_i n c _ _;simp only[ble_eq]at h ⊢;by_cases hc:o+a<=n
  ·rw[decide_eq_true (by omega)];rfl
  ·simp_all
 ·cases h
theorem Rs.src{α:Type}{z:Nat}{f:α->List AV}(hf:∀ x,(f x).length=z){H:Hp}{v:AV}{l:List α}(h:Rs z f H v l)(hc:v=.aA\/∃ b o n m e,v=.sl b o n m e/\n<=m/\0<n):jA z H v=some ⟨l.length,l.flatMap f⟩:=by
 have hl:=h.len;rcases hc with rfl|⟨b,o,n,m,e,rfl,_,h0⟩
 ·have h1:aF .aA=R0.val (iN 0):=rfl;injection hl with hl;injection hl with _ hl;injection hl with hl;have:l=[]:=List.length_eq_zero_iff.1 hl.symm;subst this;rfl
 ·have hn:n=l.length:=by
   have h1:aF (.sl b o n m e)=R0.val (iN n):=rfl;injection hl with hl;injection hl with _ hl;injection hl
  subst hn;have at1:∀ i (hi:i<l.length),gN (H.get b) (o+i*z) z=some (f l[i]):=fun i hi=>by obtain⟨b',o',i1,_,_,i4,_⟩:=h.at' i hi;rw[sP _ _ _ _ _ _ _ _ hi]at i1;simp_all
  have hz:=q5v (at1 0 h0);have all:∀ i,i<=l.length->gN (H.get b) o (i*z)=some ((l.take i).flatMap f):=fun i=>by
   induction i with
   |zero=>intro _;rw[Nat.zero_mul]at hz ⊢;exact hz
   |succ i ih=>intro hi;have:=q5w (ih (by omega)) (at1 i hi);rw[List.take_succ_eq_append_getElem hi,List.flatMap_append,List.flatMap_singleton,Nat.add_mul,Nat.one_mul];exact this
  rw[qu1,all _ (Nat.le_refl _),List.take_length]
structure mM(H:Hp)(b:Nat)(rs:List (SS×aX)):Prop where
 ex:∃ es c,H.get b=.map es c/\es.map kH.key=(rs.map kq).map kyP/\∀(i:Nat) (e:kH) (p:SS×aX),es[i]? =some e->rs[i]? =some p->Rs 2 tC H e.val p.2.r.types
theorem mM.fm{H H':Hp}{b:Nat}{rs:List (SS×aX)}(h:mM H b rs)(hb:b<H.nx)(f:Fm No H H'):mM H' b rs:=by obtain⟨es,c,h1,h2,h3⟩:=h.ex;exact⟨es,c,(f.keep hb).trans h1,h2,fun i e p a b=>(h3 i e p a b).fm f⟩
theorem Rs.yQ{α:Type}{z:Nat}{f:α->List AV}{H:Hp}{v:AV}{l:List α}{b c:Nat}{es:List kH}(h:Rs z f H v l)(hb:H.get b=.map es c)(k:bQ):Rs z f (H.put b k) v l:=⟨h.len,fun i hi=>by
 obtain⟨b',o,h1,h2,h5,h3,h4⟩:=h.at' i hi;have hne:b'≠b:=fun h=>by rw[h,hb]at h3;cases h3
 exact⟨b',o,h1,h2,h5,by rw[dW _ _ _ _ hne];exact h3,fun j hj=>by rw[dW _ _ _ _ hne];exact h4 j hj⟩⟩
theorem mM.put{H:Hp}{b:Nat}{rs:List (SS×aX)}(h:mM H b rs)(p:SS×aX)(hp:kq p∉rs.map kq){w:AV}(hw:Rs 2 tC H w p.2.r.types):∃k,mI ⟨fI (eqFields [(p1,⟨bX⟩,0),(p1,⟨bX⟩,1)]),some 2⟩ H (.map b) (.agg [.str p.1.n p.1.a,.str p.2.r.name.n p.2.r.name.a]) w=.ok .undef (H.put b k)/\mM (H.put b k) b (rs++[p]):=by
 obtain⟨es,cl,h1,h2,h3⟩:=h.ex;have hl:es.length=rs.length:=by have:=congrArg List.length h2;simpa using this
 obtain⟨g1,_⟩:=qge qj6 (kq p) es (rs.map kq) 0 h2;refine⟨.map (es++[⟨kyP (kq p),w,cl⟩]) (cl+1),?_,⟨_,_,eB _ _ _,?_,fun i e q he hq=>?_⟩⟩
 ·have hf:qn7 ⟨fI (eqFields [(p1,⟨bX⟩,0),(p1,⟨bX⟩,1)]),some 2⟩ (kyP (kq p)) es=some none:=g1 hp;show mI _ H (.map b) (kyP (kq p)) w=_;unfold mI;simp_all
 ·simp_all
 ·by_cases hi:i<es.length
  ·rw[List.getElem?_append_left hi]at he;rw[List.getElem?_append_left (by omega)]at hq;exact(h3 i e q he hq).yQ h1 _
  ·have hi2:=(List.getElem?_eq_some_iff.1 he).1;have:i=es.length:=by simp at hi2;omega
   subst this;rw[List.getElem?_append_right (Nat.le_refl _),Nat.sub_self]at he;rw[hl,List.getElem?_append_right (Nat.le_refl _),Nat.sub_self]at hq;cases he;cases hq;exact hw.yQ h1 _
theorem mM.find{H:Hp}{b:Nat}{rs:List (SS×aX)}(h:mM H b rs)(z:AV){x y:SS}(hp:(x,y)∈rs.map kq):∃v,pF ⟨fI (eqFields [(p1,⟨bX⟩,0),(p1,⟨bX⟩,1)]),some 2⟩ z true H (.map b) (.agg [.str x.n x.a,.str y.n y.a])=.val (.bG [v,.bool true])/\∀ p,rs[(rs.map kq).findIdx fun q=>decide (q=(x,y))]? =some p->Rs 2 tC H v p.2.r.types:=by obtain⟨es,c,h1,h2,h3⟩:=h.ex;obtain⟨_,g2⟩:=qge qj6 (x,y) es (rs.map kq) 0 h2;obtain⟨e,x1,x2⟩:=g2 hp;refine⟨e.val,?_,fun p hp=>h3 _ e p x1 hp⟩;show(match(match H.get b with| .map es _=>some es|_=>none)with|some es=>ze1 true z (vX _ (kyP (x,y)) es 0)|none=>.bad)=_;rw[h1];simp only;rw[x2];rfl
theorem mM.miss{H:Hp}{b:Nat}{rs:List (SS×aX)}(h:mM H b rs)(z:AV){x y:SS}(hp:(x,y)∉rs.map kq):pF ⟨fI (eqFields [(p1,⟨bX⟩,0),(p1,⟨bX⟩,1)]),some 2⟩ z true H (.map b) (.agg [.str x.n x.a,.str y.n y.a])=.val (.bG [z,.bool false]):=by obtain⟨es,c,h1,h2,h3⟩:=h.ex;obtain⟨g1,_⟩:=qge qj6 (x,y) es (rs.map kq) 0 h2;show(match(match H.get b with| .map es _=>some es|_=>none)with|some es=>ze1 true z (vX _ (kyP (x,y)) es 0)|none=>.bad)=_;rw[h1];simp only;rw[g1 hp];rfl
theorem cpT{H:Hp}{nm:Nat}(hg:H.get nm=aD 0 [])(hl:nm<H.nx){ts:List iP}(hn:ts.length<=100):Ok (gV 2 32 H (.sl nm 0 0 0 true) (some ⟨ts.length,ts.flatMap tC⟩)) fun w H'=>Rs 2 tC H' w ts/\Fm (· =nm) H H':=by
 by_cases h0:ts=[]
 ·subst h0;have e:gV 2 32 H (.sl nm 0 0 0 true) (some ⟨0,[]⟩)=storeAt H nm 0 [] (.sl nm 0 0 0 true):=rfl;have e2:storeAt H nm 0 [] (.sl nm 0 0 0 true)=.ok (.sl nm 0 0 0 true) (H.put nm (aD 0 [])):=by
   unfold storeAt;rw[hg];rfl
  refine⟨_,_,e.trans e2,⟨rfl,fun i hi=>by simp at hi⟩,(Fm.refl _ _).put _ _ fun _=>rfl⟩
 ·have gl:Gl 2 H (.sl nm 0 0 0 true) 0 []:=⟨rfl,.inr ⟨_,_,_,_,_,rfl,hg,Nat.le_refl _,rfl,.inl rfl,hl⟩⟩;have hp:=List.length_pos_iff.2 h0;have hx:(ts.flatMap tC).length=ts.length*2:=by
   clear hn h0 hp
   induction ts with
   |nil=>rfl
   |cons a q ih=>rw[List.flatMap_cons,List.length_append,ih,List.length_cons,qgt];omega
  obtain⟨H',e,g,_,f,_⟩:=gl.append (w:=32) hp hx (by omega) (by omega);rw[List.nil_append,Nat.zero_add]at g;rw[Nat.zero_add]at e;refine⟨_,H',e,g.rs qgt,f.mono fun b _ hb=>?_⟩;obtain⟨_,_,_,_,hb⟩:=hb;cases hb;rfl
end Go.Di
end
