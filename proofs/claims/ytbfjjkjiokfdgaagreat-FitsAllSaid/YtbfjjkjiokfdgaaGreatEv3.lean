/-
 For countersign/countersignlaw20.FitsAll: the evaluator and its soundness, part 3 of 4: what a run of the abstract evaluator answers, the model's run answers, in every world and on every schedule. No conditions beyond those that each theorem states.
-/
import Derived.Test.YtbfjjkjiokfdgaaGreatEv2
import Derived.LoopNIn
import Derived.Scope
import Derived.RangeFuncRecord
import Derived.ChangeSame
import Derived.Test.YtbfjjkjiokfdgaaGreatEv1
noncomputable section
namespace Go.Ev
open Go.RowKit
structure CS(d:Nat) where
 L:TT AV d
 H:Hp
 pend:List Pd
 jA:List Wt
variable {P:Program} {d n:Nat} {O:Call} {base:Nat} {ops:Array Oper} {ms:List Nat}
theorem qso:∀(ord:List Nat) (s:CS d) {L':TT AV d} {H':Hp} {p':List Pd} {w':List Wt},(sP P d n ops ms ord).f O base s.L s.H s.pend s.jA=.ok L' H' p' w' -> ∃st:Nat->CS d,st 0=s/\st ord.length=⟨L',H',p',w'⟩/\∀ q i,ord[q]? =some i->∃ o,ops[i]? =some o /\ (qx9 P d n ops i (ms.getD i 0) o).f O base (st q).L (st q).H (st q).pend (st q).jA=.ok (st (q+1)).L (st (q+1)).H (st (q+1)).pend (st (q+1)).jA
 | [],s,L',H',p',w',h=>by cases h;exact⟨fun _=>s,rfl,rfl,fun q i hq=>by simp at hq⟩
 |i::r,s,L',H',p',w',h=>by
  unfold sP at h;split at h
  ·rename_i o ho;simp only[z3j]at h;split at h
   ·cases h
   ·rename_i L1 H1 p1 w1 h1;obtain⟨st,a1,a2,a3⟩:=qso r ⟨L1,H1,p1,w1⟩ h;refine⟨fun q=>match q with|0=>s|q+1=>st q,rfl,a2,fun q j hq=>?_⟩;cases q with
    |zero=>simp_all
    |succ q=>simp at hq;exact a3 q j hq
  ·cases h
inductive qk9(P:Program)(d n:Nat)(O:Call)(base:Nat)(ops:Array Oper)(i A:Nat)(o:Oper)(s s':CS d):AV->Option bO->Bool->Prop
 |skip:(r9 d n ops o).f ((mW d n (kY ops o)).f s.L)=some false->s'=⟨(dW d n o.dst).f s.L .undef,s.H,s.pend,s.jA⟩->qk9 P d n O base ops i A o s s' .undef none false
 |val (lk:Bool) (f:Nat->TT AV d->Hp->R0) (v:AV):gZ P d n o=.q lk f->(r9 d n ops o).f ((mW d n (kY ops o)).f s.L)=some true ->
   f (base+i) ((mW d n (kY ops o)).f s.L) (eP A s.pend s.H)=.val v ->
   s'=⟨(dW d n o.dst).f s.L v,s.H,s.pend,bif lk then⟨i,A,f (base+i) ((mW d n (kY ops o)).f s.L),v⟩::s.jA else s.jA⟩->qk9 P d n O base ops i A o s s' v none false
 |new (f:Nat->TT AV d->Hp->R0) (v:AV) (b:bO):gZ P d n o=.q false f->qhy o.op=true->b.wr=true->(r9 d n ops o).f ((mW d n (kY ops o)).f s.L)=some true ->
   f (base+i) ((mW d n (kY ops o)).f s.L) (eP A s.pend s.H)=.new v b ->
   s'=⟨(dW d n o.dst).f s.L v,s.H,⟨i,base+i,b⟩::s.pend,s.jA⟩->qk9 P d n O base ops i A o s s' v (some b) false
 |l7 (f:Call->TT AV d->Hp->R1) (v:AV) (H':Hp):gZ P d n o=.e f->(r9 d n ops o).f ((mW d n (kY ops o)).f s.L)=some true ->
   f O ((mW d n (kY ops o)).f s.L) (eP A s.pend s.H)=.ok v H'->qi8 (qJ A s.pend) H' (qG A s.jA)=true ->
   s'=⟨(dW d n o.dst).f s.L v,H',qJ A s.pend,qG A s.jA⟩->qk9 P d n O base ops i A o s s' v none true
theorem zrp{i A:Nat}{o:Oper}{s s':CS d}(h:(qx9 P d n ops i A o).f O base s.L s.H s.pend s.jA=.ok s'.L s'.H s'.pend s'.jA):∃v b k,qk9 P d n O base ops i A o s s' v b k:=by
 unfold qx9 at h;split at h
 ·rename_i lk f pj w put h1 h2 h3 h4;simp only at h;unfold qX at h;have e2:(mW d n (kY ops o)).f=pj:=by rw[h2]
  have e3:(r9 d n ops o).f=w:=by rw[h3]
  have e4:(dW d n o.dst).f=put:=by rw[h4]
  split at h
  ·cases h
  ·rename_i hw;obtain⟨L',H',p',w'⟩:=s';cases h;exact⟨_,_,_,.skip (by rw[e2,e3];exact hw) (by rw[e4])⟩
  ·rename_i hw;split at h
   ·cases h
   ·rename_i v hv;obtain⟨L',H',p',w'⟩:=s';cases h;exact⟨_,_,_,.val lk f v h1 (by rw[e2,e3];exact hw) (by rw[e2];exact hv) (by rw[e4,e2];rfl)⟩
   ·rename_i v b hv;cases hb:(qhy o.op&& !lk&&b.wr)with
    |false=>rw[hb]at h;cases h
    |true=>rw[hb]at h;simp only[pq,xe]at hb;obtain⟨⟨b1,b2⟩,b3⟩:=hb;subst b2;obtain⟨L',H',p',w'⟩:=s';cases h;exact⟨_,_,_,.new f v b h1 b1 b3 (by rw[e2,e3];exact hw) (by rw[e2];exact hv) (by rw[e4])⟩
 ·rename_i f pj w put h1 h2 h3 h4;simp only at h;unfold eX at h;have e2:(mW d n (kY ops o)).f=pj:=by rw[h2]
  have e3:(r9 d n ops o).f=w:=by rw[h3]
  have e4:(dW d n o.dst).f=put:=by rw[h4]
  split at h
  ·cases h
  ·rename_i hw;obtain⟨L',H',p',w'⟩:=s';cases h;exact⟨_,_,_,.skip (by rw[e2,e3];exact hw) (by rw[e4])⟩
  ·rename_i hw;split at h
   ·cases h
   ·rename_i v H1 hv;cases hb:qi8 (qJ A s.pend) H1 (qG A s.jA)with
    |false=>rw[hb]at h;cases h
    |true=>rw[hb]at h;simp only[qy]at h;obtain⟨L',H',p',w'⟩:=s';simp only[Rx.ok.injEq]at h;obtain⟨g1,g2,g3,g4⟩:=h;subst g1;subst g2;subst g3;subst g4;exact⟨_,_,_,.l7 f v _ h1 (by rw[e2,e3];exact hw) (by rw[e2];exact hv) hb (by rw[e4])⟩
theorem qzk(l:List Oper):∀(k i:Nat) (o:Oper),l[i]? =some o->(qsx P d n ms k l)[i]? =some (Kd.mk (k+i) (ms.getD (k+i) 0) (isE (gZ P d n o)) (aEe (gZ P d n o))):=by
 induction l with
 |nil=>intro k i o h;simp at h
 |cons o' r ih=>
  intro k i o h;cases i with
  |zero=>simp at h;subst h;simp[qsx]
  |succ i=>simp only[qsx,yu];rw[ih (k+1) i o h,show k+1+i=k+(i+1)by omega]
theorem qy3{ks:List Kd}:∀(l:List Nat) (D E:Nat),qy4 ops ks D E l=true->∀ q i,l[q]? =some i->∃ o k,ops[i]? =some o/\ks[i]? =some k /\ (∀j∈vH o,hasB D j=true\/j∈l.take q)/\hasB D i=false/\i∉l.take q /\ ((k.l7=true\/k.lk=true)->∀ e,(hasB E e=true\/(e∈l.take q/\∃ ke,ks[e]? =some ke/\ke.l7=true))->hasB k.A e=true)
 | [],D,E,h,q,i,hq=>by simp at hq
 |i'::r,D,E,h,q,i,hq=>by
  unfold qy4 at h;split at h
  ·rename_i o k ho hk;simp only[pq,yc,xe,af]at h;obtain⟨⟨⟨h1,h2⟩,h3⟩,h4⟩:=h;cases q with
   |zero=>
    simp at hq;subst hq;refine⟨o,k,ho,hk,fun j hj=>.inl (h1 j hj),h2,by simp,fun he e hE=>?_⟩;have hs:aBa E k.A=true:=by
     rcases h3 with h3|h3
     ·simp_all
     ·exact h3
    rcases hE with hE|hE
    ·exact zrl hs hE
    ·simp at hE
   |succ q=>
    obtain⟨o1,k1,a1,a2,a3,a4,a5,a6⟩:=qy3 r _ _ h4 q i hq;rw[qgq]at a4;simp only[lAG,xm]at a4;refine⟨o1,k1,a1,a2,fun j hj=>?_,a4.1,?_,fun he e hE=>a6 he e ?_⟩
    ·rcases a3 j hj with b|b
     ·rw[qgq]at b;simp only[af,xq]at b;rcases b with b|b
      ·exact .inl b
      ·simp_all
     ·simp_all
    ·simp only[dm,qg,not_or];exact⟨fun e=>a4.2 e.symm,a5⟩
    ·rcases hE with hE|⟨hE,ke,hE1,hE2⟩
     ·left;cases k.l7 with
      |true=>simp only[qy];rw[qgq,hE];rfl
      |false=>exact hE
     ·simp only[dm,qg]at hE;rcases hE with rfl|hE
      ·left;rw[hk]at hE1;cases hE1;rw[hE2];simp only[qy];rw[qgq];simp
      ·simp_all
  ·cases h
theorem qwg:∀(m:Nat) (l:List Nat),l.Nodup->(∀x∈l,x<m)->l.length<=m
 |0,l,_,h=>by
  cases l with
  |nil=>simp
  |cons a l=>have:=h a (by simp);omega
 |m+1,l,hn,h=>by
  by_cases hm:m∈l
  ·have h1:=qwg m (l.erase m) (hn.erase m) fun x hx=>by
    have:=(hn.mem_erase_iff).1 hx;have:=h x this.2;omega
   simp_all
  ·have:=qwg m l hn fun x hx=>by
    have h1:=h x hx;have:x≠m:=fun e=>hm (e▸hx);omega
   omega
structure Can(P:Program)(d n:Nat)(O:Call)(base:Nat)(ops:Array Oper)(ms:List Nat)(st:Nat->CS d)(pos:Nat->Nat)(V:Nat->AV)(B:Nat->Option bO)(K:Nat->Bool):Prop where
 edg:Edg ops ms
 plt:∀ i,i<ops.size->pos i<ops.size
 inj:∀ i j,i<ops.size->j<ops.size->pos i=pos j->i=j
 aXK:∀ q,q<ops.size->∃ i,i<ops.size/\pos i=q
 step:∀ i o,ops[i]? =some o->qk9 P d n O base ops i (ms.getD i 0) o (st (pos i)) (st (pos i+1)) (V i) (B i) (K i)
 edge:∀ i o,ops[i]? =some o->∀ j∈vH o,pos j<pos i
 l7:∀ i o e oe,ops[i]? =some o->ops[e]? =some oe->isE (gZ P d n oe)=true->(isE (gZ P d n o)=true\/aEe (gZ P d n o)=true)->pos e<pos i->hasB (ms.getD i 0) e=true
theorem Can.of{pl:Pln}(hp:q43 P d n ops=some pl){s:CS d}{L':TT AV d}{H':Hp}{p':List Pd}{w':List Wt}(h:(sP P d n ops pl.ms pl.ord).f O base s.L s.H s.pend s.jA=.ok L' H' p' w'):∃st pos V B K,Can P d n O base ops pl.ms st pos V B K/\st 0=s/\st ops.size=⟨L',H',p',w'⟩/\pl.up=(bif ops.toList.any (fun o=>qhy o.op)then ops.size else 0):=by
 unfold q43 at hp;simp only at hp;generalize hks:qsx P d n (yQ [] ops.toList) 0 ops.toList=ks at hp;generalize zj8 (zmf ks) ks.length 0 ks=ord at hp;cases hc:(qtc 0 ops.toList&&q7k ops (yQ [] ops.toList)&&Nat.beq ord.length ops.size&&qy4 ops ks 0 0 ord)with
 |false=>rw[hc]at hp;cases hp
 |true=>
  rw[hc]at hp;simp only[qy,qh]at hp;subst hp;simp only[pq]at hc;obtain⟨⟨⟨c1,c2⟩,c3⟩,c4⟩:=hc;have c3:=rf c3;obtain⟨st,a1,a2,a3⟩:=qso ord s h;have hpl:=qy3 ord 0 0 c4;have hnd:ord.Nodup:=by refine uw.2 fun i j hi hj hij e=>?_;obtain⟨o,k,_,_,_,_,b5,_⟩:=hpl j ord[j] (lh hj);apply b5;rw[<-e,List.mem_take_iff_getElem];exact⟨i,by omega,rfl⟩
  have hlt:∀ x∈ord,x<ops.size:=fun x hx=>by obtain⟨q,hq,e⟩:=ay hx;obtain⟨o,k,b1,_⟩:=hpl q x (by rw[lh hq,e]);exact(zn.1 b1).1
  have hall:∀ i,i<ops.size->i∈ord:=fun i hi=>Classical.byContradiction fun hni=>by
   have:=qwg ops.size (i::ord) (ou.2 ⟨hni,hnd⟩) fun x hx=>by
    rcases qg.1 hx with rfl|hx
    ·exact hi
    ·exact hlt x hx
   simp at this;omega
  have hex:∀ i,∃q v b k,i<ops.size->ord[q]? =some i/\∀ o,ops[i]? =some o->qk9 P d n O base ops i ((yQ [] ops.toList).getD i 0) o (st q) (st (q+1)) v b k:=fun i=>by
   by_cases hi:i<ops.size
   ·obtain⟨q,hq,e⟩:=ay (hall i hi);have hq':ord[q]? =some i:=by rw[lh hq,e]
    obtain⟨o,ho,hs⟩:=a3 q i hq';obtain⟨v,b,k,hk⟩:=zrp hs;exact⟨q,v,b,k,fun _=>⟨hq',fun o' ho'=>by rw[ho]at ho';cases ho';exact hk⟩⟩
   ·exact⟨0,.undef,none,false,fun h=>absurd h hi⟩
  let pos:=fun i=>Classical.choose (hex i)
  let V:=fun i=>Classical.choose (ul (hex i))
  let B:=fun i=>Classical.choose (ul (ul (hex i)))
  let K:=fun i=>Classical.choose (ul (ul (ul (hex i))))
  have spec:∀ i,i<ops.size->ord[pos i]? =some i/\∀ o,ops[i]? =some o->qk9 P d n O base ops i ((yQ [] ops.toList).getD i 0) o (st (pos i)) (st (pos i+1)) (V i) (B i) (K i):=fun i=>
   ul (ul (ul (ul (hex i))))
  have hsz:∀{i o},ops[i]? =some o->i<ops.size:=fun h=>(zn.1 h).1;have qwm:∀ j q,j<ops.size->j∈ord.take q->pos j<q:=fun j q hj hm=>by
   rw[List.mem_take_iff_getElem]at hm;obtain⟨x,hx,e⟩:=hm;have h1:=(spec j hj).1;have h2:ord[x]? =some j:=by rw[lh (by omega),e]
   have hpj:pos j<ord.length:=(qm.1 h1).1;have:pos j=x:=(List.getElem?_inj hpj hnd).1 (h1.trans h2.symm);omega
  have aCH:∀ j q,j<ops.size->pos j<q->j∈ord.take q:=fun j q hj hq=>by have h1:=(spec j hj).1;obtain⟨hl,e⟩:=qm.1 h1;rw[List.mem_take_iff_getElem];exact⟨pos j,by omega,e⟩
  refine⟨st,pos,V,B,K,⟨Edg.of c1 c2,fun i hi=>?_,fun i j hi hj e=>?_,fun q hq=>?_,fun i o ho=>(spec i (hsz ho)).2 o ho,fun i o ho j hj=>?_,fun i o e oe ho hoe he hio hlt'=>?_⟩,a1,by rw[<-c3];exact a2,rfl⟩
  ·have:=(qm.1 (spec i hi).1).1;omega
  ·have h1:=(spec i hi).1;have h2:=(spec j hj).1;rw[e,h2]at h1;cases h1;rfl
  ·have hq':q<ord.length:=by omega
   have hm:ord[q]∈ord:=lu hq';refine⟨ord[q],hlt _ hm,?_⟩;have h1:=(spec _ (hlt _ hm)).1;have hpj:=(qm.1 h1).1;exact(List.getElem?_inj hpj hnd).1 (h1.trans (lh hq').symm)
  ·obtain⟨o',k,b1,b2,b3,_⟩:=hpl (pos i) i (spec i (hsz ho)).1;rw[ho]at b1;cases b1;have hlj:j<ops.size:=lE9 ((Edg.of c1 c2).back i o ho j hj) (hsz ho);rcases b3 j hj with b|b
   ·rw[qzp]at b;cases b
   ·simp_all
  ·obtain⟨o',k,b1,b2,b3,b4,b5,b6⟩:=hpl (pos i) i (spec i (hsz ho)).1;have k1:=qzk (P:=P) (d:=d) (n:=n) (ms:=yQ [] ops.toList) ops.toList 0 i o (by simpa using ho);have k2:=qzk (P:=P) (d:=d) (n:=n) (ms:=yQ [] ops.toList) ops.toList 0 e oe (by simpa using hoe);rw[hks]at k1 k2;rw[b2]at k1;simp only[qf,qh]at k1 k2;subst k1;exact b6 hio e (.inr ⟨aCH e _ (hsz hoe) hlt',_,k2,he⟩)
end Go.Ev
end
noncomputable section
namespace Go.Ev
open Go.RowKit
variable {P:Program} {d n:Nat} {O:Call} {base:Nat} {ops:Array Oper} {ms:List Nat} {st:Nat->CS d} {pos:Nat->Nat} {V:Nat->AV} {B:Nat->Option bO} {K:Nat->Bool}
/- locals -/
def qw4(ops:Array Oper)(j:Nat):Option Tmp:=(ops[j]?).bind (·.dst)
open Classical in
def tv(ops:Array Oper)(n:Nat)(V:Nat->AV)(L0:TT AV d)(S:Nat->Prop):Nat->Nat->AV
 |0,t=>(dJ d t).f L0
 |j+1,t=>if S j/\qw4 ops j=some t/\t<n then V j else tv ops n V L0 S j t
theorem qja{L0:TT AV d}{S S':Nat->Prop}{t:Nat}:∀ m,(∀j,j<m->qw4 ops j=some t->(S j↔S' j))->tv ops n V L0 S m t=tv ops n V L0 S' m t
 |0,_=>rfl
 |m+1,h=>by
  unfold tv;rw[qja m fun j hj=>h j (by omega)];by_cases hd:qw4 ops m=some t
  ·have:=h m (by omega) hd;by_cases hs:S m
   ·simp[hs,this.1 hs,hd]
   ·have:¬ S' m:=fun x=>hs (this.2 x);simp[hs,this]
  ·simp[hd]
theorem ziu{L0:TT AV d}{S:Nat->Prop}{t i:Nat}(hi:S i)(hd:qw4 ops i=some t)(ht:t<n):∀ m,i<m->(∀j,i<j->j<m->S j->qw4 ops j≠some t)->tv ops n V L0 S m t=V i
 |0,h,_=>by omega
 |m+1,h,k=>by
  unfold tv;by_cases e:i=m
  ·subst e;rw[pz ⟨hi,hd,ht⟩]
  ·rw[kz (fun x=>k m (by omega) (by omega) x.1 x.2.1)];exact ziu hi hd ht m (by omega) fun j h1 h2=>k j h1 (by omega)
theorem qes{i:Nat}{o:Oper}(h:ops[i]? =some o):i<ops.size:=(zn.1 h).1
theorem qo3{i:Nat}(h:i<ops.size):∃ o,ops[i]? =some o:=⟨_,zt h⟩
theorem zwi{L0:TT AV d}{S:Nat->Prop}(h:Edg ops ms)(hS:Shut ops S){i:Nat}{o:Oper}(ho:ops[i]? =some o)(hni:¬ S i)(t:Nat):tv ops n V L0 (fun j=>S j\/j=i) ops.size t=if o.dst=some t/\t<n then V i else tv ops n V L0 S ops.size t:=by
 have hdi:qw4 ops i=o.dst:=by simp[qw4,ho]
 by_cases hd:o.dst=some t
 ·by_cases ht:t<n
  ·rw[pz ⟨hd,ht⟩];refine ziu (.inr rfl) (hdi.trans hd) ht _ (qes ho) fun j h1 h2 h3 h4=>?_;obtain⟨oj,hoj⟩:=qo3 h2;have hdj:oj.dst=some t:=by simpa [qw4,hoj] using h4
   rcases h3 with h3|h3
   ·rcases h.tmps i j o oj t ho hoj hd with e|e|e|e
    ·omega
    ·exact hni (h.rM hS hoj h3 e)
    ·have:=h.aHo i o j ho e;omega
    ·exact e.2 hdj
   ·omega
  ·rw[kz (by simp[ht])];generalize ops.size=m
   induction m with
   |zero=>rfl
   |succ m ih=>unfold tv;rw[kz (by simp[ht]),kz (by simp[ht]),ih]
 ·rw[kz (by simp[hd])];refine qja _ fun j hj hdj=>?_;constructor
  ·rintro (h1|rfl)
   ·exact h1
   ·rw[hdi]at hdj;exact absurd hdj hd
  ·exact .inl
theorem z1g{L:TT AV d}{v:AV}{u:Nat}(h:Nat.blt u n=true):(dW d n (some u)).f L v=(setter d u).f L v:=by unfold dW;simp only;rw[h];rfl
theorem q8g{L:TT AV d}{v:AV}{u:Nat}(h:Nat.blt u n=false):(dW d n (some u)).f L v=L:=by unfold dW;simp only;rw[h];rfl
theorem qjj(hn:n<=8 ^ d){L:TT AV d}{v:AV}{t:Nat}(ht:t<8 ^ d)(dst:Option Tmp):(dJ d t).f ((dW d n dst).f L v)=if dst=some t/\t<n then v else(dJ d t).f L:=by
 cases dst with
 |none=>simp[dW]
 |some u=>
  cases hb:Nat.blt u n with
  |true=>
   have hu:=uL hb;rw[z1g hb,qev _ _ _ _ _ ht (lL hu hn)];by_cases e:t=u
   ·subst e;simp[hu]
   ·rw[kz e,kz (by simp;intro h;exact absurd h.symm e)]
  |false=>have hu:=zcb hb;rw[q8g hb,kz];rintro ⟨h1,h2⟩;cases h1;exact hu h2
theorem qk9.bFd{i A:Nat}{o:Oper}{s s':CS d}{v:AV}{b:Option bO}{k:Bool}(h:qk9 P d n O base ops i A o s s' v b k):s'.L=(dW d n o.dst).f s.L v:=by cases h<;>(rename_i e;rw[e])
theorem qk9.bFJ{i A:Nat}{o:Oper}{s s':CS d}{v:AV}{b:Option bO}(h:qk9 P d n O base ops i A o s s' v b false):s'.H=s.H:=by cases h<;>(rename_i e;rw[e])
theorem Can.shut(C:Can P d n O base ops ms st pos V B K)(q:Nat):Shut ops (fun j=>pos j<q):=fun i o ho hi j hj=>by have:=C.edge i o ho j hj;simp only at hi;omega
theorem Can.kE(C:Can P d n O base ops ms st pos V B K){i k:Nat}{o:Oper}(ho:ops[i]? =some o)(hk:hasB (ms.getD i 0) k=true):pos k<pos i:=
 C.edg.u7 (C.shut (pos i)) i o k ho (fun j hj=>C.edge i o ho j hj) hk
theorem Can.at(C:Can P d n O base ops ms st pos V B K){q:Nat}(hq:q<ops.size):∃ i o,ops[i]? =some o/\pos i=q/\qk9 P d n O base ops i (ms.getD i 0) o (st q) (st (q+1)) (V i) (B i) (K i):=by obtain⟨i,hi,rfl⟩:=C.aXK q hq;obtain⟨o,ho⟩:=qo3 hi;exact⟨i,o,ho,rfl,C.step i o ho⟩
theorem Can.lt_succ(C:Can P d n O base ops ms st pos V B K){i j:Nat}(hi:i<ops.size)(hj:j<ops.size):pos j<pos i+1↔pos j<pos i\/j=i:=by
 constructor
 ·intro h;by_cases e:pos j=pos i
  ·exact .inr (C.inj j i hj hi e)
  ·exact .inl (by omega)
 ·rintro (h|rfl)<;>omega
theorem Can.locals(C:Can P d n O base ops ms st pos V B K)(hn:n<=8 ^ d):∀ q,q<=ops.size->∀ t,t<8 ^ d->(dJ d t).f (st q).L=tv ops n V (st 0).L (fun j=>pos j<q) ops.size t
 |0,_,t,_=>by
  generalize ops.size=m
  induction m with
  |zero=>rfl
  |succ m ih=>unfold tv;rw[kz (by omega)];exact ih
 |q+1,hq,t,ht=>by obtain⟨i,o,ho,hp,hs⟩:=C.at hq;subst hp;rw[hs.bFd,qjj hn ht,C.locals hn (pos i) (by omega) t ht];rw[<-zwi C.edg (C.shut (pos i)) ho (xn _) t];exact qja _ fun j hj _=>(C.lt_succ (qes ho) hj).symm
theorem Can.proj(C:Can P d n O base ops ms st pos V B K)(hn:n<=8 ^ d){S:Nat->Prop}(hS:Shut ops S){L:TT AV d}(hL:∀ t,t<8 ^ d->(dJ d t).f L=tv ops n V (st 0).L S ops.size t){k:Nat}{o:Oper}(ho:ops[k]? =some o)(hk:¬ S k)(hr:∀ j∈vH o,S j):(mW d n (kY ops o)).f L=(mW d n (kY ops o)).f (st (pos k)).L:=by
 refine qov _ fun t ht hlt=>?_;have hpk:=C.plt k (qes ho);rw[hL t (lL hlt hn),C.locals hn (pos k) (by omega) t (lL hlt hn)];refine qja _ fun j hj hd=>?_;obtain⟨oj,hoj⟩:=qo3 hj;have hdj:oj.dst=some t:=by simpa [qw4,hoj] using hd
 rcases C.edg.tmps j k oj o t hoj ho hdj with e|e|e|e
 ·subst e;exact⟨fun h=>absurd h hk,fun h=>absurd h (xn _)⟩
 ·exact⟨fun _=>C.kE ho e,fun _=>C.edg.u7 hS k o j ho hr e⟩
 ·exact⟨fun h=>absurd (C.edg.rM hS hoj h e) hk,fun h=>absurd (C.kE hoj e) (by omega)⟩
 ·exact absurd ht e.1
/- heaps -/
def qvr(c:Pd->Bool)(pend:List Pd)(H:Hp):Hp:=
 List.rec (motive:=fun _=>Hp) H (fun p _ ih=>bif c p then ih.put p.nm p.b else ih) pend
theorem qvs(A:Nat)(pend:List Pd)(H:Hp):eP A pend H=qvr (fun p=>hasB A p.i) pend H:=rfl
theorem z3o(pend:List Pd)(H:Hp):nQ pend H=qvr (fun _=>true) pend H:=rfl
theorem qg2(c:Pd->Bool)(p:Pd)(l:List Pd)(H:Hp):qvr c (p::l) H=if c p=true then(qvr c l H).put p.nm p.b else qvr c l H:=by show(bif c p then _ else _)=_;cases c p<;>rfl
theorem qvq(c:Pd->Bool)(H:Hp):∀ pend,(qvr c pend H).nx=H.nx
 | []=>rfl
 |p::l=>by
  rw[qg2];split
  ·exact qvq c H l
  ·exact qvq c H l
theorem qr9{c:Pd->Bool}{H:Hp}{b:Nat}(hb:iB (b)):∀ pend,(∀p∈pend,iB (p.nm))->(∀p∈pend,c p=true->p.nm≠b)->(qvr c pend H).get b=H.get b
 | [],_,_=>rfl
 |p::l,h1,h=>by
  rw[qg2];have ih:=qr9 (c:=c) (H:=H) hb l (fun x hx=>h1 x (by simp[hx])) (fun x hx=>h x (by simp[hx]));split
  ·rename_i hc;rw[Hp.get_put _ _ _ _ (h1 p (by simp)) hb,kz (fun e=>h p (by simp) hc e.symm)];exact ih
  ·exact ih
theorem qoc{c:Pd->Bool}{H:Hp}:∀ pend,(∀p∈pend,iB (p.nm))->(∀p∈pend,∀p'∈pend,p.nm=p'.nm->p.b=p'.b)->∀ p∈pend,c p=true->(qvr c pend H).get p.nm=p.b
 | [],_,_,p,hp,_=>by cases hp
 |x::l,h1,h2,p,hp,hc=>by
  rw[qg2];have hpn:=h1 p hp;by_cases hx:c x=true
  ·rw[pz hx,Hp.get_put _ _ _ _ (h1 x (by simp)) hpn];by_cases e:p.nm=x.nm
   ·rw[pz e];exact h2 x (by simp) p hp e.symm
   ·rw[kz e];have hpl:p∈l:=by
     rcases qg.1 hp with rfl|h
     ·exact absurd rfl e
     ·exact h
    exact qoc l (fun y hy=>h1 y (by simp[hy])) (fun y hy z hz=>h2 y (by simp[hy]) z (by simp[hz])) p hpl hc
  ·rw[kz hx];have hpl:p∈l:=by
    rcases qg.1 hp with rfl|h
    ·exact absurd hc hx
    ·exact h
   exact qoc l (fun y hy=>h1 y (by simp[hy])) (fun y hy z hz=>h2 y (by simp[hy]) z (by simp[hz])) p hpl hc
def Mg(ops:Array Oper)(ms:List Nat)(pos:Nat->Nat)(K:Nat->Bool)(q i:Nat):Prop:=∃ e,e<ops.size/\pos e<q/\K e=true/\hasB (ms.getD e 0) i=true
theorem qzi{A:Nat}{p:Pd}:∀{l:List Pd},p∈qJ A l↔p∈l/\hasB A p.i=false
 | []=>by simp[qJ]
 |x::l=>by
  have ih:=qzi (A:=A) (p:=p) (l:=l);show p∈(bif hasB A x.i then qJ A l else x::qJ A l)↔_;cases hx:hasB A x.i with
  |true=>
   simp only[qy,qg];rw[ih];constructor
   ·rintro ⟨a,b⟩;exact⟨.inr a,b⟩
   ·rintro ⟨rfl|a,b⟩
    ·rw[hx]at b;cases b
    ·exact⟨a,b⟩
  |false=>
   simp only[zh,qg];rw[ih];constructor
   ·rintro (rfl|⟨a,b⟩)
    ·exact⟨.inl rfl,hx⟩
    ·exact⟨.inr a,b⟩
   ·rintro ⟨rfl|a,b⟩
    ·exact .inl rfl
    ·exact .inr ⟨a,b⟩
theorem qo9{A:Nat}{p:Wt}:∀{l:List Wt},p∈qG A l↔p∈l/\hasB A p.i=false
 | []=>by simp[qG]
 |x::l=>by
  have ih:=qo9 (A:=A) (p:=p) (l:=l);show p∈(bif hasB A x.i then qG A l else x::qG A l)↔_;cases hx:hasB A x.i with
  |true=>
   simp only[qy,qg];rw[ih];constructor
   ·rintro ⟨a,b⟩;exact⟨.inr a,b⟩
   ·rintro ⟨rfl|a,b⟩
    ·rw[hx]at b;cases b
    ·exact⟨a,b⟩
  |false=>
   simp only[zh,qg];rw[ih];constructor
   ·rintro (rfl|⟨a,b⟩)
    ·exact⟨.inl rfl,hx⟩
    ·exact⟨.inr a,b⟩
   ·rintro ⟨rfl|a,b⟩
    ·exact .inl rfl
    ·exact .inr ⟨a,b⟩
theorem Can.qH(C:Can P d n O base ops ms st pos V B K){i j:Nat}(hi:i<ops.size):Mg ops ms pos K (pos i+1) j↔Mg ops ms pos K (pos i) j\/(K i=true/\hasB (ms.getD i 0) j=true):=by
 constructor
 ·rintro ⟨e,h1,h2,h3,h4⟩;rcases(C.lt_succ hi h1).1 h2 with h|rfl
  ·exact .inl ⟨e,h1,h,h3,h4⟩
  ·exact .inr ⟨h3,h4⟩
 ·rintro (⟨e,h1,h2,h3,h4⟩|⟨h3,h4⟩)
  ·exact⟨e,h1,by omega,h3,h4⟩
  ·exact⟨i,hi,by omega,h3,h4⟩
theorem Can.pend(C:Can P d n O base ops ms st pos V B K)(h0:(st 0).pend=[]):∀ q,q<=ops.size -> (∀p∈(st q).pend,p.i<ops.size/\p.nm=base+p.i/\B p.i=some p.b/\pos p.i<q/\¬ Mg ops ms pos K q p.i) /\ (∀i b,i<ops.size->B i=some b->pos i<q->¬ Mg ops ms pos K q i->⟨i,base+i,b⟩∈(st q).pend)
 |0,_=>⟨(fun p hp=>by rw[h0]at hp;cases hp),(fun i b _ _ h=>by omega)⟩
 |q+1,hq=>by
  obtain⟨i,o,ho,hp,hs⟩:=C.at hq;obtain⟨ih1,ih2⟩:=C.pend h0 q (by omega);subst hp;have hsi:=qes ho;have quiet:K i=false->B i=none->(st (pos i+1)).pend=(st (pos i)).pend ->
    (∀p∈(st (pos i+1)).pend,p.i<ops.size/\p.nm=base+p.i/\B p.i=some p.b/\pos p.i<pos i+1/\¬ Mg ops ms pos K (pos i+1) p.i) /\
    (∀j b,j<ops.size->B j=some b->pos j<pos i+1->¬ Mg ops ms pos K (pos i+1) j->⟨j,base+j,b⟩∈(st (pos i+1)).pend):=fun hk hb he=>by
   have hm:∀ j,Mg ops ms pos K (pos i+1) j↔Mg ops ms pos K (pos i) j:=fun j=>by rw[C.qH hsi,hk];simp
   rw[he];refine⟨fun p hp=>?_,fun j b hj hjb hjp hjm=>?_⟩
   ·obtain⟨a1,a2,a3,a4,a5⟩:=ih1 p hp;exact⟨a1,a2,a3,by omega,fun h=>a5 ((hm _).1 h)⟩
   ·rcases(C.lt_succ hsi hj).1 hjp with h|rfl
    ·exact ih2 j b hj hjb h fun h=>hjm ((hm _).2 h)
    ·rw[hb]at hjb;cases hjb
  generalize hB:B i=b at hs;generalize V i=v at hs;generalize hK:K i=k at hs;cases hs with
  |skip _ e=>exact quiet hK hB (by rw[e])
  |val _ _ _ _ _ _ e=>exact quiet hK hB (by rw[e])
  |new f _ b' _ _ _ _ _ e=>
   have hm:∀ j,Mg ops ms pos K (pos i+1) j↔Mg ops ms pos K (pos i) j:=fun j=>by rw[C.qH hsi,hK];simp
   rw[e];simp only[qg];refine⟨fun p hp=>?_,fun j b hj hjb hjp hjm=>?_⟩
   ·rcases hp with rfl|hp
    ·refine⟨hsi,rfl,hB,by simp,fun h=>?_⟩;obtain⟨e,e1,e2,e3,e4⟩:=(hm i).1 h;obtain⟨oe,hoe⟩:=qo3 e1;have:=C.kE hoe e4;omega
    ·obtain⟨a1,a2,a3,a4,a5⟩:=ih1 p hp;exact⟨a1,a2,a3,by omega,fun h=>a5 ((hm _).1 h)⟩
   ·rcases(C.lt_succ hsi hj).1 hjp with h|rfl
    ·exact .inr (ih2 j b hj hjb h fun h=>hjm ((hm _).2 h))
    ·rw[hB]at hjb;cases hjb;exact .inl rfl
  |l7 f _ H' _ _ _ _ e=>
   have hm:∀ j,Mg ops ms pos K (pos i+1) j↔Mg ops ms pos K (pos i) j\/hasB (ms.getD i 0) j=true:=fun j=>by rw[C.qH hsi,hK];simp
   rw[e];simp only[qzi];refine⟨fun p hp=>?_,fun j b hj hjb hjp hjm=>?_⟩
   ·obtain⟨a1,a2,a3,a4,a5⟩:=ih1 p hp.1;refine⟨a1,a2,a3,by omega,fun h=>?_⟩;rcases(hm _).1 h with h|h
    ·exact a5 h
    ·rw[hp.2]at h;cases h
   ·have hni:hasB (ms.getD i 0) j=false:=lAE.2 fun h=>hjm ((hm j).2 (.inr h));rcases(C.lt_succ hsi hj).1 hjp with h|rfl
    ·exact⟨ih2 j b hj hjb h fun h=>hjm ((hm _).2 (.inl h)),hni⟩
    ·rw[hB]at hjb;cases hjb
theorem Can.nW(C:Can P d n O base ops ms st pos V B K){q:Nat}:∀ q',q<=q'->q'<=ops.size->(∀e,e<ops.size->K e=true->q<=pos e->¬ pos e<q')->(st q').H=(st q).H
 |0,h,_,_=>by
  have:q=0:=by omega
  subst this;rfl
 |q'+1,h,hs,hk=>by
  by_cases e:q=q'+1
  ·subst e;rfl
  ·obtain⟨i,o,ho,hp,hst⟩:=C.at (q:=q') hs;have hKi:K i=false:=lAE.2 fun h'=>hk i (qes ho) h' (by omega) (by omega);rw[hKi]at hst;rw[hst.bFJ];exact C.nW q' (by omega) (by omega) fun e he h1 h2 h3=>hk e he h1 h2 (by omega)
structure HS(base:Nat)(ops:Array Oper)(ms:List Nat)(st:Nat->CS d)(pos:Nat->Nat)(B:Nat->Option bO)(K:Nat->Bool)(q:Nat)(X:Nat->Prop)(G:Hp):Prop where
 nx:G.nx=(st q).H.nx
 hit:∀ i b,i<ops.size->X i->B i=some b->¬ Mg ops ms pos K q i->G.get (base+i)=b
 miss:∀ c,iB (c)->(∀i,i<ops.size->X i->B i≠none->¬ Mg ops ms pos K q i->c≠base+i)->G.get c=(st q).H.get c
theorem Can.view(C:Can P d n O base ops ms st pos V B K)(h0:(st 0).pend=[])(hb:∀ i,i<ops.size->B i≠none->iB (base+i)){q:Nat}(hq:q<=ops.size)(c:Nat->Bool)(hc:∀ i,i<ops.size->c i=true->pos i<q):HS base ops ms st pos B K q (fun i=>c i=true) (qvr (fun p=>c p.i) (st q).pend (st q).H):=by
 obtain⟨h1,h2⟩:=C.pend h0 q hq;have hnm:∀ p∈(st q).pend,iB (p.nm):=fun p hp=>by obtain⟨a1,a2,a3,_⟩:=h1 p hp;rw[a2];exact hb _ a1 (by simp[a3])
 refine⟨qvq _ _ _,fun i b hi hx hB hm=>?_,fun x hx hn=>?_⟩
 ·have hp:=h2 i b hi hB (hc i hi hx) hm;have h3:=qoc (c:=fun p=>c p.i) (H:=(st q).H) (st q).pend hnm (fun p hp p' hp' e=>by
   obtain⟨a1,a2,a3,_⟩:=h1 p hp;obtain⟨b1,b2,b3,_⟩:=h1 p' hp';have:p.i=p'.i:=by omega
   rw[this,b3]at a3;exact(Option.some.inj a3).symm) ⟨i,base+i,b⟩ hp hx
  dsimp only at h3;exact h3
 ·refine qr9 hx _ hnm fun p hp hcp e=>?_;obtain⟨a1,a2,a3,a4,a5⟩:=h1 p hp;exact hn p.i a1 hcp (by simp[a3]) a5 (by omega)
theorem qzy:∀ k,(∀x y,pN k x y=true->x=y)/\(∀l m,qU k l m=true->l=m)
 |0=>⟨fun x y h=>by simp[pN]at h,fun l m h=>by simp[qU]at h⟩
 |k+1=>by
  obtain⟨ih1,ih2⟩:=qzy k;refine⟨fun x y h=>?_,fun l m h=>?_⟩
  ·unfold pN at h;split at h<;>first|rfl|(cases h;done)|skip
   ·simp_all
   ·simp_all
   ·simp_all
   ·simp_all
   ·simp_all
   ·simp_all
   ·simp_all
   ·simp only[pq]at h;rw[rf h.1.1,ih2 _ _ h.1.2,ih2 _ _ h.2]
   ·simp only[pq]at h;rw[rf h.1,ih1 _ _ h.2]
   ·rw[ih2 _ _ h]
   ·rw[ih2 _ _ h]
  ·unfold qU at h;split at h
   ·omega
   ·rfl
   ·rename_i e;cases e;simp only[pq]at h;rw[ih1 _ _ h.1,ih2 _ _ h.2]
   ·cases h
theorem q7g{pend:List Pd}{H:Hp}:∀{jA:List Wt},qi8 pend H jA=true->∀ x∈jA,x.f (eP x.A pend H)=.val x.v
 | [],_,x,hx=>by cases hx
 |y::l,h,x,hx=>by
  have h':(zjg (y.f (eP y.A pend H)) y.v&&qi8 pend H l)=true:=h;simp only[pq]at h';rcases qg.1 hx with rfl|hx
  ·have h1:=h'.1;unfold zjg at h1;split at h1
   ·rename_i u hu;rw[hu,(qzy 64).1 _ _ h1]
   ·cases h1
  ·exact q7g h'.2 x hx
theorem zio{A i nm:Nat}{b:bO}{pend:List Pd}{H:Hp}(h:hasB A i=false):eP A (⟨i,nm,b⟩::pend) H=eP A pend H:=by rw[qvs,qg2,kz (by simp[h]),qvs]
theorem Can.jA(C:Can P d n O base ops ms st pos V B K)(h0:(st 0).jA=[]):∀ q,q<=ops.size->∀ x∈(st q).jA, x.f (eP x.A (st q).pend (st q).H)=.val x.v/\∀ j,hasB x.A j=true->pos j<q
 |0,_,x,hx=>by rw[h0]at hx;cases hx
 |q+1,hq,x,hx=>by
  obtain⟨i,o,ho,hp,hs⟩:=C.at hq;have ih:=C.jA h0 q (by omega);subst hp;generalize hB:B i=b at hs;generalize V i=v at hs;generalize hK:K i=k at hs;cases hs with
  |skip _ e=>rw[e]at hx ⊢;obtain⟨a1,a2⟩:=ih x hx;exact⟨a1,fun j hj=>by have:=a2 j hj;omega⟩
  |val lk f v h1 h2 h3 e=>
   rw[e]at hx ⊢;cases lk with
   |false=>obtain⟨a1,a2⟩:=ih x hx;exact⟨a1,fun j hj=>by have:=a2 j hj;omega⟩
   |true=>
    simp only[qy,qg]at hx;rcases hx with rfl|hx
    ·exact⟨h3,fun j hj=>by have:=C.kE ho hj;omega⟩
    ·obtain⟨a1,a2⟩:=ih x hx;exact⟨a1,fun j hj=>by have:=a2 j hj;omega⟩
  |new f v b' h1 h2 h3 h4 h5 e=>rw[e]at hx ⊢;obtain⟨a1,a2⟩:=ih x hx;refine⟨?_,fun j hj=>by have:=a2 j hj;omega⟩;rw[zio];exact a1;exact lAE.2 fun h=>xn _ (a2 i h)
  |l7 f v H' h1 h2 h3 h4 e=>rw[e]at hx ⊢;obtain⟨a1,a2⟩:=ih x (qo9.1 hx).1;exact⟨q7g h4 x hx,fun j hj=>by have:=a2 j hj;omega⟩
theorem Can.watch(C:Can P d n O base ops ms st pos V B K){k:Nat}{x:Wt}(hx:x.i=k)(hm:x∈(st (pos k+1)).jA):∀ q,pos k<q->q<=ops.size -> (∀e,e<ops.size->K e=true->pos k<pos e->pos e<q->hasB (ms.getD e 0) k=false)->x∈(st q).jA
 |0,h,_,_=>by omega
 |q+1,h,hq,hn=>by
  by_cases e:pos k=q
  ·simp_all
  ·have ih:=C.watch hx hm q (by omega) (by omega) fun e h1 h2 h3 h4=>hn e h1 h2 h3 (by omega);obtain⟨i,o,ho,hp,hs⟩:=C.at hq;subst hp;generalize hB:B i=b at hs;generalize V i=v at hs;generalize hK:K i=kk at hs;cases hs with
   |skip _ e=>rw[e];exact ih
   |val lk f v h1 h2 h3 e=>
    rw[e];cases lk with
    |false=>exact ih
    |true=>exact qx _ ih
   |new f v b' h1 h2 h3 h4 h5 e=>rw[e];exact ih
   |l7 f v H' h1 h2 h3 h4 e'=>rw[e'];refine qo9.2 ⟨ih,?_⟩;rw[hx];exact hn i (qes ho) hK (by omega) (by omega)
/- parts of heaps -/
theorem HR.sub{ι:Im}{G Hv:Hp}{w:World}(h:HR ι G w)(hx:Hv.nx=G.nx)(hg:∀ c,iB (c)->Hv.get c=G.get c\/Hv.get c=.dead):HR ι Hv w:=by
 have live:∀ c,iB (c)->(Hv.get c).dF=false->Hv.get c=G.get c:=fun c hc hl=>by
  rcases hg c hc with e|e
  ·exact e
  ·rw[e]at hl;cases hl
 refine⟨by rw[hx];exact h.top,fun b hb=>?_,fun b l hb h1 h2=>?_,fun b c l m hb hc h1 h2 h3 h4 h5=>?_,fun b hb=>h.fresh b (by rw[<-hx];exact hb),fun b hb hb'=>?_⟩
 ·rcases hg b hb with e|e
  ·rw[e];exact h.blk b hb
  ·rw[e];trivial
 ·exact h.low b l hb (by rw[<-live b hb h1];exact h1) h2
 ·have e1:=live b hb (bO.bE h1);have e2:=live c hc h2;exact h.inj b c l m hb hc (by rw[<-e1];exact h1) (by rw[<-e2];exact h2) h3 h4 h5
 ·rcases hg b hb' with e|e
  ·rw[e];exact h.free b (by rw[<-hx];exact hb) hb'
  ·exact e
theorem HR.drawn{ι:Im}{H:Hp}{w:World}(h:HR ι H w)(k:Nat):HR ι H {w with drawn:=k}:=
 ⟨h.top,fun b hb=>(h.blk b hb).keep fun _ _ _=>rfl,h.low,h.inj,h.fresh,h.free⟩
theorem mkG(H:Hp)(base:Nat)(f:Nat->Option bO):∀ N,(∀i,i<N->f i≠none->iB (base+i))->∃ G:Hp,G.nx=H.nx/\(∀i b,i<N->f i=some b->G.get (base+i)=b)/\∀ c,iB (c)->(∀i,i<N->f i≠none->c≠base+i)->G.get c=H.get c
 |0,_=>⟨H,rfl,fun i b h=>by omega,fun c _ _=>rfl⟩
 |N+1,h=>by
  obtain⟨G,g1,g2,g3⟩:=mkG H base f N fun i hi=>h i (by omega);cases hf:f N with
  |none=>
   refine⟨G,g1,fun i b hi hb=>?_,fun c hc hn=>g3 c hc fun i hi=>hn i (by omega)⟩;by_cases e:i=N
   ·simp_all
   ·exact g2 i b (by omega) hb
  |some b=>
   have hN:=h N (by omega) (by simp[hf]);refine⟨G.put (base+N) b,g1,fun i b' hi hb=>?_,fun c hc hn=>?_⟩
   ·rw[Hp.get_put _ _ _ _ hN (h i hi (by simp[hb]))];by_cases e:i=N
    ·simp_all
    ·rw[kz (by omega)];exact g2 i b' (by omega) hb
   ·rw[Hp.get_put _ _ _ _ hN hc,kz (hn N (by omega) (by simp[hf]))];exact g3 c hc fun i hi=>hn i (by omega)
theorem Fr.step{ι0 ι ι':Im}{H0 G G':Hp}{w0 w w':World}(f:Fr ι0 ι H0 G w0 w)(le:ι.le ι')(nx:G.nx<=G'.nx)(dom:∀ b,ι b=none->ι' b≠none->H0.nx<=b)(os:w'.os=w.os)(tape:w'.tape=w.tape)(output:w'.output=w.output)(size:w.heap.size<=w'.heap.size)(keep:∀ c,c<w.heap.size->(∀b l,iB (b)->(G.get b).wr=true->ι b=some l->l.blk≠c)->w'.heap[c]? =w.heap[c]?)(new:∀ b l,iB (b)->(G'.get b).wr=true->ι' b=some l->w.heap.size<=l.blk\/∃ b0 l0,iB (b0)/\(G.get b0).wr=true/\ι b0=some l0/\l0.blk=l.blk)(live:∀ b l,iB (b)->(G'.get b).dF=false->ι' b=some l->w.heap.size<=l.blk\/∃ b0 l0,iB (b0)/\(G.get b0).dF=false/\ι b0=some l0/\l0.blk=l.blk):Fr ι0 ι' H0 G' w0 w':=by
 refine⟨Im.le_trans f.le le,tq f.nx nx,fun b h k=>?_,os.trans f.os,tape.trans f.tape,output.trans f.output,tq f.size size,fun c hc hk=>?_,fun b l hb h1 h2=>?_,fun b l hb h1 h2=>?_⟩
 ·cases h':ι b with
  |none=>exact dom b h' k
  |some l=>exact f.dom b h (by simp[h'])
 ·rw[keep c (lL hc f.size) ?_,f.keep c hc hk];intro b l hb h1 h2 he;rcases f.new b l hb h1 h2 with h3|⟨b0,l0,h3,h4,h5,h6⟩
  ·omega
  ·exact hk b0 l0 h3 h4 h5 (h6.trans he)
 ·rcases new b l hb h1 h2 with h3|⟨b0,l0,h3,h4,h5,h6⟩
  ·exact .inl (tq f.size h3)
  ·rcases f.new b0 l0 h3 h4 h5 with h7|⟨b1,l1,h7,h8,h9,h10⟩
   ·omega
   ·exact .inr ⟨b1,l1,h7,h8,h9,h10.trans h6⟩
 ·rcases live b l hb h1 h2 with h3|⟨b0,l0,h3,h4,h5,h6⟩
  ·exact .inl (tq f.size h3)
  ·rcases f.live b0 l0 h3 h4 h5 with h7|⟨b1,l1,h7,h8,h9,h10⟩
   ·omega
   ·exact .inr ⟨b1,l1,h7,h8,h9,h10.trans h6⟩
theorem Fr.congr{ι ι':Im}{H G G':Hp}{w w':World}(f:Fr ι ι' H G w w')(hx:G'.nx=G.nx)(hg:∀ c,iB (c)->G'.get c=G.get c):Fr ι ι' H G' w w':=
 ⟨f.le,by rw[hx];exact f.nx,f.dom,f.os,f.tape,f.output,f.size,f.keep,fun b l hb h1 h2=>f.new b l hb (by rw[<-hg b hb];exact h1) h2,fun b l hb h1 h2=>f.live b l hb (by rw[<-hg b hb];exact h1) h2⟩
theorem q4d{F:Fence}{m:Nat}{o:Oper}{a a':Act}{next K':Act->World->Prop}{Q:Exit->Act->World->Prop}(hv:∀ V w',next (a'.put o.dst V) w'->K' (a.put o.dst V) w')(hd:∀ a'' w',next a'' w'->a''.defers=a'.defers){r:Result Next}(h:o.uponIn F m P a' next (fun _ _ _=>False) r):o.uponIn F m P a K' Q r:=by
 cases r with
 |ok x w'=>
  cases x<;>simp only[Oper.uponIn]at h ⊢
  case value v=>exact hv _ _ h
  case skip=>exact hv _ _ h
  case defer dd=>have:=hd _ _ h;rw[put_defers]at this;simp_all
  case enter f args=>
   refine⟨h.1,CallsIn.mono h.2 fun e w'' he=>?_⟩;cases e with
   |returned v=>exact hv _ _ he
   |panicked c=>exact he.elim
   |outgrown=>exact(by obtain⟨_,_,hh⟩:=(he:LetsOut _);exact hh.elim)
  case row row args=>exact⟨h.1,RowsIn.mono h.2 fun v w'' he=>hv _ _ he⟩
  case round l f tmps assign body=>
   refine⟨h.1,RoundIn.mono h.2 fun e w'' he=>?_⟩;cases e with
   |returned v=>exact hv _ _ he
   |panicked c=>exact he.elim
   |outgrown=>exact(by obtain⟨_,_,hh⟩:=(he:LetsOut _);exact hh.elim)
 |halt x w'=>cases x<;>simp only[Oper.uponIn]at h ⊢
structure aDK(d n base up:Nat)(ops:Array Oper)(ms:List Nat)(st:Nat->CS d)(pos:Nat->Nat)(V:Nat->AV)(B:Nat->Option bO)(K:Nat->Bool)(ι0:Im)(H0:Hp)(w0:World)(ds:List Deferred)
  (S:Nat->Prop) (a:Act) (w:World) (ι:Im) (L:TT AV d) (G:Hp) (q:Nat):Prop where
 shut:Shut ops S
 le:q<=ops.size
 l7:∀ e,e<ops.size->K e=true->(S e↔pos e<q)
 lr:LR ι d n L a.tmps
 tv:∀ t,t<8 ^ d->(dJ d t).f L=tv ops n V (st 0).L S ops.size t
 hr:HR ι G w
 hs:HS base ops ms st pos B K q S G
 dead:∀ i,i<ops.size->B i≠none->¬ Mg ops ms pos K q i->(st q).H.get (base+i)=.dead
 free:∀ i,i<ops.size->B i≠none->¬ S i->ι (base+i)=none
 some:∀ i,i<ops.size->B i≠none->S i->∃ l,ι (base+i)=some l
 up:base+up<=G.nx
 fr:Fr ι0 ι H0 G w0 w
 ds:a.defers=ds
theorem z9k{ι ι':Im}{L PL:TT AV d}{a a':Act}(hle:ι.le ι')(h:LR ι d n L a.tmps){v:AV}{X:Value}{dst:Option Tmp}(h':LR ι' d n ((dW d n dst).f PL v) (a'.put dst X).tmps)(hz:a'.tmps.size=n):LR ι' d n ((dW d n dst).f L v) (a.put dst X).tmps:=by
 cases dst with
 |none=>exact h.mono hle
 |some t=>
  by_cases ht:t<n
  ·refine qic (h.mono hle) _ ?_;have h1:=h'.get t ht;rw[qjj h.fit (lL ht h.fit),pz ⟨rfl,ht⟩]at h1;simp only[Act.put]at h1;simp_all
  ·have hb:Nat.blt t n=false:=by
    cases hb:Nat.blt t n with
    |false=>rfl
    |true=>exact absurd (uL hb) ht
   rw[q8g hb];simp only[Act.put];rw[Array.setIfInBounds_eq_of_size_le (by rw[h.size];exact lAK ht)];exact h.mono hle
theorem z0j{L:TT AV d}{S:Nat->Prop}(C:Can P d n O base ops ms st pos V B K)(hn:n<=8 ^ d)(hS:Shut ops S)(hL:∀ t,t<8 ^ d->(dJ d t).f L=tv ops n V (st 0).L S ops.size t){i:Nat}{o:Oper}(ho:ops[i]? =some o)(hni:¬ S i){v:AV}(hv:V i=v):∀t,t<8 ^ d->(dJ d t).f ((dW d n o.dst).f L v)=tv ops n V (st 0).L (fun j=>S j\/j=i) ops.size t:=fun t ht=>by rw[qjj hn ht,zwi C.edg hS ho hni t,hL t ht,hv]
theorem step_ok(hC:qeo P O){F:Fence}(hF:Fence.dP F){m up:Nat}{ι0:Im}{H0:Hp}{w0:World}{ds:List Deferred}{Q:Exit->Act->World->Prop}(C:Can P d n O base ops ms st pos V B K)(h0:(st 0).pend=[])(h0w:(st 0).jA=[])(hb:∀ i,i<ops.size->B i≠none->base+i<base+up/\iB (base+i))(hH0:H0.nx=base){S:Nat->Prop}{a:Act}{w:World}{ι:Im}{L:TT AV d}{G:Hp}{q:Nat}(I:aDK d n base up ops ms st pos V B K ι0 H0 w0 ds S a w ι L G q){i:Nat}{o:Oper}(ho:ops[i]? =some o)(hni:¬ S i)(hr:∀ j∈vH o,S j){K':Act->World->Prop}(hK:∀ a' w' ι' L' G' q',aDK d n base up ops ms st pos V B K ι0 H0 w0 ds (fun j=>S j\/j=i) a' w' ι' L' G' q'->K' a' w'):wpOpIn F m P ops Q i K' a w:=by
 have hn:=I.lr.fit;have hsi:=qes ho;have hpj:=C.proj hn I.shut I.tv ho hni hr;have aBS:∀ k,hasB (ms.getD i 0) k=true->S k:=fun k=>C.edg.u7 I.shut i o k ho hr;have hlp:=I.lr.proj (kY ops o);have aCy:Shut ops (fun j=>S j\/j=i):=fun j oj hoj hj k hk=>by
  rcases hj with hj|rfl
  ·exact .inl (I.shut j oj hoj hj k hk)
  ·rw[ho]at hoj;cases hoj;exact .inl (hr k hk)
 have hbm:∀ i,i<ops.size->B i≠none->iB (base+i):=fun i hi h=>(hb i hi h).2;have hnm:¬ Mg ops ms pos K q i:=fun⟨e,e1,e2,e3,e4⟩=>by obtain⟨oe,hoe⟩:=qo3 e1;exact hni (C.edg.rM I.shut hoe ((I.l7 e e1 e3).2 e2) e4)
 -- a part of the heap
 have part:∀{Hv:Hp} {X:Nat->Prop},HS base ops ms st pos B K q X Hv->(∀j,j<ops.size->X j->S j)->Hv.nx=G.nx/\∀ c,iB (c)->Hv.get c=G.get c\/Hv.get c=.dead:=fun{Hv X} hv hX=>by
  refine⟨hv.nx.trans I.hs.nx.symm,fun c hc=>?_⟩;by_cases h1:∃ j,j<ops.size/\X j/\B j≠none/\¬ Mg ops ms pos K q j/\c=base+j
  ·obtain⟨j,j1,j2,j3,j4,rfl⟩:=h1;obtain⟨b,hbj⟩:=lAC.1 j3;left;rw[hv.hit j b j1 j2 hbj j4,I.hs.hit j b j1 (hX j j1 j2) hbj j4]
  ·have e1:=hv.miss c hc fun j j1 j2 j3 j4 e=>h1 ⟨j,j1,j2,j3,j4,e⟩;by_cases h2:∃ j,j<ops.size/\S j/\B j≠none/\¬ Mg ops ms pos K q j/\c=base+j
   ·obtain⟨j,j1,j2,j3,j4,rfl⟩:=h2;right;rw[e1];exact I.dead j j1 j3 j4
   ·left;rw[e1,I.hs.miss c hc fun j j1 j2 j3 j4 e=>h2 ⟨j,j1,j2,j3,j4,e⟩]
 have hstep:=C.step i o ho;have hext:K i=false->∀ e,e<ops.size->K e=true->((S e\/e=i)↔pos e<q):=fun hKi e e1 e2=>by
  constructor
  ·rintro (h|rfl)
   ·exact(I.l7 e e1 e2).1 h
   ·rw[hKi]at e2;cases e2
  ·exact fun h=>.inl ((I.l7 e e1 e2).2 h)
 have hhs:B i=none->HS base ops ms st pos B K q (fun j=>S j\/j=i) G:=fun hB=>by
  refine⟨I.hs.nx,fun j b j1 j2 j3 j4=>?_,fun c hc hx=>I.hs.miss c hc fun j j1 j2=>hx j j1 (.inl j2)⟩;rcases j2 with j2|rfl
  ·exact I.hs.hit j b j1 j2 j3 j4
  ·rw[hB]at j3;cases j3
 have hsm:B i=none->∀ j,j<ops.size->B j≠none->(S j\/j=i)->∃ l,ι (base+j)=some l:=fun hB j j1 j2 j3=>by
  rcases j3 with j3|rfl
  ·exact I.some j j1 j2 j3
  ·exact absurd hB j2
 -- nothing but a value
 have aE9:∀{v:AV} {X:Value},V i=v->aL ι v X->B i=none->K i=false->K' (a.put o.dst X) w:=fun{v X} hv hX hB hKi=>
  hK _ _ ι ((dW d n o.dst).f L v) G q
   {shut:=aCy,le:=I.le,
    l7:=hext hKi,
    lr:=qic I.lr _ hX,tv:=z0j C hn I.shut I.tv ho hni hv,hr:=I.hr,
    hs:=hhs hB,
    dead:=I.dead,free:=fun j j1 j2 j3=>I.free j j1 j2 fun h=>j3 (.inl h),
    some:=hsm hB,
    up:=I.up,fr:=I.fr,ds:=by rw[put_defers];exact I.ds}
 unfold wpOpIn;simp only[ho];have hwant:∀ b,(r9 d n ops o).f ((mW d n (kY ops o)).f (st (pos i)).L)=Option.some b->Region.wanted o (yielded ops a.tmps)=b:=fun b hw=>by rw[<-hpj]at hw;have:=qi9 (a:={a with tmps:=zZ (kY ops o) a.tmps}) (ops:=ops) (o:=o) hlp hw;rw[qxv]at this;exact this
 generalize hV:V i=v at hstep;generalize hB:B i=bo at hstep;generalize hKi:K i=ki at hstep;cases hstep with
 |skip hw _=>rw[hwant _ hw,kz (by simp)];exact⟨fun f _=>hF.fn f,aE9 hV (by simp only[aL];rfl) hB hKi⟩
 |val lk f v hf hw hval hst=>
  rw[hwant _ hw,pz rfl];have hnd:∀ c,o.op≠ .defer c:=fun c hc=>by unfold gZ at hf;rw[hc]at hf;cases hf
  have hsel:∀ cs b,o.op≠ .select cs b:=fun cs b hc=>by unfold gZ at hf;rw[hc]at hf;cases hf
  obtain⟨Hv,hHv,hfv⟩:∃ Hv,HR ι Hv w/\f (base+i) ((mW d n (kY ops o)).f L) Hv=.val v:=by
   cases lk with
   |false=>exact⟨G,I.hr,by rw[hpj,qsp hf _ _ _ (eP (ms.getD i 0) (st (pos i)).pend (st (pos i)).H)];exact hval⟩
   |true=>
    have hlk:aEe (gZ P d n o)=true:=by rw[hf];rfl
    by_cases hq:q<=pos i
    ·have hp:=C.plt i hsi;have hno:∀ e,e<ops.size->K e=true->q<=pos e->¬ pos e<pos i:=fun e e1 e2 e3 e4=>by
      obtain⟨oe,hoe⟩:=qo3 e1;have hie:isE (gZ P d n oe)=true:=by have hs:=C.step e oe hoe;rw[e2]at hs;generalize V e=v1 at hs;generalize B e=b1 at hs;cases hs;rename_i h _ _ _ _;rw[h];rfl
      have:=(I.l7 e e1 e2).1 (aBS e (C.l7 i o e oe ho hoe hie (.inr hlk) e4));omega
     have hH:=C.nW (q:=q) (pos i) hq (by omega) hno;have hM:∀ j,Mg ops ms pos K (pos i) j↔Mg ops ms pos K q j:=fun j=>
      ⟨fun⟨e,e1,e2,e3,e4⟩=>⟨e,e1,Classical.byContradiction fun h=>hno e e1 e3 (by omega) e2,e3,e4⟩,fun⟨e,e1,e2,e3,e4⟩=>⟨e,e1,by omega,e3,e4⟩⟩
     have hv:=C.view h0 hbm (q:=pos i) (by omega) (fun j=>hasB (ms.getD i 0) j) (fun j _ hj=>C.kE ho hj);have hv':HS base ops ms st pos B K q (fun j=>hasB (ms.getD i 0) j=true) (eP (ms.getD i 0) (st (pos i)).pend (st (pos i)).H):=
      ⟨hv.nx.trans (by rw[hH]),fun j b j1 j2 j3 j4=>hv.hit j b j1 j2 j3 fun h=>j4 ((hM j).1 h),
       fun c hc hx=>(hv.miss c hc fun j j1 j2 j3 j4=>hx j j1 j2 j3 fun h=>j4 ((hM j).2 h)).trans (by rw[hH])⟩
     obtain⟨p1,p2⟩:=part hv' fun j _ hj=>aBS j hj;exact⟨_,I.hr.sub p1 p2,by rw[hpj];exact hval⟩
    ·have hq:pos i<q:=by omega
     have hmem:(⟨i,ms.getD i 0,f (base+i) ((mW d n (kY ops o)).f (st (pos i)).L),v⟩:Wt)∈(st (pos i+1)).jA:=by rw[hst];simp
     have hw:=C.watch (k:=i) rfl hmem q hq I.le fun e e1 e2 e3 e4=>lAE.2 fun h=>by obtain⟨oe,hoe⟩:=qo3 e1;exact hni (C.edg.rM I.shut hoe ((I.l7 e e1 e2).2 e4) h)
     have hw':=(C.jA h0w q I.le _ hw).1;have hv:=C.view h0 hbm (q:=q) I.le (fun j=>hasB (ms.getD i 0) j) (fun j _ hj=>lE9 (C.kE ho hj) hq);obtain⟨p1,p2⟩:=part hv fun j _ hj=>aBS j hj;exact⟨_,I.hr.sub p1 p2,by rw[hpj];exact hw'⟩
  have hQ:=z1l (nm:=base+i) (a:={a with tmps:=zZ (kY ops o) a.tmps}) hf hHv hlp;rw[hfv]at hQ;obtain⟨X,h1,h2⟩:=hQ;rw[qpo a o hsel]at h1;refine⟨fun f _=>hF.fn f,?_⟩;rw[qcy hnd,h1];exact aE9 hV h2 hB hKi
 |new f v b hf hal hwr hw hval hst=>
  rw[hwant _ hw,pz rfl];have hnd:∀ c,o.op≠ .defer c:=fun c hc=>by unfold gZ at hf;rw[hc]at hf;cases hf
  have hsel:∀ cs b,o.op≠ .select cs b:=fun cs b hc=>by unfold gZ at hf;rw[hc]at hf;cases hf
  have hfv:f (base+i) ((mW d n (kY ops o)).f L) G=.new v b:=by rw[hpj,qsp hf _ _ _ (eP (ms.getD i 0) (st (pos i)).pend (st (pos i)).H)];exact hval
  have hQ:=z1l (nm:=base+i) (a:={a with tmps:=zZ (kY ops o) a.tmps}) hf I.hr hlp;rw[hfv]at hQ;obtain⟨X,w',l,h1,h2,h3⟩:=hQ;rw[qpo a o hsel]at h1;refine⟨fun f _=>hF.fn f,?_⟩;rw[qcy hnd,h1];have hBi:B i≠none:=by rw[hB];simp
  obtain⟨hb1,hb2⟩:=hb i hsi hBi;have hfree:=I.free i hsi hBi hni;have hup:=I.up;have aBG:G.get (base+i)=.dead:=by
   rw[I.hs.miss (base+i) hb2 fun j j1 j2 j3 j4 e=>hni (by
    have:i=j:=by omega
    rw[this];exact j2)]
   exact I.dead i hsi hBi hnm
  obtain⟨r1,r2⟩:=h3 (ι.set (base+i) l) (Im.iW l hfree) (Im.bC ..);have hsz:w.heap.size<=w'.heap.size:=by rw[h2.size];omega
  have hr':HR (ι.set (base+i) l) (G.put (base+i) b) w':=I.hr.add (nx':=G.nx) hb2 hfree aBG (lg _) I.hr.top (by omega) l b hsz (fun c mm hc h1 h2'=>h2.keep _ (I.hr.low c mm hc h1 h2')) (fun _=>by rw[h2.blk,h2.size];omega)
   (fun c mm hc h1 h2'=>by have:=I.hr.low c mm hc h1 h2';have:=h2.blk;omega) r2
  refine hK _ _ (ι.set (base+i) l) ((dW d n o.dst).f L v) (G.put (base+i) b) q
   {shut:=aCy,le:=I.le,
    l7:=hext hKi,
    lr:=qic (I.lr.mono (Im.iW l hfree)) _ r1,tv:=z0j C hn I.shut I.tv ho hni hV,hr:=hr',
    hs:=⟨I.hs.nx,fun j b' j1 j2 j3 j4=>?_,fun c hc hx=>?_⟩,
    dead:=I.dead,free:=fun j j1 j2 j3=>?_,
    some:=fun j j1 j2 j3=>?_,
    up:=I.up,fr:= ?_,ds:=by rw[put_defers];exact I.ds}
  ·rw[Hp.get_put _ _ _ _ hb2 (hbm j j1 (by simp[j3]))];by_cases e:j=i
   ·subst e;rw[pz rfl];rw[hB]at j3;exact Option.some.inj j3
   ·rw[kz (by omega)];rcases j2 with j2|j2
    ·exact I.hs.hit j b' j1 j2 j3 j4
    ·exact absurd j2 e
  ·have hne:c≠base+i:=hx i hsi (.inr rfl) hBi hnm;rw[Hp.get_put _ _ _ _ hb2 hc,kz hne];exact I.hs.miss c hc fun j j1 j2=>hx j j1 (.inl j2)
  ·have hne:j≠i:=fun e=>j3 (.inr e);rw[Im.dX _ _ (by omega)];exact I.free j j1 j2 fun h=>j3 (.inl h)
  ·by_cases e:j=i
   ·subst e;exact⟨l,Im.bC ..⟩
   ·rw[Im.dX _ _ (by omega)];rcases j3 with j3|j3
    ·exact I.some j j1 j2 j3
    ·exact absurd j3 e
  ·refine I.fr.step (Im.iW l hfree) (lg _) (fun c h1 h2'=>?_) h2.os h2.tape h2.output hsz (fun c hc _=>h2.keep c hc) (fun c mm hc h1' h2'=>?_) (fun c mm hc h1' h2'=>?_)
   ·by_cases e:c=base+i
    ·omega
    ·rw[Im.dX _ _ e]at h2';exact absurd h1 h2'
   ·by_cases e:c=base+i
    ·subst e;rw[Im.bC]at h2';cases h2';exact .inl (by rw[h2.blk];omega)
    ·rw[Hp.get_put _ _ _ _ hb2 hc,kz e]at h1';rw[Im.dX _ _ e]at h2';exact .inr ⟨c,mm,hc,h1',h2',rfl⟩
   ·by_cases e:c=base+i
    ·subst e;rw[Im.bC]at h2';cases h2';exact .inl (by rw[h2.blk];omega)
    ·rw[Hp.get_put _ _ _ _ hb2 hc,kz e]at h1';rw[Im.dX _ _ e]at h2';exact .inr ⟨c,mm,hc,h1',h2',rfl⟩
 |l7 f v H' hf hw hval hwt hst=>
  rw[hwant _ hw,pz rfl];have hie:isE (gZ P d n o)=true:=by rw[hf];rfl
  have hsel:∀ cs b,o.op≠ .select cs b:=fun cs b hc=>by unfold gZ at hf;rw[hc]at hf;cases hf;cases hval
  have hnd:∀ c,o.op≠ .defer c:=fun c hc=>by unfold gZ at hf;rw[hc]at hf;cases hf;cases hval
  have hp:=C.plt i hsi;have aER:∀{e oe},ops[e]? =Option.some oe->K e=true->isE (gZ P d n oe)=true:=fun{e oe} hoe e2=>by have hs:=C.step e oe hoe;rw[e2]at hs;generalize V e=v1 at hs;generalize B e=b1 at hs;cases hs;rename_i h _ _ _ _;rw[h];rfl
  -- the same effects
  have hsame:∀ e,e<ops.size->K e=true->(pos e<pos i↔pos e<q):=fun e e1 e2=>by
   obtain⟨oe,hoe⟩:=qo3 e1;constructor
   ·intro h;exact(I.l7 e e1 e2).1 (aBS e (C.l7 i o e oe ho hoe (aER hoe e2) (.inl hie) h))
   ·intro h;have hSe:=(I.l7 e e1 e2).2 h;rcases oz (pos e) (pos i)with h1|h1|h1
    ·exact h1
    ·have:=C.inj e i e1 hsi h1;subst this;exact absurd hSe hni
    ·exact absurd (C.edg.rM I.shut hoe hSe (C.l7 e oe i o hoe ho hie (.inl (aER hoe e2)) h1)) hni
  have hH:(st (pos i)).H=(st q).H:=by
   rcases Nat.le_total q (pos i)with h|h
   ·exact C.nW (pos i) h (by omega) fun e e1 e2 e3 e4=>by have:=(hsame e e1 e2).1 e4;omega
   ·exact(C.nW q h I.le fun e e1 e2 e3 e4=>by have:=(hsame e e1 e2).2 e4;omega).symm
  have hM:∀ j,Mg ops ms pos K (pos i) j↔Mg ops ms pos K q j:=fun j=>
   ⟨fun⟨e,e1,e2,e3,e4⟩=>⟨e,e1,(hsame e e1 e3).1 e2,e3,e4⟩,fun⟨e,e1,e2,e3,e4⟩=>⟨e,e1,(hsame e e1 e3).2 e2,e3,e4⟩⟩
  have hv:=C.view h0 hbm (q:=pos i) (by omega) (fun j=>hasB (ms.getD i 0) j) (fun j _ hj=>C.kE ho hj);generalize hHv:eP (ms.getD i 0) (st (pos i)).pend (st (pos i)).H=Hv at hval;rw[<-qvs,hHv]at hv;have hv':HS base ops ms st pos B K q (fun j=>hasB (ms.getD i 0) j=true) Hv:=
   ⟨hv.nx.trans (by rw[hH]),fun j b j1 j2 j3 j4=>hv.hit j b j1 j2 j3 fun h=>j4 ((hM j).1 h),
    fun c hc hx=>(hv.miss c hc fun j j1 j2 j3 j4=>hx j j1 j2 j3 fun h=>j4 ((hM j).2 h)).trans (by rw[hH])⟩
  obtain⟨p1,p2⟩:=part hv' fun j _ hj=>aBS j hj;have hHR:=I.hr.sub p1 p2
  -- what is not in the part is dead there
  have hout:∀ j,j<ops.size->B j≠none->¬ Mg ops ms pos K q j->hasB (ms.getD i 0) j=false->Hv.get (base+j)=.dead:=fun j j1 j2 j3 j4=>by
   rw[hv'.miss (base+j) (hbm j j1 j2) fun k k1 k2 k3 k4 e=>by
    have:j=k:=by omega
    subst this;rw[j4]at k2;cases k2]
   exact I.dead j j1 j2 j3
  have hlive:∀ c,iB (c)->(Hv.get c).dF=false->Hv.get c=G.get c:=fun c hc hl=>by
   rcases p2 c hc with e|e
   ·exact e
   ·rw[e]at hl;cases hl
  have hq':(st (pos i+1)).H=H':=by rw[hst]
  have hM':∀ j,Mg ops ms pos K (pos i+1) j↔Mg ops ms pos K q j\/hasB (ms.getD i 0) j=true:=fun j=>by rw[C.qH hsi,hM,hKi];simp
  rw[<-hpj]at hval
  let next:Act->World->Prop:=fun a'' w'=>∃ ι',LR ι' d n ((dW d n o.dst).f ((mW d n (kY ops o)).f L) v) a''.tmps/\HR ι' H' w'/\Fr ι ι' Hv H' w w'/\a''.defers=a.defers
  have hwp:=z6h (m:=m) (F:=F) (Q:=fun _ _ _=>False) (next:=next) (a:={a with tmps:=zZ (kY ops o) a.tmps}) hf hC hF hHR hlp hval
   (fun X w' ι' r1 r2 r3=>⟨ι',qic (hlp.mono r3.le) _ r1,r2,r3,by rw[put_defers]⟩)
  refine⟨fun f _=>hF.fn f,?_⟩;have aLi:=hwp.2;rw[qcy hnd,qpo a o hsel]at aLi;rw[qcy hnd];refine q4d (fun X w' hx=>?_) (fun a'' w' hx=>hx.choose_spec.2.2.2) aLi;obtain⟨ι',x1,x2,x3,_⟩:=hx;have hlr:=z9k (a:=a) x3.le I.lr x1 (by simp only[qha];exact I.lr.size);have hup:=I.up
  -- the heap behind
  let pb:Nat->Prop:=fun j=>S j/\¬ Mg ops ms pos K q j/\hasB (ms.getD i 0) j=false
  obtain⟨G',g1,g2,g3⟩:=mkG H' base (fun j=>open Classical in if pb j then B j else none) ops.size (fun j j1 j2=>hbm j j1 (by intro e;simp only[e]at j2;split at j2<;>exact j2 rfl));have gin:∀ j b,j<ops.size->pb j->B j=Option.some b->G'.get (base+j)=b:=fun j b j1 j2 j3=>g2 j b j1 (by rw[pz j2];exact j3);have aHu:∀ c,iB (c)->(∀j,j<ops.size->pb j->B j≠none->c≠base+j)->G'.get c=H'.get c:=fun c hc hx=>g3 c hc fun j j1 j2=>by
   by_cases e:pb j
   ·rw[pz e]at j2;exact hx j j1 e j2
   ·rw[kz e]at j2;exact absurd rfl j2
  -- facts on the blocks that are kept
  have kept:∀ j,j<ops.size->pb j->B j≠none->∃ b l,B j=Option.some b/\b.wr=true/\G.get (base+j)=b/\G'.get (base+j)=b/\ι (base+j)=Option.some l/\ι' (base+j)=Option.some l/\l.blk<w.heap.size/\Hv.get (base+j)=.dead:=fun j j1 j2 j3=>by
   obtain⟨b,hbj⟩:=lAC.1 j3;obtain⟨l,hl⟩:=I.some j j1 j3 j2.1;have hGj:=I.hs.hit j b j1 j2.1 hbj j2.2.1;have aNz:b.wr=true:=by obtain⟨oj,hoj⟩:=qo3 j1;have hs:=C.step j oj hoj;rw[hbj]at hs;generalize V j=v1 at hs;generalize K j=k1 at hs;cases hs;assumption
   exact⟨b,l,hbj,aNz,hGj,gin j b j1 j2 hbj,hl,x3.le _ _ hl,I.hr.low _ l (hbm j j1 j3) (by rw[hGj];exact bO.bE aNz) hl,hout j j1 j3 j2.2.1 j2.2.2⟩
  have split:∀ c,iB (c)->(∃j,j<ops.size/\pb j/\B j≠none/\c=base+j)\/G'.get c=H'.get c:=fun c hc=>by
   by_cases e:∃ j,j<ops.size/\pb j/\B j≠none/\c=base+j
   ·exact .inl e
   ·exact .inr (aHu c hc fun j j1 j2 j3 h=>e ⟨j,j1,j2,j3,h⟩)
  -- a live block of H' does not lie on a kept one
  have yO:∀ j,j<ops.size->pb j->B j≠none->∀ c l l',iB (c)->(H'.get c).dF=false->ι (base+j)=Option.some l->ι' c=Option.some l'->l.blk≠l'.blk:=fun j j1 j2 j3 c l l' hc hl h1 h2 e=>by
   obtain⟨b,l1,k1,k2,k3,k4,k5,k6,k7,k8⟩:=kept j j1 j2 j3;rw[k5]at h1;cases h1;rcases x3.live c l' hc hl h2 with h5|⟨b0,l0,c1,c2,c3,c4⟩
   ·omega
   ·have hb0:=hlive b0 c1 c2;have:=I.hr.inj (base+j) b0 l l0 (hbm j j1 j3) c1 (by rw[k3];exact k2) (by rw[<-hb0];exact c2) k5 c3 (e.trans c4.symm);subst this;rw[k8]at c2;cases c2
  have aHa:∀ j,j<ops.size->B j≠none->¬ Mg ops ms pos K (pos i+1) j->H'.get (base+j)=.dead:=fun j j1 j2 j3=>by
   have bDL:¬ Mg ops ms pos K q j:=fun h=>j3 ((hM' j).2 (.inl h));have hna:hasB (ms.getD i 0) j=false:=lAE.2 fun h=>j3 ((hM' j).2 (.inr h));refine Classical.byContradiction fun hnd=>?_;have hlv:(H'.get (base+j)).dF=false:=by cases hh:H'.get (base+j)<;>first|rfl|exact absurd hh hnd
   obtain⟨l',hl'⟩:=(x2.blk _ (hbm j j1 j2)).some hlv;by_cases hSj:S j
   ·obtain⟨l,hl⟩:=I.some j j1 j2 hSj;have e:=x3.le _ _ hl;rw[hl']at e;exact yO j j1 ⟨hSj,bDL,hna⟩ j2 (base+j) l l' (hbm j j1 j2) hlv hl hl' (by cases e;rfl)
   ·have h1:=I.free j j1 j2 hSj;have h2:=x3.dom (base+j) h1 (by rw[hl'];simp);have h3:=(hb j j1 j2).1;omega
  have aWc:HR ι' G' w':=by
   refine⟨by rw[g1];exact x2.top,fun c hc=>?_,fun c l hc h1 h2=>?_,fun c c' l l' hc hc' h1 h2 h3 h4 h5=>?_,fun c hc=>x2.fresh c (by rw[<-g1];exact hc),fun c hc hc'=>?_⟩
   ·rcases split c hc with⟨j,j1,j2,j3,rfl⟩|e
    ·obtain⟨b,l,k1,k2,k3,k4,k5,k6,k7,k8⟩:=kept j j1 j2 j3;rw[k4];have hBR:=I.hr.blk _ hc;rw[k3]at hBR;refine(hBR.keep fun l2 _ hl2=>?_).mono x3.le;rw[k5]at hl2;cases hl2;refine x3.keep l.blk k7 fun b0 l0 c1 c2 c3 e=>?_;have hb0:=hlive b0 c1 (bO.bE c2);have:=I.hr.inj b0 (base+j) l0 l c1 hc (by rw[<-hb0];exact c2) (by rw[k3];exact bO.bE k2) c3 k5 e;subst this;rw[k8]at c2;cases c2
    ·rw[e];exact x2.blk c hc
   ·rcases split c hc with⟨j,j1,j2,j3,rfl⟩|e
    ·obtain⟨b,l1,k1,k2,k3,k4,k5,k6,k7,k8⟩:=kept j j1 j2 j3;rw[k6]at h2;cases h2;exact lL k7 x3.size
    ·rw[e]at h1;exact x2.low c l hc h1 h2
   ·rcases split c hc with⟨j,j1,j2,j3,rfl⟩|e
    ·obtain⟨b,l1,k1,k2,k3,k4,k5,k6,k7,k8⟩:=kept j j1 j2 j3;rw[k6]at h3;cases h3;rcases split c' hc' with⟨j',t1,t2,t3,rfl⟩|e'
     ·obtain⟨b',l2,m1,m2,m3,m4,m5,m6,m7,m8⟩:=kept j' t1 t2 t3;rw[m6]at h4;cases h4;exact I.hr.inj _ _ l l' hc hc' (by rw[k3];exact k2) (by rw[m3];exact bO.bE m2) k5 m5 h5
     ·rw[e']at h2;exact absurd h5 (yO j j1 j2 j3 c' l l' hc' h2 k5 h4)
    ·rw[e]at h1;rcases split c' hc' with⟨j',t1,t2,t3,rfl⟩|e'
     ·obtain⟨b',l2,m1,m2,m3,m4,m5,m6,m7,m8⟩:=kept j' t1 t2 t3;rw[m6]at h4;cases h4;exact absurd h5.symm (yO j' t1 t2 t3 c l' l hc (bO.bE h1) m5 h3)
     ·rw[e']at h2;exact x2.inj c c' l l' hc hc' h1 h2 h3 h4 h5
   ·rw[g1]at hc;have hnx:=x3.nx;rw[aHu c hc' fun j j1 j2 j3 e=>by have:=(hb j j1 j3).1;omega];exact x2.free c hc hc'
  refine hK _ _ ι' ((dW d n o.dst).f L v) G' (pos i+1)
   {shut:=aCy,le:=hp,
    l7:=fun e e1 e2=>?_,
    lr:=hlr,tv:=z0j C hn I.shut I.tv ho hni hV,hr:=aWc,
    hs:=⟨by rw[g1,hq'],fun j b j1 j2 j3 j4=>?_,fun c hc hx=>?_⟩,
    dead:=fun j j1 j2 j3=>by rw[hq'];exact aHa j j1 j2 j3,
    free:=fun j j1 j2 j3=>?_,
    some:=fun j j1 j2 j3=>?_,
    up:=by rw[g1];have:=x3.nx;omega,fr:= ?_,ds:=by rw[put_defers];exact I.ds}
  ·rw[C.lt_succ hsi e1];constructor
   ·rintro (h|h)
    ·exact .inl ((hsame e e1 e2).2 ((I.l7 e e1 e2).1 h))
    ·exact .inr h
   ·rintro (h|h)
    ·exact .inl ((I.l7 e e1 e2).2 ((hsame e e1 e2).1 h))
    ·exact .inr h
  ·rcases j2 with j2|rfl
   ·exact gin j b j1 ⟨j2,fun h=>j4 ((hM' j).2 (.inl h)),lAE.2 fun h=>j4 ((hM' j).2 (.inr h))⟩ j3
   ·rw[hB]at j3;cases j3
  ·rw[hq'];exact aHu c hc fun j j1 j2 j3=>hx j j1 (.inl j2.1) j3 fun h=>by
    rcases(hM' j).1 h with h|h
    ·exact j2.2.1 h
    ·rw[j2.2.2]at h;cases h
  ·have h1:=I.free j j1 j2 fun h=>j3 (.inl h);refine Classical.byContradiction fun h2=>?_;have h3:=x3.dom (base+j) h1 h2;have h4:=(hb j j1 j2).1;omega
  ·rcases j3 with j3|rfl
   ·obtain⟨l,hl⟩:=I.some j j1 j2 j3;exact⟨l,x3.le _ _ hl⟩
   ·exact absurd hB j2
  ·have hnx:=x3.nx;refine I.fr.step x3.le (by rw[g1,<-p1];exact hnx) (fun c h1 h2=>?_) x3.os x3.tape x3.output x3.size (fun c hc hx=>x3.keep c hc fun b l b1 b2 b3=>hx b l b1 (by rw[<-hlive b b1 (bO.bE b2)];exact b2) b3) (fun c l hc h1 h2=>?_) (fun c l hc h1 h2=>?_)
   ·have:=x3.dom c h1 h2;omega
   ·rcases split c hc with⟨j,j1,j2,j3,rfl⟩|e
    ·obtain⟨b,l1,k1,k2,k3,k4,k5,k6,k7,k8⟩:=kept j j1 j2 j3;rw[k6]at h2;cases h2;exact .inr ⟨base+j,l,hc,by rw[k3];exact k2,k5,rfl⟩
    ·rw[e]at h1;rcases x3.new c l hc h1 h2 with h3|⟨b0,l0,c1,c2,c3,c4⟩
     ·exact .inl h3
     ·exact .inr ⟨b0,l0,c1,by rw[<-hlive b0 c1 (bO.bE c2)];exact c2,c3,c4⟩
   ·rcases split c hc with⟨j,j1,j2,j3,rfl⟩|e
    ·obtain⟨b,l1,k1,k2,k3,k4,k5,k6,k7,k8⟩:=kept j j1 j2 j3;rw[k6]at h2;cases h2;exact .inr ⟨base+j,l,hc,by rw[k3];exact bO.bE k2,k5,rfl⟩
    ·rw[e]at h1;rcases x3.live c l hc h1 h2 with h3|⟨b0,l0,c1,c2,c3,c4⟩
     ·exact .inl h3
     ·exact .inr ⟨b0,l0,c1,by rw[<-hlive b0 c1 c2];exact c2,c3,c4⟩
def open_(listed:Array Bool)(N:Nat):Nat:=(List.range N).countP fun j=> !listed.getD j false
theorem qfa(listed:Array Bool)(N:Nat):open_ listed (N+1)=open_ listed N+if listed.getD N false=true then 0 else 1:=by unfold open_;rw[lA9,List.countP_append];congr 1;cases h:listed.getD N false<;>simp only[List.countP_cons,List.countP_nil,h]<;>rfl
theorem qwz(listed:Array Bool)(i j:Nat)(hi:i<listed.size):(listed.setIfInBounds i true).getD j false=(listed.getD j false||decide (j=i)):=by
 by_cases e:i=j
 ·simp_all
 ·have:j≠i:=fun h=>e h.symm;simp[e,this]
theorem q8m(listed:Array Bool)(i:Nat)(hi:i<listed.size)(hf:listed.getD i false=false):∀ N,i<N->open_ (listed.setIfInBounds i true) N+1=open_ listed N
 |0,h=>by omega
 |N+1,h=>by
  rw[qfa,qfa,qwz _ _ _ hi];by_cases e:i=N
  ·subst e;have:∀ M,M<=i->open_ (listed.setIfInBounds i true) M=open_ listed M:=fun M=>by
    induction M with
    |zero=>intro _;rfl
    |succ M ih=>
     intro hM;rw[qfa,qfa,qwz _ _ _ hi,ih (by omega)];have:M≠i:=by omega
     simp[this]
   simp_all
  ·have ih:=q8m listed i hi hf N (by omega);have:N≠i:=fun h=>e h.symm;simp only[this,decide_false,Bool.or_false];omega
theorem qy9(listed:Array Bool):∀ N,open_ listed N=0->∀ j,j<N->listed.getD j false=true
 |0,_,j,hj=>by omega
 |N+1,h,j,hj=>by
  rw[qfa]at h;by_cases e:j=N
  ·simp_all
  ·exact qy9 listed N (by omega) j (by omega)
theorem qzh{o:Oper}{j:Nat}:j∈vH o↔∃ e∈o.after,Region.binds .any e=true/\e.on=j:=by
 unfold vH;simp only[qp,uy,Array.mem_toList_iff];constructor
 ·rintro ⟨e,⟨h1,h2⟩,h3⟩;exact⟨e,h1,h2,h3⟩
 ·rintro ⟨e,h1,h2,h3⟩;exact⟨e,⟨h1,h2⟩,h3⟩
theorem any_ok(hC:qeo P O){F:Fence}(hF:Fence.dP F){m up:Nat}{ι0:Im}{H0:Hp}{w0:World}{ds:List Deferred}{Q:Exit->Act->World->Prop}(C:Can P d n O base ops ms st pos V B K)(h0:(st 0).pend=[])(h0w:(st 0).jA=[])(hb:∀ i,i<ops.size->B i≠none->base+i<base+up/\iB (base+i))(hH0:H0.nx=base)(hQ:∀ S a w ι L G q,(∀j,j<ops.size->S j)->aDK d n base up ops ms st pos V B K ι0 H0 w0 ds S a w ι L G q->Q .normal a w):∀(fuel:Nat) (listed:Array Bool) (a:Act) (w:World) (ι:Im) (L:TT AV d) (G:Hp) (q:Nat),listed.size=ops.size->open_ listed ops.size=fuel -> aDK d n base up ops ms st pos V B K ι0 H0 w0 ds (fun j=>listed.getD j false=true) a w ι L G q->wpAnyIn F m P .any ops Q fuel listed a w:=by
 have aJ4:∀ listed:Array Bool,listed.size=ops.size->Region.ready .any ops listed=[]->∀ j,j<ops.size->listed.getD j false=true:=fun listed hl hr j=>by
  induction j using Nat.strongRecOn with
  |ind j ih=>
   intro hj;refine Classical.byContradiction fun hn=>?_;obtain⟨o,ho⟩:=qo3 hj;have:j∈Region.ready .any ops listed:=mem_ready.2 ⟨by
     rw[yz,zt (by omega)]at hn ⊢;simpa using hn,o,ho,fun e he hbd=>by
    have hlt:=C.edg.back j o ho e.on (qzh.2 ⟨e,he,hbd,rfl⟩);exact ih e.on hlt (by omega)⟩
   simp_all
 intro fuel
 induction fuel with
 |zero=>
  intro listed a w ι L G q hl ho I;have hall:=qy9 listed _ ho;refine⟨?_,hQ _ a w ι L G q hall I⟩;cases hr:Region.ready .any ops listed with
  |nil=>rfl
  |cons x xs=>
   have:x∈Region.ready .any ops listed:=by rw[hr];simp
   obtain⟨h1,o,h2,_⟩:=mem_ready.1 this;have:=hall x (qes h2);rw[yz,zt (by rw[hl];exact qes h2)]at this h1;simp_all
 |succ fuel ih=>
  intro listed a w ι L G q hl hopen I;refine⟨fun hr=>hQ _ a w ι L G q (aJ4 listed hl hr) I,fun i hi=>?_⟩;obtain⟨h1,o,ho,h2⟩:=mem_ready.1 hi;have hsi:=qes ho;have hli:i<listed.size:=by omega
  have hfi:listed.getD i false=false:=by simp_all
  refine step_ok hC hF C h0 h0w hb hH0 I ho (by rw[hfi];simp) (fun j hj=>?_) fun a' w' ι' L' G' q' I'=>?_
  ·obtain⟨e,e1,e2,rfl⟩:=qzh.1 hj;simp_all
  ·refine ih _ a' w' ι' L' G' q' (by simpa using hl) ?_ ?_
   ·have:=q8m listed i hli hfi ops.size hsi;omega
   ·have hS:(fun j=>(listed.setIfInBounds i true).getD j false=true)=(fun j=>listed.getD j false=true\/j=i):=by
     funext j;rw[qwz _ _ _ hli];simp
    simp_all
theorem ztu(hC:qeo P O){F:Fence}(hF:Fence.dP F)(hm:P.follows .mixedOrders=true){m id:Nat}{Q:Exit->Act->World->Prop}{ι:Im}{H:Hp}{w:World}{a:Act}{L:TT AV d}(hH:HR ι H w)(h:LR ι d n L a.tmps){L':TT AV d}{H':Hp}(he:(qls P d n ops).f O L H=.ok L' H')(hK:Then ι H w a d n L' H' (Q .normal)):(Code.region id ops true).wpIn F m P Q a w:=by
 unfold qls at he;split at he
 ·cases he
 ·rename_i pl hp;simp only at he
  ·
   split at he
   ·cases he
   ·rename_i L1 H1 pend jA hx;cases he;obtain⟨st,pos,V,B,K,C,s0,sN,hu⟩:=Can.of (s:=⟨L,⟨H.t,H.nx+pl.up⟩,[],[]⟩) hp hx;have htop:iB (H.nx+pl.up):=pF;have hb:∀ i,i<ops.size->B i≠none->H.nx+i<H.nx+pl.up/\iB (H.nx+i):=fun i hi hB=>by
     obtain⟨o,ho⟩:=qo3 hi;have hs:=C.step i o ho;obtain⟨b,hb⟩:=lAC.1 hB;rw[hb]at hs;generalize V i=v1 at hs;generalize K i=k1 at hs;have hal:qhy o.op=true:=by cases hs;assumption
     have hany:ops.toList.any (fun o=>qhy o.op)=true:=ag.2 ⟨o,uq (i:=i) (by simpa using ho),hal⟩;rw[hany]at hu;simp only[qy]at hu;exact⟨by omega,pF⟩
    have hd:=hH.drawn (w.drawn+1);have hH0:HR ι ⟨H.t,H.nx+pl.up⟩ {w with drawn:=w.drawn+1}:=
     ⟨htop,hd.blk,hd.low,hd.inj,fun b hb'=>hH.fresh b (by simp only at hb';omega),fun b hb' aUz=>hH.free b (by simp only at hb';omega) aUz⟩
    have hF0:Fr ι ι H ⟨H.t,H.nx+pl.up⟩ w {w with drawn:=w.drawn+1}:=
     ⟨Im.le_refl _,by simp,fun b h1 h2=>absurd h1 h2,rfl,rfl,rfl,lg _,fun _ _ _=>rfl,fun b l hb h1 h2=>.inr ⟨b,l,hb,h1,h2,rfl⟩,fun b l hb h1 h2=>.inr ⟨b,l,hb,h1,h2,rfl⟩⟩
    have aGQ:∀ i,i<ops.size->B i≠none->H.get (H.nx+i)=.dead:=fun i hi hB=>hH.free _ (by omega) (hb i hi hB).2;refine wpIn_region_any hm (any_ok (base:=H.nx) (up:=pl.up) (ι0:=ι) (H0:=H) (w0:=w) (ds:=a.defers) hC hF C (by rw[s0]) (by rw[s0]) hb rfl ?_ ops.size (Array.replicate ops.size false) a {w with drawn:=w.drawn+1} ι L ⟨H.t,H.nx+pl.up⟩ 0 (by simp) ?_ ?_)
    ·intro S a' w' ι' LL G q hall I;have hM:∀ j,Mg ops pl.ms pos K ops.size j↔Mg ops pl.ms pos K q j:=fun j=>
      ⟨fun⟨e,e1,e2,e3,e4⟩=>⟨e,e1,(I.l7 e e1 e3).1 (hall e e1),e3,e4⟩,fun⟨e,e1,e2,e3,e4⟩=>⟨e,e1,C.plt e e1,e3,e4⟩⟩
     have hHq:=C.nW (q:=q) ops.size I.le (lg _) fun e e1 e2 e3 e4=>by have:=(I.l7 e e1 e2).1 (hall e e1);omega
     have hv:=C.view (by rw[s0]) (fun i hi hB=>(hb i hi hB).2) (q:=ops.size) (lg _) (fun _=>true) (fun j hj _=>C.plt j hj);rw[<-z3o,sN]at hv;have hnx:(nQ pend H1).nx=G.nx:=by have h1:=hv.nx;have h2:=I.hs.nx;simp_all
     have hget:∀ c,iB (c)->(nQ pend H1).get c=G.get c:=fun c hc=>by
      by_cases e:∃ j,j<ops.size/\B j≠none/\¬ Mg ops pl.ms pos K q j/\c=H.nx+j
      ·obtain⟨j,j1,j2,j3,rfl⟩:=e;obtain⟨b,hbj⟩:=lAC.1 j2;rw[hv.hit j b j1 rfl hbj fun x=>j3 ((hM j).1 x),I.hs.hit j b j1 (hall j j1) hbj j3]
      ·rw[hv.miss c hc fun j j1 _ j3 j4 x=>e ⟨j,j1,j3,fun y=>j4 ((hM j).2 y),x⟩,I.hs.miss c hc fun j j1 _ j3 j4 x=>e ⟨j,j1,j3,j4,x⟩,hHq]
     refine hK a' w' ι' ⟨I.lr.size,I.lr.fits,fun t ht=>?_⟩ I.ds (I.hr.sub hnx fun c hc=>.inl (hget c hc)) (I.fr.congr hnx hget);have ht':=lL ht h.fit;have h1:=C.locals h.fit ops.size (lg _) t ht';rw[sN]at h1;rw[h1,qja (S':=S) _ fun j hj _=>⟨fun _=>hall j hj,fun _=>C.plt j hj⟩,<-I.tv t ht'];exact I.lr.get t ht
    ·have:∀ N,open_ (Array.replicate ops.size false) N=N:=fun N=>by
      induction N with
      |zero=>rfl
      |succ N ih=>
       rw[qfa,ih];have:(Array.replicate ops.size false).getD N false=false:=by rw[yz,Array.getElem?_replicate];split<;>rfl
       rw[this];rfl
     exact this _
    ·have hgf:∀ j,(Array.replicate ops.size false).getD j false=false:=fun j=>by
      rw[yz,Array.getElem?_replicate];split<;>rfl
     refine{shut:=fun i o ho hi=>?_,le:=gq _,l7:=fun e e1 e2=>?_,lr:=h,tv:=fun t ht=>?_,hr:=hH0,hs:=⟨by rw[s0],fun i b h1 h2=>?_,fun c hc _=>by rw[s0]⟩,dead:=fun i hi hB _=>?_,free:=fun i hi hB _=>hH.fresh _ (by omega),some:=fun i hi hB hS=>?_,up:=lg _,fr:=hF0,ds:=rfl}
     ·simp_all
     ·simp_all
     ·have h1:=C.locals h.fit 0 (gq _) t ht;simp_all
     ·simp_all
     ·rw[s0];exact aGQ i hi hB
     ·simp_all
theorem zit{L0:TT AV d}{S:Nat->Prop}:∀ m,tv ops n V L0 S m n=(dJ d n).f L0
 |0=>rfl
 |m+1=>by unfold tv;rw[kz (by omega)];exact zit m
theorem qs7(hn:n<8 ^ d){L:TT AV d}{H:Hp}{L':TT AV d}{H':Hp}(he:(qls P d n ops).f O L H=.ok L' H'):(dJ d n).f L'=(dJ d n).f L:=by
 unfold qls at he;split at he
 ·cases he
 ·rename_i pl hp;simp only at he
  ·
   split at he
   ·cases he
   ·rename_i L1 H1 pend jA hx;cases he;obtain⟨st,pos,V,B,K,C,s0,sN,hu⟩:=Can.of (s:=⟨L,⟨H.t,H.nx+pl.up⟩,[],[]⟩) hp hx;have h1:=C.locals (yw hn) ops.size (lg _) n hn;rw[sN]at h1;rw[h1,s0];exact zit _
end Go.Ev
end
noncomputable section
namespace Go.Ev
open Go.RowKit
variable {P:Program} {w:World} {ι:Im} {a:Act} {d n:Nat} {L:TT AV d} {H:Hp} {O:Call} {F:Fence} {m:Nat}
def MdL(lo:Nat)(ι:Im)(H:Hp)(w:World):List AV->List Deferred->List Nat->Prop
 |l,[],Ds=>l=[]/\Ds=[]
 |l,x::ds,Ds=>(∃D Ds',Ds=D::Ds'/\x={target:=.collected D,args:= #[]}/\D∉Ds'/\(lo<=D/\D<w.heap.size/\w.heap[D]? =some (.deferred (some []))/\∀ b l,iB (b)->(H.get b).dF=false->ι b=some l->l.blk≠D)/\MdL lo ι H w l ds Ds') \/
   (∃g all l' A C,l=.fn g all []::l'/\x={target:=.fn (.func g) C,args:=A}/\aI ι all (A.toList++C.toList)/\MdL lo ι H w l' ds Ds)
theorem MdL.fr{lo:Nat}{ι':Im}{H':Hp}{w':World}(f:Fr ι ι' H H' w w'):∀{ds:List Deferred} {l:List AV} {Ds:List Nat},MdL lo ι H w l ds Ds->MdL lo ι' H' w' l ds Ds
 | [],l,Ds,h=>h
 |x::ds,l,Ds,h=>by
  rcases h with⟨D,Ds',h1,h2,h3,⟨k0,k1,k2,k3⟩,h4⟩|⟨g,all,l',A,C,h1,h2,h3,h4⟩
  ·refine .inl ⟨D,Ds',h1,h2,h3,⟨k0,lL k1 f.size,?_,fun b l hb hl hi he=>?_⟩,h4.fr f⟩
   ·rw[f.keep D k1 fun b l hb hw hi=>k3 b l hb (bO.bE hw) hi];exact k2
   ·rcases f.live b l hb hl hi with h5|⟨b0,l0,c1,c2,c3,c4⟩
    ·omega
    ·exact k3 b0 l0 c1 c2 c3 (c4.trans he)
  ·exact .inr ⟨g,all,l',A,C,h1,h2,aI.mono f.le _ _ h3,h4.fr f⟩
theorem MdL.lt{lo:Nat}:∀{ds:List Deferred} {l:List AV} {Ds:List Nat},MdL lo ι H w l ds Ds->∀ D∈Ds,D<w.heap.size
 | [],l,Ds,h,D,hD=>by rw[h.2]at hD;cases hD
 |x::ds,l,Ds,h,D,hD=>by
  rcases h with⟨D',Ds',h1,h2,h3,⟨k0,k1,k2,k3⟩,h4⟩|⟨g,all,l',A,C,h1,h2,h3,h4⟩
  ·subst h1;rcases qg.1 hD with rfl|hD
   ·exact k1
   ·exact h4.lt D hD
  ·exact h4.lt D hD
structure Md(pl:Bool)(lo:Nat)(ι:Im)(H:Hp)(w:World)(l:List AV)(ds:List Deferred):Prop where
 plain:pl=true->ds=[]
 low:lo<=w.heap.size
 ex:∃ Ds,MdL lo ι H w l ds Ds
theorem Md.nil{pl:Bool}{lo:Nat}(h:lo<=w.heap.size):Md pl lo ι H w [] []:=⟨fun _=>rfl,h,[],rfl,rfl⟩
theorem Md.fr{pl:Bool}{lo:Nat}{ι':Im}{H':Hp}{w':World}{l:List AV}{ds:List Deferred}(h:Md pl lo ι H w l ds)(f:Fr ι ι' H H' w w'):Md pl lo ι' H' w' l ds:=by obtain⟨h0,h1,Ds,h2⟩:=h;exact⟨h0,tq h1 f.size,Ds,h2.fr f⟩
def z8a:Ex->Exit
 | .normal=>.normal
 | .exit id=>.exit id
 | .ret=>.ret
 | .goto l=>.goto l
def After(pl:Bool)(lo:Nat)(ι:Im)(H:Hp)(w:World)(d n:Nat)(L':TT AV d)(H':Hp)(Q:Act->World->Prop):Prop:=
 ∀a' w' ι',LR ι' d n L' a'.tmps->Md pl lo ι' H' w' (dl ((dJ d n).f L')) a'.defers->HR ι' H' w'->Fr ι ι' H H' w w'->Q a' w'
theorem qvz{r:Rc d}{k:TT AV d->Hp->Rc d}{ex:Ex}{L':TT AV d}{H':Hp}(h:rA r k=.ok ex L' H'):(∃L1 H1,r=.ok .normal L1 H1/\k L1 H1=.ok ex L' H')\/(ex≠ .normal/\r=.ok ex L' H'):=by
 unfold rA at h;split at h
 ·exact .inl ⟨_,_,rfl,h⟩
 ·simp_all
theorem q0c{r:Rc d}{id:Nat}{ex:Ex}{L':TT AV d}{H':Hp}(h:qtb id r=.ok ex L' H'):(ex=.normal/\r=.ok (.exit id) L' H')\/((∀i,ex=.exit i->i≠id)/\r=.ok ex L' H'):=by
 unfold qtb at h;split at h
 ·rename_i id' L1 H1;cases hb:Nat.beq id' id with
  |true=>rw[hb]at h;simp only[qy]at h;cases h;have:=vB hb;subst this;exact .inl ⟨rfl,rfl⟩
  |false=>rw[hb]at h;simp only[zh]at h;cases h;refine .inr ⟨fun i e=>?_,rfl⟩;cases e;intro e;subst e;simp_all
 ·simp_all
theorem After.normal{pl:Bool}{lo:Nat}{ι':Im}{H1:Hp}{w':World}{L':TT AV d}{H':Hp}{Q:Act->World->Prop}(f:Fr ι ι' H H1 w w')(h:After pl lo ι H w d n L' H' Q):After pl lo ι' H1 w' d n L' H' Q:=
 fun a'' w'' aAI r1 r2 r3 r4=>h a'' w'' aAI r1 r2 r3 (f.trans r4)
def qen(P:Program)(O:Call)(d n m:Nat)(c:Code):Prop:=
 ∀{F:Fence},Fence.dP F->(F.round=none\/kQ c=true)->∀{pl:Bool} {lo:Nat} {ι:Im} {w:World} {a:Act} {L:TT AV d} {H:Hp},HR ι H w->LR ι d n L a.tmps->(pl=true->kQ c=true)->Md pl lo ι H w (dl ((dJ d n).f L)) a.defers ->
  ∀{ex:Ex} {L':TT AV d} {H':Hp},(den P d n c).f O L H=.ok ex L' H'->∀{Q:Exit->Act->World->Prop},After pl lo ι H w d n L' H' (Q (z8a ex))->c.wpIn F m P Q a w
theorem zt1{x y:Code}(hx:qen P O d n m x)(hy:qen P O d n m y):qen P O d n m (.seq x y):=by
 intro F hF hr pl lo ι w a L H hH h hpl hM ex L' H' he Q hQ;have hrx:F.round=none\/kQ x=true:=hr.imp id fun h=>by simp only[kQ,pq]at h;exact h.1
 have hry:F.round=none\/kQ y=true:=hr.imp id fun h=>by simp only[kQ,pq]at h;exact h.2
 have hpx:pl=true->kQ x=true:=fun e=>by have:=hpl e;simp only[kQ,pq]at this;exact this.1
 have hpy:pl=true->kQ y=true:=fun e=>by have:=hpl e;simp only[kQ,pq]at this;exact this.2
 refine wpIn_seq ?_;rcases qvz he with⟨L1,H1,h1,h2⟩|⟨hne,h1⟩
 ·exact hx hF hrx hH h hpx hM h1 fun a' w' ι' r1 r2 r3 r4=>hy hF hry r3 r1 hpy r2 h2 (hQ.normal r4)
 ·refine hx hF hrx hH h hpx hM h1 fun a' w' ι' r1 r2 r3 r4=>?_;have:=hQ a' w' ι' r1 r2 r3 r4;cases ex<;>first|exact absurd rfl hne|exact this
theorem zmt{c:Operand}{x y:Code}(hx:qen P O d n m x)(hy:qen P O d n m y):qen P O d n m (.cond c x y):=by
 intro F hF hr pl lo ι w a L H hH h hpl hM ex L' H' he Q hQ;have hrx:F.round=none\/kQ x=true:=hr.imp id fun h=>by simp only[kQ,pq]at h;exact h.1
 have hry:F.round=none\/kQ y=true:=hr.imp id fun h=>by simp only[kQ,pq]at h;exact h.2
 have hpx:pl=true->kQ x=true:=fun e=>by have:=hpl e;simp only[kQ,pq]at this;exact this.1
 have hpy:pl=true->kQ y=true:=fun e=>by have:=hpl e;simp only[kQ,pq]at this;exact this.2
 have hc:=dU h c;change condC ((aG d n c).f L) _ _=_ at he;unfold condC at he;split at he
 ·rename_i e;rw[e]at hc;simp only[aL]at hc;exact wpIn_cond_true hc (hx hF hrx hH h hpx hM he hQ)
 ·rename_i e;rw[e]at hc;simp only[aL]at hc;exact wpIn_cond_false hc (hy hF hry hH h hpy hM he hQ)
 ·cases he
theorem zb0{id:Nat}{x:Code}(hx:qen P O d n m x):qen P O d n m (.block id x):=by
 intro F hF hr pl lo ι w a L H hH h hpl hM ex L' H' he Q hQ;refine wpIn_block ?_;rcases q0c he with⟨rfl,h1⟩|⟨hne,h1⟩
 ·refine hx hF hr hH h hpl hM h1 fun a' w' ι' r1 r2 r3 r4=>?_;show if id=id then _ else _
  rw[pz rfl];exact hQ a' w' ι' r1 r2 r3 r4
 ·refine hx hF hr hH h hpl hM h1 fun a' w' ι' r1 r2 r3 r4=>?_;have:=hQ a' w' ι' r1 r2 r3 r4;cases ex with
  |exit i=>show if i=id then _ else _;rw[kz (hne i rfl)];exact this
  |normal=>exact this
  |ret=>exact this
  |goto=>exact this
theorem zms{x:Code}(hx:qen P O d n m x):qen P O d n m (.loop x):=by
 intro F hF hr pl lo ι w a L H hH h hpl hM ex L' H' he Q hQ;change qqd _ bX L H=_ at he;refine wpIn_loop_rounds bX ?_;revert he;generalize bX=k;intro he
 induction k generalizing ι w a L H with
 |zero=>cases he
 |succ k ih=>
  rcases qvz he with⟨L1,H1,h1,h2⟩|⟨hne,h1⟩
  ·exact hx hF hr hH h hpl hM h1 fun a' w' ι' r1 r2 r3 r4=>ih r3 r1 r2 (hQ.normal r4) h2
  ·refine hx hF hr hH h hpl hM h1 fun a' w' ι' r1 r2 r3 r4=>?_;have:=hQ a' w' ι' r1 r2 r3 r4;cases ex<;>first|exact absurd rfl hne|exact this
theorem zby{x:Code}(hx:qen P O d n m x)(hg:∀ L H ex L' H',(den P d n x).f O L H=.ok ex L' H'->∀ l,ex≠ .goto l):qen P O d n m (.scope x):=by
 intro F hF hr pl lo ι w a L H hH h hpl hM ex L' H' he Q hQ;have hr:F.round=none:=hr.resolve_right (by simp[kQ]);obtain⟨r,rfl⟩:=hF.eq;have:r=none:=hr;subst this;have hw:({Fence.wide with round:=none}:Fence)=Fence.wide:=rfl;refine wpIn_wide.2 (wp_scope_straight ((wpIn_wide (n:=m)).1 ?_));refine hx Fence.yY (.inl rfl) hH h (fun e=>by have:=hpl e;simp[kQ]at this) hM he fun a' w' ι' r1 r2 r3 r4=>?_;have:=hQ a' w' ι' r1 r2 r3 r4;cases ex with
 |goto l=>exact absurd rfl (hg _ _ _ _ _ he l)
 |exit i=>exact this
 |normal=>exact this
 |ret=>exact this
theorem zbv:∀(c:Code) {L:TT AV d} {H:Hp} {ex:Ex} {L':TT AV d} {H':Hp},(den P d n c).f O L H=.ok ex L' H'->∀ l,ex≠ .goto l:=by
 intro c
 induction c with
 |skip=>intro L H ex L' H' h l;cases h;exact fun e=>by cases e
 |label=>intro L H ex L' H' h l;cases h;exact fun e=>by cases e
 |region id ops draw=>
  intro L H ex L' H' h l;cases draw with
  |false=>
   change mR _=_ at h;unfold mR at h;split at h
   ·cases h
   ·cases h;exact fun e=>by cases e
  |true=>
   change mR _=_ at h;unfold mR at h;split at h
   ·cases h
   ·cases h;exact fun e=>by cases e
 |seq a b iha ihb=>
  intro L H ex L' H' h l;rcases qvz h with⟨L1,H1,h1,h2⟩|⟨_,h1⟩
  ·exact ihb h2 l
  ·exact iha h1 l
 |cond x a b iha ihb=>
  intro L H ex L' H' h l;change condC _ _ _=_ at h;unfold condC at h;split at h
  ·exact iha h l
  ·exact ihb h l
  ·cases h
 |block id b ih=>
  intro L H ex L' H' h l;rcases q0c h with⟨rfl,_⟩|⟨_,h1⟩
  ·simp
  ·exact ih h1 l
 |loop b ih=>
  intro L H ex L' H' h l;change qqd _ bX L H=_ at h;revert h;generalize bX=k;intro h
  induction k generalizing L H with
  |zero=>cases h
  |succ k ihk=>
   rcases qvz h with⟨L1,H1,h1,h2⟩|⟨_,h1⟩
   ·exact ihk h2
   ·exact ih h1 l
 |scope b ih=>intro L H ex L' H' h l;exact ih h l
 |exit id=>intro L H ex L' H' h l;cases h;exact fun e=>by cases e
 |goto=>intro L H ex L' H' h l;cases h
 |ret=>intro L H ex L' H' h l;cases h;exact fun e=>by cases e
 |rangeFunc f ps assign body _ _=>
  intro L H ex L' H' h l;unfold den at h;split at h
  ·cases h
  ·simp only at h
   ·
    unfold endLoop at h;split at h
    ·cases h
    ·split at h
     ·cases h;exact fun e=>by cases e
     ·cases h;exact fun e=>by cases e
     ·cases h;exact fun e=>by cases e
     ·cases h
 |refuse=>intro L H ex L' H' h l;cases h
theorem HR.alloc(h:HR ι H w)(o:Obj):HR ι H (w.alloc o)/\Fr ι ι H H w (w.alloc o):=by
 have keep:∀ c,c<w.heap.size->(w.alloc o).heap[c]? =w.heap[c]? :=fun c hc=>Below.heap_alloc w o c hc;refine⟨⟨h.top,fun b hb=>(h.blk b hb).keep fun l hd hl=>keep _ (h.low b l hb hd hl),fun b l hb h1 h2=>by have:=h.low b l hb h1 h2;simp;omega,h.inj,h.fresh,h.free⟩,
  ⟨Im.le_refl _,lg _,fun b h1 h2=>absurd h1 h2,rfl,rfl,rfl,by simp,fun c hc _=>keep c hc,fun b l hb h1 h2=>.inr ⟨b,l,hb,h1,h2,rfl⟩,fun b l hb h1 h2=>.inr ⟨b,l,hb,h1,h2,rfl⟩⟩⟩
theorem HR.uJ(h:HR ι H w){b:Nat}{l:Loc}(hl:ι b=some l)(hwr:(H.get b).wr=true)(k:bO)(o:Obj)(hk:BR ι (w.putObj l.blk o) b k):HR ι (H.put b k) (w.putObj l.blk o)/\Fr ι ι H (H.put b k) w (w.putObj l.blk o):=
 h.put (h.lt hl) hwr hl k rfl rfl rfl (by simp) (fun c hc=>World.putObj_heap_other hc) hk
set_option maxHeartbeats 1000000 in
theorem zbz{g:Operand}{ps:Array Tmp}{assign body:Code}(hC:qeo P O):qen P O d n m (.rangeFunc g ps assign body):=by
 intro F hF hr pl lo ι w a L H hH h hpl hM ex L' H' he Q hQ;have hro:F.round=none:=hr.resolve_right (by simp[kQ]);have hpf:pl=false:=by
  cases pl with
  |false=>rfl
  |true=>have:=hpl rfl;simp[kQ]at this
 subst hpf;unfold den at he;split at he
 ·cases he
 ·rename_i gf _ hg hnr;simp only at he
  ·
   have hnx:iB (H.nx):=pF;simp only[pq]at hnr;have hgv:=dU h g;rw[hg]at hgv;simp only at hgv
   -- the record and the block for deferred calls
   obtain⟨hA,fA⟩:=hH.alloc (.deferred (some []));refine wpIn_rangeFunc fun fn _=>?_
   let lp:Loop:={state:=.ready,pending:=none,fn:=fn,tmps:=a.tmps,params:=ps,assign:=assign,body:=body,defers:=w.heap.size}
   let loc:Loc:=⟨w.heap.size+1,0,0,0⟩
   have hfr:=hA.fresh H.nx (lg _);obtain⟨hB,fB⟩:=hA.push (w':=(w.alloc (.deferred (some []))).alloc (.loop lp)) hnx loc (.loop true none d n L ps.toList assign body) rfl rfl rfl (by simp) (fun c hc=>Below.heap_alloc _ _ c hc) (by simp[loc])
    ⟨loc,lp,Im.bC ..,by have:=World.alloc_heap_new (w.alloc (.deferred (some []))) (.loop lp);simpa [loc] using this,rfl,rfl,rfl,rfl,rfl,h.mono (Im.iW loc hfr),hnr.1,hnr.2⟩
   have f1:=fA.trans fB;have hMd:Md false lo (ι.set H.nx loc) (aO H (.loop true none d n L ps.toList assign body)) ((w.alloc (.deferred (some []))).alloc (.loop lp)) (dl ((dJ d n).f L)) ({target:=.collected w.heap.size,args:= #[]}::a.defers):=by
    obtain⟨Ds,m1⟩:=hM.ex;have m2:=m1.fr f1;have hlo:=hM.low;refine⟨fun e=>(by cases e),tq hlo f1.size,w.heap.size::Ds,.inl ⟨w.heap.size,Ds,rfl,rfl,fun hin=>absurd (m1.lt _ hin) (xn _),⟨hlo,by simp;omega,?_,fun b l hb' hl hi e=>?_⟩,m2⟩⟩
    ·rw[Below.heap_alloc _ _ _ (by simp)];exact World.alloc_heap_new w _
    ·have hgp:(aO H (.loop true none d n L ps.toList assign body)).get b=if b=H.nx then(.loop true none d n L ps.toList assign body)else H.get b:=by exact Mem.get_put _ _ _ _
     by_cases e':b=H.nx
     ·subst e';rw[Im.bC]at hi;cases hi;simp[loc]at e
     ·rw[Im.dX _ _ e']at hi;rw[hgp,kz e']at hl;have:=hH.low b l hb' hl hi;omega
   unfold endLoop at he;split at he
   ·cases he
   ·rename_i v H2 hcall;unfold qgw at hcall;split at hcall
    ·rename_i f first cap hgL
     rw[hgL]at hgv;obtain⟨A,Cc,r1,r2,r3⟩:=hgv;have hle:ι.le (ι.set H.nx loc):=Im.iW loc hfr;have hyv:aL (ι.set H.nx loc) (.yield H.nx) (.func (.yield (w.heap.size+1)) #[] #[]):=by simp only[aL];exact⟨loc,Im.bC ..,rfl⟩
     obtain⟨c1,c2⟩:=hC.fn _ _ _ _ _ hcall (ι.set H.nx loc) _ (A++[.func (.yield (w.heap.size+1)) #[] #[]]++Cc) hB
      (((aI.mono hle _ _ r1).append (aI.singleton hyv)).append (aI.mono hle _ _ r2))
     have henter:(Instr.enterLoop fn a.tmps ps assign body F.round).run P w=.ok (w.heap.size+1,[{target:=.collected w.heap.size,args:= #[]}]) ((w.alloc (.deferred (some []))).alloc (.loop lp)):=by rw[hro];exact run_enterLoop_outer fn a.tmps ps assign body
     refine⟨w.heap.size+1,[{target:=.collected w.heap.size,args:= #[]}],(w.alloc (.deferred (some []))).alloc (.loop lp),{target:=.fn (.func f) Cc.toArray,args:=A.toArray++ #[Value.func (.yield (w.heap.size+1)) #[] #[]]},(w.alloc (.deferred (some []))).alloc (.loop lp),f,(A++[Value.func (.yield (w.heap.size+1)) #[] #[]]++Cc).toArray,(w.alloc (.deferred (some []))).alloc (.loop lp),henter,?_,fun f' _=>hF.fn f',?_,?_,?_⟩
     ·simp only[resolve,r3,Deferred.ofValue,Sem.run_pure];congr 2;simp[Act.eval]
     ·simp only[invoke];simpa using c1
     ·simp[hF.depth]
     ·have aG8:=hF.calls (c2 (m-1));refine CallsIn.mono aG8 ?_;intro e w' hpost;cases e with
      |panicked=>exact hpost.elim
      |outgrown=>exact hpost.elim
      |returned V=>
       obtain⟨ι',q1,q2,q3⟩:=hpost;have hloc:ι' H.nx=some loc:=q3.le _ _ (Im.bC ..);have bDH:=hMd.fr q3;have fin:∀{ready:Bool} {pending:Option Code} {d' n':Nat} {L2:TT AV d'} {ps':List Tmp} {as' bd':Code},H2.get H.nx=.loop ready pending d' n' L2 ps' as' bd'->(ready=true\/pending.isSome=true) ->
         ∃w₄,(Instr.endLoop (w.heap.size+1)).run P w'=.ok pending w₄/\∀ K:Act->World->Prop,After false lo ι H w d n L (H2.put H.nx .dead) K->K {a with defers:=[{target:=.collected w.heap.size,args:= #[]}]++a.defers} w₄:=by
        intro ready pending d' n' L2 ps' as' bd' hget hst;have hbr:=q2.blk H.nx hnx;rw[hget]at hbr;obtain⟨l2,lp2,b1,b2,b3,b4,_⟩:=hbr;rw[hloc]at b1;cases b1;have hne:lp2.state≠ .busy:=by
         rw[b3];rcases hst with rfl|hst
         ·simp
         ·cases ready<;>simp[hst]
        refine⟨_,by rw[<-b4];exact run_endLoop b2 hne,fun K hK=>?_⟩;obtain⟨z1,z2⟩:=q2.uJ (k:=.dead) (o:=.loop {lp2 with state:=.exhausted}) hloc (by rw[hget];rfl) trivial;exact hK _ _ ι' (h.mono (Im.le_trans f1.le q3.le)) (bDH.fr z2) z1 ((f1.trans q3).trans z2)
       split at he
       ·rename_i hget;cases he;obtain⟨w₄,e1,e2⟩:=fin hget (.inl rfl);exact⟨_,w₄,e1,e2 _ hQ⟩
       ·rename_i hget;cases he;obtain⟨w₄,e1,e2⟩:=fin hget (.inr rfl);exact⟨_,w₄,e1,wpIn_ret (e2 _ hQ)⟩
       ·rename_i hget;cases he;obtain⟨w₄,e1,e2⟩:=fin hget (.inr rfl);exact⟨_,w₄,e1,wpIn_exit (e2 _ hQ)⟩
       ·cases he
    ·cases hcall
theorem qsc(hn:n<8 ^ d){ops:Array Oper}{o:Oper}{L':TT AV d}{H':Hp}(he:(xY P d n ops o).f O L H=.ok L' H'):(dJ d n).f L'=(dJ d n).f L:=by
 have hput:∀{put:TT AV d->AV->TT AV d} (_:dW d n o.dst=⟨put⟩) (v:AV),(dJ d n).f (put L v)=(dJ d n).f L:=fun hp v=>by have:=qjj (v:=v) (yw hn) (L:=L) hn o.dst;simp_all
 have hq:∀{put:TT AV d->AV->TT AV d} (_:dW d n o.dst=⟨put⟩) {r:R0},doQ put L H r=.ok L' H'->(dJ d n).f L'=(dJ d n).f L:=fun hp r hd=>by
  unfold doQ at hd;split at hd
  ·cases hd
  ·cases hd;exact hput hp _
  ·cases hd;exact hput hp _
 have hee:∀{put:TT AV d->AV->TT AV d} (_:dW d n o.dst=⟨put⟩) {r:R1},doE put L r=.ok L' H'->(dJ d n).f L'=(dJ d n).f L:=fun hp r hd=>by
  unfold doE at hd;split at hd
  ·cases hd
  ·cases hd;exact hput hp _
 unfold xY at he;split at he
 ·rename_i hp;exact hq hp he
 ·rename_i hp;exact hee hp he
 ·rename_i hp;simp only[ifW]at he;split at he
  ·exact hq hp he
  ·cases he;exact hput hp _
  ·cases he
 ·rename_i hp;simp only[ifW]at he;split at he
  ·exact hee hp he
  ·cases he;exact hput hp _
  ·cases he
theorem q44(hC:qeo P O)(hF:Fence.dP F){ops:Array Oper}{Q:Exit->Act->World->Prop}{pl:Bool}{lo:Nat}:∀(l:List Oper),(F.round=none\/l.any qR=false)->(pl=true->l.any qR=false)->∀{ι:Im} {w:World} {a:Act} {L:TT AV d} {H:Hp},HR ι H w->LR ι d n L a.tmps->Md pl lo ι H w (dl ((dJ d n).f L)) a.defers -> ∀{L':TT AV d} {H':Hp},(pY P d n ops l).f O L H=.ok L' H'->After pl lo ι H w d n L' H' (Q .normal)->wpListIn F m P ops Q l a w
 | [],_,_,ι,w,a,L,H,hH,h,hM,L',H',he,hK=>by cases he;exact hK _ _ ι h hM hH (Fr.refl ..)
 |o::l,hr,hp,ι,w,a,L,H,hH,h,hM,L',H',he,hK=>by
  have hr':F.round=none\/l.any qR=false:=hr.imp id fun e=>by simp only[List.any_cons,lAG]at e;exact e.2
  have hp':pl=true->l.any qR=false:=fun e=>by have:=hp e;simp only[List.any_cons,lAG]at this;exact this.2
  simp only[pY,zcd]at he;split at he
  ·cases he
  ·rename_i L1 H1 h1;unfold qjb at h1;split at h1
   ·have aJ2:=qsc h.fits h1;have:=zrn (m:=m) (Q:=Q) (K:=wpListIn F m P ops Q l) hC hF hH h h1 (fun a' w' ι' r1 r2 r3 r4=>
     q44 hC hF l hr' hp' r3 r1 (by rw[aJ2,r2];exact hM.fr r4) he (hK.normal r4))
    trivial
   ·rename_i c hc;unfold yJ at hc;split at hc
    ·rename_i x args argTypes ho hg;have hdf:qR o=true:=by unfold qR;rw[ho]
     have hro:F.round=none:=hr.resolve_right (by simp[hdf]);have hpf:pl=false:=by
      cases pl with
      |false=>rfl
      |true=>have:=hp rfl;simp[hdf]at this
     subst hpf;cases hc;have hx:=dU h x;have ha:=qct h args.toList;simp only at h1;have hwant:Region.wanted o (yielded ops a.tmps)=true:=by simp[Region.wanted,hg]
     simp only[wpListIn,hwant,ik];refine⟨fun f _=>hF.fn f,?_⟩;rw[hro,Oper.semAt_none];unfold doD at h1;split at h1
     ·rename_i f first cap hfx
      simp only[Rs.ok.injEq]at h1;obtain⟨e1,e2⟩:=h1;subst e2;rw[hfx]at hx;obtain⟨A,C,g1,g2,g3⟩:=hx;have hargs:args.map a.eval=(args.toList.map a.eval).toArray:=by rw[<-og]
      have aLI:(execOp a.eval o).run P w=.ok (.defer {target:=.fn (.func f) C.toArray,args:=A.toArray++(args.toList.map a.eval).toArray}) w:=by simp[execOp,ho,resolve,g3,Deferred.ofValue,hargs]
      rw[aLI];have hl0:LR ι d n ((setter d n).f L (.aX (.fn f (first++(tO d n args.toList).f L++cap) []::dl ((dJ d n).f L)))) a.tmps:=by refine⟨h.size,h.fits,fun i hi=>?_⟩;rw[qev _ _ _ _ _ (lE9 hi h.fits) h.fits,kz (by omega)];exact h.get i hi
      refine q44 hC hF l hr' hp' hH (L:=L1) ?_ ?_ he hK
      ·rw[<-e1];exact qic (a:={a with defers:=_::a.defers}) hl0 o.dst (by simp only[aL];rfl)
      ·rw[put_defers,<-e1];have hs:=qjj (v:=.undef) (yw h.fits) (L:=(setter d n).f L (.aX (.fn f (first++(tO d n args.toList).f L++cap) []::dl ((dJ d n).f L)))) h.fits o.dst;rw[kz (by omega)]at hs;rw[hs,qev _ _ _ _ _ h.fits h.fits,pz rfl];obtain⟨_,hlo,Ds,hD⟩:=hM;refine⟨fun e=>(by cases e),hlo,Ds,.inr ⟨f,first++(tO d n args.toList).f L++cap,dl ((dJ d n).f L),_,_,rfl,rfl,?_,hD⟩⟩;simpa using (g1.append ha).append g2
     ·cases h1
    ·cases hc
theorem q9u(hC:qeo P O)(hm:P.follows .mixedOrders=true):∀ c:Code,qen P O d n m c:=by
 intro c
 induction c with
 |skip=>intro F hF hr pl lo ι w a L H hH h hpl hM ex L' H' he Q hQ;cases he;exact wpIn_skip (hQ a w ι h hM hH (Fr.refl ..))
 |label=>intro F hF hr pl lo ι w a L H hH h hpl hM ex L' H' he Q hQ;cases he;exact wpIn_label (hQ a w ι h hM hH (Fr.refl ..))
 |region id ops draw=>
  intro F hF hr pl lo ι w a L H hH h hpl hM ex L' H' he Q hQ;cases draw with
  |false=>
   change mR _=_ at he;unfold mR at he;split at he
   ·cases he
   ·rename_i L1 H1 hops;cases he;exact wpIn_region_list (q44 hC hF ops.toList (hr.imp (fun e=>e) fun e=>by simpa [kQ] using e) (fun e=>by have:=hpl e;simpa [kQ] using this) hH h hM hops hQ)
  |true=>
   change mR _=_ at he;unfold mR at he;split at he
   ·cases he
   ·rename_i L1 H1 hops;cases he;exact ztu hC hF hm hH h hops fun a' w' ι' r1 r2 r3 r4=>hQ a' w' ι' r1 (by rw[r2,qs7 h.fits hops];exact hM.fr r4) r3 r4
 |seq a b iha ihb=>exact zt1 iha ihb
 |cond x a b iha ihb=>exact zmt iha ihb
 |block id b ih=>exact zb0 ih
 |loop b ih=>exact zms ih
 |scope b ih=>exact zby ih fun L H ex L' H' he=>zbv b he
 |exit id=>intro F hF hr pl lo ι w a L H hH h hpl hM ex L' H' he Q hQ;cases he;exact wpIn_exit (hQ a w ι h hM hH (Fr.refl ..))
 |goto=>intro F hF hr pl lo ι w a L H hH h hpl hM ex L' H' he Q hQ;cases he
 |ret=>intro F hF hr pl lo ι w a L H hH h hpl hM ex L' H' he Q hQ;cases he;exact wpIn_ret (hQ a w ι h hM hH (Fr.refl ..))
 |rangeFunc f ps assign body _ _=>exact zbz hC
 |refuse=>intro F hF hr pl lo ι w a L H hH h hpl hM ex L' H' he Q hQ;cases he
end Go.Ev
end
noncomputable section
namespace Go.Ev
open Go.RowKit
variable {P:Program} {w:World} {ι:Im} {a:Act} {d n:Nat} {L:TT AV d} {H:Hp} {O:Call} {m:Nat}
/- results -/
def zjk(tmps:Array Value):ResultVar->Sem Value
 | .tmp t=>pure (tmps.getD t Go.undef)
 | .cell a t=>do loadVar t (<-asAddr (tmps.getD a Go.undef))
theorem zaw(fn:Func)(tmps:Array Value):results fn tmps=(do
  let vs<-fn.results.mapM (zjk tmps)
  pure (if h:vs.size=1 then vs[0]else .tuple vs)):=by
 rfl
theorem zk3{v:AV}{x:AV}{X:Value}(hx:aL ι x X){t:TypeId}(ht:p8 P t=some false)(hH:HR ι H w)(h:aT H x=.val v):∃V,(do loadVar t (<-asAddr X):Sem Value).run P w=.ok V w/\aL ι v V:=by
 unfold aT at h;split at h
 ·rename_i b i;obtain⟨l,h1,h2⟩:=hx;obtain⟨l',V,h3,h4,h5,_⟩:=qyy (hH.blk b (hH.lt h1)) h;rw[h1]at h3;cases h3;exact⟨V,by simp[h2,asAddr,loadVar,qgh ht,h4],h5⟩
 ·cases h
theorem zk0{v:AV}{x:AV}{X:Value}(hx:aL ι x X){t:TypeId}(ht:p8 P t=some true){k:Nat}(hk:gX P t=some k)(hH:HR ι H w)(h:dD k H x=.val v):∃V,(do loadVar t (<-asAddr X):Sem Value).run P w=.ok V w/\aL ι v V:=by
 unfold dD at h;split at h
 ·rename_i b i;obtain⟨l,h1,h2⟩:=hx;cases hb:eB (H.get b) i k with
  |none=>rw[hb]at h;cases h
  |some cs=>
   rw[hb]at h;cases h;obtain⟨hlen,hr⟩:=qe6 (hH.blk b (hH.lt h1)) hb;have run:∀ vs:List Value,vs.length=k->(∀(j:Nat) (v:Value),vs[j]? =some v->w.cell? ⟨l.blk,l.base+i+j,none⟩=some v)->(do loadVar t (<-asAddr X):Sem Value).run P w=.ok (.agg vs.toArray) w:=fun vs h3 h4=>by have:=run_loadCells P w l.blk (l.base+i) vs h4;rw[h3]at this;simp[h2,asAddr,loadVar,qgh ht,nJ hk,this]
   rcases hr with rfl|⟨loc,vs,h3,h4,h5,h6,h7⟩
   ·have:cs=[]:=ry.1 hlen;subst this;exact⟨_,run [] rfl (by simp),by simp only[aL];exact⟨[],by simp[aI],rfl,by simp⟩⟩
   ·rw[h1]at h3;cases h3;exact⟨_,run vs h5 h7,by simp only[aL];exact⟨vs,h4,rfl,h6⟩⟩
 ·cases h
theorem zjl(h:LR ι d n L a.tmps)(hH:HR ι H w)(x:ResultVar){v:AV}(he:(aAR P d n x).f L H=some v):∃ V,(zjk a.tmps x).run P w=.ok V w/\aL ι v V:=by
 cases x with
 |tmp t=>have:=dU h (.tmp t);cases he;exact⟨_,rfl,this⟩
 |cell p t=>
  have hp:=dU h (.tmp p);simp only[aAR]at he;generalize hg:aG d n (.tmp p)=g at he hp;cases h1:p8 P t with
  |none=>rw[h1]at he;cases he
  |some b=>
   cases h2:gX P t with
   |none=>rw[h1,h2]at he;cases b<;>cases he
   |some k=>
    rw[h1,h2]at he;cases b with
    |true=>
     simp only at he;split at he
     ·rename_i u hu;cases he;exact zk0 hp h1 h2 hH hu
     ·cases he
    |false=>
     simp only at he;split at he
     ·rename_i u hu;cases he;exact zk3 hp h1 hH hu
     ·cases he
theorem q8a(h:LR ι d n L a.tmps)(hH:HR ι H w):∀(xs:List ResultVar) {l:List AV},(zax P d n xs).f L H=some l->∃ vs,(xs.mapM (zjk a.tmps)).run P w=.ok vs w/\aI ι l vs
 | [],l,he=>by cases he;exact⟨[],rfl,by simp[aI]⟩
 |x::xs,l,he=>by
  have he':(match(aAR P d n x).f L H,(zax P d n xs).f L H with|some v,some l=>some (v::l)|_,_=>none)=some l:=he;split at he'
  ·rename_i v l' h1 h2;cases he';obtain⟨V,a1,a2⟩:=zjl h hH x h1;obtain⟨vs,b1,b2⟩:=q8a h hH xs h2;refine⟨V::vs,?_,by simp only[aI];exact⟨V,vs,rfl,a2,b2⟩⟩;simp_all
  ·cases he'
theorem qsg(h:LR ι d n L a.tmps)(hH:HR ι H w)(fn:Func){v:AV}(he:(qcj P d n fn.results.toList).f L H=some v):∃ V,(results fn a.tmps).run P w=.ok V w/\aL ι v V:=by
 rw[zaw,Array.mapM_eq_mapM_toList];unfold qcj at he;split at he
 ·rename_i x hx;obtain⟨V,a1,a2⟩:=zjl h hH x he;simp_all
 ·rename_i hne;simp only at he;split at he
  ·rename_i l hl;cases he;obtain⟨vs,b1,b2⟩:=q8a h hH fn.results.toList hl;refine⟨.tuple vs.toArray,?_,by simp only[aL];exact⟨vs,b2,rfl⟩⟩;have hlen:¬ vs.toArray.size=1:=by
    have h1:=b2.length;have h2:∀(xs:List ResultVar) (l:List AV),(zax P d n xs).f L H=some l->l.length=xs.length:=by
     intro xs
     induction xs with
     |nil=>intro l hl;cases hl;rfl
     |cons x xs ih=>
      intro l hl;have he':(match(aAR P d n x).f L H,(zax P d n xs).f L H with|some v,some l=>some (v::l)|_,_=>none)=some l:=hl;split at he'
      ·rename_i v l' e1 e2;cases he';simp[ih _ e2]
      ·cases he'
    have h3:=h2 _ _ hl;intro e;simp at e;have h4:fn.results.toList.length=1:=by omega
    obtain⟨x,hx⟩:=List.length_eq_one_iff.1 h4;exact hne x hx
   simp_all
  ·cases he
/- leaving -/
theorem MdL.putObj{lo D:Nat}{o:Obj}:∀{ds:List Deferred} {l:List AV} {Ds:List Nat},MdL lo ι H w l ds Ds->D∉Ds->MdL lo ι H (w.putObj D o) l ds Ds
 | [],l,Ds,h,_=>h
 |x::ds,l,Ds,h,hD=>by
  rcases h with⟨D',Ds',h1,h2,h3,⟨k0,k1,k2,k3⟩,h4⟩|⟨g,all,l',A,C,h1,h2,h3,h4⟩
  ·subst h1;simp only[qg,not_or]at hD;exact .inl ⟨D',Ds',rfl,h2,h3,⟨k0,by simpa using k1,by rw[World.putObj_heap_other (Ne.symm hD.1)];exact k2,k3⟩,h4.putObj hD.2⟩
  ·exact .inr ⟨g,all,l',A,C,h1,h2,h3,h4.putObj hD⟩
theorem qwo(hC:qeo P O){k:Nat}{fn:Func}{w0:World}{H0 H2:Hp}{tmps:Array Value}{v:AV}(hres:(qcj P d n fn.results.toList).f L H2=some v):∀(ds:List Deferred) (l:List AV) (Ds:List Nat) (ι':Im) (H:Hp) (w':World),MdL w0.heap.size ι' H w' l ds Ds->LR ι' d n L tmps->HR ι' H w'->Fr ι ι' H0 H w0 w'->aAK O l H=some H2 -> LeavesInM Fence.wide k P fn tmps (Post ι H0 w0 v H2) ds .returning w'
 | [],l,Ds,ι',H,w',hM,hL,hH,hf,hr=>by rw[hM.1]at hr;cases hr;obtain⟨V,h1,h2⟩:=qsg (a:={tmps:=tmps,defers:=[]}) hL hH fn hres;exact⟨V,h1,ι',h2,hH,hf⟩
 |x::ds,l,Ds,ι',H,w',hM,hL,hH,hf,hr=>by
  rcases hM with⟨D,Ds',h1,h2,h3,⟨d0,d1,d2,d3⟩,h4⟩|⟨g,all,l',A,C,h1,h2,h3,h4⟩
  ·subst h2;refine⟨by simp,.inl ⟨D,w'.putObj D (.deferred none),rfl,run_takeDeferred d2,qwo hC hres ds l Ds' ι' H _ (h4.putObj h3) hL ?_ ?_ hr⟩⟩
   ·exact⟨hH.top,fun b hb=>(hH.blk b hb).keep fun l hd hl=>World.putObj_heap_other (d3 b l hb hd hl),fun b l hb h1 h2=>by have:=hH.low b l hb h1 h2;simpa using this,hH.inj,hH.fresh,hH.free⟩
   ·exact⟨hf.le,hf.nx,hf.dom,hf.os,hf.tape,hf.output,by simpa using hf.size,fun c hc hk=>by rw[World.putObj_heap_other (by omega)];exact hf.keep c hc hk,hf.new,hf.live⟩
  ·subst h1;subst h2;have hr':(match O (.d g) all H with| .ok _ H'=>aAK O l' H'| .bad=>none)=some H2:=hr;split at hr'
   ·rename_i v1 H1 hcall;obtain⟨c1,c2⟩:=hC.df _ _ _ _ _ hcall ι' w' _ hH h3;have hargs:(A.toList++C.toList).toArray=A++C:=by simp
    rw[hargs]at c1;refine⟨by simp,.inr ⟨fun e=>by simp[Fence.wide]at e,.func g,C,g,(A.toList++C.toList).toArray,rfl,?_,fun _ _=>trivial,(c2 _).mono fun e u' w'' he=>?_⟩⟩
    ·rw[hargs];simpa [invoke] using c1
    ·obtain⟨rfl,hp⟩:=he;cases e with
     |returned V=>obtain⟨aAI,q1,q2,q3⟩:=hp;exact qwo hC hres ds l' Ds aAI H1 w'' (h4.fr q3) (hL.mono q3.le) q2 (hf.trans q3) hr'
     |panicked=>exact hp.elim
     |outgrown=>exact hp.elim
   ·cases hr'
theorem qkn{args:List AV}{k:Nat}(hk:args.length<=k)(hm:k+1<=262144):dl ((dJ (iO (k+1)) k).f (nV args 0 (same .undef _)))=[]:=by have hd:=q9t (k+1) hm;rw[qh8 args 0 _ k (by omega) (by omega),kz (by omega),qhc];rfl
theorem LR.start{args:List AV}{bB:List Value}(ha:aI ι args bB){k:Nat}(hk:args.length<=k)(hm:k+1<=262144):LR ι (iO (k+1)) k (nV args 0 (same .undef _)) (bB.toArray++Array.replicate (k-bB.toArray.size) Go.undef):=by
 have hl:=ha.length;have hd:=q9t (k+1) hm;refine⟨by simp;omega,by omega,fun i hi=>?_⟩;rw[qh8 args 0 _ i (by omega) (by omega)];by_cases h:i<args.length
 ·obtain⟨v,h1,h2⟩:=ha.get i args[i] (lh h);have:(bB.toArray++Array.replicate (k-bB.toArray.size) Go.undef).getD i Go.undef=v:=by
   simp_all
  simp_all
 ·rw[kz (by omega),qhc];have:(bB.toArray++Array.replicate (k-bB.toArray.size) Go.undef).getD i Go.undef=Go.undef:=by
   simp_all
  trivial
structure z9o(P:Program)(O:Call)(f:FuncId)(args:List AV)(H:Hp)(v:AV)(H':Hp) where
 fn:Func
 c:Code
 hfn:P.funcs[f]? =some fn
 hname:¬ fn.name = "runtime.NumGoroutine"
 hbody:fn.body=some c
 hb1:args.length<=fn.ntmps
 hb2:fn.ntmps+1<=262144
 ex:Ex
 L':TT AV (iO (fn.ntmps+1))
 H1:Hp
 run:(den P (iO (fn.ntmps+1)) fn.ntmps c).f O (nV args 0 (same .undef _)) H=.ok ex L' H1
 hex:ex=.normal\/ex=.ret
 dfr:aAK O (dl ((dJ (iO (fn.ntmps+1)) fn.ntmps).f L')) H1=some H'
 res:(qcj P (iO (fn.ntmps+1)) fn.ntmps fn.results.toList).f L' H'=some v
theorem q89{f:FuncId}{args:List AV}{v:AV}{H':Hp}(he:(aM P f).f O args H=.ok v H'):Nonempty (z9o P O f args H v H'):=by
 unfold aM at he;split at he
 ·cases he
 ·rename_i fn hfn;split at he
  ·cases he
  ·rename_i hname;split at he
   ·cases he
   ·rename_i c hbody;simp only at he;cases hb:(Nat.ble args.length fn.ntmps&&Nat.ble (fn.ntmps+1) 262144)with
    |false=>rw[hb]at he;cases he
    |true=>
     rw[hb]at he;simp only[pq]at hb;have main:∀{ex:Ex} {L':TT AV (iO (fn.ntmps+1))} {H1:Hp},(den P (iO (fn.ntmps+1)) fn.ntmps c).f O (nV args 0 (same .undef _)) H=.ok ex L' H1->(ex=.normal\/ex=.ret) ->
       iE fn.ntmps O (qcj P (iO (fn.ntmps+1)) fn.ntmps fn.results.toList).f L' H1=.ok v H'->Nonempty (z9o P O f args H v H'):=fun{ex L' H1} h1 h2 h3=>by
      unfold iE at h3;split at h3
      ·rename_i H2 hd;unfold fJ at h3;split at h3
       ·rename_i u hu;cases h3;exact⟨⟨fn,c,hfn,fun e=>hname (by rw[e];rfl),hbody,zg hb.1,zg hb.2,ex,L',H1,h1,h2,hd,hu⟩⟩
       ·cases h3
      ·cases h3
     unfold aCO at he;split at he
     ·simp_all
     ·simp_all
     ·cases he
theorem z2c(hC:qeo P O)(hm:P.follows .mixedOrders=true){f:FuncId}{args:List AV}{v:AV}{H':Hp}(he:(aM P f).f O args H=.ok v H'){bB:List Value}(hH:HR ι H w)(ha:aI ι args bB):(callFunc f bB.toArray).run P w=.ok (.enter f bB.toArray) w/\∀ m,CallsIn Fence.wide m P f bB.toArray w (Post ι H w v H'):=by
 obtain⟨K⟩:=q89 he;refine⟨by simp[callFunc,K.hfn,K.hname,K.hbody],fun m=>?_⟩;have hLR:=LR.start ha K.hb1 K.hb2;refine callsIn_of_wp_marks K.hfn K.hbody trivial ?_;refine q9u (m:=m) hC hm K.c Fence.yY (.inl rfl) (pl:=false) (lo:=w.heap.size) hH hLR (fun e=>by cases e) (by rw[qkn K.hb1 K.hb2];exact Md.nil (lg _)) K.run fun a' w' ι' r1 r2 r3 r4=>?_;obtain⟨_,_,Ds,hD⟩:=r2;have:=qwo (k:=m) (fn:=K.fn) (tmps:=a'.tmps) (v:=v) hC K.res a'.defers _ Ds ι' K.H1 w' hD r1 r3 r4 K.dfr;rcases K.hex with e|e
 ·rw[e];exact this
 ·rw[e];exact this
theorem z2d(hC:qeo P O)(hm:P.follows .mixedOrders=true){f:FuncId}{args:List AV}{v:AV}{H':Hp}(he:(aM P f).f O args H=.ok v H')(hp:qox P f=true){bB:List Value}(hH:HR ι H w)(ha:aI ι args bB):(callFunc f bB.toArray).run P w=.ok (.enter f bB.toArray) w/\∀ m,CallsDIn Fence.wide m P f bB.toArray .returning w (fun e u' w'=>u'=.returning/\Post ι H w v H' e w'):=by
 obtain⟨⟨fn,c,hfn,hname,hbody,hb1,hb2,ex,L',H1,run,hex,dfr,res⟩⟩:=q89 he;refine⟨by simp[callFunc,hfn,hname,hbody],fun m=>?_⟩;have hLR:=LR.start ha hb1 hb2;have hnr:kQ c=true:=by unfold qox at hp;rw[hfn]at hp;simp only[hbody]at hp;exact hp
 refine callsDIn_of_wp (R:=Post ι H w v H') hfn hbody trivial ?_;refine q9u (m:=m) hC hm c Fence.yY (.inl rfl) (pl:=true) (lo:=w.heap.size) hH hLR (fun _=>hnr) (by rw[qkn hb1 hb2];exact Md.nil (lg _)) run fun a' w' ι' r1 r2 r3 r4=>?_;obtain⟨h0,_,Ds,hD⟩:=r2;have h0:=h0 rfl;rw[h0]at hD;rw[hD.1]at dfr;have hdf:H1=H':=Option.some.inj dfr;subst hdf;obtain⟨V,v1,v2⟩:=qsg r1 r3 fn res;have:bodyPost P fn (Post ι H w v H1) .normal a' w':=⟨h0,V,v1,ι',v2,r3,r4⟩;rcases hex with rfl|rfl
 ·exact this
 ·exact this
theorem qyk:∀(ps:List Tmp) (args:List AV) (bB:List Value) {L:TT AV d} {tmps:Array Value},LR ι d n L tmps->aI ι args bB->ps.length=args.length->(∀p∈ps,p<n) -> LR ι d n (yH L ps args) ((ps.zip bB).foldl (fun tmps x=>tmps.setIfInBounds x.1 x.2) tmps)
 | [],args,bB,L,tmps,h,ha,hl,_=>by trivial
 |p::ps,[],bB,L,tmps,h,ha,hl,_=>by simp at hl
 |p::ps,x::args,bB,L,tmps,h,ha,hl,hp=>by obtain⟨X,R,rfl,h1,h2⟩:=ha;exact qyk ps args R (h.set (hp p (by simp)) h1) h2 (by simpa using hl) fun q hq=>hp q (by simp[hq])
theorem qol(hn:n<8 ^ d):∀(ps:List Tmp) (args:List AV) {L:TT AV d},(∀p∈ps,p<n)->(dJ d n).f (yH L ps args)=(dJ d n).f L
 | [],args,L,_=>by unfold yH;rfl
 |p::ps,[],L,_=>by unfold yH;rfl
 |p::ps,x::args,L,h=>by unfold yH;have hp:=h p (by simp);rw[qol hn ps args fun q hq=>h q (by simp[hq]),qev _ _ _ _ _ hn (lE9 hp hn),kz (fun e=>absurd (e▸hp) (xn _))]
theorem LR.slot{L:TT AV d}{tmps:Array Value}(h:LR ι d n L tmps)(v:AV):LR ι d n ((setter d n).f L v) tmps:=by refine⟨h.size,h.fits,fun i hi=>?_⟩;rw[qev _ _ _ _ _ (lE9 hi h.fits) h.fits,kz (by omega)];exact h.get i hi
theorem zij(hC:qeo P O)(hm:P.follows .mixedOrders=true){b:Nat}{args:List AV}{v:AV}{H':Hp}(he:qez P O b args H=.ok v H'){bB:List Value}{loc:Loc}(hH:HR ι H w)(ha:aI ι args bB)(hloc:ι b=some loc):∃f tmps assign body,(Instr.yield loc.blk bB.toArray).run P w=.ok (.round loc.blk f tmps assign body) w/\∀ m,RoundIn Fence.wide m P loc.blk f tmps assign body w (Post ι H w v H'):=by
 have hlt:=hH.lt hloc;unfold qez at he;split at he
 ·rename_i d n L ps assign body hget;cases hb:(Nat.beq ps.length args.length&&ps.all (fun p=>Nat.blt p n))with
  |false=>rw[hb]at he;cases he
  |true=>
   rw[hb]at he;simp only[pq,yc]at hb;have hb1:=rf hb.1;have hbr:=hH.blk b hlt;rw[hget]at hbr;obtain⟨l,lp,b1,b2,b3,b4,b5,b6,b7,b8,b9,b10⟩:=hbr;rw[hloc]at b1;cases b1;have hy:=run_yield (P:=P) (args:=bB.toArray) b2 (by
    have:=ha.length;have:lp.params.size=ps.length:=by rw[<-b5];simp
    simp;omega)
   refine⟨_,_,_,_,hy,fun m=>?_⟩;have hLR:=qyk ps args bB (b8.slot .undef) ha hb1 (fun p hp=>uL (hb.2 p hp));have hsl:dl ((dJ d n).f (yH ((setter d n).f L .undef) ps args))=[]:=by rw[qol b8.fits ps args fun p hp=>uL (hb.2 p hp),qev _ _ _ _ _ b8.fits b8.fits,pz rfl];rfl
   have htm:(lp.params.zip bB.toArray).foldl (fun tmps (t,a)=>tmps.setIfInBounds t a) lp.tmps=(ps.zip bB).foldl (fun tmps x=>tmps.setIfInBounds x.1 x.2) lp.tmps:=by rw[<-b5,<-Array.foldl_toList];simp
   rw[htm,b6,b7];split at he
   ·rename_i L1 H1 h1;split at he
    ·rename_i d' n' L' ps' oC body' aCW;refine roundIn_of_wpIn (F:=Fence.wide) trivial ?_;refine q9u (m:=m) hC hm assign (Fence.oD _) (.inr b9) (pl:=true) (lo:=0) hH hLR (fun _=>b9) (by rw[hsl];exact Md.nil (gq _)) h1 fun a1 w1 ι1 r1 r2 r3 r4=>?_;have vX:=r4.le _ _ hloc;have aKq:=r3.blk b hlt;rw[aCW]at aKq;obtain⟨l1,lp1,c1,c2,c3,c4,c5,c6,c7,c8,c9,c10⟩:=aKq;rw[vX]at c1;cases c1;refine⟨_,run_beginRound c2 (by rw[c3];rfl),?_⟩;have hsz1:loc.blk<w1.heap.size:=r3.low b loc hlt (by rw[aCW];rfl) vX;obtain⟨z1,z2⟩:=r3.uJ (k:=.loop false none d' n' L' ps' oC body') (o:=.loop {lp1 with state:=.busy}) vX (by rw[aCW];rfl)
      ⟨loc,{lp1 with state:=.busy},vX,World.putObj_heap_same hsz1,rfl,c4,c5,c6,c7,c8,c9,c10⟩
     unfold endRound at he;split at he
     ·cases he
     ·rename_i e L2 H2 h2;split at he
      ·cases he
      ·rename_i j hj;split at he
       ·rename_i d2 n2 L3 ps3 as3 bd3 aCm;cases he;refine q9u (m:=m) hC hm body (Fence.oD _) (.inr b10) (pl:=true) (lo:=0) z1 (r1.mono z2.le) (fun _=>b10) (r2.fr z2) h2 fun a2 w2 ι2 s1 s2 s3 s4=>?_;have aAE:=s4.le _ _ vX;have aK7:=s3.blk b hlt;rw[aCm]at aK7;obtain⟨l2,lp2,g1,g2,g3,g4,g5,g6,g7,g8,g9,g10⟩:=aK7;rw[aAE]at g1;cases g1;have hsz2:loc.blk<w2.heap.size:=s3.low b loc hlt (by rw[aCm];rfl) aAE;obtain⟨y1,y2⟩:=s3.uJ (k:=.loop j.isNone j d2 n2 L3 ps3 as3 bd3) (o:=.loop {lp2 with state:=if j.isNone then .ready else .done,pending:=j}) aAE (by rw[aCm];rfl)
         ⟨loc,{lp2 with state:=if j.isNone then .ready else .done,pending:=j},aAE,World.putObj_heap_same hsz2,by cases j<;>rfl,rfl,g5,g6,g7,g8,g9,g10⟩
        have hR:Post ι H w (.bool j.isNone) (H2.put b (.loop j.isNone j d2 n2 L3 ps3 as3 bd3)) (.returned (.bool j.isNone)) (w2.putObj loc.blk (.loop {lp2 with state:=if j.isNone then .ready else .done,pending:=j})):=
         ⟨ι2,by simp only[aL],y1,((r4.trans z2).trans s4).trans y2⟩
        have hend:=run_endRound (P:=P) j g2;cases e with
        |normal=>cases hj;exact⟨_,_,hend,hR⟩
        |ret=>cases hj;exact⟨_,_,hend,hR⟩
        |exit id=>cases hj;exact⟨_,_,hend,hR⟩
        |goto l=>cases hj
       ·cases he
    ·cases he
   ·cases he
 ·cases he
end Go.Ev
end
noncomputable section
namespace Go.Ev
open Go.RowKit Go.WideShapes Go.ChangeShapes
variable {P:Program} {w:World}
theorem qpr(n b:Nat):Hp.get ⟨Hp.empty.t,n⟩ b=.dead:=by
 show(bif Nat.blt b 2097152 then(dJ HD b).f (same bO.dead HD)else bO.dead)=bO.dead;cases Nat.blt b 2097152 with
 |true=>exact qhc _ _ b
 |false=>rfl
theorem HR.empty:HR (fun _=>none) Hp.empty w:=by have hg:∀ b,Hp.empty.get b=.dead:=fun b=>qpr 0 b;exact⟨pF,fun b _=>by rw[hg];trivial,fun b l _ _ h=>(by cases h),fun b c l m _ _ _ _ h=>(by cases h),fun _ _=>rfl,fun b _ _=>hg b⟩
noncomputable section
variable {Hd:Type} {enc:TypeId×Value->Hd}
theorem za4{f:Func}{s:ChangeSpec}{apart fresh handsOn again:Bool}{W W':World}{args:Array Value}{v:Value}{ds gs:List (DataW Hd)}{before pa pv:List MemPlace}(hW:DataW.Whole enc P f.params.toList s.vars apart W args.toList ds gs before)(hres:∀(b:Nat) (sp:Nat->Bool) (hd:Bool),DataW.TrodAll enc P W' b sp hd f.resultTypes.toList (v.resultList f.resultTypes.size) (s.fn Hd (ds++gs)).results [])(hargs:∀ sp:Nat->Bool,(∀p∈before,sp p.block=true)->DataW.TrodAll enc P W' 0 sp true f.params.toList args.toList (s.fn Hd (ds++gs)).args pa)(hvars:∀ sp:Nat->Bool,(∀p∈before,sp p.block=true)->DataW.TrodVars enc P W' sp s.vars (s.fn Hd (ds++gs)).vars pv)(hps:before=pa++pv)(hb:Below W.heap.size W W')(hok:∀(j:Nat) (t:TypeId) (r:Value),f.resultTypes[j]? =some t->(v.resultList f.resultTypes.size)[j]? =some r->Value.okWide P W' .any 0 t r):s.post enc P f apart fresh handsOn again W args v W':=by
 subst hps;have low:=hW.lt;have here:∀ p∈pa++pv,decide (p.block<W.heap.size)=true:=fun p hp=>gp (low p hp);refine⟨ds,gs,pa++pv,[],pa,pv,hW,hres _ _ _,hargs (fun b=>decide (b<W.heap.size)) here,hvars (fun b=>decide (b<W.heap.size)) here,World.keptBut_mono (fun p hp=>⟨hp,.inr (gz.1 hp)⟩) (hb.frame (· ∈ pa++pv)),fun _=>?_⟩;obtain⟨_,_,_,_,_,still,once⟩:=hW;refine⟨hok,_,_,([]++pa)++pv,⟨[]++pa,pv,trodAll_append (hargs _ fun _ _=>rfl) (hres _ _ _),hvars _ fun _ _=>rfl,rfl,fun b off hp=>?_,fun ha=>?_⟩,fun p hp _=>?_⟩
 ·have hin:MemPlace.cell b off∈pa++pv:=by simpa using hp
  rw[hb.frozen (low _ hin)];exact still b off hin
 ·simp_all
 ·simpa using hp
end
end Go.Ev
end
noncomputable section
namespace Go.Ev
def z7i(k:IntKind):Nat:=@IntKind.rec (fun _=>Nat) 0 1 2 3 4 5 6 7 k
def aKt(a b:IntKind):Bool:=Nat.beq (z7i a) (z7i b)
theorem z2f(a b:IntKind):aKt a b=vO a b:=by cases a<;>cases b<;>rfl
def xD(k:IntKind):Nat:=@IntKind.rec (fun _=>Nat) 128 32768 2147483648 9223372036854775808 256 65536 4294967296 18446744073709551616 k
def aDz(k:IntKind):Bool:=@IntKind.rec (fun _=>Bool) true true true true false false false false k
def q9z(k:IntKind)(n:Int):Int:=
 @Int.rec (fun _=>Int) (fun m=>@Bool.rec (fun _=>Int) (k.wrap (.ofNat m)) (.ofNat m) (Nat.blt m (xD k))) (fun m=>@Bool.rec (fun _=>Int) (k.wrap (.negSucc m)) (.negSucc m) (Bool.and (aDz k) (Nat.blt m (xD k)))) n
theorem zm8(k:IntKind)(n:Int):q9z k n=uS k n:=by
 cases n with
 |ofNat m=>
  show @Bool.rec (fun _=>Int) _ _ (Nat.blt m (xD k))=bif qw1 k (.ofNat m)then _ else _;have:qw1 k (.ofNat m)=Nat.blt m (xD k):=by cases k<;>rfl
  rw[this];cases Nat.blt m (xD k)<;>rfl
 |negSucc m=>
  show @Bool.rec (fun _=>Int) _ _ (Bool.and (aDz k) (Nat.blt m (xD k)))=bif qw1 k (.negSucc m)then _ else _;have:qw1 k (.negSucc m)=Bool.and (aDz k) (Nat.blt m (xD k)):=by cases k<;>rfl
  rw[this];cases Bool.and (aDz k) (Nat.blt m (xD k))<;>rfl
def aMW(a b:Int):Int:=
 @Int.rec (fun _=>Int) (fun m=>@Int.rec (fun _=>Int) (fun n=>Int.ofNat (Nat.add m n)) (fun n=>Int.add (.ofNat m) (.negSucc n)) b) (fun m=>Int.add (.negSucc m) b) a
theorem z3p(a b:Int):aMW a b=a+b:=by cases a<;>cases b<;>rfl
def aMO(a b:Int):Int:=
 @Int.rec (fun _=>Int) (fun m=>@Int.rec (fun _=>Int) (fun n=>@Bool.rec (fun _=>Int) (Int.negSucc (Nat.pred (Nat.sub n m))) (Int.ofNat (Nat.sub m n)) (Nat.ble n m)) (fun n=>Int.sub (.ofNat m) (.negSucc n)) b) (fun m=>Int.sub (.negSucc m) b) a
theorem z0m(a b:Int):aMO a b=a-b:=by
 cases a with
 |negSucc m=>rfl
 |ofNat m=>
  cases b with
  |negSucc n=>rfl
  |ofNat n=>
   show @Bool.rec (fun _=>Int) _ _ (Nat.ble n m)=_;cases h:Nat.ble n m with
   |true=>have h:=zg h;exact Int.ofNat_sub h
   |false=>
    have h:¬ n<=m:=fun h'=>by rw[xx h']at h;cases h
    show Int.negSucc (Nat.pred (n-m))=(m:Int)-(n:Int);have:(Nat.pred (n-m):Int)+1=(n:Int)-(m:Int):=by have h1:Nat.pred (n-m)+1=n-m:=Nat.succ_pred_eq_of_pos (by omega);omega
    omega
def aLV(a b:Int):Int:=
 @Int.rec (fun _=>Int) (fun m=>@Int.rec (fun _=>Int) (fun n=>Int.ofNat (Nat.mul m n)) (fun n=>Int.mul (.ofNat m) (.negSucc n)) b) (fun m=>Int.mul (.negSucc m) b) a
theorem z1w(a b:Int):aLV a b=a*b:=by cases a<;>cases b<;>rfl
def ltF(a b:Int):Bool:=
 @Int.rec (fun _=>Bool) (fun m=>@Int.rec (fun _=>Bool) (fun n=>Nat.blt m n) (fun _=>false) b) (fun m=>@Int.rec (fun _=>Bool) (fun _=>true) (fun n=>Nat.blt n m) b) a
theorem z6v(a b:Int):ltF a b=pO a b:=by cases a<;>cases b<;>rfl
def aGr(a b:Int):Bool:=
 @Int.rec (fun _=>Bool) (fun m=>@Int.rec (fun _=>Bool) (fun n=>Nat.beq m n) (fun _=>false) b) (fun m=>@Int.rec (fun _=>Bool) (fun _=>false) (fun n=>Nat.beq n m) b) a
theorem z2g(a b:Int):aGr a b=rD a b:=by
 cases a with
 |ofNat m=>cases b<;>rfl
 |negSucc m=>
  cases b with
  |ofNat n=>rfl
  |negSucc n=>
   show Nat.beq n m=Nat.beq m n;cases h:Nat.beq m n with
   |true=>rw[rf h];exact lAW n
   |false=>
    cases h':Nat.beq n m with
    |false=>rfl
    |true=>rw[rf h',lAW]at h;cases h
def aEE(b:Bool):Bool:=
 @Bool.rec (fun _=>Bool) (true) (false) (b)
theorem z1o(b:Bool):aEE b= !b:=by cases b<;>rfl
def q5f:BinOp->B2
 | .add=>⟨fun k a b=>.val (.int k (q9z k (aMW a b)))⟩
 | .sub=>⟨fun k a b=>.val (.int k (q9z k (aMO a b)))⟩
 | .mul=>⟨fun k a b=>.val (.int k (q9z k (aLV a b)))⟩
 | .eql=>⟨fun _ a b=>.val (.bool (aGr a b))⟩
 | .neq=>⟨fun _ a b=>.val (.bool (aEE (aGr a b)))⟩
 | .lss=>⟨fun _ a b=>.val (.bool (ltF a b))⟩
 | .leq=>⟨fun _ a b=>.val (.bool (aEE (ltF b a)))⟩
 | .gtr=>⟨fun _ a b=>.val (.bool (ltF b a))⟩
 | .geq=>⟨fun _ a b=>.val (.bool (aEE (ltF a b)))⟩
 |op=>nH op
theorem zbl(op:BinOp):q5f op=nH op:=by cases op<;>simp only[q5f,nH,zm8,z3p,z0m,z1w,z2g,z6v,z1o]
def z16(g:IntKind->Int->Int->R0)(x y:AV):R0:=
 @AV.rec (fun _=>R0) (fun _=>PUnit) R0.bad (fun _=>R0.bad) (fun _=>R0.bad) (fun k a=>@AV.rec (fun _=>R0) (fun _=>PUnit) R0.bad (fun _=>R0.bad) (fun _=>R0.bad) (fun k' b=>@Bool.rec (fun _=>R0) (R0.bad) (g k a b) (aKt k k')) (fun _ _=>R0.bad) (fun _ _=>R0.bad) R0.bad (fun _ _ _ _ _=>R0.bad) R0.bad R0.bad (fun _=>R0.bad) R0.bad (fun _ _ _ _ _=>R0.bad) (fun _=>R0.bad) R0.bad (fun _ _ _=>R0.bad) R0.bad (fun _ _=>R0.bad) (fun _ _=>R0.bad) PUnit.unit (fun _ _ _ _=>PUnit.unit) y) (fun _ _=>R0.bad) (fun _ _=>R0.bad) R0.bad (fun _ _ _ _ _=>R0.bad) R0.bad R0.bad (fun _=>R0.bad) R0.bad (fun _ _ _ _ _=>R0.bad) (fun _=>R0.bad) R0.bad (fun _ _ _=>R0.bad) R0.bad (fun _ _=>R0.bad) (fun _ _=>R0.bad) PUnit.unit (fun _ _ _ _=>PUnit.unit) x
theorem zta:z16=gY:=by funext g x y;cases x<;>first|rfl|(cases y<;>first|rfl|(simp only[z16,z2f,gY];generalize vO _ _=e;cases e<;>rfl))
def z5c(g:Nat->Nat->Nat->Nat->R0)(x y:AV):R0:=
 @AV.rec (fun _=>R0) (fun _=>PUnit) R0.bad (fun _=>R0.bad) (fun _=>R0.bad) (fun _ _=>R0.bad) (fun n a=>@AV.rec (fun _=>R0) (fun _=>PUnit) R0.bad (fun _=>R0.bad) (fun _=>R0.bad) (fun _ _=>R0.bad) (fun m b=>g n a m b) (fun _ _=>R0.bad) R0.bad (fun _ _ _ _ _=>R0.bad) R0.bad R0.bad (fun _=>R0.bad) R0.bad (fun _ _ _ _ _=>R0.bad) (fun _=>R0.bad) R0.bad (fun _ _ _=>R0.bad) R0.bad (fun _ _=>R0.bad) (fun _ _=>R0.bad) PUnit.unit (fun _ _ _ _=>PUnit.unit) y) (fun _ _=>R0.bad) R0.bad (fun _ _ _ _ _=>R0.bad) R0.bad R0.bad (fun _=>R0.bad) R0.bad (fun _ _ _ _ _=>R0.bad) (fun _=>R0.bad) R0.bad (fun _ _ _=>R0.bad) R0.bad (fun _ _=>R0.bad) (fun _ _=>R0.bad) PUnit.unit (fun _ _ _ _=>PUnit.unit) x
theorem zrm:z5c=fO:=by funext g x y;cases x<;>first|rfl|(cases y<;>rfl)
def zws(c a b:AV):R0:=
 @AV.rec (fun _=>R0) (fun _=>PUnit) R0.bad (fun _=>R0.bad) (fun x=>@Bool.rec (fun _=>R0) (.val b) (.val a) (x)) (fun _ _=>R0.bad) (fun _ _=>R0.bad) (fun _ _=>R0.bad) R0.bad (fun _ _ _ _ _=>R0.bad) R0.bad R0.bad (fun _=>R0.bad) R0.bad (fun _ _ _ _ _=>R0.bad) (fun _=>R0.bad) R0.bad (fun _ _ _=>R0.bad) R0.bad (fun _ _=>R0.bad) (fun _ _=>R0.bad) PUnit.unit (fun _ _ _ _=>PUnit.unit) c
theorem zj9:zws=eD:=by funext c a b;cases c<;>first|rfl|(rename_i x;cases x<;>rfl)
def aGV(P:Program)(op:BinOp)(t:TypeId):V2:=
 match P.underlying t with
 |some (.int _)=>
  match op with
  | .shl| .shr=>vM P op t
  |_=>match q5f op with|⟨g⟩=>⟨z16 g⟩
 |some .string=>match mJ op with|⟨g⟩=>⟨z5c g⟩
 |_=>vM P op t
theorem z3l(P:Program)(op:BinOp)(t:TypeId):aGV P op t=vM P op t:=by
 unfold aGV;split
 ·rename_i h;split
  ·rfl
  ·rfl
  ·rw[zbl,zta];unfold vM;rw[h];simp
 ·rename_i h;rw[zrm];unfold vM;rw[h]
 ·rfl
def zk5(H:Hp)(a:AV):R0:=
 @AV.rec (fun _=>R0) (fun _=>PUnit) R0.bad (fun _=>R0.bad) (fun _=>R0.bad) (fun _ _=>R0.bad) (fun _ _=>R0.bad) (fun b o=>@bO.rec (fun _=>R0) R0.bad (fun d n c _ _=>@Bool.rec (fun _=>R0) (R0.bad) (.val ((dJ d o).f c)) (Nat.blt o n)) (fun _ _=>R0.bad) (fun _ _ _=>R0.bad) (fun _ _ _ _ _ _ _ _=>R0.bad) (H.get b)) R0.bad (fun _ _ _ _ _=>R0.bad) R0.bad R0.bad (fun _=>R0.bad) R0.bad (fun _ _ _ _ _=>R0.bad) (fun _=>R0.bad) R0.bad (fun _ _ _=>R0.bad) R0.bad (fun _ _=>R0.bad) (fun _ _=>R0.bad) PUnit.unit (fun _ _ _ _=>PUnit.unit) a
theorem zk4:zk5=aT:=by
 funext H a;cases a<;>first|rfl|skip
 rename_i b o;show _=dK (H.get b) o;unfold zk5;simp only;generalize H.get b=k;cases k<;>first|rfl|skip
 rename_i d n c ro z;show @Bool.rec (fun _=>R0) _ _ (Nat.blt o n)=bif Nat.blt o n then _ else _;cases Nat.blt o n<;>rfl
def zk2(k:Nat)(H:Hp)(a:AV):R0:=
 @AV.rec (fun _=>R0) (fun _=>PUnit) R0.bad (fun _=>R0.bad) (fun _=>R0.bad) (fun _ _=>R0.bad) (fun _ _=>R0.bad) (fun b o=>@bO.rec (fun _=>R0) R0.bad (fun _ n c _ _=>@Bool.rec (fun _=>R0) (R0.bad) (.val (.agg (tF c k o))) (Nat.ble (Nat.add o k) n)) (fun _ _=>R0.bad) (fun _ _ _=>R0.bad) (fun _ _ _ _ _ _ _ _=>R0.bad) (H.get b)) R0.bad (fun _ _ _ _ _=>R0.bad) R0.bad R0.bad (fun _=>R0.bad) R0.bad (fun _ _ _ _ _=>R0.bad) (fun _=>R0.bad) R0.bad (fun _ _ _=>R0.bad) R0.bad (fun _ _=>R0.bad) (fun _ _=>R0.bad) PUnit.unit (fun _ _ _ _=>PUnit.unit) a
theorem zk1:zk2=dD:=by
 funext k H a;cases a<;>first|rfl|skip
 rename_i b o;show _=aCI (eB (H.get b) o k);unfold zk2;simp only;generalize H.get b=B;cases B<;>first|rfl|skip
 rename_i d n c ro z;show @Bool.rec (fun _=>R0) _ _ (Nat.ble (Nat.add o k) n)=aCI (bif Nat.ble (o+k) n then _ else _);cases Nat.ble (o+k) n<;>rfl
def aG9(x:AV):Bool:=
 @AV.rec (fun _=>Bool) (fun _=>PUnit) (false) (fun _=>false) (fun _=>true) (fun _ _=>true) (fun _ _=>true) (fun _ _=>true) true (fun _ _ _ _ _=>true) true true (fun _=>true) true (fun _ _ _ _ _=>true) (fun _=>true) true (fun _ _ _=>true) true (fun _ _=>false) (fun _ _=>false) PUnit.unit (fun _ _ _ _=>PUnit.unit) x
def aEz(H:Hp)(b o:Nat)(v:AV):R1:=@bO.rec (fun _=>R1) R1.bad (fun d n c ro z=>@Bool.rec (fun _=>R1) (@Bool.rec (fun _=>R1) (R1.bad) (.ok .undef (H.put b (.cells d n ((setter d o).f c v) false z))) (Nat.blt o n)) (R1.bad) (ro)) (fun _ _=>R1.bad) (fun _ _ _=>R1.bad) (fun _ _ _ _ _ _ _ _=>R1.bad) (H.get b)
theorem z0p(H:Hp)(b o:Nat)(v:AV):aEz H b o v=storeAt H b o [v] .undef:=by
 unfold aEz storeAt;generalize H.get b=k;cases k<;>first|rfl|skip
 rename_i d n c ro z;cases ro with
 |true=>rfl
 |false=>show @Bool.rec (fun _=>R1) _ _ (Nat.blt o n)=_;have:wH (.cells d n c false z) o [v]=bif Nat.blt o n then some (.cells d n ((setter d o).f c v) false z)else none:=rfl;rw[this];cases Nat.blt o n<;>rfl
def zi0(H:Hp)(a x:AV):R1:=@AV.rec (fun _=>R1) (fun _=>PUnit) R1.bad (fun _=>R1.bad) (fun _=>R1.bad) (fun _ _=>R1.bad) (fun _ _=>R1.bad) (fun b o=>@Bool.rec (fun _=>R1) (R1.bad) (aEz H b o x) (aG9 x)) R1.bad (fun _ _ _ _ _=>R1.bad) R1.bad R1.bad (fun _=>R1.bad) R1.bad (fun _ _ _ _ _=>R1.bad) (fun _=>R1.bad) R1.bad (fun _ _ _=>R1.bad) R1.bad (fun _ _=>R1.bad) (fun _ _=>R1.bad) PUnit.unit (fun _ _ _ _=>PUnit.unit) a
theorem zan:zi0=kL:=by
 funext H a x;cases a<;>first|rfl|skip
 rename_i b o;show @Bool.rec (fun _=>R1) _ (aEz H b o x) (aG9 x)=_;rw[z0p];cases x<;>rfl
def zl1(off:Nat)(x:AV):R0:=
 @AV.rec (fun _=>R0) (fun _=>PUnit) R0.bad (fun _=>R0.bad) (fun _=>R0.bad) (fun _ _=>R0.bad) (fun _ _=>R0.bad) (fun b o=>.val (.ptr b (Nat.add o off))) R0.bad (fun _ _ _ _ _=>R0.bad) R0.bad R0.bad (fun _=>R0.bad) R0.bad (fun _ _ _ _ _=>R0.bad) (fun _=>R0.bad) R0.bad (fun _ _ _=>R0.bad) R0.bad (fun _ _=>R0.bad) (fun _ _=>R0.bad) PUnit.unit (fun _ _ _ _=>PUnit.unit) x
theorem zbp:zl1=aP:=by funext off x;cases x<;>rfl
def zl0(p:P1)(off:Nat)(x:AV):R0:=
 @AV.rec (fun _=>R0) (fun _=>PUnit) R0.bad (fun _=>R0.bad) (fun _=>R0.bad) (fun _ _=>R0.bad) (fun _ _=>R0.bad) (fun _ _=>R0.bad) R0.bad (fun _ _ _ _ _=>R0.bad) R0.bad R0.bad (fun _=>R0.bad) R0.bad (fun _ _ _ _ _=>R0.bad) (fun _=>R0.bad) R0.bad (fun _ _ _=>R0.bad) R0.bad (fun l _=>@Option.rec AV (fun _=>R0) R0.bad (fun v=>.val v) (p.f l off)) (fun _ _=>R0.bad) PUnit.unit (fun _ _ _ _=>PUnit.unit) x
theorem zbo:zl0=q9l:=by
 funext p off x;cases x<;>first|rfl|skip
 rename_i l;show @Option.rec AV (fun _=>R0) _ _ (p.f l off)=match p.f l off with|some v=>.val v|none=>.bad
 cases p.f l off<;>rfl
def z7m(z:Nat)(x i:AV):R0:=
 @AV.rec (fun _=>R0) (fun _=>PUnit) R0.bad (fun _=>R0.bad) (fun _=>R0.bad) (fun _ _=>R0.bad) (fun _ _=>R0.bad) (fun _ _=>R0.bad) R0.bad (fun b o len _ _=>@AV.rec (fun _=>R0) (fun _=>PUnit) R0.bad (fun _=>R0.bad) (fun _=>R0.bad) (fun _ i=>@Int.rec (fun _=>R0) (fun i=>@Bool.rec (fun _=>R0) (R0.bad) (.val (.ptr b (Nat.add o (Nat.mul i z)))) (Nat.blt i len)) (fun _=>R0.bad) i) (fun _ _=>R0.bad) (fun _ _=>R0.bad) R0.bad (fun _ _ _ _ _=>R0.bad) R0.bad R0.bad (fun _=>R0.bad) R0.bad (fun _ _ _ _ _=>R0.bad) (fun _=>R0.bad) R0.bad (fun _ _ _=>R0.bad) R0.bad (fun _ _=>R0.bad) (fun _ _=>R0.bad) PUnit.unit (fun _ _ _ _=>PUnit.unit) i) R0.bad R0.bad (fun _=>R0.bad) R0.bad (fun _ _ _ _ _=>R0.bad) (fun _=>R0.bad) R0.bad (fun _ _ _=>R0.bad) R0.bad (fun _ _=>R0.bad) (fun _ _=>R0.bad) PUnit.unit (fun _ _ _ _=>PUnit.unit) x
theorem ztb:z7m=aH:=by
 funext z x i;cases x<;>first|rfl|skip
 rename_i b o len cap ex;cases i<;>first|rfl|skip
 rename_i k n;cases n<;>first|rfl|skip
 rename_i i;show @Bool.rec (fun _=>R0) _ _ (Nat.blt i len)=bif Nat.blt i len then _ else _;cases Nat.blt i len<;>rfl
def zlk(x i:AV):R0:=
 @AV.rec (fun _=>R0) (fun _=>PUnit) R0.bad (fun _=>R0.bad) (fun _=>R0.bad) (fun _ _=>R0.bad) (fun n a=>@AV.rec (fun _=>R0) (fun _=>PUnit) R0.bad (fun _=>R0.bad) (fun _=>R0.bad) (fun _ i=>@Int.rec (fun _=>R0) (fun i=>@Bool.rec (fun _=>R0) (R0.bad) (.val (.int .u8 (.ofNat (vC a i)))) (Nat.blt i n)) (fun _=>R0.bad) i) (fun _ _=>R0.bad) (fun _ _=>R0.bad) R0.bad (fun _ _ _ _ _=>R0.bad) R0.bad R0.bad (fun _=>R0.bad) R0.bad (fun _ _ _ _ _=>R0.bad) (fun _=>R0.bad) R0.bad (fun _ _ _=>R0.bad) R0.bad (fun _ _=>R0.bad) (fun _ _=>R0.bad) PUnit.unit (fun _ _ _ _=>PUnit.unit) i) (fun _ _=>R0.bad) R0.bad (fun _ _ _ _ _=>R0.bad) R0.bad R0.bad (fun _=>R0.bad) R0.bad (fun _ _ _ _ _=>R0.bad) (fun _=>R0.bad) R0.bad (fun _ _ _=>R0.bad) R0.bad (fun _ _=>R0.bad) (fun _ _=>R0.bad) PUnit.unit (fun _ _ _ _=>PUnit.unit) x
theorem zbm:zlk=qek:=by
 funext x i;cases x<;>first|rfl|skip
 rename_i n a;cases i<;>first|rfl|skip
 rename_i k m;cases m<;>first|rfl|skip
 rename_i i;show @Bool.rec (fun _=>R0) _ _ (Nat.blt i n)=bif Nat.blt i n then _ else _;cases Nat.blt i n<;>rfl
def z7e(x:AV):R0:=
 @AV.rec (fun _=>R0) (fun _=>PUnit) R0.bad (fun _=>R0.bad) (fun _=>R0.bad) (fun _ _=>R0.bad) (fun n _=>.val (i64 n)) (fun _ _=>R0.bad) R0.bad (fun _ _ _ _ _=>R0.bad) R0.bad R0.bad (fun _=>R0.bad) R0.bad (fun _ _ _ _ _=>R0.bad) (fun _=>R0.bad) R0.bad (fun _ _ _=>R0.bad) R0.bad (fun _ _=>R0.bad) (fun _ _=>R0.bad) PUnit.unit (fun _ _ _ _=>PUnit.unit) x
theorem zs5:z7e=oL:=by funext x;cases x<;>rfl
def zww(x:AV):R0:=
 @AV.rec (fun _=>R0) (fun _=>PUnit) R0.bad (fun _=>R0.bad) (fun _=>R0.bad) (fun _ _=>R0.bad) (fun _ _=>R0.bad) (fun _ _=>R0.bad) R0.bad (fun _ _ n _ _=>.val (i64 n)) (.val (i64 0)) (.val (i64 0)) (fun _=>R0.bad) R0.bad (fun _ _ _ _ _=>R0.bad) (fun _=>R0.bad) R0.bad (fun _ _ _=>R0.bad) R0.bad (fun _ _=>R0.bad) (fun _ _=>R0.bad) PUnit.unit (fun _ _ _ _=>PUnit.unit) x
theorem zla:zww=aD:=by funext x;cases x<;>rfl
def aNW(x:AV):R0:=
 @AV.rec (fun _=>R0) (fun _=>PUnit) R0.bad (fun _=>R0.bad) (fun _=>R0.bad) (fun _ _=>R0.bad) (fun _ _=>R0.bad) (fun b o=>.val (.ptr b o)) R0.bad (fun _ _ _ _ _=>R0.bad) R0.bad R0.bad (fun _=>R0.bad) R0.bad (fun a b c _ _=>.val (.fn a b c)) (fun l=>.val (.yield l)) R0.bad (fun _ _ _=>R0.bad) R0.bad (fun _ _=>R0.bad) (fun _ _=>R0.bad) PUnit.unit (fun _ _ _ _=>PUnit.unit) x
theorem z1r(x:AV):aNW x=(match x with| .ptr b o=>.val (.ptr b o)| .fn a b c=>.val (.fn a b c)| .yield l=>.val (.yield l)|_=>.bad):=by cases x<;>rfl
def aOH(i:Nat)(x:AV):R0:=
 @AV.rec (fun _=>R0) (fun _=>PUnit) R0.bad (fun _=>R0.bad) (fun _=>R0.bad) (fun _ _=>R0.bad) (fun _ _=>R0.bad) (fun _ _=>R0.bad) R0.bad (fun _ _ _ _ _=>R0.bad) R0.bad R0.bad (fun _=>R0.bad) R0.bad (fun _ _ _ _ _=>R0.bad) (fun _=>R0.bad) R0.bad (fun _ _ _=>R0.bad) R0.bad (fun _ _=>R0.bad) (fun l _=>@Option.rec AV (fun _=>R0) R0.bad (fun v=>.val v) l[i]?) PUnit.unit (fun _ _ _ _=>PUnit.unit) x
theorem z2e(i:Nat)(x:AV):aOH i x=(match x with| .aX l=>(match l[i]? with|some v=>.val v|none=>.bad)|_=>.bad):=by
 cases x<;>first|rfl|skip
 rename_i l;show @Option.rec AV (fun _=>R0) _ _ l[i]? =match l[i]? with|some v=>.val v|none=>.bad
 cases l[i]? <;>rfl
def z8x(nm:Nat)(x:AV):R0:=
 @Bool.rec (fun _=>R0) (R0.bad) (.new (.ptr nm 0) (.cells 1 1 (Q.mk x .undef .undef .undef .undef .undef .undef .undef:Q AV) false 0)) (aG9 x)
theorem zt8:z8x=jT:=by funext nm x;cases x<;>rfl
def opF(P:Program)(d n:Nat)(o:Oper):jI d:=
 match o.op with
 | .pick c a b=>match aG d n c,aG d n a,aG d n b with|⟨gc⟩,⟨ga⟩,⟨gb⟩=>.q false fun _ L _=>zws (gc L) (ga L) (gb L)
 | .box t x=>match p8 P t,gX P t,aG d n x with
  |some true,some k,⟨g⟩=>.q false fun nm L _=>pK k nm (g L)
  |some false,some _,⟨g⟩=>.q false fun nm L _=>z8x nm (g L)
  |_,_,_=>d9 d
 | .load t a=>match p8 P t,gX P t,aG d n a with
  |some true,some k,⟨g⟩=>.q true fun _ L H=>zk2 k H (g L)
  |some false,some _,⟨g⟩=>.q true fun _ L H=>zk5 H (g L)
  |_,_,_=>d9 d
 | .store t a x=>match p8 P t,gX P t,aG d n a,aG d n x with
  |some true,some k,⟨g⟩,⟨h⟩=>.e fun _ L H=>xV k H (g L) (h L)
  |some false,some 1,⟨g⟩,⟨h⟩=>.e fun _ L H=>zi0 H (g L) (h L)
  |_,_,_,_=>d9 d
 | .nilCheck x=>match aG d n x with|⟨g⟩=>.q false fun _ L _=>aNW (g L)
 | .binOp op t x y _=>match aGV P op t,aG d n x,aG d n y with
  |⟨e⟩,⟨g⟩,⟨h⟩=>.q false fun _ L _=>e (g L) (h L)
 | .fieldAddr s x f=>match P.underlying s,aG d n x with
  |some (.struct fs),⟨g⟩=>match fs[f]? with
   |some fl=>match gX P fl.type with
    |some (_+1)=>.q false fun _ L _=>zl1 fl.offset (g L)
    |_=>d9 d
   |none=>d9 d
  |_,_=>d9 d
 | .field t x f=>match P.underlying t,aG d n x with
  |some (.struct fs),⟨g⟩=>match fs[f]? with
   |some fl=>match qlq P fl.type with|p=>.q false fun _ L _=>zl0 p fl.offset (g L)
   |none=>d9 d
  |_,_=>d9 d
 | .indexAddr t x i=>match P.underlying t,aG d n x,aG d n i with
  |some (.slice e),⟨g⟩,⟨h⟩=>match gX P e with
   |some z=>.q false fun _ L _=>z7m z (g L) (h L)
   |none=>d9 d
  |_,_,_=>gZ P d n o
 | .index t x i=>match P.underlying t,aG d n x,aG d n i with
  |some .string,⟨g⟩,⟨h⟩=>.q false fun _ L _=>zlk (g L) (h L)
  |_,_,_=>gZ P d n o
 | .extract x i=>match aG d n x with|⟨g⟩=>.q false fun _ L _=>aOH i (g L)
 | .call {callee:=.builtin .len,args,argTypes}=>match args.toList,argTypes.toList with
  | [x],[t]=>match P.underlying t with
   |some .string=>match aG d n x with|⟨g⟩=>.q false fun _ L _=>z7e (g L)
   |some (.slice _)=>match aG d n x with|⟨g⟩=>.q false fun _ L _=>zww (g L)
   |_=>gZ P d n o
  |_,_=>gZ P d n o
 |_=>gZ P d n o
theorem z6i(P:Program)(d n:Nat)(o:Oper):opF P d n o=gZ P d n o:=by
 unfold opF;split
 ·rename_i h;simp only[gZ,h,z0v,zj9]
 ·rename_i h;simp only[gZ,h,aB3,zt8];rfl
 ·rename_i h;simp only[gZ,h,zjh,zk4,zk1];rfl
 ·rename_i h;simp only[gZ,h,qym,zan];rfl
 ·rename_i h;simp only[gZ,h,qom,z1r];rfl
 ·rename_i h;simp only[gZ,h,zji,z3l]
 ·rename_i h;simp only[gZ,h,qe4,zbp];rfl
 ·rename_i h;simp only[gZ,h,qyp,zbo];rfl
 ·rename_i h;simp only[gZ,h,ztb];unfold qe3;split<;>simp_all<;>rfl
 ·rename_i h;simp only[gZ,h,zbm];unfold qyo;split<;>simp_all
 ·rename_i h;simp only[gZ,h,qv1,z2e];rfl
 ·rename_i args types h;split
  ·rename_i x t h1 h2;split
   ·rename_i h3;simp only[gZ,h,qem,h1,h2,uY,h3,zs5]
   ·rename_i h3;simp only[gZ,h,qem,h1,h2,uY,h3,zla]
   ·rfl
  ·rfl
 ·rfl
def aF0{d:Nat}(put:TT AV d->AV->TT AV d)(L:TT AV d)(H:Hp)(r:R0):Rs d:=
 @R0.rec (fun _=>Rs d) .bad (fun v=>.ok (put L v) H) (fun v b=>.ok (put L v) (aO H b)) r
theorem z2q{d:Nat}:@aF0 d=doQ:=by funext put L H r;cases r<;>rfl
def aG1{d:Nat}(put:TT AV d->AV->TT AV d)(L:TT AV d)(r:R1):Rs d:=
 @R1.rec (fun _=>Rs d) .bad (fun v H=>.ok (put L v) H) r
theorem z2r{d:Nat}:@aG1 d=doE:=by funext put L r;cases r<;>rfl
def zw9{d:Nat}(r:Rs d)(k:TT AV d->Hp->Rs d):Rs d:=
 @Rs.rec d (fun _=>Rs d) .bad k r
theorem zm6{d:Nat}:@zw9 d=zcd:=by funext r k;cases r<;>rfl
def zlm{d:Nat}(want:Bool)(x:AV)(a b:Rs d):Rs d:=
 @AV.rec (fun _=>Rs d) (fun _=>PUnit) (b) (fun _=>.bad) (fun v=>@Bool.rec (fun _=>Rs d) (@Bool.rec (fun _=>Rs d) (a) (b) (want)) (@Bool.rec (fun _=>Rs d) (b) (a) (want)) (v)) (fun _ _=>.bad) (fun _ _=>.bad) (fun _ _=>.bad) .bad (fun _ _ _ _ _=>.bad) .bad .bad (fun _=>.bad) .bad (fun _ _ _ _ _=>.bad) (fun _=>.bad) .bad (fun _ _ _=>.bad) .bad (fun _ _=>.bad) (fun _ _=>.bad) PUnit.unit (fun _ _ _ _=>PUnit.unit) x
theorem qzr{d:Nat}(want:Bool)(x:AV)(a b:Rs d):zlm want x a b=ifW (match x with| .bool b=>some (b==want)| .undef=>some false|_=>none) a b:=by
 cases x<;>first|rfl|skip
 rename_i v;cases v<;>cases want<;>rfl
def z0n(P:Program)(d n:Nat)(ops:Array Oper)(o:Oper):St d:=
 match opF P d n o,o.guard,dW d n o.dst with
 | .q _ f,none,⟨put⟩=>⟨fun _ L H=>aF0 put L H (f H.nx L H)⟩
 | .e f,none,⟨put⟩=>⟨fun O L H=>aG1 put L (f O L H)⟩
 | .q _ f,some (j,want),⟨put⟩=>match(ops[j]?).bind (·.dst)with
  |some t=>bif Nat.blt t n then(match dJ (α:=AV) d t with|⟨g⟩=>⟨fun _ L H=>zlm want (g L) (aF0 put L H (f H.nx L H)) (.ok (put L .undef) H)⟩)else xY P d n ops o
  |none=>xY P d n ops o
 | .e f,some (j,want),⟨put⟩=>match(ops[j]?).bind (·.dst)with
  |some t=>bif Nat.blt t n then(match dJ (α:=AV) d t with|⟨g⟩=>⟨fun O L H=>zlm want (g L) (aG1 put L (f O L H)) (.ok (put L .undef) H)⟩)else xY P d n ops o
  |none=>xY P d n ops o
theorem zro(P:Program)(d n:Nat)(ops:Array Oper)(o:Oper):z0n P d n ops o=xY P d n ops o:=by
 unfold z0n;rw[z6i,z2q,z2r];split
 ·rename_i f put h1 h2 h3;unfold xY;rw[h1,h2,h3]
 ·rename_i f put h1 h2 h3;unfold xY;rw[h1,h2,h3]
 ·rename_i f j want put h1 h2 h3;split
  ·rename_i t ht;cases hb:Nat.blt t n with
   |false=>rfl
   |true=>unfold xY r9;rw[h1,h2,h3];simp only[ht,hb,qy,qzr];rfl
  ·rfl
 ·rename_i f j want put h1 h2 h3;split
  ·rename_i t ht;cases hb:Nat.blt t n with
   |false=>rfl
   |true=>unfold xY r9;rw[h1,h2,h3];simp only[ht,hb,qy,qzr];rfl
  ·rfl
def q7p(P:Program)(d n:Nat)(ops:Array Oper)(o:Oper):St d:=
 match yJ o with
 |none=>z0n P d n ops o
 |some _=>qjb P d n ops o
theorem qya(P:Program)(d n:Nat)(ops:Array Oper)(o:Oper):q7p P d n ops o=qjb P d n ops o:=by
 unfold q7p;split
 ·rename_i h;rw[zro];unfold qjb;rw[h]
 ·rfl
def aA4(P:Program)(d n:Nat)(ops:Array Oper):List Oper->St d
 | []=>⟨fun _ L H=>.ok L H⟩
 | [o]=>q7p P d n ops o
 |o::r=>⟨fun O L H=>zw9 ((q7p P d n ops o).f O L H) ((aA4 P d n ops r).f O)⟩
theorem q46(P:Program)(d n:Nat)(ops:Array Oper):∀ l,aA4 P d n ops l=pY P d n ops l
 | []=>rfl
 | [o]=>by
  simp only[aA4,pY,qya];generalize qjb P d n ops o=s;cases s with
  |mk f=>congr 1;funext O L H;show f O L H=zcd (f O L H) fun L H=>.ok L H;cases f O L H<;>rfl
 |o::o'::r=>by simp only[aA4,zm6,qya];rw[q46 P d n ops (o'::r)];rfl
def z1m{d:Nat}(r:Rs d):Rc d:=
 @Rs.rec d (fun _=>Rc d) .bad (fun L H=>.ok .normal L H) r
theorem q8p{d:Nat}:@z1m d=mR:=by funext r;cases r<;>rfl
def z0u{d:Nat}(r:Rs d)(k:TT AV d->Hp->Rc d):Rc d:=
 @Rs.rec d (fun _=>Rc d) .bad k r
theorem q7w{d:Nat}(r:Rs d)(k:TT AV d->Hp->Rc d):z0u r k=rA (mR r) k:=by cases r<;>rfl
def zrx{d:Nat}(r:Rc d)(k:TT AV d->Hp->Rc d):Rc d:=
 @Rc.rec d (fun _=>Rc d) .bad (fun e L H=>@Ex.rec (fun _=>Rc d) (k L H) (fun id=>.ok (.exit id) L H) (fun l=>.ok (.goto l) L H) (.ok .ret L H) e) r
theorem qci{d:Nat}:@zrx d=rA:=by funext r k;cases r<;>first|rfl|(rename_i e L H;cases e<;>rfl)
def zm5{d:Nat}(id:Nat)(r:Rc d):Rc d:=
 @Rc.rec d (fun _=>Rc d) .bad (fun e L H=>@Ex.rec (fun _=>Rc d) (.ok .normal L H) (fun id'=>@Bool.rec (fun _=>Rc d) (.ok (.exit id') L H) (.ok .normal L H) (Nat.beq id' id)) (fun l=>.ok (.goto l) L H) (.ok .ret L H) e) r
theorem zcc{d:Nat}:@zm5 d=qtb:=by
 funext id r;cases r<;>first|rfl|skip
 rename_i e L H;cases e<;>first|rfl|skip
 rename_i id';show @Bool.rec (fun _=>Rc d) _ _ (Nat.beq id' id)=bif Nat.beq id' id then _ else _;cases Nat.beq id' id<;>rfl
def zw7{d:Nat}(c:AV)(a b:Rc d):Rc d:=
 @AV.rec (fun _=>Rc d) (fun _=>PUnit) .bad (fun _=>.bad) (fun x=>@Bool.rec (fun _=>Rc d) (b) (a) (x)) (fun _ _=>.bad) (fun _ _=>.bad) (fun _ _=>.bad) .bad (fun _ _ _ _ _=>.bad) .bad .bad (fun _=>.bad) .bad (fun _ _ _ _ _=>.bad) (fun _=>.bad) .bad (fun _ _ _=>.bad) .bad (fun _ _=>.bad) (fun _ _=>.bad) PUnit.unit (fun _ _ _ _=>PUnit.unit) c
theorem zmr{d:Nat}:@zw7 d=condC:=by funext c a b;cases c<;>first|rfl|(rename_i x;cases x<;>rfl)
def zky{d:Nat}(b:TT AV d->Hp->Rc d)(n:Nat):TT AV d->Hp->Rc d:=
 Nat.rec (motive:=fun _=>TT AV d->Hp->Rc d) (fun _ _=>.bad) (fun _ ih L H=>zrx (b L H) ih) n
theorem zkx{d:Nat}:@zky d=qqd:=by
 funext b n
 induction n with
 |zero=>rfl
 |succ n ih=>funext L H;show zrx (b L H) (zky b n)=rA (b L H) (qqd b n);rw[qci,ih]
def eU(P:Program)(d n:Nat):Code->Dn d
 | .skip| .label _=>⟨fun _ L H=>.ok .normal L H⟩
 | .region _ ops false=>match aA4 P d n ops ops.toList with|⟨g⟩=>⟨fun O L H=>z1m (g O L H)⟩
 | .region _ ops true=>match qls P d n ops with|⟨g⟩=>⟨fun O L H=>z1m (g O L H)⟩
 | .seq (.region _ ops false) b=>match aA4 P d n ops ops.toList with|⟨g⟩=>⟨fun O L H=>z0u (g O L H) ((eU P d n b).f O)⟩
 | .seq (.region _ ops true) b=>match qls P d n ops with|⟨g⟩=>⟨fun O L H=>z0u (g O L H) ((eU P d n b).f O)⟩
 | .seq a b=>⟨fun O L H=>zrx ((eU P d n a).f O L H) ((eU P d n b).f O)⟩
 | .cond x a b=>match aG d n x with|⟨g⟩=>⟨fun O L H=>zw7 (g L) ((eU P d n a).f O L H) ((eU P d n b).f O L H)⟩
 | .block id b=>⟨fun O L H=>zm5 id ((eU P d n b).f O L H)⟩
 | .loop b=>⟨fun O L H=>zky ((eU P d n b).f O) bX L H⟩
 | .scope b=>eU P d n b
 | .exit id=>⟨fun _ L H=>.ok (.exit id) L H⟩
 | .goto _=>⟨fun _ _ _=>.bad⟩
 | .ret=>⟨fun _ L H=>.ok .ret L H⟩
 | .rangeFunc f ps assign body=>den P d n (.rangeFunc f ps assign body)
 | .refuse _=>⟨fun _ _ _=>.bad⟩
theorem mQ(P:Program)(d n:Nat):∀ c,eU P d n c=den P d n c
 | .skip| .label _=>rfl
 | .region _ ops false=>by simp only[eU,q46,q8p,den]
 | .region _ ops true=>by simp only[eU,q8p,den]
 | .seq (.region _ ops false) b=>by simp only[eU,q46,q7w,den,mQ P d n b]
 | .seq (.region _ ops true) b=>by simp only[eU,q7w,den,mQ P d n b]
 | .seq .skip b=>by simp only[eU,qci,den,mQ P d n b]
 | .seq (.label _) b=>by simp only[eU,qci,den,mQ P d n b]
 | .seq (.seq x y) b=>by rw[eU,den,qci,mQ P d n (.seq x y),mQ P d n b]<;>simp
 | .seq (.cond x y z) b=>by rw[eU,den,qci,mQ P d n (.cond x y z),mQ P d n b]<;>simp
 | .seq (.block x y) b=>by rw[eU,den,qci,mQ P d n (.block x y),mQ P d n b]<;>simp
 | .seq (.loop x) b=>by rw[eU,den,qci,mQ P d n (.loop x),mQ P d n b]<;>simp
 | .seq (.scope x) b=>by rw[eU,den,qci,mQ P d n (.scope x),mQ P d n b]<;>simp
 | .seq (.exit x) b=>by rw[eU,den,qci,mQ P d n (.exit x),mQ P d n b]<;>simp
 | .seq (.goto x) b=>by rw[eU,den,qci,mQ P d n (.goto x),mQ P d n b]<;>simp
 | .seq .ret b=>by rw[eU,den,qci,mQ P d n .ret,mQ P d n b]<;>simp
 | .seq (.rangeFunc x y z t) b=>by rw[eU,den,qci,mQ P d n (.rangeFunc x y z t),mQ P d n b]<;>simp
 | .seq (.refuse x) b=>by rw[eU,den,qci,mQ P d n (.refuse x),mQ P d n b]<;>simp
 | .cond x a b=>by simp only[eU,zmr,den,mQ P d n a,mQ P d n b]
 | .block id b=>by simp only[eU,zcc,den,mQ P d n b]
 | .loop b=>by simp only[eU,zkx,den,mQ P d n b]
 | .scope b=>by simp only[eU,den,mQ P d n b]
 | .exit id| .goto _| .ret| .refuse _=>rfl
 | .rangeFunc f ps assign body=>by simp only[eU]
def za6{d:Nat}(n:Nat)(O:Call)(res:TT AV d->Hp->Option AV)(L:TT AV d)(H:Hp):R1:=@Option.rec Hp (fun _=>R1) .bad (fun H'=>@Option.rec AV (fun _=>R1) .bad (fun v=>.ok v H') (res L H')) (aAK O (dl ((dJ d n).f L)) H)
theorem q8k{d:Nat}:@za6 d=iE:=by
 funext n O res L H;unfold za6 iE;cases aAK O (dl ((dJ d n).f L)) H with
 |none=>rfl
 |some H'=>show @Option.rec AV (fun _=>R1) _ _ (res L H')=fJ (res L H') H';cases res L H'<;>rfl
def z5m{d:Nat}(n:Nat)(O:Call)(res:TT AV d->Hp->Option AV)(r:Rc d):R1:=@Rc.rec d (fun _=>R1) .bad (fun e L H=>@Ex.rec (fun _=>R1) (za6 n O res L H) (fun _=>.bad) (fun _=>.bad) (za6 n O res L H) e) r
theorem zr1{d:Nat}:@z5m d=aCO:=by
 funext n O res r;cases r<;>first|rfl|skip
 rename_i e L H;cases e<;>first|rfl|skip
 ·show za6 n O res L H=iE n O res L H;rw[q8k]
 ·show za6 n O res L H=iE n O res L H;rw[q8k]
def uP(P:Program)(f:FuncId):Fd:=
 match P.funcs[f]? with
 |none=>⟨fun _ _ _=>.bad⟩
 |some fn=>if fn.name == "runtime.NumGoroutine" then⟨fun _ _ _=> .bad⟩else match fn.body with
  |none=>⟨fun _ _ _=>.bad⟩
  |some c=>match qcj P (iO (fn.ntmps+1)) fn.ntmps fn.results.toList,eU P (iO (fn.ntmps+1)) fn.ntmps c,Nat.ble (fn.ntmps+1) 262144 with
   |⟨res⟩,⟨dn⟩,true=>⟨fun O args H=>bif Nat.ble args.length fn.ntmps then z5m fn.ntmps O res (dn O (nV args 0 (same .undef _)) H)else .bad⟩
   |_,_,false=>⟨fun _ _ _=>.bad⟩
theorem q5i(P:Program)(f:FuncId):uP P f=aM P f:=by
 unfold uP aM;split
 ·simp_all
 ·rename_i fn h;rw[h];simp only;split
  ·rfl
  ·split
   ·simp_all
   ·rename_i c hb;rw[hb];simp only[mQ,zr1];cases hn:Nat.ble (fn.ntmps+1) 262144 with
    |true=>simp
    |false=>simp
def qxy(P:Program)(O:Call)(l:Nat)(args:List AV)(H:Hp):R1:=
 match H.get l with
 | .loop true none d n L ps assign body=>
  bif Nat.beq ps.length args.length&&ps.all (fun p=>Nat.blt p n)then
   match(eU P d n assign).f O (yH ((setter d n).f L .undef) ps args) H with
   | .ok .normal L1 H1=>match H1.get l with
    | .loop true none d' n' L' ps' oC body'=>endRound l ((eU P d n body).f O L1 (H1.put l (.loop false none d' n' L' ps' oC body')))
    |_=>.bad
   |_=>.bad
  else .bad
 |_=>.bad
theorem qxx(P:Program)(O:Call):qxy P O=qez P O:=by funext l args H;unfold qxy qez;simp only[mQ];rfl
abbrev Ext:=FuncId->List AV->Hp->Option R1
def gQ(P:Program)(ext:Ext)(n:Nat):Call:=
 Nat.rec (motive:=fun _=>Call) (fun _ _ _=>.bad) (fun _ ih c args H=>@Cl.rec (fun _=>R1) (fun f=>@Option.rec R1 (fun _=>R1) ((uP P f).f ih args H) (fun r=>r) (ext f args H)) (fun l=>qxy P ih l args H) (fun f=>@Bool.rec (fun _=>R1) .bad ((uP P f).f ih args H) (qox P f)) c) n
def zsr:Ext:=fun _ _ _=>none
end Go.Ev
end
noncomputable section
namespace Go.Ev
open Go.RowKit
variable {P:Program} {w:World} {ι:Im} {H:Hp}
structure wX(P:Program)(ext:Ext):Prop where
 fn:∀ f args H r,ext f args H=some r->∀ v H',r=.ok v H'->∀ ι w bB,HR ι H w->aI ι args bB ->
  (callFunc f bB.toArray).run P w=.ok (.enter f bB.toArray) w/\∀ m,CallsIn Fence.wide m P f bB.toArray w (Post ι H w v H')
theorem qwh:wX P zsr:=⟨fun _ _ _ _ h=>by cases h⟩
theorem qjv(hm:P.follows .mixedOrders=true){ext:Ext}(hE:wX P ext):∀ k,qeo P (gQ P ext k)
 |0=>⟨(fun f args H v H' h=>by cases h),(fun b args H v H' h=>by cases h),(fun b args H v H' h=>by cases h)⟩
 |k+1=>by
  have ih:=qjv hm hE k;refine⟨fun f args H v H' h ι w bB hH ha=>?_,fun b args H v H' h ι w bB loc hH ha hl=>?_,fun f args H v H' h ι w bB hH ha=>?_⟩
  ·have h':@Option.rec R1 (fun _=>R1) ((uP P f).f (gQ P ext k) args H) (fun r=>r) (ext f args H)=.ok v H':=h;cases he:ext f args H with
   |none=>rw[he]at h';rw[q5i]at h';exact z2c ih hm h' hH ha
   |some r=>rw[he]at h';exact hE.fn f args H r he v H' h' ι w bB hH ha
  ·have h':qxy P (gQ P ext k) b args H=.ok v H':=h;rw[qxx]at h';exact zij ih hm h' hH ha hl
  ·have h':@Bool.rec (fun _=>R1) .bad ((uP P f).f (gQ P ext k) args H) (qox P f)=.ok v H':=h;cases hp:qox P f with
   |false=>rw[hp]at h';cases h'
   |true=>rw[hp]at h';rw[q5i]at h';exact z2d ih hm h' hp hH ha
theorem HR.of_below(h:HR ι H w){w':World}(hb:Below w.heap.size w w'):HR ι H w'/\Fr ι ι H H w w':=by
 have keep:∀ c,c<w.heap.size->w'.heap[c]? =w.heap[c]? :=hb.block;refine⟨⟨h.top,fun b hb'=>(h.blk b hb').keep fun l hd hl=>keep _ (h.low b l hb' hd hl),fun b l hb' h1 h2=>lL (h.low b l hb' h1 h2) hb.size,h.inj,h.fresh,h.free⟩,
  ⟨Im.le_refl _,lg _,fun b h1 h2=>absurd h1 h2,hb.os,hb.tape,hb.output,hb.size,fun c hc _=>keep c hc,fun b l hb h1 h2=>.inr ⟨b,l,hb,h1,h2,rfl⟩,fun b l hb h1 h2=>.inr ⟨b,l,hb,h1,h2,rfl⟩⟩⟩
def Yes(P:Program)(f:FuncId):Prop:=∀ w,Calls P f #[] w fun e w'=>e=.returned (.bool true)/\Below w.heap.size w w'
def qfq(P:Program)(f:FuncId):Bool:=
 match P.funcs[f]? with
 |some fn=>fn.body.isSome&& !(fn.name == "runtime.NumGoroutine")
 |none=>false
def qxz(tbl:List FuncId):Ext:=fun f args H=>
 match args with
 | []=>bif tbl.any (Nat.beq f)then some (.ok (.bool true) H)else none
 |_=>none
theorem zik{tbl:List FuncId}(h:∀ f∈tbl,Yes P f)(hb:tbl.all (qfq P)=true):wX P (qxz tbl):=by
 refine⟨fun f args H r he v H' hr ι w bB hH ha=>?_⟩;unfold qxz at he;split at he
 ·cases hc:tbl.any (Nat.beq f)with
  |false=>rw[hc]at he;cases he
  |true=>
   rw[hc]at he;simp only[qy,qh]at he;subst he;cases hr;subst ha;obtain⟨g,hg,e⟩:=ag.1 hc;have e:=rf e;subst e;have hbf:=yc.1 hb f hg;unfold qfq at hbf;split at hbf
   ·rename_i fn hfn;simp only[pq,xe]at hbf;refine⟨?_,fun m=>callsIn_wide.2 ((h f hg w).mono fun e w' hp=>?_)⟩
    ·obtain⟨c,hc'⟩:=lAJ.1 hbf.1
     have hname':¬ fn.name = "runtime.NumGoroutine" :=fun e=>by rw[e]at hbf;simp at hbf
     simp[callFunc,hfn,hname',hc']
    ·obtain⟨rfl,hw⟩:=hp;obtain⟨k1,k2⟩:=hH.of_below hw;exact⟨ι,by simp only[aL],k1,k2⟩
   ·cases hbf
 ·cases he
theorem zab(hm:P.follows .mixedOrders=true){ext:Ext}(hE:wX P ext){k:Nat}{f:FuncId}(h:qsy (gQ P ext k (.f f) [] Hp.empty)=true):Yes P f:=by
 intro w;unfold qsy at h;split at h
 ·rename_i b H' he;subst h;have:=((qjv hm hE k).fn _ _ _ _ _ he (fun _=>none) w [] HR.empty (by simp[aI])).2 0;refine(callsIn_wide.1 this).mono fun e w' hp=>?_;cases e with
  |returned V=>obtain⟨ι',h1,h2,h3⟩:=hp;exact⟨by rw[h1],h3.below _ (lg _) fun b l _ _ h=>by cases h⟩
  |panicked=>exact hp.elim
  |outgrown=>exact hp.elim
 ·cases h
end Go.Ev
end
