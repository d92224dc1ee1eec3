/-
 For TablesOf: the evaluator and its soundness, part 3 of 4: what a run of the abstract evaluator answers, the model's run answers, in every world and on every schedule. No conditions beyond those that each theorem states.
-/
import Derived.Test.YtlanjbacddlobaaGreatEv2
import Derived.LoopNIn
import Derived.Scope
import Derived.RangeFuncRecord
import Derived.ChangeSame
import Derived.Test.YtlanjbacddlobaaGreatEv1
noncomputable section
namespace Go.Ev
open Go.RowKit
structure CS(d:Nat) where
 L:TT AV d
 H:Hp
 pend:List Pd
 jJ:List Wt
variable {P:Program} {d n:Nat} {O:Call} {base:Nat} {ops:Array Oper} {ms:List Nat}
theorem qvo:∀(a:List Nat) (s:CS d) {b:TT AV d} {c:Hp} {e:List Pd} {w':List Wt},(uO P d n ops ms a).f O base s.L s.H s.pend s.jJ=.ok b c e w' -> ∃st:Nat->CS d,st 0=s/\st a.length=⟨b,c,e,w'⟩/\∀ q i,a[q]? =some i->∃ o,ops[i]? =some o /\ (q1l P d n ops i (ms.getD i 0) o).f O base (st q).L (st q).H (st q).pend (st q).jJ=.ok (st (q+1)).L (st (q+1)).H (st (q+1)).pend (st (q+1)).jJ
 | [],s,b,c,e,w',h=>by cases h;exact⟨fun _=>s,rfl,rfl,fun q i f=>by simp at f⟩
 |i::r,s,b,c,e,w',h=>by
  unfold uO at h;split at h
  ·rename_i o l;simp only[xav]at h;split at h
   ·cases h
   ·rename_i L1 H1 p1 w1 m;obtain⟨st,p,g,k⟩:=qvo r ⟨L1,H1,p1,w1⟩ h;refine⟨fun q=>match q with|0=>s|q+1=>st q,rfl,g,fun q j f=>?_⟩;cases q with
    |zero=>simp_all
    |succ q=>simp at f;exact k q j f
  ·cases h
inductive qlq(P:Program)(d n:Nat)(O:Call)(base:Nat)(ops:Array Oper)(i A:Nat)(o:Oper)(s s':CS d):AV->Option bX->Bool->Prop
 |skip:(uL d n ops o).f ((nU d n (lQ ops o)).f s.L)=some false->s'=⟨(eB d n o.dst).f s.L .undef,s.H,s.pend,s.jJ⟩->qlq P d n O base ops i A o s s' .undef none false
 |val (lk:Bool) (f:Nat->TT AV d->Hp->R0) (v:AV):iG P d n o=.q lk f->(uL d n ops o).f ((nU d n (lQ ops o)).f s.L)=some true ->
   f (base+i) ((nU d n (lQ ops o)).f s.L) (fI A s.pend s.H)=.val v ->
   s'=⟨(eB d n o.dst).f s.L v,s.H,s.pend,bif lk then⟨i,A,f (base+i) ((nU d n (lQ ops o)).f s.L),v⟩::s.jJ else s.jJ⟩->qlq P d n O base ops i A o s s' v none false
 |new (f:Nat->TT AV d->Hp->R0) (v:AV) (b:bX):iG P d n o=.q false f->qha o.op=true->b.wr=true->(uL d n ops o).f ((nU d n (lQ ops o)).f s.L)=some true ->
   f (base+i) ((nU d n (lQ ops o)).f s.L) (fI A s.pend s.H)=.new v b ->
   s'=⟨(eB d n o.dst).f s.L v,s.H,⟨i,base+i,b⟩::s.pend,s.jJ⟩->qlq P d n O base ops i A o s s' v (some b) false
 |mM (f:Call->TT AV d->Hp->R1) (v:AV) (H':Hp):iG P d n o=.e f->(uL d n ops o).f ((nU d n (lQ ops o)).f s.L)=some true ->
   f O ((nU d n (lQ ops o)).f s.L) (fI A s.pend s.H)=.ok v H'->qjl (qT A s.pend) H' (qV A s.jJ)=true ->
   s'=⟨(eB d n o.dst).f s.L v,H',qT A s.pend,qV A s.jJ⟩->qlq P d n O base ops i A o s s' v none true
theorem zw7{i A:Nat}{o:Oper}{s a:CS d}(h:(q1l P d n ops i A o).f O base s.L s.H s.pend s.jJ=.ok a.L a.H a.pend a.jJ):∃v b k,qlq P d n O base ops i A o s a v b k:=by
 unfold q1l at h;split at h
 ·rename_i C f x w j q y z B;simp only at h;unfold qX at h;have c:(nU d n (lQ ops o)).f=x:=by rw[y]
  have l:(uL d n ops o).f=w:=by rw[z]
  have m:(eB d n o.dst).f=j:=by rw[B]
  split at h
  ·cases h
  ·rename_i e;obtain⟨r,t,u,w'⟩:=a;cases h;exact⟨_,_,_,.skip (by rw[c,l];exact e) (by rw[m])⟩
  ·rename_i e;split at h
   ·cases h
   ·rename_i v p;obtain⟨r,t,u,w'⟩:=a;cases h;exact⟨_,_,_,.val C f v q (by rw[c,l];exact e) (by rw[c];exact p) (by rw[m,c];rfl)⟩
   ·rename_i v b p;cases g:(qha o.op&& !C&&b.wr)with
    |false=>rw[g]at h;cases h
    |true=>rw[g]at h;simp only[lI0,lOC]at g;obtain⟨⟨D,E⟩,F⟩:=g;subst E;obtain⟨r,t,u,w'⟩:=a;cases h;exact⟨_,_,_,.new f v b q D F (by rw[c,l];exact e) (by rw[c];exact p) (by rw[m])⟩
 ·rename_i f x w j q y z B;simp only at h;unfold eX at h;have c:(nU d n (lQ ops o)).f=x:=by rw[y]
  have l:(uL d n ops o).f=w:=by rw[z]
  have m:(eB d n o.dst).f=j:=by rw[B]
  split at h
  ·cases h
  ·rename_i e;obtain⟨r,t,u,w'⟩:=a;cases h;exact⟨_,_,_,.skip (by rw[c,l];exact e) (by rw[m])⟩
  ·rename_i e;split at h
   ·cases h
   ·rename_i v H1 p;cases g:qjl (qT A s.pend) H1 (qV A s.jJ)with
    |false=>rw[g]at h;cases h
    |true=>rw[g]at h;simp only[lII]at h;obtain⟨r,t,u,w'⟩:=a;simp only[Rx.ok.injEq]at h;obtain⟨g1,g2,g3,g4⟩:=h;subst g1;subst g2;subst g3;subst g4;exact⟨_,_,_,.mM f v _ q (by rw[c,l];exact e) (by rw[c];exact p) g (by rw[m])⟩
theorem q3c(l:List Oper):∀(k i:Nat) (o:Oper),l[i]? =some o->(qvw P d n ms k l)[i]? =some (Kd.mk (k+i) (ms.getD (k+i) 0) (isE (iG P d n o)) (aEW (iG P d n o))):=by
 induction l with
 |nil=>intro k i o h;simp at h
 |cons o' r ih=>
  intro k i o h;cases i with
  |zero=>simp at h;subst h;simp[qvw]
  |succ i=>simp only[qvw,lU3];rw[ih (k+1) i o h,show k+1+i=k+(i+1)by omega]
theorem q2l{ks:List Kd}:∀(l:List Nat) (D E:Nat),q2m ops ks D E l=true->∀ q i,l[q]? =some i->∃ o k,ops[i]? =some o/\ks[i]? =some k /\ (∀j∈xN o,hasB D j=true\/j∈l.take q)/\hasB D i=false/\i∉l.take q /\ ((k.mM=true\/k.lk=true)->∀ e,(hasB E e=true\/(e∈l.take q/\∃ m,ks[e]? =some m/\m.mM=true))->hasB k.A e=true)
 | [],D,E,h,q,i,hq=>by simp at hq
 |i'::r,D,E,h,q,i,hq=>by
  unfold q2m at h;split at h
  ·rename_i o k u s;simp only[lI0,lOQ,lOC,lUC]at h;obtain⟨⟨⟨v,w⟩,d⟩,x⟩:=h;cases q with
   |zero=>
    simp at hq;subst hq;refine⟨o,k,u,s,fun j g=>.inl (v j g),w,by simp,fun p e a=>?_⟩;have t:aB6 E k.A=true:=by
     rcases d with d|d
     ·simp_all
     ·exact d
    rcases a with a|a
    ·exact zw3 t a
    ·simp at a
   |succ q=>
    obtain⟨y,z,A,B,C,f,F,G⟩:=q2l r _ _ x q i hq;rw[qf9]at f;simp only[lXD,lOG]at f;refine⟨y,z,A,B,fun j g=>?_,f.1,?_,fun p e a=>G p e ?_⟩
    ·rcases C j g with b|b
     ·rw[qf9]at b;simp only[lUC,lO8]at b;rcases b with b|b
      ·exact .inl b
      ·simp_all
     ·simp_all
    ·simp only[lUP,lI8,not_or];exact⟨fun e=>f.2 e.symm,F⟩
    ·rcases a with a|⟨a,m,c,n⟩
     ·left;cases k.mM with
      |true=>simp only[lII];rw[qf9,a];rfl
      |false=>exact a
     ·simp only[lUP,lI8]at a;rcases a with rfl|a
      ·left;rw[s]at c;cases c;rw[n];simp only[lII];rw[qf9];simp
      ·simp_all
  ·cases h
theorem qzb:∀(m:Nat) (l:List Nat),l.Nodup->(∀x∈l,x<m)->l.length<=m
 |0,l,_,h=>by
  cases l with
  |nil=>simp
  |cons a l=>have:=h a (by simp);omega
 |m+1,l,hn,h=>by
  by_cases d:m∈l
  ·have c:=qzb m (l.erase m) (hn.erase m) fun x b=>by
    have:=(hn.mem_erase_iff).1 b;have:=h x this.2;omega
   simp_all
  ·have:=qzb m l hn fun x b=>by
    have c:=h x b;have:x≠m:=fun e=>d (e▸b);omega
   omega
structure Can(P:Program)(d n:Nat)(O:Call)(base:Nat)(ops:Array Oper)(ms:List Nat)(st:Nat->CS d)(pos:Nat->Nat)(V:Nat->AV)(B:Nat->Option bX)(K:Nat->Bool):Prop where
 edg:Edg ops ms
 plt:∀ i,i<ops.size->pos i<ops.size
 inj:∀ i j,i<ops.size->j<ops.size->pos i=pos j->i=j
 bA0:∀ q,q<ops.size->∃ i,i<ops.size/\pos i=q
 step:∀ i o,ops[i]? =some o->qlq P d n O base ops i (ms.getD i 0) o (st (pos i)) (st (pos i+1)) (V i) (B i) (K i)
 edge:∀ i o,ops[i]? =some o->∀ j∈xN o,pos j<pos i
 mM:∀ i o e oe,ops[i]? =some o->ops[e]? =some oe->isE (iG P d n oe)=true->(isE (iG P d n o)=true\/aEW (iG P d n o)=true)->pos e<pos i->hasB (ms.getD i 0) e=true
theorem Can.of{pl:Pln}(r:q8f P d n ops=some pl){s:CS d}{U:TT AV d}{W:Hp}{X:List Pd}{w':List Wt}(h:(uO P d n ops pl.ms pl.ord).f O base s.L s.H s.pend s.jJ=.ok U W X w'):∃st pos V B K,Can P d n O base ops pl.ms st pos V B K/\st 0=s/\st ops.size=⟨U,W,X,w'⟩/\pl.up=(bif ops.toList.any (fun o=>qha o.op)then ops.size else 0):=by
 unfold q8f at r;simp only at r;generalize T:qvw P d n (qbm [] ops.toList) 0 ops.toList=ks at r;generalize zpr (zro ks) ks.length 0 ks=ord at r;cases L:(qwd 0 ops.toList&&zb3 ops (qbm [] ops.toList)&&Nat.beq ord.length ops.size&&q2m ops ks 0 0 ord)with
 |false=>rw[L]at r;cases r
 |true=>
  rw[L]at r;simp only[lII,lI4]at r;subst r;simp only[lI0]at L;obtain⟨⟨⟨Z,c2⟩,Q⟩,c4⟩:=L;have Q:=lIL Q;obtain⟨st,a1,a2,a3⟩:=qvo ord s h;have u:=q2l ord 0 0 c4;have w:ord.Nodup:=by refine lO2.2 fun i j t m hij e=>?_;obtain⟨o,k,_,_,_,_,b5,_⟩:=u j ord[j] (gp m);apply b5;rw[<-e,List.mem_take_iff_getElem];exact⟨i,by omega,rfl⟩
  have y:∀ x∈ord,x<ops.size:=fun x A=>by obtain⟨q,E,e⟩:=lOO A;obtain⟨o,k,I,_⟩:=u q x (by rw[gp E,e]);exact(lOY.1 I).1
  have H:∀ i,i<ops.size->i∈ord:=fun i t=>Classical.byContradiction fun M=>by
   have:=qzb ops.size (i::ord) (lXO.2 ⟨M,w⟩) fun x A=>by
    rcases lI8.1 A with rfl|A
    ·exact t
    ·exact y x A
   simp at this;omega
  have f:∀ i,∃q v b k,i<ops.size->ord[q]? =some i/\∀ o,ops[i]? =some o->qlq P d n O base ops i ((qbm [] ops.toList).getD i 0) o (st q) (st (q+1)) v b k:=fun i=>by
   by_cases t:i<ops.size
   ·obtain⟨q,E,e⟩:=lOO (H i t);have g:ord[q]? =some i:=by rw[gp E,e]
    obtain⟨o,c,hs⟩:=a3 q i g;obtain⟨v,b,k,hk⟩:=zw7 hs;exact⟨q,v,b,k,fun _=>⟨g,fun Y C=>by rw[c]at C;cases C;exact hk⟩⟩
   ·exact⟨0,.undef,none,false,fun h=>absurd h t⟩
  let pos:=fun i=>Classical.choose (f i)
  let V:=fun i=>Classical.choose (lIR (f i))
  let B:=fun i=>Classical.choose (lIR (lIR (f i)))
  let K:=fun i=>Classical.choose (lIR (lIR (lIR (f i))))
  have a:∀ i,i<ops.size->ord[pos i]? =some i/\∀ o,ops[i]? =some o->qlq P d n O base ops i ((qbm [] ops.toList).getD i 0) o (st (pos i)) (st (pos i+1)) (V i) (B i) (K i):=fun i=>
   lIR (lIR (lIR (lIR (f i))))
  have l:∀{i o},ops[i]? =some o->i<ops.size:=fun h=>(lOY.1 h).1;have qzf:∀ j q,j<ops.size->j∈ord.take q->pos j<q:=fun j q m D=>by
   rw[List.mem_take_iff_getElem]at D;obtain⟨x,A,e⟩:=D;have p:=(a j m).1;have R:ord[x]? =some j:=by rw[gp (by omega),e]
   have z:pos j<ord.length:=(lI2.1 p).1;have:pos j=x:=(List.getElem?_inj z w).1 (p.trans R.symm);omega
  have S:∀ j q,j<ops.size->pos j<q->j∈ord.take q:=fun j q m E=>by have p:=(a j m).1;obtain⟨hl,e⟩:=lI2.1 p;rw[List.mem_take_iff_getElem];exact⟨pos j,by omega,e⟩
  refine⟨st,pos,V,B,K,⟨Edg.of Z c2,fun i t=>?_,fun i j t m e=>?_,fun q E=>?_,fun i o c=>(a i (l c)).2 o c,fun i o c j m=>?_,fun i o e oe c F he N G=>?_⟩,a1,by rw[<-Q];exact a2,rfl⟩
  ·have:=(lI2.1 (a i t).1).1;omega
  ·have p:=(a i t).1;have R:=(a j m).1;rw[e,R]at p;cases p;rfl
  ·have g:q<ord.length:=by omega
   have D:ord[q]∈ord:=lEQ g;refine⟨ord[q],y _ D,?_⟩;have p:=(a _ (y _ D)).1;have z:=(lI2.1 p).1;exact(List.getElem?_inj z w).1 (p.trans (gp g).symm)
  ·obtain⟨Y,k,I,b2,b3,_⟩:=u (pos i) i (a i (l c)).1;rw[c]at I;cases I;have hlj:j<ops.size:=lY2 ((Edg.of Z c2).back i o c j m) (l c);rcases b3 j m with b|b
   ·rw[q3h]at b;cases b
   ·simp_all
  ·obtain⟨Y,k,I,b2,b3,b4,b5,b6⟩:=u (pos i) i (a i (l c)).1;have J:=q3c (P:=P) (d:=d) (n:=n) (ms:=qbm [] ops.toList) ops.toList 0 i o (by simpa using c);have k2:=q3c (P:=P) (d:=d) (n:=n) (ms:=qbm [] ops.toList) ops.toList 0 e oe (by simpa using F);rw[T]at J k2;rw[b2]at J;simp only[lEW,lI4]at J k2;subst J;exact b6 N e (.inr ⟨S e _ (l F) G,_,k2,he⟩)
end Go.Ev
end
noncomputable section
namespace Go.Ev
open Go.RowKit
variable {P:Program} {d n:Nat} {O:Call} {base:Nat} {ops:Array Oper} {ms:List Nat} {st:Nat->CS d} {pos:Nat->Nat} {V:Nat->AV} {B:Nat->Option bX} {K:Nat->Bool}
/- locals -/
def qzt(ops:Array Oper)(j:Nat):Option Tmp:=(ops[j]?).bind (·.dst)
open Classical in
def tv(ops:Array Oper)(n:Nat)(V:Nat->AV)(L0:TT AV d)(S:Nat->Prop):Nat->Nat->AV
 |0,t=>(dW d t).f L0
 |j+1,t=>if S j/\qzt ops j=some t/\t<n then V j else tv ops n V L0 S j t
theorem qjo{c:TT AV d}{S S':Nat->Prop}{t:Nat}:∀ m,(∀j,j<m->qzt ops j=some t->(S j↔S' j))->tv ops n V c S m t=tv ops n V c S' m t
 |0,_=>rfl
 |m+1,h=>by
  unfold tv;rw[qjo m fun j e=>h j (by omega)];by_cases b:qzt ops m=some t
  ·have:=h m (by omega) b;by_cases a:S m
   ·simp[a,this.1 a,b]
   ·have:¬ S' m:=fun x=>a (this.2 x);simp[a,this]
  ·simp[b]
theorem zob{f:TT AV d}{S:Nat->Prop}{t i:Nat}(a:S i)(b:qzt ops i=some t)(c:t<n):∀ m,i<m->(∀j,i<j->j<m->S j->qzt ops j≠some t)->tv ops n V f S m t=V i
 |0,h,_=>by omega
 |m+1,h,k=>by
  unfold tv;by_cases e:i=m
  ·subst e;rw[lEZ ⟨a,b,c⟩]
  ·rw[lEU (fun x=>k m (by omega) (by omega) x.1 x.2.1)];exact zob a b c m (by omega) fun j g l=>k j g (by omega)
theorem qef{i:Nat}{o:Oper}(h:ops[i]? =some o):i<ops.size:=(lOY.1 h).1
theorem qrl{i:Nat}(h:i<ops.size):∃ o,ops[i]? =some o:=⟨_,lU0 h⟩
theorem z2n{q:TT AV d}{S:Nat->Prop}(h:Edg ops ms)(u:Shut ops S){i:Nat}{o:Oper}(k:ops[i]? =some o)(p:¬ S i)(t:Nat):tv ops n V q (fun j=>S j\/j=i) ops.size t=if o.dst=some t/\t<n then V i else tv ops n V q S ops.size t:=by
 have c:qzt ops i=o.dst:=by simp[qzt,k]
 by_cases f:o.dst=some t
 ·by_cases g:t<n
  ·rw[lEZ ⟨f,g⟩];refine zob (.inr rfl) (c.trans f) g _ (qef k) fun j r v l w=>?_;obtain⟨s,b⟩:=qrl v;have a:s.dst=some t:=by simpa [qzt,b] using w
   rcases l with l|l
   ·rcases h.tmps i j o s t k b f with e|e|e|e
    ·omega
    ·exact p (h.rW u b l e)
    ·have:=h.aIv i o j k e;omega
    ·exact e.2 a
   ·omega
  ·rw[lEU (by simp[g])];generalize ops.size=m
   induction m with
   |zero=>rfl
   |succ m ih=>unfold tv;rw[lEU (by simp[g]),lEU (by simp[g]),ih]
 ·rw[lEU (by simp[f])];refine qjo _ fun j x a=>?_;constructor
  ·rintro (r|rfl)
   ·exact r
   ·rw[c]at a;exact absurd a f
  ·exact .inl
theorem z9h{L:TT AV d}{v:AV}{u:Nat}(h:Nat.blt u n=true):(eB d n (some u)).f L v=(setter d u).f L v:=by unfold eB;simp only;rw[h];rfl
theorem zcu{L:TT AV d}{v:AV}{u:Nat}(h:Nat.blt u n=false):(eB d n (some u)).f L v=L:=by unfold eB;simp only;rw[h];rfl
theorem qjv(f:n<=8 ^ d){L:TT AV d}{v:AV}{t:Nat}(g:t<8 ^ d)(a:Option Tmp):(dW d t).f ((eB d n a).f L v)=if a=some t/\t<n then v else(dW d t).f L:=by
 cases a with
 |none=>simp[eB]
 |some u=>
  cases c:Nat.blt u n with
  |true=>
   have b:=xA c;rw[z9h c,qeg _ _ _ _ _ g (af b f)];by_cases e:t=u
   ·subst e;simp[b]
   ·rw[lEU e,lEU (by simp;intro h;exact absurd h.symm e)]
  |false=>have b:=zge c;rw[zcu c,lEU];rintro ⟨i,j⟩;cases i;exact b j
theorem qlq.bIg{i A:Nat}{o:Oper}{s a:CS d}{v:AV}{b:Option bX}{k:Bool}(h:qlq P d n O base ops i A o s a v b k):a.L=(eB d n o.dst).f s.L v:=by cases h<;>(rename_i e;rw[e])
theorem qlq.bIN{i A:Nat}{o:Oper}{s a:CS d}{v:AV}{b:Option bX}(h:qlq P d n O base ops i A o s a v b false):a.H=s.H:=by cases h<;>(rename_i e;rw[e])
theorem Can.shut(C:Can P d n O base ops ms st pos V B K)(q:Nat):Shut ops (fun j=>pos j<q):=fun i o a b j c=>by have:=C.edge i o a j c;simp only at b;omega
theorem Can.kM(C:Can P d n O base ops ms st pos V B K){i k:Nat}{o:Oper}(a:ops[i]? =some o)(b:hasB (ms.getD i 0) k=true):pos k<pos i:=
 C.edg.w9 (C.shut (pos i)) i o k a (fun j c=>C.edge i o a j c) b
theorem Can.at(C:Can P d n O base ops ms st pos V B K){q:Nat}(b:q<ops.size):∃ i o,ops[i]? =some o/\pos i=q/\qlq P d n O base ops i (ms.getD i 0) o (st q) (st (q+1)) (V i) (B i) (K i):=by obtain⟨i,c,rfl⟩:=C.bA0 q b;obtain⟨o,a⟩:=qrl c;exact⟨i,o,a,rfl,C.step i o a⟩
theorem Can.lt_succ(C:Can P d n O base ops ms st pos V B K){i j:Nat}(a:i<ops.size)(b:j<ops.size):pos j<pos i+1↔pos j<pos i\/j=i:=by
 constructor
 ·intro h;by_cases e:pos j=pos i
  ·exact .inr (C.inj j i b a e)
  ·exact .inl (by omega)
 ·rintro (h|rfl)<;>omega
theorem Can.locals(C:Can P d n O base ops ms st pos V B K)(a:n<=8 ^ d):∀ q,q<=ops.size->∀ t,t<8 ^ d->(dW d t).f (st q).L=tv ops n V (st 0).L (fun j=>pos j<q) ops.size t
 |0,_,t,_=>by
  generalize ops.size=m
  induction m with
  |zero=>rfl
  |succ m ih=>unfold tv;rw[lEU (by omega)];exact ih
 |q+1,hq,t,ht=>by obtain⟨i,o,b,e,f⟩:=C.at hq;subst e;rw[f.bIg,qjv a ht,C.locals a (pos i) (by omega) t ht];rw[<-z2n C.edg (C.shut (pos i)) b (lOB _) t];exact qjo _ fun j c _=>(C.lt_succ (qef b) c).symm
theorem Can.proj(C:Can P d n O base ops ms st pos V B K)(f:n<=8 ^ d){S:Nat->Prop}(i:Shut ops S){L:TT AV d}(p:∀ t,t<8 ^ d->(dW d t).f L=tv ops n V (st 0).L S ops.size t){k:Nat}{o:Oper}(c:ops[k]? =some o)(l:¬ S k)(q:∀ j∈xN o,S j):(nU d n (lQ ops o)).f L=(nU d n (lQ ops o)).f (st (pos k)).L:=by
 refine qrd _ fun t r b=>?_;have v:=C.plt k (qef c);rw[p t (af b f),C.locals f (pos k) (by omega) t (af b f)];refine qjo _ fun j s u=>?_;obtain⟨m,a⟩:=qrl s;have g:m.dst=some t:=by simpa [qzt,a] using u
 rcases C.edg.tmps j k m o t a c g with e|e|e|e
 ·subst e;exact⟨fun h=>absurd h l,fun h=>absurd h (lOB _)⟩
 ·exact⟨fun _=>C.kM c e,fun _=>C.edg.w9 i k o j c q e⟩
 ·exact⟨fun h=>absurd (C.edg.rW i a h e) l,fun h=>absurd (C.kM a e) (by omega)⟩
 ·exact absurd r e.1
/- heaps -/
def qyn(c:Pd->Bool)(pend:List Pd)(H:Hp):Hp:=
 List.rec (motive:=fun _=>Hp) H (fun p _ ih=>bif c p then ih.put p.nm p.b else ih) pend
theorem qyo(A:Nat)(a:List Pd)(H:Hp):fI A a H=qyn (fun p=>hasB A p.i) a H:=rfl
theorem xa0(a:List Pd)(H:Hp):nT a H=qyn (fun _=>true) a H:=rfl
theorem qgj(c:Pd->Bool)(p:Pd)(l:List Pd)(H:Hp):qyn c (p::l) H=if c p=true then(qyn c l H).put p.nm p.b else qyn c l H:=by show(bif c p then _ else _)=_;cases c p<;>rfl
theorem qym(c:Pd->Bool)(H:Hp):∀ a,(qyn c a H).nx=H.nx
 | []=>rfl
 |p::l=>by
  rw[qgj];split
  ·exact qym c H l
  ·exact qym c H l
theorem qvc{c:Pd->Bool}{H:Hp}{b:Nat}(f:iJ (b)):∀ a,(∀p∈a,iJ (p.nm))->(∀p∈a,c p=true->p.nm≠b)->(qyn c a H).get b=H.get b
 | [],_,_=>rfl
 |p::l,h1,h=>by
  rw[qgj];have ih:=qvc (c:=c) (H:=H) f l (fun x d=>h1 x (by simp[d])) (fun x d=>h x (by simp[d]));split
  ·rename_i g;rw[Hp.get_put _ _ _ _ (h1 p (by simp)) f,lEU (fun e=>h p (by simp) g e.symm)];exact ih
  ·exact ih
theorem qqv{c:Pd->Bool}{H:Hp}:∀ a,(∀p∈a,iJ (p.nm))->(∀p∈a,∀j∈a,p.nm=j.nm->p.b=j.b)->∀ p∈a,c p=true->(qyn c a H).get p.nm=p.b
 | [],_,_,p,hp,_=>by cases hp
 |x::l,h1,h2,p,hp,hc=>by
  rw[qgj];have g:=h1 p hp;by_cases i:c x=true
  ·rw[lEZ i,Hp.get_put _ _ _ _ (h1 x (by simp)) g];by_cases e:p.nm=x.nm
   ·rw[lEZ e];exact h2 x (by simp) p hp e.symm
   ·rw[lEU e];have d:p∈l:=by
     rcases lI8.1 hp with rfl|h
     ·exact absurd rfl e
     ·exact h
    exact qqv l (fun y b=>h1 y (by simp[b])) (fun y b z f=>h2 y (by simp[b]) z (by simp[f])) p d hc
  ·rw[lEU i];have d:p∈l:=by
    rcases lI8.1 hp with rfl|h
    ·exact absurd hc i
    ·exact h
   exact qqv l (fun y b=>h1 y (by simp[b])) (fun y b z f=>h2 y (by simp[b]) z (by simp[f])) p d hc
def Mg(ops:Array Oper)(ms:List Nat)(pos:Nat->Nat)(K:Nat->Bool)(q i:Nat):Prop:=∃ e,e<ops.size/\pos e<q/\K e=true/\hasB (ms.getD e 0) i=true
theorem q28{A:Nat}{p:Pd}:∀{l:List Pd},p∈qT A l↔p∈l/\hasB A p.i=false
 | []=>by simp[qT]
 |x::l=>by
  have ih:=q28 (A:=A) (p:=p) (l:=l);show p∈(bif hasB A x.i then qT A l else x::qT A l)↔_;cases c:hasB A x.i with
  |true=>
   simp only[lII,lI8];rw[ih];constructor
   ·rintro ⟨a,b⟩;exact⟨.inr a,b⟩
   ·rintro ⟨rfl|a,b⟩
    ·rw[c]at b;cases b
    ·exact⟨a,b⟩
  |false=>
   simp only[lOZ,lI8];rw[ih];constructor
   ·rintro (rfl|⟨a,b⟩)
    ·exact⟨.inl rfl,c⟩
    ·exact⟨.inr a,b⟩
   ·rintro ⟨rfl|a,b⟩
    ·exact .inl rfl
    ·exact .inr ⟨a,b⟩
theorem qrt{A:Nat}{p:Wt}:∀{l:List Wt},p∈qV A l↔p∈l/\hasB A p.i=false
 | []=>by simp[qV]
 |x::l=>by
  have ih:=qrt (A:=A) (p:=p) (l:=l);show p∈(bif hasB A x.i then qV A l else x::qV A l)↔_;cases c:hasB A x.i with
  |true=>
   simp only[lII,lI8];rw[ih];constructor
   ·rintro ⟨a,b⟩;exact⟨.inr a,b⟩
   ·rintro ⟨rfl|a,b⟩
    ·rw[c]at b;cases b
    ·exact⟨a,b⟩
  |false=>
   simp only[lOZ,lI8];rw[ih];constructor
   ·rintro (rfl|⟨a,b⟩)
    ·exact⟨.inl rfl,c⟩
    ·exact⟨.inr a,b⟩
   ·rintro ⟨rfl|a,b⟩
    ·exact .inl rfl
    ·exact .inr ⟨a,b⟩
theorem Can.q8(C:Can P d n O base ops ms st pos V B K){i j:Nat}(f:i<ops.size):Mg ops ms pos K (pos i+1) j↔Mg ops ms pos K (pos i) j\/(K i=true/\hasB (ms.getD i 0) j=true):=by
 constructor
 ·rintro ⟨e,c,g,a,b⟩;rcases(C.lt_succ f c).1 g with h|rfl
  ·exact .inl ⟨e,c,h,a,b⟩
  ·exact .inr ⟨a,b⟩
 ·rintro (⟨e,c,g,a,b⟩|⟨a,b⟩)
  ·exact⟨e,c,by omega,a,b⟩
  ·exact⟨i,f,by omega,a,b⟩
theorem Can.pend(C:Can P d n O base ops ms st pos V B K)(I:(st 0).pend=[]):∀ q,q<=ops.size -> (∀p∈(st q).pend,p.i<ops.size/\p.nm=base+p.i/\B p.i=some p.b/\pos p.i<q/\¬ Mg ops ms pos K q p.i) /\ (∀i b,i<ops.size->B i=some b->pos i<q->¬ Mg ops ms pos K q i->⟨i,base+i,b⟩∈(st q).pend)
 |0,_=>⟨(fun p g=>by rw[I]at g;cases g),(fun i b _ _ h=>by omega)⟩
 |q+1,hq=>by
  obtain⟨i,o,Q,g,E⟩:=C.at hq;obtain⟨u,w⟩:=C.pend I q (by omega);subst g;have c:=qef Q;have r:K i=false->B i=none->(st (pos i+1)).pend=(st (pos i)).pend ->
    (∀p∈(st (pos i+1)).pend,p.i<ops.size/\p.nm=base+p.i/\B p.i=some p.b/\pos p.i<pos i+1/\¬ Mg ops ms pos K (pos i+1) p.i) /\
    (∀j b,j<ops.size->B j=some b->pos j<pos i+1->¬ Mg ops ms pos K (pos i+1) j->⟨j,base+j,b⟩∈(st (pos i+1)).pend):=fun L M N=>by
   have s:∀ j,Mg ops ms pos K (pos i+1) j↔Mg ops ms pos K (pos i) j:=fun j=>by rw[C.q8 c,L];simp
   rw[N];refine⟨fun p g=>?_,fun j b t a m l=>?_⟩
   ·obtain⟨x,y,z,J,A⟩:=u p g;exact⟨x,y,z,by omega,fun h=>A ((s _).1 h)⟩
   ·rcases(C.lt_succ c t).1 m with h|rfl
    ·exact w j b t a h fun h=>l ((s _).2 h)
    ·rw[M]at a;cases a
  generalize D:B i=b at E;generalize V i=v at E;generalize F:K i=k at E;cases E with
  |skip _ e=>exact r F D (by rw[e])
  |val _ _ _ _ _ _ e=>exact r F D (by rw[e])
  |new f _ b' _ _ _ _ _ e=>
   have s:∀ j,Mg ops ms pos K (pos i+1) j↔Mg ops ms pos K (pos i) j:=fun j=>by rw[C.q8 c,F];simp
   rw[e];simp only[lI8];refine⟨fun p g=>?_,fun j b t a m l=>?_⟩
   ·rcases g with rfl|g
    ·refine⟨c,rfl,D,by simp,fun h=>?_⟩;obtain⟨e,R,T,U,S⟩:=(s i).1 h;obtain⟨W,H⟩:=qrl R;have:=C.kM H S;omega
    ·obtain⟨x,y,z,J,A⟩:=u p g;exact⟨x,y,z,by omega,fun h=>A ((s _).1 h)⟩
   ·rcases(C.lt_succ c t).1 m with h|rfl
    ·exact .inr (w j b t a h fun h=>l ((s _).2 h))
    ·rw[D]at a;cases a;exact .inl rfl
  |mM f _ H' _ _ _ _ e=>
   have s:∀ j,Mg ops ms pos K (pos i+1) j↔Mg ops ms pos K (pos i) j\/hasB (ms.getD i 0) j=true:=fun j=>by rw[C.q8 c,F];simp
   rw[e];simp only[q28];refine⟨fun p g=>?_,fun j b t a m l=>?_⟩
   ·obtain⟨x,y,z,J,A⟩:=u p g.1;refine⟨x,y,z,by omega,fun h=>?_⟩;rcases(s _).1 h with h|h
    ·exact A h
    ·rw[g.2]at h;cases h
   ·have G:hasB (ms.getD i 0) j=false:=lXB.2 fun h=>l ((s j).2 (.inr h));rcases(C.lt_succ c t).1 m with h|rfl
    ·exact⟨w j b t a h fun h=>l ((s _).2 (.inl h)),G⟩
    ·rw[D]at a;cases a
theorem Can.oF(C:Can P d n O base ops ms st pos V B K){q:Nat}:∀ a,q<=a->a<=ops.size->(∀e,e<ops.size->K e=true->q<=pos e->¬ pos e<a)->(st a).H=(st q).H
 |0,h,_,_=>by
  have:q=0:=by omega
  subst this;rfl
 |a+1,h,hs,hk=>by
  by_cases e:q=a+1
  ·subst e;rfl
  ·obtain⟨i,o,l,p,b⟩:=C.at (q:=a) hs;have c:K i=false:=lXB.2 fun f=>hk i (qef l) f (by omega) (by omega);rw[c]at b;rw[b.bIN];exact C.oF a (by omega) (by omega) fun e g j k m=>hk e g j k (by omega)
structure HS(base:Nat)(ops:Array Oper)(ms:List Nat)(st:Nat->CS d)(pos:Nat->Nat)(B:Nat->Option bX)(K:Nat->Bool)(q:Nat)(X:Nat->Prop)(G:Hp):Prop where
 nx:G.nx=(st q).H.nx
 hit:∀ i b,i<ops.size->X i->B i=some b->¬ Mg ops ms pos K q i->G.get (base+i)=b
 miss:∀ c,iJ (c)->(∀i,i<ops.size->X i->B i≠none->¬ Mg ops ms pos K q i->c≠base+i)->G.get c=(st q).H.get c
theorem Can.view(C:Can P d n O base ops ms st pos V B K)(u:(st 0).pend=[])(v:∀ i,i<ops.size->B i≠none->iJ (base+i)){q:Nat}(w:q<=ops.size)(c:Nat->Bool)(y:∀ i,i<ops.size->c i=true->pos i<q):HS base ops ms st pos B K q (fun i=>c i=true) (qyn (fun p=>c p.i) (st q).pend (st q).H):=by
 obtain⟨j,E⟩:=C.pend u q w;have g:∀ p∈(st q).pend,iJ (p.nm):=fun p a=>by obtain⟨k,o,f,_⟩:=j p a;rw[o];exact v _ k (by simp[f])
 refine⟨qym _ _ _,fun i b r h z A=>?_,fun x h D=>?_⟩
 ·have a:=E i b r z (y i r h) A;have t:=qqv (c:=fun p=>c p.i) (H:=(st q).H) (st q).pend g (fun p a s l e=>by
   obtain⟨k,o,f,_⟩:=j p a;obtain⟨I,J,F,_⟩:=j s l;have:p.i=s.i:=by omega
   rw[this,F]at f;exact(Option.some.inj f).symm) ⟨i,base+i,b⟩ a h
  dsimp only at t;exact t
 ·refine qvc h _ g fun p a m e=>?_;obtain⟨k,o,f,L,G⟩:=j p a;exact D p.i k m (by simp[f]) G (by omega)
theorem q3s:∀ k,(∀x y,oD k x y=true->x=y)/\(∀l m,rT k l m=true->l=m)
 |0=>⟨fun x y h=>by simp[oD]at h,fun l m h=>by simp[rT]at h⟩
 |k+1=>by
  obtain⟨b,a⟩:=q3s k;refine⟨fun x y h=>?_,fun l m h=>?_⟩
  ·unfold oD at h;split at h<;>first|rfl|(cases h;done)|skip
   ·simp_all
   ·simp_all
   ·simp_all
   ·simp_all
   ·simp_all
   ·simp_all
   ·simp_all
   ·simp only[lI0]at h;rw[lIL h.1.1,a _ _ h.1.2,a _ _ h.2]
   ·simp only[lI0]at h;rw[lIL h.1,b _ _ h.2]
   ·rw[a _ _ h]
   ·rw[a _ _ h]
  ·unfold rT at h;split at h
   ·omega
   ·rfl
   ·rename_i e;cases e;simp only[lI0]at h;rw[b _ _ h.1,a _ _ h.2]
   ·cases h
theorem zbz{a:List Pd}{H:Hp}:∀{e:List Wt},qjl a H e=true->∀ x∈e,x.f (fI x.A a H)=.val x.v
 | [],_,x,b=>by cases b
 |y::l,h,x,b=>by
  have d:(zo3 (y.f (fI y.A a H)) y.v&&qjl a H l)=true:=h;simp only[lI0]at d;rcases lI8.1 b with rfl|b
  ·have c:=d.1;unfold zo3 at c;split at c
   ·rename_i u f;rw[f,(q3s 64).1 _ _ c]
   ·cases c
  ·exact zbz d.2 x b
theorem zn6{A i nm:Nat}{b:bX}{a:List Pd}{H:Hp}(h:hasB A i=false):fI A (⟨i,nm,b⟩::a) H=fI A a H:=by rw[qyo,qgj,lEU (by simp[h]),qyo]
theorem Can.jJ(C:Can P d n O base ops ms st pos V B K)(p:(st 0).jJ=[]):∀ q,q<=ops.size->∀ x∈(st q).jJ, x.f (fI x.A (st q).pend (st q).H)=.val x.v/\∀ j,hasB x.A j=true->pos j<q
 |0,_,x,a=>by rw[p]at a;cases a
 |q+1,hq,x,a=>by
  obtain⟨i,o,r,s,m⟩:=C.at hq;have ih:=C.jJ p q (by omega);subst s;generalize t:B i=b at m;generalize V i=v at m;generalize u:K i=k at m;cases m with
  |skip _ e=>rw[e]at a ⊢;obtain⟨l,g⟩:=ih x a;exact⟨l,fun j c=>by have:=g j c;omega⟩
  |val lk f v h1 h2 h3 e=>
   rw[e]at a ⊢;cases lk with
   |false=>obtain⟨l,g⟩:=ih x a;exact⟨l,fun j c=>by have:=g j c;omega⟩
   |true=>
    simp only[lII,lI8]at a;rcases a with rfl|a
    ·exact⟨h3,fun j c=>by have:=C.kM r c;omega⟩
    ·obtain⟨l,g⟩:=ih x a;exact⟨l,fun j c=>by have:=g j c;omega⟩
  |new f v b' h1 h2 h3 h4 h5 e=>rw[e]at a ⊢;obtain⟨l,g⟩:=ih x a;refine⟨?_,fun j c=>by have:=g j c;omega⟩;rw[zn6];exact l;exact lXB.2 fun h=>lOB _ (g i h)
  |mM f v H' h1 h2 h3 h4 e=>rw[e]at a ⊢;obtain⟨l,g⟩:=ih x (qrt.1 a).1;exact⟨zbz h4 x a,fun j c=>by have:=g j c;omega⟩
theorem Can.watch(C:Can P d n O base ops ms st pos V B K){k:Nat}{x:Wt}(l:x.i=k)(p:x∈(st (pos k+1)).jJ):∀ q,pos k<q->q<=ops.size -> (∀e,e<ops.size->K e=true->pos k<pos e->pos e<q->hasB (ms.getD e 0) k=false)->x∈(st q).jJ
 |0,h,_,_=>by omega
 |q+1,h,hq,hn=>by
  by_cases e:pos k=q
  ·simp_all
  ·have ih:=C.watch l p q (by omega) (by omega) fun e a c g m=>hn e a c g (by omega);obtain⟨i,o,r,s,j⟩:=C.at hq;subst s;generalize u:B i=b at j;generalize V i=v at j;generalize t:K i=kk at j;cases j with
   |skip _ e=>rw[e];exact ih
   |val lk f v a c g e=>
    rw[e];cases lk with
    |false=>exact ih
    |true=>exact lIS _ ih
   |new f v b' a c g m h5 e=>rw[e];exact ih
   |mM f v H' a c g m e'=>rw[e'];refine qrt.2 ⟨ih,?_⟩;rw[l];exact hn i (qef r) t (by omega) (by omega)
/- parts of heaps -/
theorem HR.sub{ι:Im}{G f:Hp}{w:World}(h:HR ι G w)(n:f.nx=G.nx)(o:∀ c,iJ (c)->f.get c=G.get c\/f.get c=.dead):HR ι f w:=by
 have d:∀ c,iJ (c)->(f.get c).dU=false->f.get c=G.get c:=fun c j p=>by
  rcases o c j with e|e
  ·exact e
  ·rw[e]at p;cases p
 refine⟨by rw[n];exact h.top,fun b a=>?_,fun b l a g k=>?_,fun b c l m a j g k q r s=>?_,fun b a=>h.fresh b (by rw[<-n];exact a),fun b a i=>?_⟩
 ·rcases o b a with e|e
  ·rw[e];exact h.blk b a
  ·rw[e];trivial
 ·exact h.low b l a (by rw[<-d b a g];exact g) k
 ·have t:=d b a (bX.bL g);have u:=d c j k;exact h.inj b c l m a j (by rw[<-t];exact g) (by rw[<-u];exact k) q r s
 ·rcases o b i with e|e
  ·rw[e];exact h.free b (by rw[<-n];exact a) i
  ·exact e
theorem HR.drawn{ι:Im}{H:Hp}{w:World}(h:HR ι H w)(k:Nat):HR ι H {w with drawn:=k}:=
 ⟨h.top,fun b a=>(h.blk b a).keep fun _ _ _=>rfl,h.low,h.inj,h.fresh,h.free⟩
theorem mkG(H:Hp)(base:Nat)(f:Nat->Option bX):∀ N,(∀i,i<N->f i≠none->iJ (base+i))->∃ G:Hp,G.nx=H.nx/\(∀i b,i<N->f i=some b->G.get (base+i)=b)/\∀ c,iJ (c)->(∀i,i<N->f i≠none->c≠base+i)->G.get c=H.get c
 |0,_=>⟨H,rfl,fun i b h=>by omega,fun c _ _=>rfl⟩
 |N+1,h=>by
  obtain⟨G,g1,g2,g3⟩:=mkG H base f N fun i a=>h i (by omega);cases l:f N with
  |none=>
   refine⟨G,g1,fun i b a d=>?_,fun c g j=>g3 c g fun i a=>j i (by omega)⟩;by_cases e:i=N
   ·simp_all
   ·exact g2 i b (by omega) d
  |some b=>
   have k:=h N (by omega) (by simp[l]);refine⟨G.put (base+N) b,g1,fun i m a d=>?_,fun c g j=>?_⟩
   ·rw[Hp.get_put _ _ _ _ k (h i a (by simp[d]))];by_cases e:i=N
    ·simp_all
    ·rw[lEU (by omega)];exact g2 i m (by omega) d
   ·rw[Hp.get_put _ _ _ _ k g,lEU (j N (by omega) (by simp[l]))];exact g3 c g fun i a=>j i (by omega)
theorem Fr.step{ι0 ι j:Im}{H0 G x:Hp}{w0 w w':World}(f:Fr ι0 ι H0 G w0 w)(le:ι.le j)(nx:G.nx<=x.nx)(y:∀ b,ι b=none->j b≠none->H0.nx<=b)(I:w'.os=w.os)(m:w'.tape=w.tape)(g:w'.output=w.output)(size:w.heap.size<=w'.heap.size)(n:∀ c,c<w.heap.size->(∀b l,iJ (b)->(G.get b).wr=true->ι b=some l->l.blk≠c)->w'.heap[c]? =w.heap[c]?)(z:∀ b l,iJ (b)->(x.get b).wr=true->j b=some l->w.heap.size<=l.blk\/∃ a d,iJ (a)/\(G.get a).wr=true/\ι a=some d/\d.blk=l.blk)(o:∀ b l,iJ (b)->(x.get b).dU=false->j b=some l->w.heap.size<=l.blk\/∃ a d,iJ (a)/\(G.get a).dU=false/\ι a=some d/\d.blk=l.blk):Fr ι0 j H0 x w0 w':=by
 refine⟨Im.le_trans f.le le,lI7 f.nx nx,fun b h k=>?_,I.trans f.os,m.trans f.tape,g.trans f.output,lI7 f.size size,fun c E F=>?_,fun b l p q r=>?_,fun b l p q r=>?_⟩
 ·cases H:ι b with
  |none=>exact y b H k
  |some l=>exact f.dom b h (by simp[H])
 ·rw[n c (af E f.size) ?_,f.keep c E F];intro b l p q r J;rcases f.new b l p q r with e|⟨a,d,e,s,t,u⟩
  ·omega
  ·exact F a d e s t (u.trans J)
 ·rcases z b l p q r with e|⟨a,d,e,s,t,u⟩
  ·exact .inl (lI7 f.size e)
  ·rcases f.new a d e s t with v|⟨A,B,v,C,D,i⟩
   ·omega
   ·exact .inr ⟨A,B,v,C,D,i.trans u⟩
 ·rcases o b l p q r with e|⟨a,d,e,s,t,u⟩
  ·exact .inl (lI7 f.size e)
  ·rcases f.live a d e s t with v|⟨A,B,v,C,D,i⟩
   ·omega
   ·exact .inr ⟨A,B,v,C,D,i.trans u⟩
theorem Fr.congr{ι h:Im}{H G d:Hp}{w w':World}(f:Fr ι h H G w w')(j:d.nx=G.nx)(i:∀ c,iJ (c)->d.get c=G.get c):Fr ι h H d w w':=
 ⟨f.le,by rw[j];exact f.nx,f.dom,f.os,f.tape,f.output,f.size,f.keep,fun b l a e g=>f.new b l a (by rw[<-i b a];exact e) g,fun b l a e g=>f.live b l a (by rw[<-i b a];exact e) g⟩
theorem q7t{F:Fence}{m:Nat}{o:Oper}{a j:Act}{next n:Act->World->Prop}{Q:Exit->Act->World->Prop}(d:∀ V w',next (j.put o.dst V) w'->n (a.put o.dst V) w')(p:∀ i w',next i w'->i.defers=j.defers){r:Result Next}(h:o.uponIn F m P j next (fun _ _ _=>False) r):o.uponIn F m P a n Q r:=by
 cases r with
 |ok x w'=>
  cases x<;>simp only[Oper.uponIn]at h ⊢
  case value v=>exact d _ _ h
  case skip=>exact d _ _ h
  case defer dd=>have:=p _ _ h;rw[put_defers]at this;simp_all
  case enter f args=>
   refine⟨h.1,CallsIn.mono h.2 fun e g b=>?_⟩;cases e with
   |returned v=>exact d _ _ b
   |panicked c=>exact b.elim
   |outgrown=>exact(by obtain⟨_,_,k⟩:=(b:LetsOut _);exact k.elim)
  case row row args=>exact⟨h.1,RowsIn.mono h.2 fun v g b=>d _ _ b⟩
  case round l f tmps assign body=>
   refine⟨h.1,RoundIn.mono h.2 fun e g b=>?_⟩;cases e with
   |returned v=>exact d _ _ b
   |panicked c=>exact b.elim
   |outgrown=>exact(by obtain⟨_,_,k⟩:=(b:LetsOut _);exact k.elim)
 |halt x w'=>cases x<;>simp only[Oper.uponIn]at h ⊢
structure aEq(d n base up:Nat)(ops:Array Oper)(ms:List Nat)(st:Nat->CS d)(pos:Nat->Nat)(V:Nat->AV)(B:Nat->Option bX)(K:Nat->Bool)(ι0:Im)(H0:Hp)(w0:World)(ds:List Deferred)
  (S:Nat->Prop) (a:Act) (w:World) (ι:Im) (L:TT AV d) (G:Hp) (q:Nat):Prop where
 shut:Shut ops S
 le:q<=ops.size
 mM:∀ e,e<ops.size->K e=true->(S e↔pos e<q)
 lr:LR ι d n L a.tmps
 tv:∀ t,t<8 ^ d->(dW d t).f L=tv ops n V (st 0).L S ops.size t
 hr:HR ι G w
 hs:HS base ops ms st pos B K q S G
 dead:∀ i,i<ops.size->B i≠none->¬ Mg ops ms pos K q i->(st q).H.get (base+i)=.dead
 free:∀ i,i<ops.size->B i≠none->¬ S i->ι (base+i)=none
 some:∀ i,i<ops.size->B i≠none->S i->∃ l,ι (base+i)=some l
 up:base+up<=G.nx
 fr:Fr ι0 ι H0 G w0 w
 ds:a.defers=ds
theorem xe1{ι f:Im}{L k:TT AV d}{a i:Act}(c:ι.le f)(h:LR ι d n L a.tmps){v:AV}{X:Value}{b:Option Tmp}(l:LR f d n ((eB d n b).f k v) (i.put b X).tmps)(m:i.tmps.size=n):LR f d n ((eB d n b).f L v) (a.put b X).tmps:=by
 cases b with
 |none=>exact h.mono c
 |some t=>
  by_cases e:t<n
  ·refine qhv (h.mono c) _ ?_;have j:=l.get t e;rw[qjv h.fit (af e h.fit),lEZ ⟨rfl,e⟩]at j;simp only[Act.put]at j;simp_all
  ·have g:Nat.blt t n=false:=by
    cases g:Nat.blt t n with
    |false=>rfl
    |true=>exact absurd (xA g) e
   rw[zcu g];simp only[Act.put];rw[Array.setIfInBounds_eq_of_size_le (by rw[h.size];exact lXG e)];exact h.mono c
theorem z8a{L:TT AV d}{S:Nat->Prop}(C:Can P d n O base ops ms st pos V B K)(c:n<=8 ^ d)(e:Shut ops S)(f:∀ t,t<8 ^ d->(dW d t).f L=tv ops n V (st 0).L S ops.size t){i:Nat}{o:Oper}(g:ops[i]? =some o)(a:¬ S i){v:AV}(h:V i=v):∀t,t<8 ^ d->(dW d t).f ((eB d n o.dst).f L v)=tv ops n V (st 0).L (fun j=>S j\/j=i) ops.size t:=fun t b=>by rw[qjv c b,z2n C.edg e g a t,f t b,h]
theorem step_ok(hC:qd9 P O){F:Fence}(hF:Fence.dY F){m up:Nat}{ι0:Im}{H0:Hp}{w0:World}{ds:List Deferred}{Q:Exit->Act->World->Prop}(C:Can P d n O base ops ms st pos V B K)(h0:(st 0).pend=[])(h0w:(st 0).jJ=[])(hb:∀ i,i<ops.size->B i≠none->base+i<base+up/\iJ (base+i))(hH0:H0.nx=base){S:Nat->Prop}{a:Act}{w:World}{ι:Im}{L:TT AV d}{G:Hp}{q:Nat}(I:aEq d n base up ops ms st pos V B K ι0 H0 w0 ds S a w ι L G q){i:Nat}{o:Oper}(ho:ops[i]? =some o)(N:¬ S i)(hr:∀ j∈xN o,S j){K':Act->World->Prop}(hK:∀ a' w' ι' L' G' q',aEq d n base up ops ms st pos V B K ι0 H0 w0 ds (fun j=>S j\/j=i) a' w' ι' L' G' q'->K' a' w'):wpOpIn F m P ops Q i K' a w:=by
 have hn:=I.lr.fit;have T:=qef ho;have hpj:=C.proj hn I.shut I.tv ho N hr;have aCN:∀ k,hasB (ms.getD i 0) k=true->S k:=fun k=>C.edg.w9 I.shut i o k ho hr;have hlp:=I.lr.proj (lQ ops o);have aDl:Shut ops (fun j=>S j\/j=i):=fun j oj hoj hj k hk=>by
  rcases hj with hj|rfl
  ·exact .inl (I.shut j oj hoj hj k hk)
  ·rw[ho]at hoj;cases hoj;exact .inl (hr k hk)
 have R:∀ i,i<ops.size->B i≠none->iJ (base+i):=fun i hi h=>(hb i hi h).2;have hnm:¬ Mg ops ms pos K q i:=fun⟨e,u,y,e3,e4⟩=>by obtain⟨oe,D⟩:=qrl u;exact N (C.edg.rW I.shut D ((I.mM e u e3).2 y) e4)
 -- a part of the heap
 have part:∀{Hv:Hp} {X:Nat->Prop},HS base ops ms st pos B K q X Hv->(∀j,j<ops.size->X j->S j)->Hv.nx=G.nx/\∀ c,iJ (c)->Hv.get c=G.get c\/Hv.get c=.dead:=fun{Hv X} hv hX=>by
  refine⟨hv.nx.trans I.hs.nx.symm,fun c s=>?_⟩;by_cases t:∃ j,j<ops.size/\X j/\B j≠none/\¬ Mg ops ms pos K q j/\c=base+j
  ·obtain⟨j,p,g,r,H,rfl⟩:=t;obtain⟨b,hbj⟩:=lX9.1 r;left;rw[hv.hit j b p g hbj H,I.hs.hit j b p (hX j p g) hbj H]
  ·have u:=hv.miss c s fun j p g r H e=>t ⟨j,p,g,r,H,e⟩;by_cases x:∃ j,j<ops.size/\S j/\B j≠none/\¬ Mg ops ms pos K q j/\c=base+j
   ·obtain⟨j,p,g,r,H,rfl⟩:=x;right;rw[u];exact I.dead j p r H
   ·left;rw[u,I.hs.miss c s fun j p g r H e=>x ⟨j,p,g,r,H,e⟩]
 have U:=C.step i o ho;have hext:K i=false->∀ e,e<ops.size->K e=true->((S e\/e=i)↔pos e<q):=fun hKi e u y=>by
  constructor
  ·rintro (h|rfl)
   ·exact(I.mM e u y).1 h
   ·rw[hKi]at y;cases y
  ·exact fun h=>.inl ((I.mM e u y).2 h)
 have hhs:B i=none->HS base ops ms st pos B K q (fun j=>S j\/j=i) G:=fun hB=>by
  refine⟨I.hs.nx,fun j b p g r H=>?_,fun c s Z=>I.hs.miss c s fun j p g=>Z j p (.inl g)⟩;rcases g with g|rfl
  ·exact I.hs.hit j b p g r H
  ·rw[hB]at r;cases r
 have hsm:B i=none->∀ j,j<ops.size->B j≠none->(S j\/j=i)->∃ l,ι (base+j)=some l:=fun hB j p g r=>by
  rcases r with r|rfl
  ·exact I.some j p g r
  ·exact absurd hB g
 -- nothing but a value
 have aF2:∀{v:AV} {X:Value},V i=v->aR ι v X->B i=none->K i=false->K' (a.put o.dst X) w:=fun{v X} hv hX hB hKi=>
  hK _ _ ι ((eB d n o.dst).f L v) G q
   {shut:=aDl,le:=I.le,
    mM:=hext hKi,
    lr:=qhv I.lr _ hX,tv:=z8a C hn I.shut I.tv ho N hv,hr:=I.hr,
    hs:=hhs hB,
    dead:=I.dead,free:=fun j p g r=>I.free j p g fun h=>r (.inl h),
    some:=hsm hB,
    up:=I.up,fr:=I.fr,ds:=by rw[put_defers];exact I.ds}
 unfold wpOpIn;simp only[ho];have W:∀ b,(uL d n ops o).f ((nU d n (lQ ops o)).f (st (pos i)).L)=Option.some b->Region.wanted o (yielded ops a.tmps)=b:=fun b hw=>by rw[<-hpj]at hw;have:=qjn (a:={a with tmps:=qhw (lQ ops o) a.tmps}) (ops:=ops) (o:=o) hlp hw;rw[q09]at this;exact this
 generalize hV:V i=v at U;generalize hB:B i=bo at U;generalize hKi:K i=ki at U;cases U with
 |skip hw _=>rw[W _ hw,lEU (by simp)];exact⟨fun f _=>hF.fn f,aF2 hV (by simp only[aR];rfl) hB hKi⟩
 |val lk f v hf hw hval hst=>
  rw[W _ hw,lEZ rfl];have hnd:∀ c,o.op≠ .defer c:=fun c s=>by unfold iG at hf;rw[s]at hf;cases hf
  have hsel:∀ cs b,o.op≠ .select cs b:=fun cs b s=>by unfold iG at hf;rw[s]at hf;cases hf
  obtain⟨Hv,hHv,hfv⟩:∃ Hv,HR ι Hv w/\f (base+i) ((nU d n (lQ ops o)).f L) Hv=.val v:=by
   cases lk with
   |false=>exact⟨G,I.hr,by rw[hpj,qvp hf _ _ _ (fI (ms.getD i 0) (st (pos i)).pend (st (pos i)).H)];exact hval⟩
   |true=>
    have hlk:aEW (iG P d n o)=true:=by rw[hf];rfl
    by_cases hq:q<=pos i
    ·have hp:=C.plt i T;have hno:∀ e,e<ops.size->K e=true->q<=pos e->¬ pos e<pos i:=fun e u y e3 e4=>by
      obtain⟨oe,D⟩:=qrl u;have hie:isE (iG P d n oe)=true:=by have hs:=C.step e oe D;rw[y]at hs;generalize V e=v1 at hs;generalize B e=b1 at hs;cases hs;rename_i h _ _ _ _;rw[h];rfl
      have:=(I.mM e u y).1 (aCN e (C.mM i o e oe ho D hie (.inr hlk) e4));omega
     have hH:=C.oF (q:=q) (pos i) hq (by omega) hno;have hM:∀ j,Mg ops ms pos K (pos i) j↔Mg ops ms pos K q j:=fun j=>
      ⟨fun⟨e,u,y,e3,e4⟩=>⟨e,u,Classical.byContradiction fun h=>hno e u e3 (by omega) y,e3,e4⟩,fun⟨e,u,y,e3,e4⟩=>⟨e,u,by omega,e3,e4⟩⟩
     have hv:=C.view h0 R (q:=pos i) (by omega) (fun j=>hasB (ms.getD i 0) j) (fun j _ hj=>C.kM ho hj);have hv':HS base ops ms st pos B K q (fun j=>hasB (ms.getD i 0) j=true) (fI (ms.getD i 0) (st (pos i)).pend (st (pos i)).H):=
      ⟨hv.nx.trans (by rw[hH]),fun j b p g r H=>hv.hit j b p g r fun h=>H ((hM j).1 h),
       fun c s Z=>(hv.miss c s fun j p g r H=>Z j p g r fun h=>H ((hM j).2 h)).trans (by rw[hH])⟩
     obtain⟨p1,p2⟩:=part hv' fun j _ hj=>aCN j hj;exact⟨_,I.hr.sub p1 p2,by rw[hpj];exact hval⟩
    ·have hq:pos i<q:=by omega
     have hmem:(⟨i,ms.getD i 0,f (base+i) ((nU d n (lQ ops o)).f (st (pos i)).L),v⟩:Wt)∈(st (pos i+1)).jJ:=by rw[hst];simp
     have hw:=C.watch (k:=i) rfl hmem q hq I.le fun e u y e3 e4=>lXB.2 fun h=>by obtain⟨oe,D⟩:=qrl u;exact N (C.edg.rW I.shut D ((I.mM e u y).2 e4) h)
     have hw':=(C.jJ h0w q I.le _ hw).1;have hv:=C.view h0 R (q:=q) I.le (fun j=>hasB (ms.getD i 0) j) (fun j _ hj=>lY2 (C.kM ho hj) hq);obtain⟨p1,p2⟩:=part hv fun j _ hj=>aCN j hj;exact⟨_,I.hr.sub p1 p2,by rw[hpj];exact hw'⟩
  have hQ:=z9k (nm:=base+i) (a:={a with tmps:=qhw (lQ ops o) a.tmps}) hf hHv hlp;rw[hfv]at hQ;obtain⟨X,t,x⟩:=hQ;rw[qr9 a o hsel]at t;refine⟨fun f _=>hF.fn f,?_⟩;rw[qco hnd,t];exact aF2 hV x hB hKi
 |new f v b hf hal hwr hw hval hst=>
  rw[W _ hw,lEZ rfl];have hnd:∀ c,o.op≠ .defer c:=fun c s=>by unfold iG at hf;rw[s]at hf;cases hf
  have hsel:∀ cs b,o.op≠ .select cs b:=fun cs b s=>by unfold iG at hf;rw[s]at hf;cases hf
  have hfv:f (base+i) ((nU d n (lQ ops o)).f L) G=.new v b:=by rw[hpj,qvp hf _ _ _ (fI (ms.getD i 0) (st (pos i)).pend (st (pos i)).H)];exact hval
  have hQ:=z9k (nm:=base+i) (a:={a with tmps:=qhw (lQ ops o) a.tmps}) hf I.hr hlp;rw[hfv]at hQ;obtain⟨X,w',l,t,x,h3⟩:=hQ;rw[qr9 a o hsel]at t;refine⟨fun f _=>hF.fn f,?_⟩;rw[qco hnd,t];have hBi:B i≠none:=by rw[hB];simp
  obtain⟨hb1,hb2⟩:=hb i T hBi;have Y:=I.free i T hBi N;have hup:=I.up;have aCz:G.get (base+i)=.dead:=by
   rw[I.hs.miss (base+i) hb2 fun j p g r H e=>N (by
    have:i=j:=by omega
    rw[this];exact g)]
   exact I.dead i T hBi hnm
  obtain⟨r1,r2⟩:=h3 (ι.set (base+i) l) (Im.jG l Y) (Im.bQ ..);have hsz:w.heap.size<=w'.heap.size:=by rw[x.size];omega
  have hr':HR (ι.set (base+i) l) (G.put (base+i) b) w':=I.hr.add (nx':=G.nx) hb2 Y aCz (lEO _) I.hr.top (by omega) l b hsz (fun c mm s t z=>x.keep _ (I.hr.low c mm s t z)) (fun _=>by rw[x.blk,x.size];omega)
   (fun c mm s t z=>by have:=I.hr.low c mm s t z;have:=x.blk;omega) r2
  refine hK _ _ (ι.set (base+i) l) ((eB d n o.dst).f L v) (G.put (base+i) b) q
   {shut:=aDl,le:=I.le,
    mM:=hext hKi,
    lr:=qhv (I.lr.mono (Im.jG l Y)) _ r1,tv:=z8a C hn I.shut I.tv ho N hV,hr:=hr',
    hs:=⟨I.hs.nx,fun j b' p g r H=>?_,fun c s Z=>?_⟩,
    dead:=I.dead,free:=fun j p g r=>?_,
    some:=fun j p g r=>?_,
    up:=I.up,fr:= ?_,ds:=by rw[put_defers];exact I.ds}
  ·rw[Hp.get_put _ _ _ _ hb2 (R j p (by simp[r]))];by_cases e:j=i
   ·subst e;rw[lEZ rfl];rw[hB]at r;exact Option.some.inj r
   ·rw[lEU (by omega)];rcases g with g|g
    ·exact I.hs.hit j b' p g r H
    ·exact absurd g e
  ·have hne:c≠base+i:=Z i T (.inr rfl) hBi hnm;rw[Hp.get_put _ _ _ _ hb2 s,lEU hne];exact I.hs.miss c s fun j p g=>Z j p (.inl g)
  ·have hne:j≠i:=fun e=>r (.inr e);rw[Im.eU _ _ (by omega)];exact I.free j p g fun h=>r (.inl h)
  ·by_cases e:j=i
   ·subst e;exact⟨l,Im.bQ ..⟩
   ·rw[Im.eU _ _ (by omega)];rcases r with r|r
    ·exact I.some j p g r
    ·exact absurd r e
  ·refine I.fr.step (Im.jG l Y) (lEO _) (fun c t z=>?_) x.os x.tape x.output hsz (fun c s _=>x.keep c s) (fun c mm s h1' z=>?_) (fun c mm s h1' z=>?_)
   ·by_cases e:c=base+i
    ·omega
    ·rw[Im.eU _ _ e]at z;exact absurd t z
   ·by_cases e:c=base+i
    ·subst e;rw[Im.bQ]at z;cases z;exact .inl (by rw[x.blk];omega)
    ·rw[Hp.get_put _ _ _ _ hb2 s,lEU e]at h1';rw[Im.eU _ _ e]at z;exact .inr ⟨c,mm,s,h1',z,rfl⟩
   ·by_cases e:c=base+i
    ·subst e;rw[Im.bQ]at z;cases z;exact .inl (by rw[x.blk];omega)
    ·rw[Hp.get_put _ _ _ _ hb2 s,lEU e]at h1';rw[Im.eU _ _ e]at z;exact .inr ⟨c,mm,s,h1',z,rfl⟩
 |mM f v H' hf hw hval hwt hst=>
  rw[W _ hw,lEZ rfl];have hie:isE (iG P d n o)=true:=by rw[hf];rfl
  have hsel:∀ cs b,o.op≠ .select cs b:=fun cs b s=>by unfold iG at hf;rw[s]at hf;cases hf;cases hval
  have hnd:∀ c,o.op≠ .defer c:=fun c s=>by unfold iG at hf;rw[s]at hf;cases hf;cases hval
  have hp:=C.plt i T;have aFF:∀{e oe},ops[e]? =Option.some oe->K e=true->isE (iG P d n oe)=true:=fun{e oe} D y=>by have hs:=C.step e oe D;rw[y]at hs;generalize V e=v1 at hs;generalize B e=b1 at hs;cases hs;rename_i h _ _ _ _;rw[h];rfl
  -- the same effects
  have E:∀ e,e<ops.size->K e=true->(pos e<pos i↔pos e<q):=fun e u y=>by
   obtain⟨oe,D⟩:=qrl u;constructor
   ·intro h;exact(I.mM e u y).1 (aCN e (C.mM i o e oe ho D (aFF D y) (.inl hie) h))
   ·intro h;have hSe:=(I.mM e u y).2 h;rcases lUW (pos e) (pos i)with t|t|t
    ·exact t
    ·have:=C.inj e i u T t;subst this;exact absurd hSe N
    ·exact absurd (C.edg.rW I.shut D hSe (C.mM e oe i o D ho hie (.inl (aFF D y)) t)) N
  have hH:(st (pos i)).H=(st q).H:=by
   rcases Nat.le_total q (pos i)with h|h
   ·exact C.oF (pos i) h (by omega) fun e u y e3 e4=>by have:=(E e u y).1 e4;omega
   ·exact(C.oF q h I.le fun e u y e3 e4=>by have:=(E e u y).2 e4;omega).symm
  have hM:∀ j,Mg ops ms pos K (pos i) j↔Mg ops ms pos K q j:=fun j=>
   ⟨fun⟨e,u,y,e3,e4⟩=>⟨e,u,(E e u e3).1 y,e3,e4⟩,fun⟨e,u,y,e3,e4⟩=>⟨e,u,(E e u e3).2 y,e3,e4⟩⟩
  have hv:=C.view h0 R (q:=pos i) (by omega) (fun j=>hasB (ms.getD i 0) j) (fun j _ hj=>C.kM ho hj);generalize hHv:fI (ms.getD i 0) (st (pos i)).pend (st (pos i)).H=Hv at hval;rw[<-qyo,hHv]at hv;have hv':HS base ops ms st pos B K q (fun j=>hasB (ms.getD i 0) j=true) Hv:=
   ⟨hv.nx.trans (by rw[hH]),fun j b p g r H=>hv.hit j b p g r fun h=>H ((hM j).1 h),
    fun c s Z=>(hv.miss c s fun j p g r H=>Z j p g r fun h=>H ((hM j).2 h)).trans (by rw[hH])⟩
  obtain⟨p1,p2⟩:=part hv' fun j _ hj=>aCN j hj;have hHR:=I.hr.sub p1 p2
  -- what is not in the part is dead there
  have hout:∀ j,j<ops.size->B j≠none->¬ Mg ops ms pos K q j->hasB (ms.getD i 0) j=false->Hv.get (base+j)=.dead:=fun j p g r H=>by
   rw[hv'.miss (base+j) (R j p g) fun k k1 k2 k3 k4 e=>by
    have:j=k:=by omega
    subst this;rw[H]at k2;cases k2]
   exact I.dead j p g r
  have J:∀ c,iJ (c)->(Hv.get c).dU=false->Hv.get c=G.get c:=fun c s hl=>by
   rcases p2 c s with e|e
   ·exact e
   ·rw[e]at hl;cases hl
  have hq':(st (pos i+1)).H=H':=by rw[hst]
  have hM':∀ j,Mg ops ms pos K (pos i+1) j↔Mg ops ms pos K q j\/hasB (ms.getD i 0) j=true:=fun j=>by rw[C.q8 T,hM,hKi];simp
  rw[<-hpj]at hval
  let next:Act->World->Prop:=fun a'' w'=>∃ ι',LR ι' d n ((eB d n o.dst).f ((nU d n (lQ ops o)).f L) v) a''.tmps/\HR ι' H' w'/\Fr ι ι' Hv H' w w'/\a''.defers=a.defers
  have hwp:=xcy (m:=m) (F:=F) (Q:=fun _ _ _=>False) (next:=next) (a:={a with tmps:=qhw (lQ ops o) a.tmps}) hf hC hF hHR hlp hval
   (fun X w' ι' r1 r2 r3=>⟨ι',qhv (hlp.mono r3.le) _ r1,r2,r3,by rw[put_defers]⟩)
  refine⟨fun f _=>hF.fn f,?_⟩;have aMs:=hwp.2;rw[qco hnd,qr9 a o hsel]at aMs;rw[qco hnd];refine q7t (fun X w' Z=>?_) (fun a'' w' Z=>Z.choose_spec.2.2.2) aMs;obtain⟨ι',x1,x2,M,_⟩:=Z;have hlr:=xe1 (a:=a) M.le I.lr x1 (by simp only[qgs];exact I.lr.size);have hup:=I.up
  -- the heap behind
  let pb:Nat->Prop:=fun j=>S j/\¬ Mg ops ms pos K q j/\hasB (ms.getD i 0) j=false
  obtain⟨G',g1,g2,g3⟩:=mkG H' base (fun j=>open Classical in if pb j then B j else none) ops.size (fun j p g=>R j p (by intro e;simp only[e]at g;split at g<;>exact g rfl));have gin:∀ j b,j<ops.size->pb j->B j=Option.some b->G'.get (base+j)=b:=fun j b p g r=>g2 j b p (by rw[lEZ g];exact r);have aIA:∀ c,iJ (c)->(∀j,j<ops.size->pb j->B j≠none->c≠base+j)->G'.get c=H'.get c:=fun c s Z=>g3 c s fun j p g=>by
   by_cases e:pb j
   ·rw[lEZ e]at g;exact Z j p e g
   ·rw[lEU e]at g;exact absurd rfl g
  -- facts on the blocks that are A
  have A:∀ j,j<ops.size->pb j->B j≠none->∃ b l,B j=Option.some b/\b.wr=true/\G.get (base+j)=b/\G'.get (base+j)=b/\ι (base+j)=Option.some l/\ι' (base+j)=Option.some l/\l.blk<w.heap.size/\Hv.get (base+j)=.dead:=fun j p g r=>by
   obtain⟨b,hbj⟩:=lX9.1 r;obtain⟨l,hl⟩:=I.some j p r g.1;have hGj:=I.hs.hit j b p g.1 hbj g.2.1;have aO3:b.wr=true:=by obtain⟨oj,hoj⟩:=qrl p;have hs:=C.step j oj hoj;rw[hbj]at hs;generalize V j=v1 at hs;generalize K j=k1 at hs;cases hs;assumption
   exact⟨b,l,hbj,aO3,hGj,gin j b p g hbj,hl,M.le _ _ hl,I.hr.low _ l (R j p r) (by rw[hGj];exact bX.bL aO3) hl,hout j p r g.2.1 g.2.2⟩
  have split:∀ c,iJ (c)->(∃j,j<ops.size/\pb j/\B j≠none/\c=base+j)\/G'.get c=H'.get c:=fun c s=>by
   by_cases e:∃ j,j<ops.size/\pb j/\B j≠none/\c=base+j
   ·exact .inl e
   ·exact .inr (aIA c s fun j p g r h=>e ⟨j,p,g,r,h⟩)
  -- a live block of H' does not lie on a A one
  have aAm:∀ j,j<ops.size->pb j->B j≠none->∀ c l l',iJ (c)->(H'.get c).dU=false->ι (base+j)=Option.some l->ι' c=Option.some l'->l.blk≠l'.blk:=fun j p g r c l l' s hl t x e=>by
   obtain⟨b,l1,k1,k2,k3,k4,k5,k6,k7,k8⟩:=A j p g r;rw[k5]at t;cases t;rcases M.live c l' s hl x with h5|⟨b0,l0,c1,c2,c3,c4⟩
   ·omega
   ·have hb0:=J b0 c1 c2;have:=I.hr.inj (base+j) b0 l l0 (R j p r) c1 (by rw[k3];exact k2) (by rw[<-hb0];exact c2) k5 c3 (e.trans c4.symm);subst this;rw[k8]at c2;cases c2
  have aIj:∀ j,j<ops.size->B j≠none->¬ Mg ops ms pos K (pos i+1) j->H'.get (base+j)=.dead:=fun j p g r=>by
   have bGM:¬ Mg ops ms pos K q j:=fun h=>r ((hM' j).2 (.inl h));have hna:hasB (ms.getD i 0) j=false:=lXB.2 fun h=>r ((hM' j).2 (.inr h));refine Classical.byContradiction fun hnd=>?_;have hlv:(H'.get (base+j)).dU=false:=by cases hh:H'.get (base+j)<;>first|rfl|exact absurd hh hnd
   obtain⟨l',hl'⟩:=(x2.blk _ (R j p g)).some hlv;by_cases hSj:S j
   ·obtain⟨l,hl⟩:=I.some j p g hSj;have e:=M.le _ _ hl;rw[hl']at e;exact aAm j p ⟨hSj,bGM,hna⟩ g (base+j) l l' (R j p g) hlv hl hl' (by cases e;rfl)
   ·have t:=I.free j p g hSj;have x:=M.dom (base+j) t (by rw[hl'];simp);have h3:=(hb j p g).1;omega
  have aZA:HR ι' G' w':=by
   refine⟨by rw[g1];exact x2.top,fun c s=>?_,fun c l s t x=>?_,fun c c' l l' s hc' t x h3 h4 h5=>?_,fun c s=>x2.fresh c (by rw[<-g1];exact s),fun c s hc'=>?_⟩
   ·rcases split c s with⟨j,p,g,r,rfl⟩|e
    ·obtain⟨b,l,k1,k2,k3,k4,k5,k6,k7,k8⟩:=A j p g r;rw[k4];have hBR:=I.hr.blk _ s;rw[k3]at hBR;refine(hBR.keep fun l2 _ hl2=>?_).mono M.le;rw[k5]at hl2;cases hl2;refine M.keep l.blk k7 fun b0 l0 c1 c2 c3 e=>?_;have hb0:=J b0 c1 (bX.bL c2);have:=I.hr.inj b0 (base+j) l0 l c1 s (by rw[<-hb0];exact c2) (by rw[k3];exact bX.bL k2) c3 k5 e;subst this;rw[k8]at c2;cases c2
    ·rw[e];exact x2.blk c s
   ·rcases split c s with⟨j,p,g,r,rfl⟩|e
    ·obtain⟨b,l1,k1,k2,k3,k4,k5,k6,k7,k8⟩:=A j p g r;rw[k6]at x;cases x;exact af k7 M.size
    ·rw[e]at t;exact x2.low c l s t x
   ·rcases split c s with⟨j,p,g,r,rfl⟩|e
    ·obtain⟨b,l1,k1,k2,k3,k4,k5,k6,k7,k8⟩:=A j p g r;rw[k6]at h3;cases h3;rcases split c' hc' with⟨j',t1,t2,t3,rfl⟩|e'
     ·obtain⟨b',l2,m1,m2,m3,m4,m5,m6,m7,m8⟩:=A j' t1 t2 t3;rw[m6]at h4;cases h4;exact I.hr.inj _ _ l l' s hc' (by rw[k3];exact k2) (by rw[m3];exact bX.bL m2) k5 m5 h5
     ·rw[e']at x;exact absurd h5 (aAm j p g r c' l l' hc' x k5 h4)
    ·rw[e]at t;rcases split c' hc' with⟨j',t1,t2,t3,rfl⟩|e'
     ·obtain⟨b',l2,m1,m2,m3,m4,m5,m6,m7,m8⟩:=A j' t1 t2 t3;rw[m6]at h4;cases h4;exact absurd h5.symm (aAm j' t1 t2 t3 c l' l s (bX.bL t) m5 h3)
     ·rw[e']at x;exact x2.inj c c' l l' s hc' t x h3 h4 h5
   ·rw[g1]at s;have hnx:=M.nx;rw[aIA c hc' fun j p g r e=>by have:=(hb j p r).1;omega];exact x2.free c s hc'
  refine hK _ _ ι' ((eB d n o.dst).f L v) G' (pos i+1)
   {shut:=aDl,le:=hp,
    mM:=fun e u y=>?_,
    lr:=hlr,tv:=z8a C hn I.shut I.tv ho N hV,hr:=aZA,
    hs:=⟨by rw[g1,hq'],fun j b p g r H=>?_,fun c s Z=>?_⟩,
    dead:=fun j p g r=>by rw[hq'];exact aIj j p g r,
    free:=fun j p g r=>?_,
    some:=fun j p g r=>?_,
    up:=by rw[g1];have:=M.nx;omega,fr:= ?_,ds:=by rw[put_defers];exact I.ds}
  ·rw[C.lt_succ T u];constructor
   ·rintro (h|h)
    ·exact .inl ((E e u y).2 ((I.mM e u y).1 h))
    ·exact .inr h
   ·rintro (h|h)
    ·exact .inl ((I.mM e u y).2 ((E e u y).1 h))
    ·exact .inr h
  ·rcases g with g|rfl
   ·exact gin j b p ⟨g,fun h=>H ((hM' j).2 (.inl h)),lXB.2 fun h=>H ((hM' j).2 (.inr h))⟩ r
   ·rw[hB]at r;cases r
  ·rw[hq'];exact aIA c s fun j p g r=>Z j p (.inl g.1) r fun h=>by
    rcases(hM' j).1 h with h|h
    ·exact g.2.1 h
    ·rw[g.2.2]at h;cases h
  ·have t:=I.free j p g fun h=>r (.inl h);refine Classical.byContradiction fun x=>?_;have h3:=M.dom (base+j) t x;have h4:=(hb j p g).1;omega
  ·rcases r with r|rfl
   ·obtain⟨l,hl⟩:=I.some j p g r;exact⟨l,M.le _ _ hl⟩
   ·exact absurd hB g
  ·have hnx:=M.nx;refine I.fr.step M.le (by rw[g1,<-p1];exact hnx) (fun c t x=>?_) M.os M.tape M.output M.size (fun c s Z=>M.keep c s fun b l b1 b2 b3=>Z b l b1 (by rw[<-J b b1 (bX.bL b2)];exact b2) b3) (fun c l s t x=>?_) (fun c l s t x=>?_)
   ·have:=M.dom c t x;omega
   ·rcases split c s with⟨j,p,g,r,rfl⟩|e
    ·obtain⟨b,l1,k1,k2,k3,k4,k5,k6,k7,k8⟩:=A j p g r;rw[k6]at x;cases x;exact .inr ⟨base+j,l,s,by rw[k3];exact k2,k5,rfl⟩
    ·rw[e]at t;rcases M.new c l s t x with h3|⟨b0,l0,c1,c2,c3,c4⟩
     ·exact .inl h3
     ·exact .inr ⟨b0,l0,c1,by rw[<-J b0 c1 (bX.bL c2)];exact c2,c3,c4⟩
   ·rcases split c s with⟨j,p,g,r,rfl⟩|e
    ·obtain⟨b,l1,k1,k2,k3,k4,k5,k6,k7,k8⟩:=A j p g r;rw[k6]at x;cases x;exact .inr ⟨base+j,l,s,by rw[k3];exact bX.bL k2,k5,rfl⟩
    ·rw[e]at t;rcases M.live c l s t x with h3|⟨b0,l0,c1,c2,c3,c4⟩
     ·exact .inl h3
     ·exact .inr ⟨b0,l0,c1,by rw[<-J b0 c1 c2];exact c2,c3,c4⟩
def open_(listed:Array Bool)(N:Nat):Nat:=(List.range N).countP fun j=> !listed.getD j false
theorem qeq(a:Array Bool)(N:Nat):open_ a (N+1)=open_ a N+if a.getD N false=true then 0 else 1:=by unfold open_;rw[lX4,List.countP_append];congr 1;cases h:a.getD N false<;>simp only[List.countP_cons,List.countP_nil,h]<;>rfl
theorem qzo(a:Array Bool)(i j:Nat)(b:i<a.size):(a.setIfInBounds i true).getD j false=(a.getD j false||decide (j=i)):=by
 by_cases e:i=j
 ·simp_all
 ·have:j≠i:=fun h=>e h.symm;simp[e,this]
theorem zc1(a:Array Bool)(i:Nat)(b:i<a.size)(c:a.getD i false=false):∀ N,i<N->open_ (a.setIfInBounds i true) N+1=open_ a N
 |0,h=>by omega
 |N+1,h=>by
  rw[qeq,qeq,qzo _ _ _ b];by_cases e:i=N
  ·subst e;have:∀ M,M<=i->open_ (a.setIfInBounds i true) M=open_ a M:=fun M=>by
    induction M with
    |zero=>intro _;rfl
    |succ M ih=>
     intro d;rw[qeq,qeq,qzo _ _ _ b,ih (by omega)];have:M≠i:=by omega
     simp[this]
   simp_all
  ·have ih:=zc1 a i b c N (by omega);have:N≠i:=fun h=>e h.symm;simp only[this,decide_false,Bool.or_false];omega
theorem q2s(a:Array Bool):∀ N,open_ a N=0->∀ j,j<N->a.getD j false=true
 |0,_,j,hj=>by omega
 |N+1,h,j,hj=>by
  rw[qeq]at h;by_cases e:j=N
  ·simp_all
  ·exact q2s a N (by omega) j (by omega)
theorem q27{o:Oper}{j:Nat}:j∈xN o↔∃ e∈o.after,Region.binds .any e=true/\e.on=j:=by
 unfold xN;simp only[lIB,lIV,Array.mem_toList_iff];constructor
 ·rintro ⟨e,⟨a,b⟩,c⟩;exact⟨e,a,b,c⟩
 ·rintro ⟨e,a,b,c⟩;exact⟨e,⟨a,b⟩,c⟩
theorem any_ok(M:qd9 P O){F:Fence}(N:Fence.dY F){m up:Nat}{ι0:Im}{H0:Hp}{w0:World}{ds:List Deferred}{Q:Exit->Act->World->Prop}(C:Can P d n O base ops ms st pos V B K)(R:(st 0).pend=[])(r:(st 0).jJ=[])(T:∀ i,i<ops.size->B i≠none->base+i<base+up/\iJ (base+i))(s:H0.nx=base)(E:∀ S a w ι L G q,(∀j,j<ops.size->S j)->aEq d n base up ops ms st pos V B K ι0 H0 w0 ds S a w ι L G q->Q .normal a w):∀(c:Nat) (b:Array Bool) (a:Act) (w:World) (ι:Im) (L:TT AV d) (G:Hp) (q:Nat),b.size=ops.size->open_ b ops.size=c -> aEq d n base up ops ms st pos V B K ι0 H0 w0 ds (fun j=>b.getD j false=true) a w ι L G q->wpAnyIn F m P .any ops Q c b a w:=by
 have v:∀ b:Array Bool,b.size=ops.size->Region.ready .any ops b=[]->∀ j,j<ops.size->b.getD j false=true:=fun b h p j=>by
  induction j using Nat.strongRecOn with
  |ind j ih=>
   intro u;refine Classical.byContradiction fun H=>?_;obtain⟨o,g⟩:=qrl u;have:j∈Region.ready .any ops b:=mem_ready.2 ⟨by
     rw[lOT,lU0 (by omega)]at H ⊢;simpa using H,o,g,fun e U t=>by
    have y:=C.edg.back j o g e.on (q27.2 ⟨e,U,t,rfl⟩);exact ih e.on y (by omega)⟩
   simp_all
 intro c
 induction c with
 |zero=>
  intro b a w ι L G q h g I;have f:=q2s b _ g;refine⟨?_,E _ a w ι L G q f I⟩;cases p:Region.ready .any ops b with
  |nil=>rfl
  |cons x xs=>
   have:x∈Region.ready .any ops b:=by rw[p];simp
   obtain⟨J,o,A,_⟩:=mem_ready.1 this;have:=f x (qef A);rw[lOT,lU0 (by rw[h];exact qef A)]at this J;simp_all
 |succ c ih=>
  intro b a w ι L G q h D I;refine⟨fun p=>E _ a w ι L G q (v b h p) I,fun i W=>?_⟩;obtain⟨J,o,g,A⟩:=mem_ready.1 W;have z:=qef g;have k:i<b.size:=by omega
  have l:b.getD i false=false:=by simp_all
  refine step_ok M N C R r T s I g (by rw[l];simp) (fun j u=>?_) fun X w' Y Z G' q' I'=>?_
  ·obtain⟨e,e1,e2,rfl⟩:=q27.1 u;simp_all
  ·refine ih _ X w' Y Z G' q' (by simpa using h) ?_ ?_
   ·have:=zc1 b i k l ops.size z;omega
   ·have hS:(fun j=>(b.setIfInBounds i true).getD j false=true)=(fun j=>b.getD j false=true\/j=i):=by
     funext j;rw[qzo _ _ _ k];simp
    simp_all
theorem zza(hC:qd9 P O){F:Fence}(hF:Fence.dY F)(hm:P.follows .mixedOrders=true){m id:Nat}{Q:Exit->Act->World->Prop}{ι:Im}{H:Hp}{w:World}{a:Act}{L:TT AV d}(R:HR ι H w)(h:LR ι d n L a.tmps){L':TT AV d}{H':Hp}(A:(ql8 P d n ops).f O L H=.ok L' H')(hK:Then ι H w a d n L' H' (Q .normal)):(Code.region id ops true).wpIn F m P Q a w:=by
 unfold ql8 at A;split at A
 ·cases A
 ·rename_i pl hp;simp only at A
  ·
   split at A
   ·cases A
   ·rename_i L1 H1 z jJ hx;cases A;obtain⟨st,pos,V,B,K,C,s0,sN,hu⟩:=Can.of (s:=⟨L,⟨H.t,H.nx+pl.up⟩,[],[]⟩) hp hx;have W:iJ (H.nx+pl.up):=qL;have u:∀ i,i<ops.size->B i≠none->H.nx+i<H.nx+pl.up/\iJ (H.nx+i):=fun i k r=>by
     obtain⟨o,ho⟩:=qrl k;have hs:=C.step i o ho;obtain⟨b,u⟩:=lX9.1 r;rw[u]at hs;generalize V i=v1 at hs;generalize K i=k1 at hs;have hal:qha o.op=true:=by cases hs;assumption
     have X:ops.toList.any (fun o=>qha o.op)=true:=lUH.2 ⟨o,lIK (i:=i) (by simpa using ho),hal⟩;rw[X]at hu;simp only[lII]at hu;exact⟨by omega,qL⟩
    have hd:=R.drawn (w.drawn+1);have hH0:HR ι ⟨H.t,H.nx+pl.up⟩ {w with drawn:=w.drawn+1}:=
     ⟨W,hd.blk,hd.low,hd.inj,fun b D=>R.fresh b (by simp only at D;omega),fun b D aXH=>R.free b (by simp only at D;omega) aXH⟩
    have hF0:Fr ι ι H ⟨H.t,H.nx+pl.up⟩ w {w with drawn:=w.drawn+1}:=
     ⟨Im.le_refl _,by simp,fun b g E=>absurd g E,rfl,rfl,rfl,lEO _,fun _ _ _=>rfl,fun b l u g E=>.inr ⟨b,l,u,g,E,rfl⟩,fun b l u g E=>.inr ⟨b,l,u,g,E,rfl⟩⟩
    have aHZ:∀ i,i<ops.size->B i≠none->H.get (H.nx+i)=.dead:=fun i k r=>R.free _ (by omega) (u i k r).2;refine wpIn_region_any hm (any_ok (base:=H.nx) (up:=pl.up) (ι0:=ι) (H0:=H) (w0:=w) (ds:=a.defers) hC hF C (by rw[s0]) (by rw[s0]) u rfl ?_ ops.size (Array.replicate ops.size false) a {w with drawn:=w.drawn+1} ι L ⟨H.t,H.nx+pl.up⟩ 0 (by simp) ?_ ?_)
    ·intro S a' w' ι' LL G q f I;have hM:∀ j,Mg ops pl.ms pos K ops.size j↔Mg ops pl.ms pos K q j:=fun j=>
      ⟨fun⟨e,p,e2,T,e4⟩=>⟨e,p,(I.mM e p T).1 (f e p),T,e4⟩,fun⟨e,p,e2,T,e4⟩=>⟨e,p,C.plt e p,T,e4⟩⟩
     have hHq:=C.oF (q:=q) ops.size I.le (lEO _) fun e p e2 T e4=>by have:=(I.mM e p e2).1 (f e p);omega
     have hv:=C.view (by rw[s0]) (fun i k r=>(u i k r).2) (q:=ops.size) (lEO _) (fun _=>true) (fun j hj _=>C.plt j hj);rw[<-xa0,sN]at hv;have Y:(nT z H1).nx=G.nx:=by have g:=hv.nx;have E:=I.hs.nx;simp_all
     have v:∀ c,iJ (c)->(nT z H1).get c=G.get c:=fun c U=>by
      by_cases e:∃ j,j<ops.size/\B j≠none/\¬ Mg ops pl.ms pos K q j/\c=H.nx+j
      ·obtain⟨j,J,j2,M,rfl⟩:=e;obtain⟨b,hbj⟩:=lX9.1 j2;rw[hv.hit j b J rfl hbj fun x=>M ((hM j).1 x),I.hs.hit j b J (f j J) hbj M]
      ·rw[hv.miss c U fun j J _ M j4 x=>e ⟨j,J,M,fun y=>j4 ((hM j).2 y),x⟩,I.hs.miss c U fun j J _ M j4 x=>e ⟨j,J,M,j4,x⟩,hHq]
     refine hK a' w' ι' ⟨I.lr.size,I.lr.fits,fun t ht=>?_⟩ I.ds (I.hr.sub Y fun c U=>.inl (v c U)) (I.fr.congr Y v);have Z:=af ht h.fit;have g:=C.locals h.fit ops.size (lEO _) t Z;rw[sN]at g;rw[g,qjo (S':=S) _ fun j hj _=>⟨fun _=>f j hj,fun _=>C.plt j hj⟩,<-I.tv t Z];exact I.lr.get t ht
    ·have:∀ N,open_ (Array.replicate ops.size false) N=N:=fun N=>by
      induction N with
      |zero=>rfl
      |succ N ih=>
       rw[qeq,ih];have:(Array.replicate ops.size false).getD N false=false:=by rw[lOT,Array.getElem?_replicate];split<;>rfl
       rw[this];rfl
     exact this _
    ·have hgf:∀ j,(Array.replicate ops.size false).getD j false=false:=fun j=>by
      rw[lOT,Array.getElem?_replicate];split<;>rfl
     refine{shut:=fun i o ho k=>?_,le:=lEV _,mM:=fun e p e2=>?_,lr:=h,tv:=fun t ht=>?_,hr:=hH0,hs:=⟨by rw[s0],fun i b g E=>?_,fun c U _=>by rw[s0]⟩,dead:=fun i k r _=>?_,free:=fun i k r _=>R.fresh _ (by omega),some:=fun i k r hS=>?_,up:=lEO _,fr:=hF0,ds:=rfl}
     ·simp_all
     ·simp_all
     ·have g:=C.locals h.fit 0 (lEV _) t ht;simp_all
     ·simp_all
     ·rw[s0];exact aHZ i k r
     ·simp_all
theorem zoa{a:TT AV d}{S:Nat->Prop}:∀ m,tv ops n V a S m n=(dW d n).f a
 |0=>rfl
 |m+1=>by unfold tv;rw[lEU (by omega)];exact zoa m
theorem qv6(b:n<8 ^ d){L:TT AV d}{H:Hp}{c:TT AV d}{g:Hp}(a:(ql8 P d n ops).f O L H=.ok c g):(dW d n).f c=(dW d n).f L:=by
 unfold ql8 at a;split at a
 ·cases a
 ·rename_i pl h;simp only at a
  ·
   split at a
   ·cases a
   ·rename_i L1 H1 f k i;cases a;obtain⟨st,pos,V,B,K,C,s0,j,l⟩:=Can.of (s:=⟨L,⟨H.t,H.nx+pl.up⟩,[],[]⟩) h i;have e:=C.locals (lON b) ops.size (lEO _) n b;rw[j]at e;rw[e,s0];exact zoa _
end Go.Ev
end
noncomputable section
namespace Go.Ev
open Go.RowKit
variable {P:Program} {w:World} {ι:Im} {a:Act} {d n:Nat} {L:TT AV d} {H:Hp} {O:Call} {F:Fence} {m:Nat}
def MdL(lo:Nat)(ι:Im)(H:Hp)(w:World):List AV->List Deferred->List Nat->Prop
 |l,[],Ds=>l=[]/\Ds=[]
 |l,x::ds,Ds=>(∃D Ds',Ds=D::Ds'/\x={target:=.collected D,args:= #[]}/\D∉Ds'/\(lo<=D/\D<w.heap.size/\w.heap[D]? =some (.deferred (some []))/\∀ b l,iJ (b)->(H.get b).dU=false->ι b=some l->l.blk≠D)/\MdL lo ι H w l ds Ds') \/
   (∃g all l' A C,l=.fn g all []::l'/\x={target:=.fn (.func g) C,args:=A}/\aL ι all (A.toList++C.toList)/\MdL lo ι H w l' ds Ds)
theorem MdL.fr{lo:Nat}{o:Im}{p:Hp}{w':World}(f:Fr ι o H p w w'):∀{ds:List Deferred} {l:List AV} {a:List Nat},MdL lo ι H w l ds a->MdL lo o p w' l ds a
 | [],l,a,h=>h
 |x::ds,l,a,h=>by
  rcases h with⟨D,e,i,j,k,⟨k0,q,k2,r⟩,m⟩|⟨g,n,v,A,C,i,j,k,m⟩
  ·refine .inl ⟨D,e,i,j,k,⟨k0,af q f.size,?_,fun b l c s d t=>?_⟩,m.fr f⟩
   ·rw[f.keep D q fun b l c u d=>r b l c (bX.bL u) d];exact k2
   ·rcases f.live b l c s d with I|⟨y,z,B,E,F,G⟩
    ·omega
    ·exact r y z B E F (G.trans t)
  ·exact .inr ⟨g,n,v,A,C,i,j,aL.mono f.le _ _ k,m.fr f⟩
theorem MdL.lt{lo:Nat}:∀{ds:List Deferred} {l:List AV} {b:List Nat},MdL lo ι H w l ds b->∀ D∈b,D<w.heap.size
 | [],l,b,h,D,a=>by rw[h.2]at a;cases a
 |x::ds,l,b,h,D,a=>by
  rcases h with⟨m,e,d,f,i,⟨k0,j,k2,n⟩,c⟩|⟨g,k,o,A,C,d,f,i,c⟩
  ·subst d;rcases lI8.1 a with rfl|a
   ·exact j
   ·exact c.lt D a
  ·exact c.lt D a
structure Md(pl:Bool)(lo:Nat)(ι:Im)(H:Hp)(w:World)(l:List AV)(ds:List Deferred):Prop where
 plain:pl=true->ds=[]
 low:lo<=w.heap.size
 ex:∃ Ds,MdL lo ι H w l ds Ds
theorem Md.nil{pl:Bool}{lo:Nat}(h:lo<=w.heap.size):Md pl lo ι H w [] []:=⟨fun _=>rfl,h,[],rfl,rfl⟩
theorem Md.fr{pl:Bool}{lo:Nat}{a:Im}{b:Hp}{w':World}{l:List AV}{ds:List Deferred}(h:Md pl lo ι H w l ds)(f:Fr ι a H b w w'):Md pl lo a b w' l ds:=by obtain⟨c,d,e,g⟩:=h;exact⟨c,lI7 d f.size,e,g.fr f⟩
def xdz:Ex->Exit
 | .normal=>.normal
 | .exit id=>.exit id
 | .ret=>.ret
 | .goto l=>.goto l
def After(pl:Bool)(lo:Nat)(ι:Im)(H:Hp)(w:World)(d n:Nat)(L':TT AV d)(H':Hp)(Q:Act->World->Prop):Prop:=
 ∀a' w' ι',LR ι' d n L' a'.tmps->Md pl lo ι' H' w' (dl ((dW d n).f L')) a'.defers->HR ι' H' w'->Fr ι ι' H H' w w'->Q a' w'
theorem qyx{r:Rc d}{k:TT AV d->Hp->Rc d}{a:Ex}{b:TT AV d}{c:Hp}(h:sI r k=.ok a b c):(∃L1 H1,r=.ok .normal L1 H1/\k L1 H1=.ok a b c)\/(a≠ .normal/\r=.ok a b c):=by
 unfold sI at h;split at h
 ·exact .inl ⟨_,_,rfl,h⟩
 ·simp_all
theorem q39{r:Rc d}{id:Nat}{a:Ex}{b:TT AV d}{c:Hp}(h:qwc id r=.ok a b c):(a=.normal/\r=.ok (.exit id) b c)\/((∀i,a=.exit i->i≠id)/\r=.ok a b c):=by
 unfold qwc at h;split at h
 ·rename_i f L1 H1;cases g:Nat.beq f id with
  |true=>rw[g]at h;simp only[lII]at h;cases h;have:=yG g;subst this;exact .inl ⟨rfl,rfl⟩
  |false=>rw[g]at h;simp only[lOZ]at h;cases h;refine .inr ⟨fun i e=>?_,rfl⟩;cases e;intro e;subst e;simp_all
 ·simp_all
theorem After.normal{pl:Bool}{lo:Nat}{e:Im}{H1:Hp}{w':World}{g:TT AV d}{i:Hp}{Q:Act->World->Prop}(f:Fr ι e H H1 w w')(h:After pl lo ι H w d n g i Q):After pl lo e H1 w' d n g i Q:=
 fun a b c j k l m=>h a b c j k l (f.trans m)
def qd8(P:Program)(O:Call)(d n m:Nat)(c:Code):Prop:=
 ∀{F:Fence},Fence.dY F->(F.round=none\/lD c=true)->∀{pl:Bool} {lo:Nat} {ι:Im} {w:World} {a:Act} {L:TT AV d} {H:Hp},HR ι H w->LR ι d n L a.tmps->(pl=true->lD c=true)->Md pl lo ι H w (dl ((dW d n).f L)) a.defers ->
  ∀{ex:Ex} {L':TT AV d} {H':Hp},(den P d n c).f O L H=.ok ex L' H'->∀{Q:Exit->Act->World->Prop},After pl lo ι H w d n L' H' (Q (xdz ex))->c.wpIn F m P Q a w
theorem zzg{x y:Code}(s:qd8 P O d n m x)(C:qd8 P O d n m y):qd8 P O d n m (.seq x y):=by
 intro F p v pl lo ι w a L H z h f A D I J E Q B;have b:F.round=none\/lD x=true:=v.imp id fun h=>by simp only[lD,lI0]at h;exact h.1
 have l:F.round=none\/lD y=true:=v.imp id fun h=>by simp only[lD,lI0]at h;exact h.2
 have c:pl=true->lD x=true:=fun e=>by have:=f e;simp only[lD,lI0]at this;exact this.1
 have o:pl=true->lD y=true:=fun e=>by have:=f e;simp only[lD,lI0]at this;exact this.2
 refine wpIn_seq ?_;rcases qyx E with⟨L1,H1,q,G⟩|⟨r,q⟩
 ·exact s p b z h c A q fun t w' u g i j k=>C p l j g o i G (B.normal k)
 ·refine s p b z h c A q fun t w' u g i j k=>?_;have:=B t w' u g i j k;cases D<;>first|exact absurd rfl r|exact this
theorem zrz{c:Operand}{x y:Code}(t:qd8 P O d n m x)(u:qd8 P O d n m y):qd8 P O d n m (.cond c x y):=by
 intro F o p pl lo ι w a L H q h g r v z A f Q s;have i:F.round=none\/lD x=true:=p.imp id fun h=>by simp only[lD,lI0]at h;exact h.1
 have j:F.round=none\/lD y=true:=p.imp id fun h=>by simp only[lD,lI0]at h;exact h.2
 have k:pl=true->lD x=true:=fun e=>by have:=g e;simp only[lD,lI0]at this;exact this.1
 have l:pl=true->lD y=true:=fun e=>by have:=g e;simp only[lD,lI0]at this;exact this.2
 have b:=gJ h c;change condC ((aJ d n c).f L) _ _=_ at f;unfold condC at f;split at f
 ·rename_i e;rw[e]at b;simp only[aR]at b;exact wpIn_cond_true b (t o i q h k r f s)
 ·rename_i e;rw[e]at b;simp only[aR]at b;exact wpIn_cond_false b (u o j q h l r f s)
 ·cases f
theorem zf3{id:Nat}{x:Code}(p:qd8 P O d n m x):qd8 P O d n m (.block id x):=by
 intro F q r pl lo ι w a L H s h b t v z A y Q u;refine wpIn_block ?_;rcases q39 y with⟨rfl,l⟩|⟨o,l⟩
 ·refine p q r s h b t l fun c w' e f g j k=>?_;show if id=id then _ else _
  rw[lEZ rfl];exact u c w' e f g j k
 ·refine p q r s h b t l fun c w' e f g j k=>?_;have:=u c w' e f g j k;cases v with
  |exit i=>show if i=id then _ else _;rw[lEU (o i rfl)];exact this
  |normal=>exact this
  |ret=>exact this
  |goto=>exact this
theorem zry{x:Code}(o:qd8 P O d n m x):qd8 P O d n m (.loop x):=by
 intro F r s pl lo ι w a L H t h b u y A B c Q v;change qsz _ bZ L H=_ at c;refine wpIn_loop_rounds bZ ?_;revert c;generalize bZ=k;intro c
 induction k generalizing ι w a L H with
 |zero=>cases c
 |succ k ih=>
  rcases qyx c with⟨L1,H1,j,z⟩|⟨l,j⟩
  ·exact o r s t h b u j fun p w' q e f g i=>ih g e f (v.normal i) z
  ·refine o r s t h b u j fun p w' q e f g i=>?_;have:=v p w' q e f g i;cases y<;>first|exact absurd rfl l|exact this
theorem zf1{x:Code}(o:qd8 P O d n m x)(p:∀ L H b g j,(den P d n x).f O L H=.ok b g j->∀ l,b≠ .goto l):qd8 P O d n m (.scope x):=by
 intro F z c pl lo ι w a L H A h f B b g j k Q C;have c:F.round=none:=c.resolve_right (by simp[lD]);obtain⟨r,rfl⟩:=z.eq;have:r=none:=c;subst this;have D:({Fence.wide with round:=none}:Fence)=Fence.wide:=rfl;refine wpIn_wide.2 (wp_scope_straight ((wpIn_wide (n:=m)).1 ?_));refine o Fence.aAv (.inl rfl) A h (fun e=>by have:=f e;simp[lD]at this) B k fun q w' s t u v y=>?_;have:=C q w' s t u v y;cases b with
 |goto l=>exact absurd rfl (p _ _ _ _ _ k l)
 |exit i=>exact this
 |normal=>exact this
 |ret=>exact this
theorem zfz:∀(c:Code) {L:TT AV d} {H:Hp} {g:Ex} {i:TT AV d} {j:Hp},(den P d n c).f O L H=.ok g i j->∀ l,g≠ .goto l:=by
 intro c
 induction c with
 |skip=>intro L H g i j h l;cases h;exact fun e=>by cases e
 |label=>intro L H g i j h l;cases h;exact fun e=>by cases e
 |region id ops draw=>
  intro L H g i j h l;cases draw with
  |false=>
   change nH _=_ at h;unfold nH at h;split at h
   ·cases h
   ·cases h;exact fun e=>by cases e
  |true=>
   change nH _=_ at h;unfold nH at h;split at h
   ·cases h
   ·cases h;exact fun e=>by cases e
 |seq a b iha ihb=>
  intro L H g i j h l;rcases qyx h with⟨L1,H1,m,o⟩|⟨_,m⟩
  ·exact ihb o l
  ·exact iha m l
 |cond x a b iha ihb=>
  intro L H g i j h l;change condC _ _ _=_ at h;unfold condC at h;split at h
  ·exact iha h l
  ·exact ihb h l
  ·cases h
 |block id b ih=>
  intro L H g i j h l;rcases q39 h with⟨rfl,_⟩|⟨_,m⟩
  ·simp
  ·exact ih m l
 |loop b ih=>
  intro L H g i j h l;change qsz _ bZ L H=_ at h;revert h;generalize bZ=k;intro h
  induction k generalizing L H with
  |zero=>cases h
  |succ k ihk=>
   rcases qyx h with⟨L1,H1,m,o⟩|⟨_,m⟩
   ·exact ihk o
   ·exact ih m l
 |scope b ih=>intro L H g i j h l;exact ih h l
 |exit id=>intro L H g i j h l;cases h;exact fun e=>by cases e
 |goto=>intro L H g i j h l;cases h
 |ret=>intro L H g i j h l;cases h;exact fun e=>by cases e
 |rangeFunc f ps assign body _ _=>
  intro L H g i j h l;unfold den at h;split at h
  ·cases h
  ·simp only at h
   ·
    unfold endLoop at h;split at h
    ·cases h
    ·split at h
     ·cases h;exact fun e=>by cases e
     ·cases h;exact fun e=>by cases e
     ·cases h;exact fun e=>by cases e
     ·cases h
 |refuse=>intro L H g i j h l;cases h
theorem HR.alloc(h:HR ι H w)(o:Obj):HR ι H (w.alloc o)/\Fr ι ι H H w (w.alloc o):=by
 have d:∀ c,c<w.heap.size->(w.alloc o).heap[c]? =w.heap[c]? :=fun c g=>Below.heap_alloc w o c g;refine⟨⟨h.top,fun b a=>(h.blk b a).keep fun l i j=>d _ (h.low b l a i j),fun b l a e f=>by have:=h.low b l a e f;simp;omega,h.inj,h.fresh,h.free⟩,
  ⟨Im.le_refl _,lEO _,fun b e f=>absurd e f,rfl,rfl,rfl,by simp,fun c g _=>d c g,fun b l a e f=>.inr ⟨b,l,a,e,f,rfl⟩,fun b l a e f=>.inr ⟨b,l,a,e,f,rfl⟩⟩⟩
theorem HR.vU(h:HR ι H w){b:Nat}{l:Loc}(d:ι b=some l)(a:(H.get b).wr=true)(k:bX)(o:Obj)(e:BR ι (w.putObj l.blk o) b k):HR ι (H.put b k) (w.putObj l.blk o)/\Fr ι ι H (H.put b k) w (w.putObj l.blk o):=
 h.put (h.lt d) a d k rfl rfl rfl (by simp) (fun c f=>World.putObj_heap_other f) e
set_option maxHeartbeats 1000000 in
theorem zf2{g:Operand}{ps:Array Tmp}{assign body:Code}(hC:qd9 P O):qd8 P O d n m (.rangeFunc g ps assign body):=by
 intro F hF hr pl lo ι w a L H hH h hpl hM ex L' H' r Q hQ;have hro:F.round=none:=hr.resolve_right (by simp[lD]);have hpf:pl=false:=by
  cases pl with
  |false=>rfl
  |true=>have:=hpl rfl;simp[lD]at this
 subst hpf;unfold den at r;split at r
 ·cases r
 ·rename_i gf _ hg y;simp only at r
  ·
   have E:iJ (H.nx):=qL;simp only[lI0]at y;have s:=gJ h g;rw[hg]at s;simp only at s
   -- the record and the block for deferred calls
   obtain⟨hA,fA⟩:=hH.alloc (.deferred (some []));refine wpIn_rangeFunc fun fn _=>?_
   let lp:Loop:={state:=.ready,pending:=none,fn:=fn,tmps:=a.tmps,params:=ps,assign:=assign,body:=body,defers:=w.heap.size}
   let loc:Loc:=⟨w.heap.size+1,0,0,0⟩
   have G:=hA.fresh H.nx (lEO _);obtain⟨hB,fB⟩:=hA.push (w':=(w.alloc (.deferred (some []))).alloc (.loop lp)) E loc (.loop true none d n L ps.toList assign body) rfl rfl rfl (by simp) (fun c hc=>Below.heap_alloc _ _ c hc) (by simp[loc])
    ⟨loc,lp,Im.bQ ..,by have:=World.alloc_heap_new (w.alloc (.deferred (some []))) (.loop lp);simpa [loc] using this,rfl,rfl,rfl,rfl,rfl,h.mono (Im.jG loc G),y.1,y.2⟩
   have U:=fA.trans fB;have hMd:Md false lo (ι.set H.nx loc) (aK H (.loop true none d n L ps.toList assign body)) ((w.alloc (.deferred (some []))).alloc (.loop lp)) (dl ((dW d n).f L)) ({target:=.collected w.heap.size,args:= #[]}::a.defers):=by
    obtain⟨Ds,m1⟩:=hM.ex;have m2:=m1.fr U;have I:=hM.low;refine⟨fun e=>(by cases e),lI7 I U.size,w.heap.size::Ds,.inl ⟨w.heap.size,Ds,rfl,rfl,fun Y=>absurd (m1.lt _ Y) (lOB _),⟨I,by simp;omega,?_,fun b l Z hl T e=>?_⟩,m2⟩⟩
    ·rw[Below.heap_alloc _ _ _ (by simp)];exact World.alloc_heap_new w _
    ·have hgp:(aK H (.loop true none d n L ps.toList assign body)).get b=if b=H.nx then(.loop true none d n L ps.toList assign body)else H.get b:=by exact Mem.get_put _ _ _ _
     by_cases e':b=H.nx
     ·subst e';rw[Im.bQ]at T;cases T;simp[loc]at e
     ·rw[Im.eU _ _ e']at T;rw[hgp,lEU e']at hl;have:=hH.low b l Z hl T;omega
   unfold endLoop at r;split at r
   ·cases r
   ·rename_i v H2 p;unfold qj9 at p;split at p
    ·rename_i f first cap hgL
     rw[hgL]at s;obtain⟨A,Cc,r1,r2,r3⟩:=s;have J:ι.le (ι.set H.nx loc):=Im.jG loc G;have hyv:aR (ι.set H.nx loc) (.yield H.nx) (.func (.yield (w.heap.size+1)) #[] #[]):=by simp only[aR];exact⟨loc,Im.bQ ..,rfl⟩
     obtain⟨c1,c2⟩:=hC.fn _ _ _ _ _ p (ι.set H.nx loc) _ (A++[.func (.yield (w.heap.size+1)) #[] #[]]++Cc) hB
      (((aL.mono J _ _ r1).append (aL.singleton hyv)).append (aL.mono J _ _ r2))
     have t:(Instr.enterLoop fn a.tmps ps assign body F.round).run P w=.ok (w.heap.size+1,[{target:=.collected w.heap.size,args:= #[]}]) ((w.alloc (.deferred (some []))).alloc (.loop lp)):=by rw[hro];exact run_enterLoop_outer fn a.tmps ps assign body
     refine⟨w.heap.size+1,[{target:=.collected w.heap.size,args:= #[]}],(w.alloc (.deferred (some []))).alloc (.loop lp),{target:=.fn (.func f) Cc.toArray,args:=A.toArray++ #[Value.func (.yield (w.heap.size+1)) #[] #[]]},(w.alloc (.deferred (some []))).alloc (.loop lp),f,(A++[Value.func (.yield (w.heap.size+1)) #[] #[]]++Cc).toArray,(w.alloc (.deferred (some []))).alloc (.loop lp),t,?_,fun f' _=>hF.fn f',?_,?_,?_⟩
     ·simp only[resolve,r3,Deferred.ofValue,Sem.run_pure];congr 2;simp[Act.eval]
     ·simp only[invoke];simpa using c1
     ·simp[hF.depth]
     ·have aIg:=hF.calls (c2 (m-1));refine CallsIn.mono aIg ?_;intro e w' q;cases e with
      |panicked=>exact q.elim
      |outgrown=>exact q.elim
      |returned V=>
       obtain⟨ι',q1,q2,W⟩:=q;have x:ι' H.nx=some loc:=W.le _ _ (Im.bQ ..);have bGH:=hMd.fr W;have fin:∀{j:Bool} {pending:Option Code} {X n':Nat} {L2:TT AV X} {B:List Tmp} {C D:Code},H2.get H.nx=.loop j pending X n' L2 B C D->(j=true\/pending.isSome=true) ->
         ∃u,(Instr.endLoop (w.heap.size+1)).run P w'=.ok pending u/\∀ K:Act->World->Prop,After false lo ι H w d n L (H2.put H.nx .dead) K->K {a with defers:=[{target:=.collected w.heap.size,args:= #[]}]++a.defers} u:=by
        intro j pending X n' L2 B C D i z;have M:=q2.blk H.nx E;rw[i]at M;obtain⟨l2,N,b1,b2,b3,b4,_⟩:=M;rw[x]at b1;cases b1;have hne:N.state≠ .busy:=by
         rw[b3];rcases z with rfl|z
         ·simp
         ·cases j<;>simp[z]
        refine⟨_,by rw[<-b4];exact run_endLoop b2 hne,fun K hK=>?_⟩;obtain⟨z1,z2⟩:=q2.vU (k:=.dead) (o:=.loop {N with state:=.exhausted}) x (by rw[i];rfl) trivial;exact hK _ _ ι' (h.mono (Im.le_trans U.le W.le)) (bGH.fr z2) z1 ((U.trans W).trans z2)
       split at r
       ·rename_i i;cases r;obtain⟨u,R,S⟩:=fin i (.inl rfl);exact⟨_,u,R,S _ hQ⟩
       ·rename_i i;cases r;obtain⟨u,R,S⟩:=fin i (.inr rfl);exact⟨_,u,R,wpIn_ret (S _ hQ)⟩
       ·rename_i i;cases r;obtain⟨u,R,S⟩:=fin i (.inr rfl);exact⟨_,u,R,wpIn_exit (S _ hQ)⟩
       ·cases r
    ·cases p
theorem qvh(j:n<8 ^ d){ops:Array Oper}{o:Oper}{g:TT AV d}{i:Hp}(e:(qg1 P d n ops o).f O L H=.ok g i):(dW d n).f g=(dW d n).f L:=by
 have b:∀{a:TT AV d->AV->TT AV d} (_:eB d n o.dst=⟨a⟩) (v:AV),(dW d n).f (a L v)=(dW d n).f L:=fun c v=>by have:=qjv (v:=v) (lON j) (L:=L) j o.dst;simp_all
 have k:∀{a:TT AV d->AV->TT AV d} (_:eB d n o.dst=⟨a⟩) {r:R0},doQ a L H r=.ok g i->(dW d n).f g=(dW d n).f L:=fun c r f=>by
  unfold doQ at f;split at f
  ·cases f
  ·cases f;exact b c _
  ·cases f;exact b c _
 have h:∀{a:TT AV d->AV->TT AV d} (_:eB d n o.dst=⟨a⟩) {r:R1},doE a L r=.ok g i->(dW d n).f g=(dW d n).f L:=fun c r f=>by
  unfold doE at f;split at f
  ·cases f
  ·cases f;exact b c _
 unfold qg1 at e;split at e
 ·rename_i c;exact k c e
 ·rename_i c;exact h c e
 ·rename_i c;simp only[ifW]at e;split at e
  ·exact k c e
  ·cases e;exact b c _
  ·cases e
 ·rename_i c;simp only[ifW]at e;split at e
  ·exact h c e
  ·cases e;exact b c _
  ·cases e
theorem q8g(B:qd9 P O)(t:Fence.dY F){ops:Array Oper}{Q:Exit->Act->World->Prop}{pl:Bool}{lo:Nat}:∀(l:List Oper),(F.round=none\/l.any rQ=false)->(pl=true->l.any rQ=false)->∀{ι:Im} {w:World} {a:Act} {L:TT AV d} {H:Hp},HR ι H w->LR ι d n L a.tmps->Md pl lo ι H w (dl ((dW d n).f L)) a.defers -> ∀{u:TT AV d} {y:Hp},(qF P d n ops l).f O L H=.ok u y->After pl lo ι H w d n u y (Q .normal)->wpListIn F m P ops Q l a w
 | [],_,_,ι,w,a,L,H,hH,h,hM,u,y,he,hK=>by cases he;exact hK _ _ ι h hM hH (Fr.refl ..)
 |o::l,hr,hp,ι,w,a,L,H,hH,h,hM,u,y,he,hK=>by
  have q:F.round=none\/l.any rQ=false:=hr.imp id fun e=>by simp only[List.any_cons,lXD]at e;exact e.2
  have r:pl=true->l.any rQ=false:=fun e=>by have:=hp e;simp only[List.any_cons,lXD]at this;exact this.2
  simp only[qF,zgg]at he;split at he
  ·cases he
  ·rename_i L1 H1 b;unfold qjr at b;split at b
   ·have D:=qvh h.fits b;have:=zw5 (m:=m) (Q:=Q) (K:=wpListIn F m P ops Q l) B t hH h b (fun a' w' ι' X Y Z R=>
     q8g B t l q r Z X (by rw[D,Y];exact hM.fr R) he (hK.normal R))
    trivial
   ·rename_i c z;unfold aAi at z;split at z
    ·rename_i x args p V hg;have s:rQ o=true:=by unfold rQ;rw[V]
     have E:F.round=none:=hr.resolve_right (by simp[s]);have G:pl=false:=by
      cases pl with
      |false=>rfl
      |true=>have:=hp rfl;simp[s]at this
     subst G;cases z;have T:=gJ h x;have ha:=qcz h args.toList;simp only at b;have g:Region.wanted o (yielded ops a.tmps)=true:=by simp[Region.wanted,hg]
     simp only[wpListIn,g,lU8];refine⟨fun f _=>t.fn f,?_⟩;rw[E,Oper.semAt_none];unfold doD at b;split at b
     ·rename_i f first k M
      simp only[Rs.ok.injEq]at b;obtain⟨W,e2⟩:=b;subst e2;rw[M]at T;obtain⟨A,C,g1,g2,g3⟩:=T;have j:args.map a.eval=(args.toList.map a.eval).toArray:=by rw[<-lUZ]
      have I:(execOp a.eval o).run P w=.ok (.defer {target:=.fn (.func f) C.toArray,args:=A.toArray++(args.toList.map a.eval).toArray}) w:=by simp[execOp,V,resolve,g3,Deferred.ofValue,j]
      rw[I];have J:LR ι d n ((setter d n).f L (.bB (.fn f (first++(wK d n args.toList).f L++k) []::dl ((dW d n).f L)))) a.tmps:=by refine⟨h.size,h.fits,fun i S=>?_⟩;rw[qeg _ _ _ _ _ (lY2 S h.fits) h.fits,lEU (by omega)];exact h.get i S
      refine q8g B t l q r hH (L:=L1) ?_ ?_ he hK
      ·rw[<-W];exact qhv (a:={a with defers:=_::a.defers}) J o.dst (by simp only[aR];rfl)
      ·rw[put_defers,<-W];have U:=qjv (v:=.undef) (lON h.fits) (L:=(setter d n).f L (.bB (.fn f (first++(wK d n args.toList).f L++k) []::dl ((dW d n).f L)))) h.fits o.dst;rw[lEU (by omega)]at U;rw[U,qeg _ _ _ _ _ h.fits h.fits,lEZ rfl];obtain⟨_,N,Ds,hD⟩:=hM;refine⟨fun e=>(by cases e),N,Ds,.inr ⟨f,first++(wK d n args.toList).f L++k,dl ((dW d n).f L),_,_,rfl,rfl,?_,hD⟩⟩;simpa using (g1.append ha).append g2
     ·cases b
    ·cases z
theorem zd1(u:qd9 P O)(y:P.follows .mixedOrders=true):∀ c:Code,qd8 P O d n m c:=by
 intro c
 induction c with
 |skip=>intro F p t pl lo ι w a L H k h i l q r s g Q o;cases g;exact wpIn_skip (o a w ι h l k (Fr.refl ..))
 |label=>intro F p t pl lo ι w a L H k h i l q r s g Q o;cases g;exact wpIn_label (o a w ι h l k (Fr.refl ..))
 |region id ops draw=>
  intro F p t pl lo ι w a L H k h i l q r s g Q o;cases draw with
  |false=>
   change nH _=_ at g;unfold nH at g;split at g
   ·cases g
   ·rename_i L1 H1 j;cases g;exact wpIn_region_list (q8g u p ops.toList (t.imp (fun e=>e) fun e=>by simpa [lD] using e) (fun e=>by have:=i e;simpa [lD] using this) k h l j o)
  |true=>
   change nH _=_ at g;unfold nH at g;split at g
   ·cases g
   ·rename_i L1 H1 j;cases g;exact zza u p y k h j fun z w' A B C D v=>o z w' A B (by rw[C,qv6 h.fits j];exact l.fr v) D v
 |seq a b iha ihb=>exact zzg iha ihb
 |cond x a b iha ihb=>exact zrz iha ihb
 |block id b ih=>exact zf3 ih
 |loop b ih=>exact zry ih
 |scope b ih=>exact zf1 ih fun L H q r s g=>zfz b g
 |exit id=>intro F p t pl lo ι w a L H k h i l q r s g Q o;cases g;exact wpIn_exit (o a w ι h l k (Fr.refl ..))
 |goto=>intro F p t pl lo ι w a L H k h i l q r s g Q o;cases g
 |ret=>intro F p t pl lo ι w a L H k h i l q r s g Q o;cases g;exact wpIn_ret (o a w ι h l k (Fr.refl ..))
 |rangeFunc f ps assign body _ _=>exact zf2 u
 |refuse=>intro F p t pl lo ι w a L H k h i l q r s g Q o;cases g
end Go.Ev
end
noncomputable section
namespace Go.Ev
open Go.RowKit
variable {P:Program} {w:World} {ι:Im} {a:Act} {d n:Nat} {L:TT AV d} {H:Hp} {O:Call} {m:Nat}
/- results -/
def zo6(tmps:Array Value):ResultVar->Sem Value
 | .tmp t=>pure (tmps.getD t Go.undef)
 | .cell a t=>do loadVar t (<-asAddr (tmps.getD a Go.undef))
theorem ze0(fn:Func)(tmps:Array Value):results fn tmps=(do
  let vs<-fn.results.mapM (zo6 tmps)
  pure (if h:vs.size=1 then vs[0]else .tuple vs)):=by
 rfl
theorem zqh{v:AV}{x:AV}{X:Value}(e:aR ι x X){t:TypeId}(f:qM P t=some false)(a:HR ι H w)(h:aN H x=.val v):∃V,(do loadVar t (<-asAddr X):Sem Value).run P w=.ok V w/\aR ι v V:=by
 unfold aN at h;split at h
 ·rename_i b i;obtain⟨l,c,g⟩:=e;obtain⟨m,V,d,j,k,_⟩:=q2h (a.blk b (a.lt c)) h;rw[c]at d;cases d;exact⟨V,by simp[g,asAddr,loadVar,qfz f,j],k⟩
 ·cases h
theorem zqe{v:AV}{x:AV}{X:Value}(n:aR ι x X){t:TypeId}(o:qM P t=some true){k:Nat}(p:iM P t=some k)(g:HR ι H w)(h:dB k H x=.val v):∃V,(do loadVar t (<-asAddr X):Sem Value).run P w=.ok V w/\aR ι v V:=by
 unfold dB at h;split at h
 ·rename_i b i;obtain⟨l,m,q⟩:=n;cases f:iF (H.get b) i k with
  |none=>rw[f]at h;cases h
  |some cs=>
   rw[f]at h;cases h;obtain⟨c,r⟩:=qfy (g.blk b (g.lt m)) f;have a:∀ vs:List Value,vs.length=k->(∀(j:Nat) (v:Value),vs[j]? =some v->w.cell? ⟨l.blk,l.base+i+j,none⟩=some v)->(do loadVar t (<-asAddr X):Sem Value).run P w=.ok (.agg vs.toArray) w:=fun vs d e=>by have:=run_loadCells P w l.blk (l.base+i) vs e;rw[d]at this;simp[q,asAddr,loadVar,qfz o,qA p,this]
   rcases r with rfl|⟨loc,vs,d,e,s,u,y⟩
   ·have:cs=[]:=lIG.1 c;subst this;exact⟨_,a [] rfl (by simp),by simp only[aR];exact⟨[],by simp[aL],rfl,by simp⟩⟩
   ·rw[m]at d;cases d;exact⟨_,a vs s y,by simp only[aR];exact⟨vs,e,rfl,u⟩⟩
 ·cases h
theorem zo7(h:LR ι d n L a.tmps)(l:HR ι H w)(x:ResultVar){v:AV}(c:(aBL P d n x).f L H=some v):∃ V,(zo6 a.tmps x).run P w=.ok V w/\aR ι v V:=by
 cases x with
 |tmp t=>have:=gJ h (.tmp t);cases c;exact⟨_,rfl,this⟩
 |cell p t=>
  have f:=gJ h (.tmp p);simp only[aBL]at c;generalize m:aJ d n (.tmp p)=g at c f;cases e:qM P t with
  |none=>rw[e]at c;cases c
  |some b=>
   cases j:iM P t with
   |none=>rw[e,j]at c;cases b<;>cases c
   |some k=>
    rw[e,j]at c;cases b with
    |true=>
     simp only at c;split at c
     ·rename_i u i;cases c;exact zqe f e j l i
     ·cases c
    |false=>
     simp only at c;split at c
     ·rename_i u i;cases c;exact zqh f e l i
     ·cases c
theorem zco(h:LR ι d n L a.tmps)(c:HR ι H w):∀(xs:List ResultVar) {l:List AV},(ze1 P d n xs).f L H=some l->∃ vs,(xs.mapM (zo6 a.tmps)).run P w=.ok vs w/\aL ι l vs
 | [],l,he=>by cases he;exact⟨[],rfl,by simp[aL]⟩
 |x::xs,l,he=>by
  have b:(match(aBL P d n x).f L H,(ze1 P d n xs).f L H with|some v,some l=>some (v::l)|_,_=>none)=some l:=he;split at b
  ·rename_i v j e f;cases b;obtain⟨V,k,g⟩:=zo7 h c x e;obtain⟨vs,m,i⟩:=zco h c xs f;refine⟨V::vs,?_,by simp only[aL];exact⟨V,vs,rfl,g,i⟩⟩;simp_all
  ·cases b
theorem qvj(h:LR ι d n L a.tmps)(i:HR ι H w)(fn:Func){v:AV}(b:(qb7 P d n fn.results.toList).f L H=some v):∃ V,(results fn a.tmps).run P w=.ok V w/\aR ι v V:=by
 rw[ze0,Array.mapM_eq_mapM_toList];unfold qb7 at b;split at b
 ·rename_i x k;obtain⟨V,t,u⟩:=zo7 h i x b;simp_all
 ·rename_i g;simp only at b;split at b
  ·rename_i l f;cases b;obtain⟨vs,y,m⟩:=zco h i fn.results.toList f;refine⟨.tuple vs.toArray,?_,by simp only[aR];exact⟨vs,m,rfl⟩⟩;have j:¬ vs.toArray.size=1:=by
    have r:=m.length;have o:∀(xs:List ResultVar) (l:List AV),(ze1 P d n xs).f L H=some l->l.length=xs.length:=by
     intro xs
     induction xs with
     |nil=>intro l f;cases f;rfl
     |cons x xs ih=>
      intro l f;have c:(match(aBL P d n x).f L H,(ze1 P d n xs).f L H with|some v,some l=>some (v::l)|_,_=>none)=some l:=f;split at c
      ·rename_i v z A q;cases c;simp[ih _ q]
      ·cases c
    have s:=o _ _ f;intro e;simp at e;have p:fn.results.toList.length=1:=by omega
    obtain⟨x,k⟩:=List.length_eq_one_iff.1 p;exact g x k
   simp_all
  ·cases b
/- leaving -/
theorem MdL.putObj{lo D:Nat}{o:Obj}:∀{ds:List Deferred} {l:List AV} {a:List Nat},MdL lo ι H w l ds a->D∉a->MdL lo ι H (w.putObj D o) l ds a
 | [],l,a,h,_=>h
 |x::ds,l,a,h,hD=>by
  rcases h with⟨j,b,c,d,e,⟨k0,k,k2,m⟩,f⟩|⟨g,i,n,A,C,c,d,e,f⟩
  ·subst c;simp only[lI8,not_or]at hD;exact .inl ⟨j,b,rfl,d,e,⟨k0,by simpa using k,by rw[World.putObj_heap_other (Ne.symm hD.1)];exact k2,m⟩,f.putObj hD.2⟩
  ·exact .inr ⟨g,i,n,A,C,c,d,e,f.putObj hD⟩
theorem qzg(t:qd9 P O){k:Nat}{fn:Func}{w0:World}{H0 q:Hp}{tmps:Array Value}{v:AV}(f:(qb7 P d n fn.results.toList).f L q=some v):∀(ds:List Deferred) (l:List AV) (r:List Nat) (i:Im) (H:Hp) (w':World),MdL w0.heap.size i H w' l ds r->LR i d n L tmps->HR i H w'->Fr ι i H0 H w0 w'->aBG O l H=some q -> LeavesInM Fence.wide k P fn tmps (Post ι H0 w0 v q) ds .returning w'
 | [],l,r,i,H,w',hM,hL,hH,hf,hr=>by rw[hM.1]at hr;cases hr;obtain⟨V,p,j⟩:=qvj (a:={tmps:=tmps,defers:=[]}) hL hH fn f;exact⟨V,p,i,j,hH,hf⟩
 |x::ds,l,r,i,H,w',hM,hL,hH,hf,hr=>by
  rcases hM with⟨D,w,p,j,y,⟨Y,Z,S,T⟩,z⟩|⟨g,B,I,A,C,p,j,y,z⟩
  ·subst j;refine⟨by simp,.inl ⟨D,w'.putObj D (.deferred none),rfl,run_takeDeferred S,qzg t f ds l w i H _ (z.putObj y) hL ?_ ?_ hr⟩⟩
   ·exact⟨hH.top,fun b s=>(hH.blk b s).keep fun l K M=>World.putObj_heap_other (T b l s K M),fun b l s p j=>by have:=hH.low b l s p j;simpa using this,hH.inj,hH.fresh,hH.free⟩
   ·exact⟨hf.le,hf.nx,hf.dom,hf.os,hf.tape,hf.output,by simpa using hf.size,fun c N Q=>by rw[World.putObj_heap_other (by omega)];exact hf.keep c N Q,hf.new,hf.live⟩
  ·subst p;subst j;have m:(match O (.d g) B H with| .ok _ H'=>aBG O I H'| .bad=>none)=some q:=hr;split at m
   ·rename_i v1 H1 o;obtain⟨J,U⟩:=t.df _ _ _ _ _ o i w' _ hH y;have h:(A.toList++C.toList).toArray=A++C:=by simp
    rw[h]at J;refine⟨by simp,.inr ⟨fun e=>by simp[Fence.wide]at e,.func g,C,g,(A.toList++C.toList).toArray,rfl,?_,fun _ _=>trivial,(U _).mono fun e X u R=>?_⟩⟩
    ·rw[h];simpa [invoke] using J
    ·obtain⟨rfl,E⟩:=R;cases e with
     |returned V=>obtain⟨F,q1,W,G⟩:=E;exact qzg t f ds I r F H1 u (z.fr G) (hL.mono G.le) W (hf.trans G) m
     |panicked=>exact E.elim
     |outgrown=>exact E.elim
   ·cases m
theorem qk6{args:List AV}{k:Nat}(b:args.length<=k)(a:k+1<=262144):dl ((dW (eF (k+1)) k).f (pE args 0 (same .undef _)))=[]:=by have c:=zd0 (k+1) a;rw[qhp args 0 _ k (by omega) (by omega),lEU (by omega),qgu];rfl
theorem LR.start{args:List AV}{a:List Value}(b:aL ι args a){k:Nat}(d:args.length<=k)(c:k+1<=262144):LR ι (eF (k+1)) k (pE args 0 (same .undef _)) (a.toArray++Array.replicate (k-a.toArray.size) Go.undef):=by
 have f:=b.length;have g:=zd0 (k+1) c;refine⟨by simp;omega,by omega,fun i e=>?_⟩;rw[qhp args 0 _ i (by omega) (by omega)];by_cases h:i<args.length
 ·obtain⟨v,j,l⟩:=b.get i args[i] (gp h);have:(a.toArray++Array.replicate (k-a.toArray.size) Go.undef).getD i Go.undef=v:=by
   simp_all
  simp_all
 ·rw[lEU (by omega),qgu];have:(a.toArray++Array.replicate (k-a.toArray.size) Go.undef).getD i Go.undef=Go.undef:=by
   simp_all
  trivial
structure xe5(P:Program)(O:Call)(f:FuncId)(args:List AV)(H:Hp)(v:AV)(H':Hp) where
 fn:Func
 c:Code
 hfn:P.funcs[f]? =some fn
 hname:¬ fn.name = "runtime.NumGoroutine"
 hbody:fn.body=some c
 hb1:args.length<=fn.ntmps
 hb2:fn.ntmps+1<=262144
 ex:Ex
 L':TT AV (eF (fn.ntmps+1))
 H1:Hp
 run:(den P (eF (fn.ntmps+1)) fn.ntmps c).f O (pE args 0 (same .undef _)) H=.ok ex L' H1
 hex:ex=.normal\/ex=.ret
 dfr:aBG O (dl ((dW (eF (fn.ntmps+1)) fn.ntmps).f L')) H1=some H'
 res:(qb7 P (eF (fn.ntmps+1)) fn.ntmps fn.results.toList).f L' H'=some v
theorem zdm{f:FuncId}{args:List AV}{v:AV}{j:Hp}(a:(aO P f).f O args H=.ok v j):Nonempty (xe5 P O f args H v j):=by
 unfold aO at a;split at a
 ·cases a
 ·rename_i fn l;split at a
  ·cases a
  ·rename_i d;split at a
   ·cases a
   ·rename_i c g;simp only at a;cases i:(Nat.ble args.length fn.ntmps&&Nat.ble (fn.ntmps+1) 262144)with
    |false=>rw[i]at a;cases a
    |true=>
     rw[i]at a;simp only[lI0]at i;have m:∀{h:Ex} {k:TT AV (eF (fn.ntmps+1))} {H1:Hp},(den P (eF (fn.ntmps+1)) fn.ntmps c).f O (pE args 0 (same .undef _)) H=.ok h k H1->(h=.normal\/h=.ret) ->
       iP fn.ntmps O (qb7 P (eF (fn.ntmps+1)) fn.ntmps fn.results.toList).f k H1=.ok v j->Nonempty (xe5 P O f args H v j):=fun{h k H1} n o b=>by
      unfold iP at b;split at b
      ·rename_i r p;unfold cO at b;split at b
       ·rename_i u q;cases b;exact⟨⟨fn,c,l,fun e=>d (by rw[e];rfl),g,lOW i.1,lOW i.2,h,k,H1,n,o,p,q⟩⟩
       ·cases b
      ·cases b
     unfold aDw at a;split at a
     ·simp_all
     ·simp_all
     ·cases a
theorem z98(c:qd9 P O)(h:P.follows .mixedOrders=true){f:FuncId}{args:List AV}{v:AV}{d:Hp}(i:(aO P f).f O args H=.ok v d){a:List Value}(j:HR ι H w)(l:aL ι args a):(callFunc f a.toArray).run P w=.ok (.enter f a.toArray) w/\∀ m,CallsIn Fence.wide m P f a.toArray w (Post ι H w v d):=by
 obtain⟨K⟩:=zdm i;refine⟨by simp[callFunc,K.hfn,K.hname,K.hbody],fun m=>?_⟩;have b:=LR.start l K.hb1 K.hb2;refine callsIn_of_wp_marks K.hfn K.hbody trivial ?_;refine zd1 (m:=m) c h K.c Fence.aAv (.inl rfl) (pl:=false) (lo:=w.heap.size) j b (fun e=>by cases e) (by rw[qk6 K.hb1 K.hb2];exact Md.nil (lEO _)) K.run fun g w' n o p q r=>?_;obtain⟨_,_,s,t⟩:=p;have:=qzg (k:=m) (fn:=K.fn) (tmps:=g.tmps) (v:=v) c K.res g.defers _ s n K.H1 w' t o q r K.dfr;rcases K.hex with e|e
 ·rw[e];exact this
 ·rw[e];exact this
theorem z99(y:qd9 P O)(z:P.follows .mixedOrders=true){f:FuncId}{args:List AV}{v:AV}{j:Hp}(A:(aO P f).f O args H=.ok v j)(k:qrf P f=true){l:List Value}(B:HR ι H w)(C:aL ι args l):(callFunc f l.toArray).run P w=.ok (.enter f l.toArray) w/\∀ m,CallsDIn Fence.wide m P f l.toArray .returning w (fun e D w'=>D=.returning/\Post ι H w v j e w'):=by
 obtain⟨⟨fn,c,b,d,a,g,h,M,N,H1,r,s,i,t⟩⟩:=zdm A;refine⟨by simp[callFunc,b,d,a],fun m=>?_⟩;have o:=LR.start C g h;have p:lD c=true:=by unfold qrf at k;rw[b]at k;simp only[a]at k;exact k
 refine callsDIn_of_wp (R:=Post ι H w v j) b a trivial ?_;refine zd1 (m:=m) y z c Fence.aAv (.inl rfl) (pl:=true) (lo:=w.heap.size) B o (fun _=>p) (by rw[qk6 g h];exact Md.nil (lEO _)) r fun E w' F G I u J=>?_;obtain⟨n,_,Q,x⟩:=I;have n:=n rfl;rw[n]at x;rw[x.1]at i;have q:H1=j:=Option.some.inj i;subst q;obtain⟨V,K,L⟩:=qvj G u fn t;have:bodyPost P fn (Post ι H w v H1) .normal E w':=⟨n,V,K,F,L,u,J⟩;rcases s with rfl|rfl
 ·exact this
 ·exact this
theorem q11:∀(ps:List Tmp) (args:List AV) (a:List Value) {L:TT AV d} {tmps:Array Value},LR ι d n L tmps->aL ι args a->ps.length=args.length->(∀p∈ps,p<n) -> LR ι d n (qfg L ps args) ((ps.zip a).foldl (fun tmps x=>tmps.setIfInBounds x.1 x.2) tmps)
 | [],args,a,L,tmps,h,ha,hl,_=>by trivial
 |p::ps,[],a,L,tmps,h,ha,hl,_=>by simp at hl
 |p::ps,x::args,a,L,tmps,h,ha,hl,hp=>by obtain⟨X,R,rfl,c,e⟩:=ha;exact q11 ps args R (h.set (hp p (by simp)) c) e (by simpa using hl) fun q b=>hp q (by simp[b])
theorem qq4(a:n<8 ^ d):∀(ps:List Tmp) (args:List AV) {L:TT AV d},(∀p∈ps,p<n)->(dW d n).f (qfg L ps args)=(dW d n).f L
 | [],args,L,_=>by unfold qfg;rfl
 |p::ps,[],L,_=>by unfold qfg;rfl
 |p::ps,x::args,L,h=>by unfold qfg;have b:=h p (by simp);rw[qq4 a ps args fun q c=>h q (by simp[c]),qeg _ _ _ _ _ a (lY2 b a),lEU (fun e=>absurd (e▸b) (lOB _))]
theorem LR.slot{L:TT AV d}{tmps:Array Value}(h:LR ι d n L tmps)(v:AV):LR ι d n ((setter d n).f L v) tmps:=by refine⟨h.size,h.fits,fun i a=>?_⟩;rw[qeg _ _ _ _ _ (lY2 a h.fits) h.fits,lEU (by omega)];exact h.get i a
theorem zn1(hC:qd9 P O)(hm:P.follows .mixedOrders=true){b:Nat}{args:List AV}{v:AV}{H':Hp}(g:qg5 P O b args H=.ok v H'){B:List Value}{loc:Loc}(X:HR ι H w)(ha:aL ι args B)(i:ι b=some loc):∃f tmps c h,(Instr.yield loc.blk B.toArray).run P w=.ok (.round loc.blk f tmps c h) w/\∀ m,RoundIn Fence.wide m P loc.blk f tmps c h w (Post ι H w v H'):=by
 have q:=X.lt i;unfold qg5 at g;split at g
 ·rename_i d n L ps c h M;cases C:(Nat.beq ps.length args.length&&ps.all (fun p=>Nat.blt p n))with
  |false=>rw[C]at g;cases g
  |true=>
   rw[C]at g;simp only[lI0,lOQ]at C;have hb1:=lIL C.1;have D:=X.blk b q;rw[M]at D;obtain⟨l,U,b1,b2,b3,b4,b5,b6,b7,V,b9,N⟩:=D;rw[i]at b1;cases b1;have hy:=run_yield (P:=P) (args:=B.toArray) b2 (by
    have:=ha.length;have:U.params.size=ps.length:=by rw[<-b5];simp
    simp;omega)
   refine⟨_,_,_,_,hy,fun m=>?_⟩;have hLR:=q11 ps args B (V.slot .undef) ha hb1 (fun p Y=>xA (C.2 p Y));have hsl:dl ((dW d n).f (qfg ((setter d n).f L .undef) ps args))=[]:=by rw[qq4 V.fits ps args fun p Y=>xA (C.2 p Y),qeg _ _ _ _ _ V.fits V.fits,lEZ rfl];rfl
   have htm:(U.params.zip B.toArray).foldl (fun tmps (t,a)=>tmps.setIfInBounds t a) U.tmps=(ps.zip B).foldl (fun tmps x=>tmps.setIfInBounds x.1 x.2) U.tmps:=by rw[<-b5,<-Array.foldl_toList];simp
   rw[htm,b6,b7];split at g
   ·rename_i L1 H1 h1;split at g
    ·rename_i d' n' L' ps' oI u y;refine roundIn_of_wpIn (F:=Fence.wide) trivial ?_;refine zd1 (m:=m) hC hm c (Fence.oJ _) (.inr b9) (pl:=true) (lo:=0) X hLR (fun _=>b9) (by rw[hsl];exact Md.nil (lEV _)) h1 fun a1 w1 ι1 r1 r2 Z r4=>?_;have E:=r4.le _ _ i;have G:=Z.blk b q;rw[y]at G;obtain⟨l1,Q,c1,c2,c3,c4,c5,c6,c7,c8,c9,c10⟩:=G;rw[E]at c1;cases c1;refine⟨_,run_beginRound c2 (by rw[c3];rfl),?_⟩;have I:loc.blk<w1.heap.size:=Z.low b loc q (by rw[y];rfl) E;obtain⟨z1,z2⟩:=Z.vU (k:=.loop false none d' n' L' ps' oI u) (o:=.loop {Q with state:=.busy}) E (by rw[y];rfl)
      ⟨loc,{Q with state:=.busy},E,World.putObj_heap_same I,rfl,c4,c5,c6,c7,c8,c9,c10⟩
     unfold endRound at g;split at g
     ·cases g
     ·rename_i e L2 H2 h2;split at g
      ·cases g
      ·rename_i j W;split at g
       ·rename_i d2 n2 L3 R S T z;cases g;refine zd1 (m:=m) hC hm h (Fence.oJ _) (.inr N) (pl:=true) (lo:=0) z1 (r1.mono z2.le) (fun _=>N) (r2.fr z2) h2 fun a2 w2 ι2 s1 s2 s3 s4=>?_;have s:=s4.le _ _ E;have J:=s3.blk b q;rw[z]at J;obtain⟨l2,A,g1,g2,g3,g4,g5,g6,g7,g8,g9,g10⟩:=J;rw[s]at g1;cases g1;have K:loc.blk<w2.heap.size:=s3.low b loc q (by rw[z];rfl) s;obtain⟨y1,y2⟩:=s3.vU (k:=.loop j.isNone j d2 n2 L3 R S T) (o:=.loop {A with state:=if j.isNone then .ready else .done,pending:=j}) s (by rw[z];rfl)
         ⟨loc,{A with state:=if j.isNone then .ready else .done,pending:=j},s,World.putObj_heap_same K,by cases j<;>rfl,rfl,g5,g6,g7,g8,g9,g10⟩
        have hR:Post ι H w (.bool j.isNone) (H2.put b (.loop j.isNone j d2 n2 L3 R S T)) (.returned (.bool j.isNone)) (w2.putObj loc.blk (.loop {A with state:=if j.isNone then .ready else .done,pending:=j})):=
         ⟨ι2,by simp only[aR],y1,((r4.trans z2).trans s4).trans y2⟩
        have r:=run_endRound (P:=P) j g2;cases e with
        |normal=>cases W;exact⟨_,_,r,hR⟩
        |ret=>cases W;exact⟨_,_,r,hR⟩
        |exit id=>cases W;exact⟨_,_,r,hR⟩
        |goto l=>cases W
       ·cases g
    ·cases g
   ·cases g
 ·cases g
end Go.Ev
end
noncomputable section
namespace Go.Ev
open Go.RowKit Go.WideShapes Go.ChangeShapes
variable {P:Program} {w:World}
theorem qj8(n b:Nat):Hp.get ⟨Hp.empty.t,n⟩ b=.dead:=by
 show(bif Nat.blt b 2097152 then(dW HD b).f (same bX.dead HD)else bX.dead)=bX.dead;cases Nat.blt b 2097152 with
 |true=>exact qgu _ _ b
 |false=>rfl
theorem HR.empty:HR (fun _=>none) Hp.empty w:=by have a:∀ b,Hp.empty.get b=.dead:=fun b=>qj8 0 b;exact⟨qL,fun b _=>by rw[a];trivial,fun b l _ _ h=>(by cases h),fun b c l m _ _ _ _ h=>(by cases h),fun _ _=>rfl,fun b _ _=>a b⟩
noncomputable section
variable {Hd:Type} {enc:TypeId×Value->Hd}
theorem ze8{f:Func}{s:ChangeSpec}{c l d m:Bool}{W q:World}{args:Array Value}{v:Value}{ds u:List (DataW Hd)}{a pa pv:List MemPlace}(z:DataW.Whole enc P f.params.toList s.vars c W args.toList ds u a)(h:∀(b:Nat) (n:Nat->Bool) (E:Bool),DataW.TrodAll enc P q b n E f.resultTypes.toList (v.resultList f.resultTypes.size) (s.fn Hd (ds++u)).results [])(e:∀ n:Nat->Bool,(∀p∈a,n p.block=true)->DataW.TrodAll enc P q 0 n true f.params.toList args.toList (s.fn Hd (ds++u)).args pa)(g:∀ n:Nat->Bool,(∀p∈a,n p.block=true)->DataW.TrodVars enc P q n s.vars (s.fn Hd (ds++u)).vars pv)(A:a=pa++pv)(C:Below W.heap.size W q)(B:∀(j:Nat) (t:TypeId) (r:Value),f.resultTypes[j]? =some t->(v.resultList f.resultTypes.size)[j]? =some r->Value.okWide P q .any 0 t r):s.post enc P f c l d m W args v q:=by
 subst A;have x:=z.lt;have k:∀ p∈pa++pv,decide (p.block<W.heap.size)=true:=fun p i=>lI9 (x p i);refine⟨ds,u,pa++pv,[],pa,pv,z,h _ _ _,e (fun b=>decide (b<W.heap.size)) k,g (fun b=>decide (b<W.heap.size)) k,World.keptBut_mono (fun p i=>⟨i,.inr (lEY.1 i)⟩) (C.frame (· ∈ pa++pv)),fun _=>?_⟩;obtain⟨_,_,_,_,_,o,D⟩:=z;refine⟨B,_,_,([]++pa)++pv,⟨[]++pa,pv,trodAll_append (e _ fun _ _=>rfl) (h _ _ _),g _ fun _ _=>rfl,rfl,fun b w i=>?_,fun F=>?_⟩,fun p i _=>?_⟩
 ·have y:MemPlace.cell b w∈pa++pv:=by simpa using i
  rw[C.frozen (x _ y)];exact o b w y
 ·simp_all
 ·simpa using i
end
end Go.Ev
end
noncomputable section
namespace Go.Ev
def xdp(k:IntKind):Nat:=@IntKind.rec (fun _=>Nat) 0 1 2 3 4 5 6 7 k
def aLA(a b:IntKind):Bool:=Nat.beq (xdp a) (xdp b)
theorem xac(a b:IntKind):aLA a b=xW a b:=by cases a<;>cases b<;>rfl
def zD(k:IntKind):Nat:=@IntKind.rec (fun _=>Nat) 128 32768 2147483648 9223372036854775808 256 65536 4294967296 18446744073709551616 k
def aEc(k:IntKind):Bool:=@IntKind.rec (fun _=>Bool) true true true true false false false false k
def zd7(k:IntKind)(n:Int):Int:=
 @Int.rec (fun _=>Int) (fun m=>@Bool.rec (fun _=>Int) (k.wrap (.ofNat m)) (.ofNat m) (Nat.blt m (zD k))) (fun m=>@Bool.rec (fun _=>Int) (k.wrap (.negSucc m)) (.negSucc m) (Bool.and (aEc k) (Nat.blt m (zD k)))) n
theorem zsb(k:IntKind)(n:Int):zd7 k n=vZ k n:=by
 cases n with
 |ofNat m=>
  show @Bool.rec (fun _=>Int) _ _ (Nat.blt m (zD k))=bif qzp k (.ofNat m)then _ else _;have:qzp k (.ofNat m)=Nat.blt m (zD k):=by cases k<;>rfl
  rw[this];cases Nat.blt m (zD k)<;>rfl
 |negSucc m=>
  show @Bool.rec (fun _=>Int) _ _ (Bool.and (aEc k) (Nat.blt m (zD k)))=bif qzp k (.negSucc m)then _ else _;have:qzp k (.negSucc m)=Bool.and (aEc k) (Nat.blt m (zD k)):=by cases k<;>rfl
  rw[this];cases Bool.and (aEc k) (Nat.blt m (zD k))<;>rfl
def aOl(a b:Int):Int:=
 @Int.rec (fun _=>Int) (fun m=>@Int.rec (fun _=>Int) (fun n=>Int.ofNat (Nat.add m n)) (fun n=>Int.add (.ofNat m) (.negSucc n)) b) (fun m=>Int.add (.negSucc m) b) a
theorem xa1(a b:Int):aOl a b=a+b:=by cases a<;>cases b<;>rfl
def aN8(a b:Int):Int:=
 @Int.rec (fun _=>Int) (fun m=>@Int.rec (fun _=>Int) (fun n=>@Bool.rec (fun _=>Int) (Int.negSucc (Nat.pred (Nat.sub n m))) (Int.ofNat (Nat.sub m n)) (Nat.ble n m)) (fun n=>Int.sub (.ofNat m) (.negSucc n)) b) (fun m=>Int.sub (.negSucc m) b) a
theorem z8e(a b:Int):aN8 a b=a-b:=by
 cases a with
 |negSucc m=>rfl
 |ofNat m=>
  cases b with
  |negSucc n=>rfl
  |ofNat n=>
   show @Bool.rec (fun _=>Int) _ _ (Nat.ble n m)=_;cases h:Nat.ble n m with
   |true=>have h:=lOW h;exact Int.ofNat_sub h
   |false=>
    have h:¬ n<=m:=fun c=>by rw[lOH c]at h;cases h
    show Int.negSucc (Nat.pred (n-m))=(m:Int)-(n:Int);have:(Nat.pred (n-m):Int)+1=(n:Int)-(m:Int):=by have d:Nat.pred (n-m)+1=n-m:=Nat.succ_pred_eq_of_pos (by omega);omega
    omega
def aNb(a b:Int):Int:=
 @Int.rec (fun _=>Int) (fun m=>@Int.rec (fun _=>Int) (fun n=>Int.ofNat (Nat.mul m n)) (fun n=>Int.mul (.ofNat m) (.negSucc n)) b) (fun m=>Int.mul (.negSucc m) b) a
theorem z9r(a b:Int):aNb a b=a*b:=by cases a<;>cases b<;>rfl
def ltF(a b:Int):Bool:=
 @Int.rec (fun _=>Bool) (fun m=>@Int.rec (fun _=>Bool) (fun n=>Nat.blt m n) (fun _=>false) b) (fun m=>@Int.rec (fun _=>Bool) (fun _=>true) (fun n=>Nat.blt n m) b) a
theorem xdb(a b:Int):ltF a b=p9 a b:=by cases a<;>cases b<;>rfl
def aHt(a b:Int):Bool:=
 @Int.rec (fun _=>Bool) (fun m=>@Int.rec (fun _=>Bool) (fun n=>Nat.beq m n) (fun _=>false) b) (fun m=>@Int.rec (fun _=>Bool) (fun _=>false) (fun n=>Nat.beq n m) b) a
theorem xad(a b:Int):aHt a b=sK a b:=by
 cases a with
 |ofNat m=>cases b<;>rfl
 |negSucc m=>
  cases b with
  |ofNat n=>rfl
  |negSucc n=>
   show Nat.beq n m=Nat.beq m n;cases h:Nat.beq m n with
   |true=>rw[lIL h];exact lY3 n
   |false=>
    cases c:Nat.beq n m with
    |false=>rfl
    |true=>rw[lIL c,lY3]at h;cases h
def aFq(b:Bool):Bool:=
 @Bool.rec (fun _=>Bool) (true) (false) (b)
theorem z9m(b:Bool):aFq b= !b:=by cases b<;>rfl
def q8o:BinOp->B2
 | .add=>⟨fun k a b=>.val (.int k (zd7 k (aOl a b)))⟩
 | .sub=>⟨fun k a b=>.val (.int k (zd7 k (aN8 a b)))⟩
 | .mul=>⟨fun k a b=>.val (.int k (zd7 k (aNb a b)))⟩
 | .eql=>⟨fun _ a b=>.val (.bool (aHt a b))⟩
 | .neq=>⟨fun _ a b=>.val (.bool (aFq (aHt a b)))⟩
 | .lss=>⟨fun _ a b=>.val (.bool (ltF a b))⟩
 | .leq=>⟨fun _ a b=>.val (.bool (aFq (ltF b a)))⟩
 | .gtr=>⟨fun _ a b=>.val (.bool (ltF b a))⟩
 | .geq=>⟨fun _ a b=>.val (.bool (aFq (ltF a b)))⟩
 |op=>lS op
theorem zfo(a:BinOp):q8o a=lS a:=by cases a<;>simp only[q8o,lS,zsb,xa1,z8e,z9r,xad,xdb,z9m]
def z95(g:IntKind->Int->Int->R0)(x y:AV):R0:=
 @AV.rec (fun _=>R0) (fun _=>PUnit) R0.bad (fun _=>R0.bad) (fun _=>R0.bad) (fun k a=>@AV.rec (fun _=>R0) (fun _=>PUnit) R0.bad (fun _=>R0.bad) (fun _=>R0.bad) (fun k' b=>@Bool.rec (fun _=>R0) (R0.bad) (g k a b) (aLA k k')) (fun _ _=>R0.bad) (fun _ _=>R0.bad) R0.bad (fun _ _ _ _ _=>R0.bad) R0.bad R0.bad (fun _=>R0.bad) R0.bad (fun _ _ _ _ _=>R0.bad) (fun _=>R0.bad) R0.bad (fun _ _ _=>R0.bad) R0.bad (fun _ _=>R0.bad) (fun _ _=>R0.bad) PUnit.unit (fun _ _ _ _=>PUnit.unit) y) (fun _ _=>R0.bad) (fun _ _=>R0.bad) R0.bad (fun _ _ _ _ _=>R0.bad) R0.bad R0.bad (fun _=>R0.bad) R0.bad (fun _ _ _ _ _=>R0.bad) (fun _=>R0.bad) R0.bad (fun _ _ _=>R0.bad) R0.bad (fun _ _=>R0.bad) (fun _ _=>R0.bad) PUnit.unit (fun _ _ _ _=>PUnit.unit) x
theorem zys:z95=fO:=by funext g x y;cases x<;>first|rfl|(cases y<;>first|rfl|(simp only[z95,xac,fO];generalize xW _ _=e;cases e<;>rfl))
def xb4(g:Nat->Nat->Nat->Nat->R0)(x y:AV):R0:=
 @AV.rec (fun _=>R0) (fun _=>PUnit) R0.bad (fun _=>R0.bad) (fun _=>R0.bad) (fun _ _=>R0.bad) (fun n a=>@AV.rec (fun _=>R0) (fun _=>PUnit) R0.bad (fun _=>R0.bad) (fun _=>R0.bad) (fun _ _=>R0.bad) (fun m b=>g n a m b) (fun _ _=>R0.bad) R0.bad (fun _ _ _ _ _=>R0.bad) R0.bad R0.bad (fun _=>R0.bad) R0.bad (fun _ _ _ _ _=>R0.bad) (fun _=>R0.bad) R0.bad (fun _ _ _=>R0.bad) R0.bad (fun _ _=>R0.bad) (fun _ _=>R0.bad) PUnit.unit (fun _ _ _ _=>PUnit.unit) y) (fun _ _=>R0.bad) R0.bad (fun _ _ _ _ _=>R0.bad) R0.bad R0.bad (fun _=>R0.bad) R0.bad (fun _ _ _ _ _=>R0.bad) (fun _=>R0.bad) R0.bad (fun _ _ _=>R0.bad) R0.bad (fun _ _=>R0.bad) (fun _ _=>R0.bad) PUnit.unit (fun _ _ _ _=>PUnit.unit) x
theorem zw4:xb4=gN:=by funext g x y;cases x<;>first|rfl|(cases y<;>rfl)
def z2x(c a b:AV):R0:=
 @AV.rec (fun _=>R0) (fun _=>PUnit) R0.bad (fun _=>R0.bad) (fun x=>@Bool.rec (fun _=>R0) (.val b) (.val a) (x)) (fun _ _=>R0.bad) (fun _ _=>R0.bad) (fun _ _=>R0.bad) R0.bad (fun _ _ _ _ _=>R0.bad) R0.bad R0.bad (fun _=>R0.bad) R0.bad (fun _ _ _ _ _=>R0.bad) (fun _=>R0.bad) R0.bad (fun _ _ _=>R0.bad) R0.bad (fun _ _=>R0.bad) (fun _ _=>R0.bad) PUnit.unit (fun _ _ _ _=>PUnit.unit) c
theorem zps:z2x=dH:=by funext c a b;cases c<;>first|rfl|(rename_i x;cases x<;>rfl)
def aH2(P:Program)(op:BinOp)(t:TypeId):V2:=
 match P.underlying t with
 |some (.int _)=>
  match op with
  | .shl| .shr=>xU P op t
  |_=>match q8o op with|⟨g⟩=>⟨z95 g⟩
 |some .string=>match nC op with|⟨g⟩=>⟨xb4 g⟩
 |_=>xU P op t
theorem xax(P:Program)(a:BinOp)(t:TypeId):aH2 P a t=xU P a t:=by
 unfold aH2;split
 ·rename_i h;split
  ·rfl
  ·rfl
  ·rw[zfo,zys];unfold xU;rw[h];simp
 ·rename_i h;rw[zw4];unfold xU;rw[h]
 ·rfl
def zqj(H:Hp)(a:AV):R0:=
 @AV.rec (fun _=>R0) (fun _=>PUnit) R0.bad (fun _=>R0.bad) (fun _=>R0.bad) (fun _ _=>R0.bad) (fun _ _=>R0.bad) (fun b o=>@bX.rec (fun _=>R0) R0.bad (fun d n c _ _=>@Bool.rec (fun _=>R0) (R0.bad) (.val ((dW d o).f c)) (Nat.blt o n)) (fun _ _=>R0.bad) (fun _ _ _=>R0.bad) (fun _ _ _ _ _ _ _ _=>R0.bad) (H.get b)) R0.bad (fun _ _ _ _ _=>R0.bad) R0.bad R0.bad (fun _=>R0.bad) R0.bad (fun _ _ _ _ _=>R0.bad) (fun _=>R0.bad) R0.bad (fun _ _ _=>R0.bad) R0.bad (fun _ _=>R0.bad) (fun _ _=>R0.bad) PUnit.unit (fun _ _ _ _=>PUnit.unit) a
theorem zqi:zqj=aN:=by
 funext H a;cases a<;>first|rfl|skip
 rename_i b o;show _=bI (H.get b) o;unfold zqj;simp only;generalize H.get b=k;cases k<;>first|rfl|skip
 rename_i d n c e z;show @Bool.rec (fun _=>R0) _ _ (Nat.blt o n)=bif Nat.blt o n then _ else _;cases Nat.blt o n<;>rfl
def zqg(k:Nat)(H:Hp)(a:AV):R0:=
 @AV.rec (fun _=>R0) (fun _=>PUnit) R0.bad (fun _=>R0.bad) (fun _=>R0.bad) (fun _ _=>R0.bad) (fun _ _=>R0.bad) (fun b o=>@bX.rec (fun _=>R0) R0.bad (fun _ n c _ _=>@Bool.rec (fun _=>R0) (R0.bad) (.val (.agg (xO c k o))) (Nat.ble (Nat.add o k) n)) (fun _ _=>R0.bad) (fun _ _ _=>R0.bad) (fun _ _ _ _ _ _ _ _=>R0.bad) (H.get b)) R0.bad (fun _ _ _ _ _=>R0.bad) R0.bad R0.bad (fun _=>R0.bad) R0.bad (fun _ _ _ _ _=>R0.bad) (fun _=>R0.bad) R0.bad (fun _ _ _=>R0.bad) R0.bad (fun _ _=>R0.bad) (fun _ _=>R0.bad) PUnit.unit (fun _ _ _ _=>PUnit.unit) a
theorem zqf:zqg=dB:=by
 funext k H a;cases a<;>first|rfl|skip
 rename_i b o;show _=aDr (iF (H.get b) o k);unfold zqg;simp only;generalize H.get b=B;cases B<;>first|rfl|skip
 rename_i d n c e z;show @Bool.rec (fun _=>R0) _ _ (Nat.ble (Nat.add o k) n)=aDr (bif Nat.ble (o+k) n then _ else _);cases Nat.ble (o+k) n<;>rfl
def aIh(x:AV):Bool:=
 @AV.rec (fun _=>Bool) (fun _=>PUnit) (false) (fun _=>false) (fun _=>true) (fun _ _=>true) (fun _ _=>true) (fun _ _=>true) true (fun _ _ _ _ _=>true) true true (fun _=>true) true (fun _ _ _ _ _=>true) (fun _=>true) true (fun _ _ _=>true) true (fun _ _=>false) (fun _ _=>false) PUnit.unit (fun _ _ _ _=>PUnit.unit) x
def aFl(H:Hp)(b o:Nat)(v:AV):R1:=@bX.rec (fun _=>R1) R1.bad (fun d n c ro z=>@Bool.rec (fun _=>R1) (@Bool.rec (fun _=>R1) (R1.bad) (.ok .undef (H.put b (.cells d n ((setter d o).f c v) false z))) (Nat.blt o n)) (R1.bad) (ro)) (fun _ _=>R1.bad) (fun _ _ _=>R1.bad) (fun _ _ _ _ _ _ _ _=>R1.bad) (H.get b)
theorem z8h(H:Hp)(b o:Nat)(v:AV):aFl H b o v=storeAt H b o [v] .undef:=by
 unfold aFl storeAt;generalize H.get b=k;cases k<;>first|rfl|skip
 rename_i d n c a z;cases a with
 |true=>rfl
 |false=>show @Bool.rec (fun _=>R1) _ _ (Nat.blt o n)=_;have:xZ (.cells d n c false z) o [v]=bif Nat.blt o n then some (.cells d n ((setter d o).f c v) false z)else none:=rfl;rw[this];cases Nat.blt o n<;>rfl
def zon(H:Hp)(a x:AV):R1:=@AV.rec (fun _=>R1) (fun _=>PUnit) R1.bad (fun _=>R1.bad) (fun _=>R1.bad) (fun _ _=>R1.bad) (fun _ _=>R1.bad) (fun b o=>@Bool.rec (fun _=>R1) (R1.bad) (aFl H b o x) (aIh x)) R1.bad (fun _ _ _ _ _=>R1.bad) R1.bad R1.bad (fun _=>R1.bad) R1.bad (fun _ _ _ _ _=>R1.bad) (fun _=>R1.bad) R1.bad (fun _ _ _=>R1.bad) R1.bad (fun _ _=>R1.bad) (fun _ _=>R1.bad) PUnit.unit (fun _ _ _ _=>PUnit.unit) a
theorem zes:zon=jN:=by
 funext H a x;cases a<;>first|rfl|skip
 rename_i b o;show @Bool.rec (fun _=>R1) _ (aFl H b o x) (aIh x)=_;rw[z8h];cases x<;>rfl
def zra(off:Nat)(x:AV):R0:=
 @AV.rec (fun _=>R0) (fun _=>PUnit) R0.bad (fun _=>R0.bad) (fun _=>R0.bad) (fun _ _=>R0.bad) (fun _ _=>R0.bad) (fun b o=>.val (.ptr b (Nat.add o off))) R0.bad (fun _ _ _ _ _=>R0.bad) R0.bad R0.bad (fun _=>R0.bad) R0.bad (fun _ _ _ _ _=>R0.bad) (fun _=>R0.bad) R0.bad (fun _ _ _=>R0.bad) R0.bad (fun _ _=>R0.bad) (fun _ _=>R0.bad) PUnit.unit (fun _ _ _ _=>PUnit.unit) x
theorem zft:zra=aP:=by funext off x;cases x<;>rfl
def zq9(p:P1)(off:Nat)(x:AV):R0:=
 @AV.rec (fun _=>R0) (fun _=>PUnit) R0.bad (fun _=>R0.bad) (fun _=>R0.bad) (fun _ _=>R0.bad) (fun _ _=>R0.bad) (fun _ _=>R0.bad) R0.bad (fun _ _ _ _ _=>R0.bad) R0.bad R0.bad (fun _=>R0.bad) R0.bad (fun _ _ _ _ _=>R0.bad) (fun _=>R0.bad) R0.bad (fun _ _ _=>R0.bad) R0.bad (fun l _=>@Option.rec AV (fun _=>R0) R0.bad (fun v=>.val v) (p.f l off)) (fun _ _=>R0.bad) PUnit.unit (fun _ _ _ _=>PUnit.unit) x
theorem zfs:zq9=zdu:=by
 funext p off x;cases x<;>first|rfl|skip
 rename_i l;show @Option.rec AV (fun _=>R0) _ _ (p.f l off)=match p.f l off with|some v=>.val v|none=>.bad
 cases p.f l off<;>rfl
def xds(z:Nat)(x i:AV):R0:=
 @AV.rec (fun _=>R0) (fun _=>PUnit) R0.bad (fun _=>R0.bad) (fun _=>R0.bad) (fun _ _=>R0.bad) (fun _ _=>R0.bad) (fun _ _=>R0.bad) R0.bad (fun b o len _ _=>@AV.rec (fun _=>R0) (fun _=>PUnit) R0.bad (fun _=>R0.bad) (fun _=>R0.bad) (fun _ i=>@Int.rec (fun _=>R0) (fun i=>@Bool.rec (fun _=>R0) (R0.bad) (.val (.ptr b (Nat.add o (Nat.mul i z)))) (Nat.blt i len)) (fun _=>R0.bad) i) (fun _ _=>R0.bad) (fun _ _=>R0.bad) R0.bad (fun _ _ _ _ _=>R0.bad) R0.bad R0.bad (fun _=>R0.bad) R0.bad (fun _ _ _ _ _=>R0.bad) (fun _=>R0.bad) R0.bad (fun _ _ _=>R0.bad) R0.bad (fun _ _=>R0.bad) (fun _ _=>R0.bad) PUnit.unit (fun _ _ _ _=>PUnit.unit) i) R0.bad R0.bad (fun _=>R0.bad) R0.bad (fun _ _ _ _ _=>R0.bad) (fun _=>R0.bad) R0.bad (fun _ _ _=>R0.bad) R0.bad (fun _ _=>R0.bad) (fun _ _=>R0.bad) PUnit.unit (fun _ _ _ _=>PUnit.unit) x
theorem zyt:xds=aG:=by
 funext z x i;cases x<;>first|rfl|skip
 rename_i b o len a c;cases i<;>first|rfl|skip
 rename_i k n;cases n<;>first|rfl|skip
 rename_i i;show @Bool.rec (fun _=>R0) _ _ (Nat.blt i len)=bif Nat.blt i len then _ else _;cases Nat.blt i len<;>rfl
def zqw(x i:AV):R0:=
 @AV.rec (fun _=>R0) (fun _=>PUnit) R0.bad (fun _=>R0.bad) (fun _=>R0.bad) (fun _ _=>R0.bad) (fun n a=>@AV.rec (fun _=>R0) (fun _=>PUnit) R0.bad (fun _=>R0.bad) (fun _=>R0.bad) (fun _ i=>@Int.rec (fun _=>R0) (fun i=>@Bool.rec (fun _=>R0) (R0.bad) (.val (.int .u8 (.ofNat (qsg a i)))) (Nat.blt i n)) (fun _=>R0.bad) i) (fun _ _=>R0.bad) (fun _ _=>R0.bad) R0.bad (fun _ _ _ _ _=>R0.bad) R0.bad R0.bad (fun _=>R0.bad) R0.bad (fun _ _ _ _ _=>R0.bad) (fun _=>R0.bad) R0.bad (fun _ _ _=>R0.bad) R0.bad (fun _ _=>R0.bad) (fun _ _=>R0.bad) PUnit.unit (fun _ _ _ _=>PUnit.unit) i) (fun _ _=>R0.bad) R0.bad (fun _ _ _ _ _=>R0.bad) R0.bad R0.bad (fun _=>R0.bad) R0.bad (fun _ _ _ _ _=>R0.bad) (fun _=>R0.bad) R0.bad (fun _ _ _=>R0.bad) R0.bad (fun _ _=>R0.bad) (fun _ _=>R0.bad) PUnit.unit (fun _ _ _ _=>PUnit.unit) x
theorem zfp:zqw=zde:=by
 funext x i;cases x<;>first|rfl|skip
 rename_i n a;cases i<;>first|rfl|skip
 rename_i k m;cases m<;>first|rfl|skip
 rename_i i;show @Bool.rec (fun _=>R0) _ _ (Nat.blt i n)=bif Nat.blt i n then _ else _;cases Nat.blt i n<;>rfl
def xdj(x:AV):R0:=
 @AV.rec (fun _=>R0) (fun _=>PUnit) R0.bad (fun _=>R0.bad) (fun _=>R0.bad) (fun _ _=>R0.bad) (fun n _=>.val (i64 n)) (fun _ _=>R0.bad) R0.bad (fun _ _ _ _ _=>R0.bad) R0.bad R0.bad (fun _=>R0.bad) R0.bad (fun _ _ _ _ _=>R0.bad) (fun _=>R0.bad) R0.bad (fun _ _ _=>R0.bad) R0.bad (fun _ _=>R0.bad) (fun _ _=>R0.bad) PUnit.unit (fun _ _ _ _=>PUnit.unit) x
theorem zyo:xdj=aA2:=by funext x;cases x<;>rfl
def z3c(x:AV):R0:=
 @AV.rec (fun _=>R0) (fun _=>PUnit) R0.bad (fun _=>R0.bad) (fun _=>R0.bad) (fun _ _=>R0.bad) (fun _ _=>R0.bad) (fun _ _=>R0.bad) R0.bad (fun _ _ n _ _=>.val (i64 n)) (.val (i64 0)) (.val (i64 0)) (fun _=>R0.bad) R0.bad (fun _ _ _ _ _=>R0.bad) (fun _=>R0.bad) R0.bad (fun _ _ _=>R0.bad) R0.bad (fun _ _=>R0.bad) (fun _ _=>R0.bad) PUnit.unit (fun _ _ _ _=>PUnit.unit) x
theorem zqm:z3c=aD:=by funext x;cases x<;>rfl
def aPq(x:AV):R0:=
 @AV.rec (fun _=>R0) (fun _=>PUnit) R0.bad (fun _=>R0.bad) (fun _=>R0.bad) (fun _ _=>R0.bad) (fun _ _=>R0.bad) (fun b o=>.val (.ptr b o)) R0.bad (fun _ _ _ _ _=>R0.bad) R0.bad R0.bad (fun _=>R0.bad) R0.bad (fun a b c _ _=>.val (.fn a b c)) (fun l=>.val (.yield l)) R0.bad (fun _ _ _=>R0.bad) R0.bad (fun _ _=>R0.bad) (fun _ _=>R0.bad) PUnit.unit (fun _ _ _ _=>PUnit.unit) x
theorem z9o(x:AV):aPq x=(match x with| .ptr b o=>.val (.ptr b o)| .fn a b c=>.val (.fn a b c)| .yield l=>.val (.yield l)|_=>.bad):=by cases x<;>rfl
def aQf(i:Nat)(x:AV):R0:=
 @AV.rec (fun _=>R0) (fun _=>PUnit) R0.bad (fun _=>R0.bad) (fun _=>R0.bad) (fun _ _=>R0.bad) (fun _ _=>R0.bad) (fun _ _=>R0.bad) R0.bad (fun _ _ _ _ _=>R0.bad) R0.bad R0.bad (fun _=>R0.bad) R0.bad (fun _ _ _ _ _=>R0.bad) (fun _=>R0.bad) R0.bad (fun _ _ _=>R0.bad) R0.bad (fun _ _=>R0.bad) (fun l _=>@Option.rec AV (fun _=>R0) R0.bad (fun v=>.val v) l[i]?) PUnit.unit (fun _ _ _ _=>PUnit.unit) x
theorem xaa(i:Nat)(x:AV):aQf i x=(match x with| .bB l=>(match l[i]? with|some v=>.val v|none=>.bad)|_=>.bad):=by
 cases x<;>first|rfl|skip
 rename_i l;show @Option.rec AV (fun _=>R0) _ _ l[i]? =match l[i]? with|some v=>.val v|none=>.bad
 cases l[i]? <;>rfl
def xel(nm:Nat)(x:AV):R0:=
 @Bool.rec (fun _=>R0) (R0.bad) (.new (.ptr nm 0) (.cells 1 1 (Q.mk x .undef .undef .undef .undef .undef .undef .undef:Q AV) false 0)) (aIh x)
theorem zzm:xel=mX:=by funext nm x;cases x<;>rfl
def opF(P:Program)(d n:Nat)(o:Oper):lI d:=
 match o.op with
 | .pick c a b=>match aJ d n c,aJ d n a,aJ d n b with|⟨gc⟩,⟨ga⟩,⟨gb⟩=>.q false fun _ L _=>z2x (gc L) (ga L) (gb L)
 | .box t x=>match qM P t,iM P t,aJ d n x with
  |some true,some k,⟨g⟩=>.q false fun nm L _=>zG k nm (g L)
  |some false,some _,⟨g⟩=>.q false fun nm L _=>xel nm (g L)
  |_,_,_=>gY d
 | .load t a=>match qM P t,iM P t,aJ d n a with
  |some true,some k,⟨g⟩=>.q true fun _ L H=>zqg k H (g L)
  |some false,some _,⟨g⟩=>.q true fun _ L H=>zqj H (g L)
  |_,_,_=>gY d
 | .store t a x=>match qM P t,iM P t,aJ d n a,aJ d n x with
  |some true,some k,⟨g⟩,⟨h⟩=>.e fun _ L H=>qdc k H (g L) (h L)
  |some false,some 1,⟨g⟩,⟨h⟩=>.e fun _ L H=>zon H (g L) (h L)
  |_,_,_,_=>gY d
 | .nilCheck x=>match aJ d n x with|⟨g⟩=>.q false fun _ L _=>aPq (g L)
 | .binOp op t x y _=>match aH2 P op t,aJ d n x,aJ d n y with
  |⟨e⟩,⟨g⟩,⟨h⟩=>.q false fun _ L _=>e (g L) (h L)
 | .fieldAddr s x f=>match P.underlying s,aJ d n x with
  |some (.struct fs),⟨g⟩=>match fs[f]? with
   |some fl=>match iM P fl.type with
    |some (_+1)=>.q false fun _ L _=>zra fl.offset (g L)
    |_=>gY d
   |none=>gY d
  |_,_=>gY d
 | .field t x f=>match P.underlying t,aJ d n x with
  |some (.struct fs),⟨g⟩=>match fs[f]? with
   |some fl=>match ql4 P fl.type with|p=>.q false fun _ L _=>zq9 p fl.offset (g L)
   |none=>gY d
  |_,_=>gY d
 | .indexAddr t x i=>match P.underlying t,aJ d n x,aJ d n i with
  |some (.slice e),⟨g⟩,⟨h⟩=>match iM P e with
   |some z=>.q false fun _ L _=>xds z (g L) (h L)
   |none=>gY d
  |_,_,_=>iG P d n o
 | .index t x i=>match P.underlying t,aJ d n x,aJ d n i with
  |some .string,⟨g⟩,⟨h⟩=>.q false fun _ L _=>zqw (g L) (h L)
  |_,_,_=>iG P d n o
 | .extract x i=>match aJ d n x with|⟨g⟩=>.q false fun _ L _=>aQf i (g L)
 | .call {callee:=.builtin .len,args,argTypes}=>match args.toList,argTypes.toList with
  | [x],[t]=>match P.underlying t with
   |some .string=>match aJ d n x with|⟨g⟩=>.q false fun _ L _=>xdj (g L)
   |some (.slice _)=>match aJ d n x with|⟨g⟩=>.q false fun _ L _=>z3c (g L)
   |_=>iG P d n o
  |_,_=>iG P d n o
 |_=>iG P d n o
theorem xcz(P:Program)(d n:Nat)(o:Oper):opF P d n o=iG P d n o:=by
 unfold opF;split
 ·rename_i h;simp only[iG,h,z8p,zps]
 ·rename_i h;simp only[iG,h,aCW,zzm];rfl
 ·rename_i h;simp only[iG,h,zo4,zqi,zqf];rfl
 ·rename_i h;simp only[iG,h,q15,zes];rfl
 ·rename_i h;simp only[iG,h,qq5,z9o];rfl
 ·rename_i h;simp only[iG,h,zo5,xax]
 ·rename_i h;simp only[iG,h,qen,zft];rfl
 ·rename_i h;simp only[iG,h,q19,zfs];rfl
 ·rename_i h;simp only[iG,h,zyt];unfold qem;split<;>simp_all<;>rfl
 ·rename_i h;simp only[iG,h,zfp];unfold q18;split<;>simp_all
 ·rename_i h;simp only[iG,h,qyz,xaa];rfl
 ·rename_i args a h;split
  ·rename_i x t c e;split
   ·rename_i b;simp only[iG,h,qd7,c,e,wW,b,zyo]
   ·rename_i b;simp only[iG,h,qd7,c,e,wW,b,zqm]
   ·rfl
  ·rfl
 ·rfl
def aGW{d:Nat}(put:TT AV d->AV->TT AV d)(L:TT AV d)(H:Hp)(r:R0):Rs d:=
 @R0.rec (fun _=>Rs d) .bad (fun v=>.ok (put L v) H) (fun v b=>.ok (put L v) (aK H b)) r
theorem xaj{d:Nat}:@aGW d=doQ:=by funext put L H r;cases r<;>rfl
def aH8{d:Nat}(put:TT AV d->AV->TT AV d)(L:TT AV d)(r:R1):Rs d:=
 @R1.rec (fun _=>Rs d) .bad (fun v H=>.ok (put L v) H) r
theorem xak{d:Nat}:@aH8 d=doE:=by funext put L r;cases r<;>rfl
def z3p{d:Nat}(r:Rs d)(k:TT AV d->Hp->Rs d):Rs d:=
 @Rs.rec d (fun _=>Rs d) .bad k r
theorem zr9{d:Nat}:@z3p d=zgg:=by funext r k;cases r<;>rfl
def zqy{d:Nat}(want:Bool)(x:AV)(a b:Rs d):Rs d:=
 @AV.rec (fun _=>Rs d) (fun _=>PUnit) (b) (fun _=>.bad) (fun v=>@Bool.rec (fun _=>Rs d) (@Bool.rec (fun _=>Rs d) (a) (b) (want)) (@Bool.rec (fun _=>Rs d) (b) (a) (want)) (v)) (fun _ _=>.bad) (fun _ _=>.bad) (fun _ _=>.bad) .bad (fun _ _ _ _ _=>.bad) .bad .bad (fun _=>.bad) .bad (fun _ _ _ _ _=>.bad) (fun _=>.bad) .bad (fun _ _ _=>.bad) .bad (fun _ _=>.bad) (fun _ _=>.bad) PUnit.unit (fun _ _ _ _=>PUnit.unit) x
theorem q3j{d:Nat}(c:Bool)(x:AV)(a b:Rs d):zqy c x a b=ifW (match x with| .bool b=>some (b==c)| .undef=>some false|_=>none) a b:=by
 cases x<;>first|rfl|skip
 rename_i v;cases v<;>cases c<;>rfl
def z8g(P:Program)(d n:Nat)(ops:Array Oper)(o:Oper):St d:=
 match opF P d n o,o.guard,eB d n o.dst with
 | .q _ f,none,⟨put⟩=>⟨fun _ L H=>aGW put L H (f H.nx L H)⟩
 | .e f,none,⟨put⟩=>⟨fun O L H=>aH8 put L (f O L H)⟩
 | .q _ f,some (j,want),⟨put⟩=>match(ops[j]?).bind (·.dst)with
  |some t=>bif Nat.blt t n then(match dW (α:=AV) d t with|⟨g⟩=>⟨fun _ L H=>zqy want (g L) (aGW put L H (f H.nx L H)) (.ok (put L .undef) H)⟩)else qg1 P d n ops o
  |none=>qg1 P d n ops o
 | .e f,some (j,want),⟨put⟩=>match(ops[j]?).bind (·.dst)with
  |some t=>bif Nat.blt t n then(match dW (α:=AV) d t with|⟨g⟩=>⟨fun O L H=>zqy want (g L) (aH8 put L (f O L H)) (.ok (put L .undef) H)⟩)else qg1 P d n ops o
  |none=>qg1 P d n ops o
theorem zw6(P:Program)(d n:Nat)(ops:Array Oper)(o:Oper):z8g P d n ops o=qg1 P d n ops o:=by
 unfold z8g;rw[xcz,xaj,xak];split
 ·rename_i f a b c e;unfold qg1;rw[b,c,e]
 ·rename_i f a b c e;unfold qg1;rw[b,c,e]
 ·rename_i f j g a b c e;split
  ·rename_i t h;cases i:Nat.blt t n with
   |false=>rfl
   |true=>unfold qg1 uL;rw[b,c,e];simp only[h,i,lII,q3j];rfl
  ·rfl
 ·rename_i f j g a b c e;split
  ·rename_i t h;cases i:Nat.blt t n with
   |false=>rfl
   |true=>unfold qg1 uL;rw[b,c,e];simp only[h,i,lII,q3j];rfl
  ·rfl
def zb7(P:Program)(d n:Nat)(ops:Array Oper)(o:Oper):St d:=
 match aAi o with
 |none=>z8g P d n ops o
 |some _=>qjr P d n ops o
theorem q1m(P:Program)(d n:Nat)(ops:Array Oper)(o:Oper):zb7 P d n ops o=qjr P d n ops o:=by
 unfold zb7;split
 ·rename_i h;rw[zw6];unfold qjr;rw[h]
 ·rfl
def aB5(P:Program)(d n:Nat)(ops:Array Oper):List Oper->St d
 | []=>⟨fun _ L H=>.ok L H⟩
 | [o]=>zb7 P d n ops o
 |o::r=>⟨fun O L H=>z3p ((zb7 P d n ops o).f O L H) ((aB5 P d n ops r).f O)⟩
theorem q8i(P:Program)(d n:Nat)(ops:Array Oper):∀ l,aB5 P d n ops l=qF P d n ops l
 | []=>rfl
 | [o]=>by
  simp only[aB5,qF,q1m];generalize qjr P d n ops o=s;cases s with
  |mk f=>congr 1;funext O L H;show f O L H=zgg (f O L H) fun L H=>.ok L H;cases f O L H<;>rfl
 |o::a::r=>by simp only[aB5,zr9,q1m];rw[q8i P d n ops (a::r)];rfl
def z9l{d:Nat}(r:Rs d):Rc d:=
 @Rs.rec d (fun _=>Rc d) .bad (fun L H=>.ok .normal L H) r
theorem zc3{d:Nat}:@z9l d=nH:=by funext r;cases r<;>rfl
def z8m{d:Nat}(r:Rs d)(k:TT AV d->Hp->Rc d):Rc d:=
 @Rs.rec d (fun _=>Rc d) .bad k r
theorem zcd{d:Nat}(r:Rs d)(k:TT AV d->Hp->Rc d):z8m r k=sI (nH r) k:=by cases r<;>rfl
def zxh{d:Nat}(r:Rc d)(k:TT AV d->Hp->Rc d):Rc d:=
 @Rc.rec d (fun _=>Rc d) .bad (fun e L H=>@Ex.rec (fun _=>Rc d) (k L H) (fun id=>.ok (.exit id) L H) (fun l=>.ok (.goto l) L H) (.ok .ret L H) e) r
theorem qb6{d:Nat}:@zxh d=sI:=by funext r k;cases r<;>first|rfl|(rename_i e L H;cases e<;>rfl)
def zr8{d:Nat}(id:Nat)(r:Rc d):Rc d:=
 @Rc.rec d (fun _=>Rc d) .bad (fun e L H=>@Ex.rec (fun _=>Rc d) (.ok .normal L H) (fun id'=>@Bool.rec (fun _=>Rc d) (.ok (.exit id') L H) (.ok .normal L H) (Nat.beq id' id)) (fun l=>.ok (.goto l) L H) (.ok .ret L H) e) r
theorem zgf{d:Nat}:@zr8 d=qwc:=by
 funext id r;cases r<;>first|rfl|skip
 rename_i e L H;cases e<;>first|rfl|skip
 rename_i a;show @Bool.rec (fun _=>Rc d) _ _ (Nat.beq a id)=bif Nat.beq a id then _ else _;cases Nat.beq a id<;>rfl
def z3o{d:Nat}(c:AV)(a b:Rc d):Rc d:=
 @AV.rec (fun _=>Rc d) (fun _=>PUnit) .bad (fun _=>.bad) (fun x=>@Bool.rec (fun _=>Rc d) (b) (a) (x)) (fun _ _=>.bad) (fun _ _=>.bad) (fun _ _=>.bad) .bad (fun _ _ _ _ _=>.bad) .bad .bad (fun _=>.bad) .bad (fun _ _ _ _ _=>.bad) (fun _=>.bad) .bad (fun _ _ _=>.bad) .bad (fun _ _=>.bad) (fun _ _=>.bad) PUnit.unit (fun _ _ _ _=>PUnit.unit) c
theorem zrx{d:Nat}:@z3o d=condC:=by funext c a b;cases c<;>first|rfl|(rename_i x;cases x<;>rfl)
def zqd{d:Nat}(b:TT AV d->Hp->Rc d)(n:Nat):TT AV d->Hp->Rc d:=
 Nat.rec (motive:=fun _=>TT AV d->Hp->Rc d) (fun _ _=>.bad) (fun _ ih L H=>zxh (b L H) ih) n
theorem zqc{d:Nat}:@zqd d=qsz:=by
 funext b n
 induction n with
 |zero=>rfl
 |succ n ih=>funext L H;show zxh (b L H) (zqd b n)=sI (b L H) (qsz b n);rw[qb6,ih]
def fQ(P:Program)(d n:Nat):Code->Dn d
 | .skip| .label _=>⟨fun _ L H=>.ok .normal L H⟩
 | .region _ ops false=>match aB5 P d n ops ops.toList with|⟨g⟩=>⟨fun O L H=>z9l (g O L H)⟩
 | .region _ ops true=>match ql8 P d n ops with|⟨g⟩=>⟨fun O L H=>z9l (g O L H)⟩
 | .seq (.region _ ops false) b=>match aB5 P d n ops ops.toList with|⟨g⟩=>⟨fun O L H=>z8m (g O L H) ((fQ P d n b).f O)⟩
 | .seq (.region _ ops true) b=>match ql8 P d n ops with|⟨g⟩=>⟨fun O L H=>z8m (g O L H) ((fQ P d n b).f O)⟩
 | .seq a b=>⟨fun O L H=>zxh ((fQ P d n a).f O L H) ((fQ P d n b).f O)⟩
 | .cond x a b=>match aJ d n x with|⟨g⟩=>⟨fun O L H=>z3o (g L) ((fQ P d n a).f O L H) ((fQ P d n b).f O L H)⟩
 | .block id b=>⟨fun O L H=>zr8 id ((fQ P d n b).f O L H)⟩
 | .loop b=>⟨fun O L H=>zqd ((fQ P d n b).f O) bZ L H⟩
 | .scope b=>fQ P d n b
 | .exit id=>⟨fun _ L H=>.ok (.exit id) L H⟩
 | .goto _=>⟨fun _ _ _=>.bad⟩
 | .ret=>⟨fun _ L H=>.ok .ret L H⟩
 | .rangeFunc f ps assign body=>den P d n (.rangeFunc f ps assign body)
 | .refuse _=>⟨fun _ _ _=>.bad⟩
theorem nQ(P:Program)(d n:Nat):∀ c,fQ P d n c=den P d n c
 | .skip| .label _=>rfl
 | .region _ ops false=>by simp only[fQ,q8i,zc3,den]
 | .region _ ops true=>by simp only[fQ,zc3,den]
 | .seq (.region _ ops false) b=>by simp only[fQ,q8i,zcd,den,nQ P d n b]
 | .seq (.region _ ops true) b=>by simp only[fQ,zcd,den,nQ P d n b]
 | .seq .skip b=>by simp only[fQ,qb6,den,nQ P d n b]
 | .seq (.label _) b=>by simp only[fQ,qb6,den,nQ P d n b]
 | .seq (.seq x y) b=>by rw[fQ,den,qb6,nQ P d n (.seq x y),nQ P d n b]<;>simp
 | .seq (.cond x y z) b=>by rw[fQ,den,qb6,nQ P d n (.cond x y z),nQ P d n b]<;>simp
 | .seq (.block x y) b=>by rw[fQ,den,qb6,nQ P d n (.block x y),nQ P d n b]<;>simp
 | .seq (.loop x) b=>by rw[fQ,den,qb6,nQ P d n (.loop x),nQ P d n b]<;>simp
 | .seq (.scope x) b=>by rw[fQ,den,qb6,nQ P d n (.scope x),nQ P d n b]<;>simp
 | .seq (.exit x) b=>by rw[fQ,den,qb6,nQ P d n (.exit x),nQ P d n b]<;>simp
 | .seq (.goto x) b=>by rw[fQ,den,qb6,nQ P d n (.goto x),nQ P d n b]<;>simp
 | .seq .ret b=>by rw[fQ,den,qb6,nQ P d n .ret,nQ P d n b]<;>simp
 | .seq (.rangeFunc x y z t) b=>by rw[fQ,den,qb6,nQ P d n (.rangeFunc x y z t),nQ P d n b]<;>simp
 | .seq (.refuse x) b=>by rw[fQ,den,qb6,nQ P d n (.refuse x),nQ P d n b]<;>simp
 | .cond x a b=>by simp only[fQ,zrx,den,nQ P d n a,nQ P d n b]
 | .block id b=>by simp only[fQ,zgf,den,nQ P d n b]
 | .loop b=>by simp only[fQ,zqc,den,nQ P d n b]
 | .scope b=>by simp only[fQ,den,nQ P d n b]
 | .exit id| .goto _| .ret| .refuse _=>rfl
 | .rangeFunc f ps assign body=>by simp only[fQ]
def ze9{d:Nat}(n:Nat)(O:Call)(res:TT AV d->Hp->Option AV)(L:TT AV d)(H:Hp):R1:=@Option.rec Hp (fun _=>R1) .bad (fun H'=>@Option.rec AV (fun _=>R1) .bad (fun v=>.ok v H') (res L H')) (aBG O (dl ((dW d n).f L)) H)
theorem zcz{d:Nat}:@ze9 d=iP:=by
 funext n O res L H;unfold ze9 iP;cases aBG O (dl ((dW d n).f L)) H with
 |none=>rfl
 |some H'=>show @Option.rec AV (fun _=>R1) _ _ (res L H')=cO (res L H') H';cases res L H'<;>rfl
def xcg{d:Nat}(n:Nat)(O:Call)(res:TT AV d->Hp->Option AV)(r:Rc d):R1:=@Rc.rec d (fun _=>R1) .bad (fun e L H=>@Ex.rec (fun _=>R1) (ze9 n O res L H) (fun _=>.bad) (fun _=>.bad) (ze9 n O res L H) e) r
theorem zxl{d:Nat}:@xcg d=aDw:=by
 funext n O res r;cases r<;>first|rfl|skip
 rename_i e L H;cases e<;>first|rfl|skip
 ·show ze9 n O res L H=iP n O res L H;rw[zcz]
 ·show ze9 n O res L H=iP n O res L H;rw[zcz]
def vX(P:Program)(f:FuncId):Fd:=
 match P.funcs[f]? with
 |none=>⟨fun _ _ _=>.bad⟩
 |some fn=>if fn.name == "runtime.NumGoroutine" then⟨fun _ _ _=> .bad⟩else match fn.body with
  |none=>⟨fun _ _ _=>.bad⟩
  |some c=>match qb7 P (eF (fn.ntmps+1)) fn.ntmps fn.results.toList,fQ P (eF (fn.ntmps+1)) fn.ntmps c,Nat.ble (fn.ntmps+1) 262144 with
   |⟨res⟩,⟨dn⟩,true=>⟨fun O args H=>bif Nat.ble args.length fn.ntmps then xcg fn.ntmps O res (dn O (pE args 0 (same .undef _)) H)else .bad⟩
   |_,_,false=>⟨fun _ _ _=>.bad⟩
theorem q8s(P:Program)(f:FuncId):vX P f=aO P f:=by
 unfold vX aO;split
 ·simp_all
 ·rename_i fn h;rw[h];simp only;split
  ·rfl
  ·split
   ·simp_all
   ·rename_i c a;rw[a];simp only[nQ,zxl];cases b:Nat.ble (fn.ntmps+1) 262144 with
    |true=>simp
    |false=>simp
def q1c(P:Program)(O:Call)(l:Nat)(args:List AV)(H:Hp):R1:=
 match H.get l with
 | .loop true none d n L ps assign body=>
  bif Nat.beq ps.length args.length&&ps.all (fun p=>Nat.blt p n)then
   match(fQ P d n assign).f O (qfg ((setter d n).f L .undef) ps args) H with
   | .ok .normal L1 H1=>match H1.get l with
    | .loop true none d' n' L' ps' oI body'=>endRound l ((fQ P d n body).f O L1 (H1.put l (.loop false none d' n' L' ps' oI body')))
    |_=>.bad
   |_=>.bad
  else .bad
 |_=>.bad
theorem q1b(P:Program)(O:Call):q1c P O=qg5 P O:=by funext l args H;unfold q1c qg5;simp only[nQ];rfl
abbrev Ext:=FuncId->List AV->Hp->Option R1
def gV(P:Program)(ext:Ext)(n:Nat):Call:=
 Nat.rec (motive:=fun _=>Call) (fun _ _ _=>.bad) (fun _ ih c args H=>@Cl.rec (fun _=>R1) (fun f=>@Option.rec R1 (fun _=>R1) ((vX P f).f ih args H) (fun r=>r) (ext f args H)) (fun l=>q1c P ih l args H) (fun f=>@Bool.rec (fun _=>R1) .bad ((vX P f).f ih args H) (qrf P f)) c) n
def zyc:Ext:=fun _ _ _=>none
end Go.Ev
end
noncomputable section
namespace Go.Ev
open Go.RowKit
variable {P:Program} {w:World} {ι:Im} {H:Hp}
structure qh2(P:Program)(ext:Ext):Prop where
 fn:∀ f args H r,ext f args H=some r->∀ v H',r=.ok v H'->∀ ι w bG,HR ι H w->aL ι args bG ->
  (callFunc f bG.toArray).run P w=.ok (.enter f bG.toArray) w/\∀ m,CallsIn Fence.wide m P f bG.toArray w (Post ι H w v H')
theorem qzc:qh2 P zyc:=⟨fun _ _ _ _ h=>by cases h⟩
theorem qka(g:P.follows .mixedOrders=true){ext:Ext}(m:qh2 P ext):∀ k,qd9 P (gV P ext k)
 |0=>⟨(fun f args H v c h=>by cases h),(fun b args H v c h=>by cases h),(fun b args H v c h=>by cases h)⟩
 |k+1=>by
  have ih:=qka g m k;refine⟨fun f args H v c h ι w i d e=>?_,fun b args H v c h ι w i loc d e n=>?_,fun f args H v c h ι w i d e=>?_⟩
  ·have a:@Option.rec R1 (fun _=>R1) ((vX P f).f (gV P ext k) args H) (fun r=>r) (ext f args H)=.ok v c:=h;cases j:ext f args H with
   |none=>rw[j]at a;rw[q8s]at a;exact z98 ih g a d e
   |some r=>rw[j]at a;exact m.fn f args H r j v c a ι w i d e
  ·have a:q1c P (gV P ext k) b args H=.ok v c:=h;rw[q1b]at a;exact zn1 ih g a d e n
  ·have a:@Bool.rec (fun _=>R1) .bad ((vX P f).f (gV P ext k) args H) (qrf P f)=.ok v c:=h;cases l:qrf P f with
   |false=>rw[l]at a;cases a
   |true=>rw[l]at a;rw[q8s]at a;exact z99 ih g a l d e
theorem HR.of_below(h:HR ι H w){w':World}(a:Below w.heap.size w w'):HR ι H w'/\Fr ι ι H H w w':=by
 have e:∀ c,c<w.heap.size->w'.heap[c]? =w.heap[c]? :=a.block;refine⟨⟨h.top,fun b d=>(h.blk b d).keep fun l i j=>e _ (h.low b l d i j),fun b l d f g=>af (h.low b l d f g) a.size,h.inj,h.fresh,h.free⟩,
  ⟨Im.le_refl _,lEO _,fun b f g=>absurd f g,a.os,a.tape,a.output,a.size,fun c k _=>e c k,fun b l a f g=>.inr ⟨b,l,a,f,g,rfl⟩,fun b l a f g=>.inr ⟨b,l,a,f,g,rfl⟩⟩⟩
def Yes(P:Program)(f:FuncId):Prop:=∀ w,Calls P f #[] w fun e w'=>e=.returned (.bool true)/\Below w.heap.size w w'
def qf8(P:Program)(f:FuncId):Bool:=
 match P.funcs[f]? with
 |some fn=>fn.body.isSome&& !(fn.name == "runtime.NumGoroutine")
 |none=>false
def zby(tbl:List FuncId):Ext:=fun f args H=>
 match args with
 | []=>bif tbl.any (Nat.beq f)then some (.ok (.bool true) H)else none
 |_=>none
theorem zn2{tbl:List FuncId}(h:∀ f∈tbl,Yes P f)(hb:tbl.all (qf8 P)=true):qh2 P (zby tbl):=by
 refine⟨fun f args H r he v H' hr ι w bG hH ha=>?_⟩;unfold zby at he;split at he
 ·cases hc:tbl.any (Nat.beq f)with
  |false=>rw[hc]at he;cases he
  |true=>
   rw[hc]at he;simp only[lII,lI4]at he;subst he;cases hr;subst ha;obtain⟨g,hg,e⟩:=lUH.1 hc;have e:=lIL e;subst e;have hbf:=lOQ.1 hb f hg;unfold qf8 at hbf;split at hbf
   ·rename_i fn hfn;simp only[lI0,lOC]at hbf;refine⟨?_,fun m=>callsIn_wide.2 ((h f hg w).mono fun e w' hp=>?_)⟩
    ·obtain⟨c,hc'⟩:=lXF.1 hbf.1
     have hname':¬ fn.name = "runtime.NumGoroutine" :=fun e=>by rw[e]at hbf;simp at hbf
     simp[callFunc,hfn,hname',hc']
    ·obtain⟨rfl,hw⟩:=hp;obtain⟨k1,k2⟩:=hH.of_below hw;exact⟨ι,by simp only[aR],k1,k2⟩
   ·cases hbf
 ·cases he
theorem zei(c:P.follows .mixedOrders=true){ext:Ext}(d:qh2 P ext){k:Nat}{f:FuncId}(h:qvx (gV P ext k (.f f) [] Hp.empty)=true):Yes P f:=by
 intro w;unfold qvx at h;split at h
 ·rename_i b m g;subst h;have:=((qka c d k).fn _ _ _ _ _ g (fun _=>none) w [] HR.empty (by simp[aL])).2 0;refine(callsIn_wide.1 this).mono fun e w' a=>?_;cases e with
  |returned V=>obtain⟨n,i,o,j⟩:=a;exact⟨by rw[i],j.below _ (lEO _) fun b l _ _ h=>by cases h⟩
  |panicked=>exact a.elim
  |outgrown=>exact a.elim
 ·cases h
end Go.Ev
end
