/-
 For StrataTurns: the evaluator and its soundness, part 3 of 4: what a run of the abstract evaluator answers, the model's run answers, in every world and on every schedule. No conditions beyond those that each theorem states.
-/
import Derived.Test.YtighkibjecdbnaaGreatEv2
import Derived.LoopNIn
import Derived.Scope
import Derived.RangeFuncRecord
import Derived.ChangeSame
import Derived.Test.YtighkibjecdbnaaGreatEv1
noncomputable section
namespace Go.Ev
open Go.RowKit
structure CS(d:Nat) where
 L:TT AV d
 H:Hp
 pend:List Pd
 iW:List Wt
variable {P:Program} {d n:Nat} {O:Call} {base:Nat} {ops:Array Oper} {ms:List Nat}
theorem qs5:∀(a:List Nat) (s:CS d) {b:TT AV d} {c:Hp} {e:List Pd} {w':List Wt},(sG P d n ops ms a).f O base s.L s.H s.pend s.iW=.ok b c e w' -> ∃st:Nat->CS d,st 0=s/\st a.length=⟨b,c,e,w'⟩/\∀ q i,a[q]? =some i->∃ o,ops[i]? =some o /\ (qy9 P d n ops i (ms.getD i 0) o).f O base (st q).L (st q).H (st q).pend (st q).iW=.ok (st (q+1)).L (st (q+1)).H (st (q+1)).pend (st (q+1)).iW
 | [],s,b,c,e,w',h=>by cases h;exact⟨fun _=>s,rfl,rfl,fun q i f=>by simp at f⟩
 |i::r,s,b,c,e,w',h=>by
  unfold sG at h;split at h
  ·rename_i o l;simp only[z4b]at h;split at h
   ·cases h
   ·rename_i L1 H1 p1 w1 m;obtain⟨st,p,g,k⟩:=qs5 r ⟨L1,H1,p1,w1⟩ h;refine⟨fun q=>match q with|0=>s|q+1=>st q,rfl,g,fun q j f=>?_⟩;cases q with
    |zero=>simp_all
    |succ q=>simp at f;exact k q j f
  ·cases h
inductive qle(P:Program)(d n:Nat)(O:Call)(base:Nat)(ops:Array Oper)(i A:Nat)(o:Oper)(s s':CS d):AV->Option bO->Bool->Prop
 |skip:(sV d n ops o).f ((mQ d n (kR ops o)).f s.L)=some false->s'=⟨(dS d n o.dst).f s.L .undef,s.H,s.pend,s.iW⟩->qle P d n O base ops i A o s s' .undef none false
 |val (lk:Bool) (f:Nat->TT AV d->Hp->R0) (v:AV):gW P d n o=.q lk f->(sV d n ops o).f ((mQ d n (kR ops o)).f s.L)=some true ->
   f (base+i) ((mQ d n (kR ops o)).f s.L) (eU A s.pend s.H)=.val v ->
   s'=⟨(dS d n o.dst).f s.L v,s.H,s.pend,bif lk then⟨i,A,f (base+i) ((mQ d n (kR ops o)).f s.L),v⟩::s.iW else s.iW⟩->qle P d n O base ops i A o s s' v none false
 |new (f:Nat->TT AV d->Hp->R0) (v:AV) (b:bO):gW P d n o=.q false f->qhn o.op=true->b.wr=true->(sV d n ops o).f ((mQ d n (kR ops o)).f s.L)=some true ->
   f (base+i) ((mQ d n (kR ops o)).f s.L) (eU A s.pend s.H)=.new v b ->
   s'=⟨(dS d n o.dst).f s.L v,s.H,⟨i,base+i,b⟩::s.pend,s.iW⟩->qle P d n O base ops i A o s s' v (some b) false
 |lX (f:Call->TT AV d->Hp->R1) (v:AV) (H':Hp):gW P d n o=.e f->(sV d n ops o).f ((mQ d n (kR ops o)).f s.L)=some true ->
   f O ((mQ d n (kR ops o)).f s.L) (eU A s.pend s.H)=.ok v H'->qi2 (p8 A s.pend) H' (qB A s.iW)=true ->
   s'=⟨(dS d n o.dst).f s.L v,H',p8 A s.pend,qB A s.iW⟩->qle P d n O base ops i A o s s' v none true
theorem zsk{i A:Nat}{o:Oper}{s s':CS d}(h:(qy9 P d n ops i A o).f O base s.L s.H s.pend s.iW=.ok s'.L s'.H s'.pend s'.iW):∃v b k,qle P d n O base ops i A o s s' v b k:=by
 unfold qy9 at h;split at h
 ·rename_i B f u w g p x y z;simp only at h;unfold qX at h;have a:(mQ d n (kR ops o)).f=u:=by rw[x]
  have j:(sV d n ops o).f=w:=by rw[y]
  have l:(dS d n o.dst).f=g:=by rw[z]
  split at h
  ·cases h
  ·rename_i c;obtain⟨q,r,t,w'⟩:=s';cases h;exact⟨_,_,_,.skip (by rw[a,j];exact c) (by rw[l])⟩
  ·rename_i c;split at h
   ·cases h
   ·rename_i v m;obtain⟨q,r,t,w'⟩:=s';cases h;exact⟨_,_,_,.val B f v p (by rw[a,j];exact c) (by rw[a];exact m) (by rw[l,a];rfl)⟩
   ·rename_i v b m;cases e:(qhn o.op&& !B&&b.wr)with
    |false=>rw[e]at h;cases h
    |true=>rw[e]at h;simp only[qc,yg]at e;obtain⟨⟨C,D⟩,E⟩:=e;subst D;obtain⟨q,r,t,w'⟩:=s';cases h;exact⟨_,_,_,.new f v b p C E (by rw[a,j];exact c) (by rw[a];exact m) (by rw[l])⟩
 ·rename_i f u w g p x y z;simp only at h;unfold eX at h;have a:(mQ d n (kR ops o)).f=u:=by rw[x]
  have j:(sV d n ops o).f=w:=by rw[y]
  have l:(dS d n o.dst).f=g:=by rw[z]
  split at h
  ·cases h
  ·rename_i c;obtain⟨q,r,t,w'⟩:=s';cases h;exact⟨_,_,_,.skip (by rw[a,j];exact c) (by rw[l])⟩
  ·rename_i c;split at h
   ·cases h
   ·rename_i v H1 m;cases e:qi2 (p8 A s.pend) H1 (qB A s.iW)with
    |false=>rw[e]at h;cases h
    |true=>rw[e]at h;simp only[uC]at h;obtain⟨q,r,t,w'⟩:=s';simp only[Rx.ok.injEq]at h;obtain⟨F,G,H,I⟩:=h;subst F;subst G;subst H;subst I;exact⟨_,_,_,.lX f v _ p (by rw[a,j];exact c) (by rw[a];exact m) e (by rw[l])⟩
theorem q0p(l:List Oper):∀(k i:Nat) (o:Oper),l[i]? =some o->(qtd P d n ms k l)[i]? =some (Kd.mk (k+i) (ms.getD (k+i) 0) (isE (gW P d n o)) (aEt (gW P d n o))):=by
 induction l with
 |nil=>intro k i o h;simp at h
 |cons o' r ih=>
  intro k i o h;cases i with
  |zero=>simp at h;subst h;simp[qtd]
  |succ i=>simp only[qtd,zh];rw[ih (k+1) i o h,show k+1+i=k+(i+1)by omega]
theorem qz4{ks:List Kd}:∀(l:List Nat) (D E:Nat),qz5 ops ks D E l=true->∀ q i,l[q]? =some i->∃ o k,ops[i]? =some o/\ks[i]? =some k /\ (∀j∈vO o,hasB D j=true\/j∈l.take q)/\hasB D i=false/\i∉l.take q /\ ((k.lX=true\/k.lk=true)->∀ e,(hasB E e=true\/(e∈l.take q/\∃ m,ks[e]? =some m/\m.lX=true))->hasB k.A e=true)
 | [],D,E,h,q,i,hq=>by simp at hq
 |i'::r,D,E,h,q,i,hq=>by
  unfold qz5 at h;split at h
  ·rename_i o k u s;simp only[qc,yl,yg,ig]at h;obtain⟨⟨⟨v,w⟩,d⟩,x⟩:=h;cases q with
   |zero=>
    simp at hq;subst hq;refine⟨o,k,u,s,fun j g=>.inl (v j g),w,by simp,fun p e a=>?_⟩;have t:aBD E k.A=true:=by
     rcases d with d|d
     ·simp_all
     ·exact d
    rcases a with a|a
    ·exact zsf t a
    ·simp at a
   |succ q=>
    obtain⟨y,z,A,B,C,f,F,G⟩:=qz4 r _ _ x q i hq;rw[qgf]at f;simp only[lAN,yt]at f;refine⟨y,z,A,B,fun j g=>?_,f.1,?_,fun p e a=>G p e ?_⟩
    ·rcases C j g with b|b
     ·rw[qgf]at b;simp only[ig,yc]at b;rcases b with b|b
      ·exact .inl b
      ·simp_all
     ·simp_all
    ·simp only[lA0,qm,not_or];exact⟨fun e=>f.2 e.symm,F⟩
    ·rcases a with a|⟨a,m,c,n⟩
     ·left;cases k.lX with
      |true=>simp only[uC];rw[qgf,a];rfl
      |false=>exact a
     ·simp only[lA0,qm]at a;rcases a with rfl|a
      ·left;rw[s]at c;cases c;rw[n];simp only[uC];rw[qgf];simp
      ·simp_all
  ·cases h
theorem qxd:∀(m:Nat) (l:List Nat),l.Nodup->(∀x∈l,x<m)->l.length<=m
 |0,l,_,h=>by
  cases l with
  |nil=>simp
  |cons a l=>have:=h a (by simp);omega
 |m+1,l,hn,h=>by
  by_cases d:m∈l
  ·have c:=qxd m (l.erase m) (hn.erase m) fun x b=>by
    have:=(hn.mem_erase_iff).1 b;have:=h x this.2;omega
   simp_all
  ·have:=qxd m l hn fun x b=>by
    have c:=h x b;have:x≠m:=fun e=>d (e▸b);omega
   omega
structure Can(P:Program)(d n:Nat)(O:Call)(base:Nat)(ops:Array Oper)(ms:List Nat)(st:Nat->CS d)(pos:Nat->Nat)(V:Nat->AV)(B:Nat->Option bO)(K:Nat->Bool):Prop where
 edg:Edg ops ms
 plt:∀ i,i<ops.size->pos i<ops.size
 inj:∀ i j,i<ops.size->j<ops.size->pos i=pos j->i=j
 aXA:∀ q,q<ops.size->∃ i,i<ops.size/\pos i=q
 step:∀ i o,ops[i]? =some o->qle P d n O base ops i (ms.getD i 0) o (st (pos i)) (st (pos i+1)) (V i) (B i) (K i)
 edge:∀ i o,ops[i]? =some o->∀ j∈vO o,pos j<pos i
 lX:∀ i o e oe,ops[i]? =some o->ops[e]? =some oe->isE (gW P d n oe)=true->(isE (gW P d n o)=true\/aEt (gW P d n o)=true)->pos e<pos i->hasB (ms.getD i 0) e=true
theorem Can.of{pl:Pln}(r:q6s P d n ops=some pl){s:CS d}{U:TT AV d}{W:Hp}{X:List Pd}{w':List Wt}(h:(sG P d n ops pl.ms pl.ord).f O base s.L s.H s.pend s.iW=.ok U W X w'):∃st pos V B K,Can P d n O base ops pl.ms st pos V B K/\st 0=s/\st ops.size=⟨U,W,X,w'⟩/\pl.up=(bif ops.toList.any (fun o=>qhn o.op)then ops.size else 0):=by
 unfold q6s at r;simp only at r;generalize T:qtd P d n (qbt [] ops.toList) 0 ops.toList=ks at r;generalize zlj (zng ks) ks.length 0 ks=ord at r;cases L:(qtt 0 ops.toList&&q9c ops (qbt [] ops.toList)&&Nat.beq ord.length ops.size&&qz5 ops ks 0 0 ord)with
 |false=>rw[L]at r;cases r
 |true=>
  rw[L]at r;simp only[uC,qh]at r;subst r;simp only[qc]at L;obtain⟨⟨⟨Z,c2⟩,Q⟩,c4⟩:=L;have Q:=qp Q;obtain⟨st,a1,a2,a3⟩:=qs5 ord s h;have u:=qz4 ord 0 0 c4;have w:ord.Nodup:=by refine uf.2 fun i j t m hij e=>?_;obtain⟨o,k,_,_,_,_,b5,_⟩:=u j ord[j] (lL m);apply b5;rw[<-e,List.mem_take_iff_getElem];exact⟨i,by omega,rfl⟩
  have y:∀ x∈ord,x<ops.size:=fun x A=>by obtain⟨q,E,e⟩:=yj A;obtain⟨o,k,I,_⟩:=u q x (by rw[lL E,e]);exact(ay.1 I).1
  have H:∀ i,i<ops.size->i∈ord:=fun i t=>Classical.byContradiction fun M=>by
   have:=qxd ops.size (i::ord) (lAY.2 ⟨M,w⟩) fun x A=>by
    rcases qm.1 A with rfl|A
    ·exact t
    ·exact y x A
   simp at this;omega
  have f:∀ i,∃q v b k,i<ops.size->ord[q]? =some i/\∀ o,ops[i]? =some o->qle P d n O base ops i ((qbt [] ops.toList).getD i 0) o (st q) (st (q+1)) v b k:=fun i=>by
   by_cases t:i<ops.size
   ·obtain⟨q,E,e⟩:=yj (H i t);have g:ord[q]? =some i:=by rw[lL E,e]
    obtain⟨o,c,hs⟩:=a3 q i g;obtain⟨v,b,k,hk⟩:=zsk hs;exact⟨q,v,b,k,fun _=>⟨g,fun Y C=>by rw[c]at C;cases C;exact hk⟩⟩
   ·exact⟨0,.undef,none,false,fun h=>absurd h t⟩
  let pos:=fun i=>Classical.choose (f i)
  let V:=fun i=>Classical.choose (uq (f i))
  let B:=fun i=>Classical.choose (uq (uq (f i)))
  let K:=fun i=>Classical.choose (uq (uq (uq (f i))))
  have a:∀ i,i<ops.size->ord[pos i]? =some i/\∀ o,ops[i]? =some o->qle P d n O base ops i ((qbt [] ops.toList).getD i 0) o (st (pos i)) (st (pos i+1)) (V i) (B i) (K i):=fun i=>
   uq (uq (uq (uq (f i))))
  have l:∀{i o},ops[i]? =some o->i<ops.size:=fun h=>(ay.1 h).1;have qxg:∀ j q,j<ops.size->j∈ord.take q->pos j<q:=fun j q m D=>by
   rw[List.mem_take_iff_getElem]at D;obtain⟨x,A,e⟩:=D;have p:=(a j m).1;have R:ord[x]? =some j:=by rw[lL (by omega),e]
   have z:pos j<ord.length:=(ql.1 p).1;have:pos j=x:=(List.getElem?_inj z w).1 (p.trans R.symm);omega
  have S:∀ j q,j<ops.size->pos j<q->j∈ord.take q:=fun j q m E=>by have p:=(a j m).1;obtain⟨hl,e⟩:=ql.1 p;rw[List.mem_take_iff_getElem];exact⟨pos j,by omega,e⟩
  refine⟨st,pos,V,B,K,⟨Edg.of Z c2,fun i t=>?_,fun i j t m e=>?_,fun q E=>?_,fun i o c=>(a i (l c)).2 o c,fun i o c j m=>?_,fun i o e oe c F he N G=>?_⟩,a1,by rw[<-Q];exact a2,rfl⟩
  ·have:=(ql.1 (a i t).1).1;omega
  ·have p:=(a i t).1;have R:=(a j m).1;rw[e,R]at p;cases p;rfl
  ·have g:q<ord.length:=by omega
   have D:ord[q]∈ord:=lg g;refine⟨ord[q],y _ D,?_⟩;have p:=(a _ (y _ D)).1;have z:=(ql.1 p).1;exact(List.getElem?_inj z w).1 (p.trans (lL g).symm)
  ·obtain⟨Y,k,I,b2,b3,_⟩:=u (pos i) i (a i (l c)).1;rw[c]at I;cases I;have hlj:j<ops.size:=lEK ((Edg.of Z c2).back i o c j m) (l c);rcases b3 j m with b|b
   ·rw[q0s]at b;cases b
   ·simp_all
  ·obtain⟨Y,k,I,b2,b3,b4,b5,b6⟩:=u (pos i) i (a i (l c)).1;have J:=q0p (P:=P) (d:=d) (n:=n) (ms:=qbt [] ops.toList) ops.toList 0 i o (by simpa using c);have k2:=q0p (P:=P) (d:=d) (n:=n) (ms:=qbt [] ops.toList) ops.toList 0 e oe (by simpa using F);rw[T]at J k2;rw[b2]at J;simp only[pq,qh]at J k2;subst J;exact b6 N e (.inr ⟨S e _ (l F) G,_,k2,he⟩)
end Go.Ev
end
noncomputable section
namespace Go.Ev
open Go.RowKit
variable {P:Program} {d n:Nat} {O:Call} {base:Nat} {ops:Array Oper} {ms:List Nat} {st:Nat->CS d} {pos:Nat->Nat} {V:Nat->AV} {B:Nat->Option bO} {K:Nat->Bool}
/- locals -/
def qxw(ops:Array Oper)(j:Nat):Option Tmp:=(ops[j]?).bind (·.dst)
open Classical in
def tv(ops:Array Oper)(n:Nat)(V:Nat->AV)(L0:TT AV d)(S:Nat->Prop):Nat->Nat->AV
 |0,t=>(dJ d t).f L0
 |j+1,t=>if S j/\qxw ops j=some t/\t<n then V j else tv ops n V L0 S j t
theorem qi4{b:TT AV d}{S S':Nat->Prop}{t:Nat}:∀ m,(∀j,j<m->qxw ops j=some t->(S j↔S' j))->tv ops n V b S m t=tv ops n V b S' m t
 |0,_=>rfl
 |m+1,h=>by
  unfold tv;rw[qi4 m fun j c=>h j (by omega)];by_cases hd:qxw ops m=some t
  ·have:=h m (by omega) hd;by_cases a:S m
   ·simp[a,this.1 a,hd]
   ·have:¬ S' m:=fun x=>a (this.2 x);simp[a,this]
  ·simp[hd]
theorem zj5{c:TT AV d}{S:Nat->Prop}{t i:Nat}(a:S i)(hd:qxw ops i=some t)(b:t<n):∀ m,i<m->(∀j,i<j->j<m->S j->qxw ops j≠some t)->tv ops n V c S m t=V i
 |0,h,_=>by omega
 |m+1,h,k=>by
  unfold tv;by_cases e:i=m
  ·subst e;rw[kz ⟨a,hd,b⟩]
  ·rw[lu (fun x=>k m (by omega) (by omega) x.1 x.2.1)];exact zj5 a hd b m (by omega) fun j f g=>k j f (by omega)
theorem qew{i:Nat}{o:Oper}(h:ops[i]? =some o):i<ops.size:=(ay.1 h).1
theorem qph{i:Nat}(h:i<ops.size):∃ o,ops[i]? =some o:=⟨_,bg h⟩
theorem zxc{p:TT AV d}{S:Nat->Prop}(h:Edg ops ms)(s:Shut ops S){i:Nat}{o:Oper}(g:ops[i]? =some o)(l:¬ S i)(t:Nat):tv ops n V p (fun j=>S j\/j=i) ops.size t=if o.dst=some t/\t<n then V i else tv ops n V p S ops.size t:=by
 have c:qxw ops i=o.dst:=by simp[qxw,g]
 by_cases hd:o.dst=some t
 ·by_cases f:t<n
  ·rw[kz ⟨hd,f⟩];refine zj5 (.inr rfl) (c.trans hd) f _ (qew g) fun j q u k v=>?_;obtain⟨r,b⟩:=qph u;have a:r.dst=some t:=by simpa [qxw,b] using v
   rcases k with k|k
   ·rcases h.tmps i j o r t g b hd with e|e|e|e
    ·omega
    ·exact l (h.qJ s b k e)
    ·have:=h.aHM i o j g e;omega
    ·exact e.2 a
   ·omega
  ·rw[lu (by simp[f])];generalize ops.size=m
   induction m with
   |zero=>rfl
   |succ m ih=>unfold tv;rw[lu (by simp[f]),lu (by simp[f]),ih]
 ·rw[lu (by simp[hd])];refine qi4 _ fun j w a=>?_;constructor
  ·rintro (q|rfl)
   ·exact q
   ·rw[c]at a;exact absurd a hd
  ·exact .inl
theorem z10{L:TT AV d}{v:AV}{u:Nat}(h:Nat.blt u n=true):(dS d n (some u)).f L v=(setter d u).f L v:=by unfold dS;simp only;rw[h];rfl
theorem q96{L:TT AV d}{v:AV}{u:Nat}(h:Nat.blt u n=false):(dS d n (some u)).f L v=L:=by unfold dS;simp only;rw[h];rfl
theorem qjc(f:n<=8 ^ d){L:TT AV d}{v:AV}{t:Nat}(g:t<8 ^ d)(a:Option Tmp):(dJ d t).f ((dS d n a).f L v)=if a=some t/\t<n then v else(dJ d t).f L:=by
 cases a with
 |none=>simp[dS]
 |some u=>
  cases c:Nat.blt u n with
  |true=>
   have b:=uE c;rw[z10 c,qey _ _ _ _ _ g (lq b f)];by_cases e:t=u
   ·subst e;simp[b]
   ·rw[lu e,lu (by simp;intro h;exact absurd h.symm e)]
  |false=>have b:=zdt c;rw[q96 c,lu];rintro ⟨i,j⟩;cases i;exact b j
theorem qle.bEq{i A:Nat}{o:Oper}{s s':CS d}{v:AV}{b:Option bO}{k:Bool}(h:qle P d n O base ops i A o s s' v b k):s'.L=(dS d n o.dst).f s.L v:=by cases h<;>(rename_i e;rw[e])
theorem qle.bER{i A:Nat}{o:Oper}{s s':CS d}{v:AV}{b:Option bO}(h:qle P d n O base ops i A o s s' v b false):s'.H=s.H:=by cases h<;>(rename_i e;rw[e])
theorem Can.shut(C:Can P d n O base ops ms st pos V B K)(q:Nat):Shut ops (fun j=>pos j<q):=fun i o a b j c=>by have:=C.edge i o a j c;simp only at b;omega
theorem Can.jZ(C:Can P d n O base ops ms st pos V B K){i k:Nat}{o:Oper}(a:ops[i]? =some o)(b:hasB (ms.getD i 0) k=true):pos k<pos i:=
 C.edg.vC (C.shut (pos i)) i o k a (fun j c=>C.edge i o a j c) b
theorem Can.at(C:Can P d n O base ops ms st pos V B K){q:Nat}(b:q<ops.size):∃ i o,ops[i]? =some o/\pos i=q/\qle P d n O base ops i (ms.getD i 0) o (st q) (st (q+1)) (V i) (B i) (K i):=by obtain⟨i,c,rfl⟩:=C.aXA q b;obtain⟨o,a⟩:=qph c;exact⟨i,o,a,rfl,C.step i o a⟩
theorem Can.lt_succ(C:Can P d n O base ops ms st pos V B K){i j:Nat}(a:i<ops.size)(b:j<ops.size):pos j<pos i+1↔pos j<pos i\/j=i:=by
 constructor
 ·intro h;by_cases e:pos j=pos i
  ·exact .inr (C.inj j i b a e)
  ·exact .inl (by omega)
 ·rintro (h|rfl)<;>omega
theorem Can.locals(C:Can P d n O base ops ms st pos V B K)(a:n<=8 ^ d):∀ q,q<=ops.size->∀ t,t<8 ^ d->(dJ d t).f (st q).L=tv ops n V (st 0).L (fun j=>pos j<q) ops.size t
 |0,_,t,_=>by
  generalize ops.size=m
  induction m with
  |zero=>rfl
  |succ m ih=>unfold tv;rw[lu (by omega)];exact ih
 |q+1,hq,t,ht=>by obtain⟨i,o,b,e,f⟩:=C.at hq;subst e;rw[f.bEq,qjc a ht,C.locals a (pos i) (by omega) t ht];rw[<-zxc C.edg (C.shut (pos i)) b (xq _) t];exact qi4 _ fun j c _=>(C.lt_succ (qew b) c).symm
theorem Can.proj(C:Can P d n O base ops ms st pos V B K)(f:n<=8 ^ d){S:Nat->Prop}(i:Shut ops S){L:TT AV d}(p:∀ t,t<8 ^ d->(dJ d t).f L=tv ops n V (st 0).L S ops.size t){k:Nat}{o:Oper}(c:ops[k]? =some o)(l:¬ S k)(q:∀ j∈vO o,S j):(mQ d n (kR ops o)).f L=(mQ d n (kR ops o)).f (st (pos k)).L:=by
 refine qo8 _ fun t r b=>?_;have u:=C.plt k (qew c);rw[p t (lq b f),C.locals f (pos k) (by omega) t (lq b f)];refine qi4 _ fun j s hd=>?_;obtain⟨m,a⟩:=qph s;have g:m.dst=some t:=by simpa [qxw,a] using hd
 rcases C.edg.tmps j k m o t a c g with e|e|e|e
 ·subst e;exact⟨fun h=>absurd h l,fun h=>absurd h (xq _)⟩
 ·exact⟨fun _=>C.jZ c e,fun _=>C.edg.vC i k o j c q e⟩
 ·exact⟨fun h=>absurd (C.edg.qJ i a h e) l,fun h=>absurd (C.jZ a e) (by omega)⟩
 ·exact absurd r e.1
/- heaps -/
def qwn(c:Pd->Bool)(pend:List Pd)(H:Hp):Hp:=
 List.rec (motive:=fun _=>Hp) H (fun p _ ih=>bif c p then ih.put p.nm p.b else ih) pend
theorem qwo(A:Nat)(a:List Pd)(H:Hp):eU A a H=qwn (fun p=>hasB A p.i) a H:=rfl
theorem z4g(a:List Pd)(H:Hp):mU a H=qwn (fun _=>true) a H:=rfl
theorem qgn(c:Pd->Bool)(p:Pd)(l:List Pd)(H:Hp):qwn c (p::l) H=if c p=true then(qwn c l H).put p.nm p.b else qwn c l H:=by show(bif c p then _ else _)=_;cases c p<;>rfl
theorem qwm(c:Pd->Bool)(H:Hp):∀ a,(qwn c a H).nx=H.nx
 | []=>rfl
 |p::l=>by
  rw[qgn];split
  ·exact qwm c H l
  ·exact qwm c H l
theorem qsq{c:Pd->Bool}{H:Hp}{b:Nat}(f:gZ (b)):∀ a,(∀p∈a,gZ (p.nm))->(∀p∈a,c p=true->p.nm≠b)->(qwn c a H).get b=H.get b
 | [],_,_=>rfl
 |p::l,h1,h=>by
  rw[qgn];have ih:=qsq (c:=c) (H:=H) f l (fun x d=>h1 x (by simp[d])) (fun x d=>h x (by simp[d]));split
  ·rename_i g;rw[Hp.get_put _ _ _ _ (h1 p (by simp)) f,lu (fun e=>h p (by simp) g e.symm)];exact ih
  ·exact ih
theorem qoo{c:Pd->Bool}{H:Hp}:∀ a,(∀p∈a,gZ (p.nm))->(∀p∈a,∀j∈a,p.nm=j.nm->p.b=j.b)->∀ p∈a,c p=true->(qwn c a H).get p.nm=p.b
 | [],_,_,p,hp,_=>by cases hp
 |x::l,h1,h2,p,hp,hc=>by
  rw[qgn];have g:=h1 p hp;by_cases i:c x=true
  ·rw[kz i,Hp.get_put _ _ _ _ (h1 x (by simp)) g];by_cases e:p.nm=x.nm
   ·rw[kz e];exact h2 x (by simp) p hp e.symm
   ·rw[lu e];have d:p∈l:=by
     rcases qm.1 hp with rfl|h
     ·exact absurd rfl e
     ·exact h
    exact qoo l (fun y b=>h1 y (by simp[b])) (fun y b z f=>h2 y (by simp[b]) z (by simp[f])) p d hc
  ·rw[lu i];have d:p∈l:=by
    rcases qm.1 hp with rfl|h
    ·exact absurd hc i
    ·exact h
   exact qoo l (fun y b=>h1 y (by simp[b])) (fun y b z f=>h2 y (by simp[b]) z (by simp[f])) p d hc
def Mg(ops:Array Oper)(ms:List Nat)(pos:Nat->Nat)(K:Nat->Bool)(q i:Nat):Prop:=∃ e,e<ops.size/\pos e<q/\K e=true/\hasB (ms.getD e 0) i=true
theorem q0m{A:Nat}{p:Pd}:∀{l:List Pd},p∈p8 A l↔p∈l/\hasB A p.i=false
 | []=>by simp[p8]
 |x::l=>by
  have ih:=q0m (A:=A) (p:=p) (l:=l);show p∈(bif hasB A x.i then p8 A l else x::p8 A l)↔_;cases c:hasB A x.i with
  |true=>
   simp only[uC,qm];rw[ih];constructor
   ·rintro ⟨a,b⟩;exact⟨.inr a,b⟩
   ·rintro ⟨rfl|a,b⟩
    ·rw[c]at b;cases b
    ·exact⟨a,b⟩
  |false=>
   simp only[aj,qm];rw[ih];constructor
   ·rintro (rfl|⟨a,b⟩)
    ·exact⟨.inl rfl,c⟩
    ·exact⟨.inr a,b⟩
   ·rintro ⟨rfl|a,b⟩
    ·exact .inl rfl
    ·exact .inr ⟨a,b⟩
theorem qpo{A:Nat}{p:Wt}:∀{l:List Wt},p∈qB A l↔p∈l/\hasB A p.i=false
 | []=>by simp[qB]
 |x::l=>by
  have ih:=qpo (A:=A) (p:=p) (l:=l);show p∈(bif hasB A x.i then qB A l else x::qB A l)↔_;cases c:hasB A x.i with
  |true=>
   simp only[uC,qm];rw[ih];constructor
   ·rintro ⟨a,b⟩;exact⟨.inr a,b⟩
   ·rintro ⟨rfl|a,b⟩
    ·rw[c]at b;cases b
    ·exact⟨a,b⟩
  |false=>
   simp only[aj,qm];rw[ih];constructor
   ·rintro (rfl|⟨a,b⟩)
    ·exact⟨.inl rfl,c⟩
    ·exact⟨.inr a,b⟩
   ·rintro ⟨rfl|a,b⟩
    ·exact .inl rfl
    ·exact .inr ⟨a,b⟩
theorem Can.pZ(C:Can P d n O base ops ms st pos V B K){i j:Nat}(f:i<ops.size):Mg ops ms pos K (pos i+1) j↔Mg ops ms pos K (pos i) j\/(K i=true/\hasB (ms.getD i 0) j=true):=by
 constructor
 ·rintro ⟨e,c,g,a,b⟩;rcases(C.lt_succ f c).1 g with h|rfl
  ·exact .inl ⟨e,c,h,a,b⟩
  ·exact .inr ⟨a,b⟩
 ·rintro (⟨e,c,g,a,b⟩|⟨a,b⟩)
  ·exact⟨e,c,by omega,a,b⟩
  ·exact⟨i,f,by omega,a,b⟩
theorem Can.pend(C:Can P d n O base ops ms st pos V B K)(I:(st 0).pend=[]):∀ q,q<=ops.size -> (∀p∈(st q).pend,p.i<ops.size/\p.nm=base+p.i/\B p.i=some p.b/\pos p.i<q/\¬ Mg ops ms pos K q p.i) /\ (∀i b,i<ops.size->B i=some b->pos i<q->¬ Mg ops ms pos K q i->⟨i,base+i,b⟩∈(st q).pend)
 |0,_=>⟨(fun p g=>by rw[I]at g;cases g),(fun i b _ _ h=>by omega)⟩
 |q+1,hq=>by
  obtain⟨i,o,Q,g,E⟩:=C.at hq;obtain⟨u,w⟩:=C.pend I q (by omega);subst g;have c:=qew Q;have r:K i=false->B i=none->(st (pos i+1)).pend=(st (pos i)).pend ->
    (∀p∈(st (pos i+1)).pend,p.i<ops.size/\p.nm=base+p.i/\B p.i=some p.b/\pos p.i<pos i+1/\¬ Mg ops ms pos K (pos i+1) p.i) /\
    (∀j b,j<ops.size->B j=some b->pos j<pos i+1->¬ Mg ops ms pos K (pos i+1) j->⟨j,base+j,b⟩∈(st (pos i+1)).pend):=fun L M N=>by
   have s:∀ j,Mg ops ms pos K (pos i+1) j↔Mg ops ms pos K (pos i) j:=fun j=>by rw[C.pZ c,L];simp
   rw[N];refine⟨fun p g=>?_,fun j b t a m l=>?_⟩
   ·obtain⟨x,y,z,J,A⟩:=u p g;exact⟨x,y,z,by omega,fun h=>A ((s _).1 h)⟩
   ·rcases(C.lt_succ c t).1 m with h|rfl
    ·exact w j b t a h fun h=>l ((s _).2 h)
    ·rw[M]at a;cases a
  generalize D:B i=b at E;generalize V i=v at E;generalize F:K i=k at E;cases E with
  |skip _ e=>exact r F D (by rw[e])
  |val _ _ _ _ _ _ e=>exact r F D (by rw[e])
  |new f _ b' _ _ _ _ _ e=>
   have s:∀ j,Mg ops ms pos K (pos i+1) j↔Mg ops ms pos K (pos i) j:=fun j=>by rw[C.pZ c,F];simp
   rw[e];simp only[qm];refine⟨fun p g=>?_,fun j b t a m l=>?_⟩
   ·rcases g with rfl|g
    ·refine⟨c,rfl,D,by simp,fun h=>?_⟩;obtain⟨e,R,T,U,S⟩:=(s i).1 h;obtain⟨W,H⟩:=qph R;have:=C.jZ H S;omega
    ·obtain⟨x,y,z,J,A⟩:=u p g;exact⟨x,y,z,by omega,fun h=>A ((s _).1 h)⟩
   ·rcases(C.lt_succ c t).1 m with h|rfl
    ·exact .inr (w j b t a h fun h=>l ((s _).2 h))
    ·rw[D]at a;cases a;exact .inl rfl
  |lX f _ H' _ _ _ _ e=>
   have s:∀ j,Mg ops ms pos K (pos i+1) j↔Mg ops ms pos K (pos i) j\/hasB (ms.getD i 0) j=true:=fun j=>by rw[C.pZ c,F];simp
   rw[e];simp only[q0m];refine⟨fun p g=>?_,fun j b t a m l=>?_⟩
   ·obtain⟨x,y,z,J,A⟩:=u p g.1;refine⟨x,y,z,by omega,fun h=>?_⟩;rcases(s _).1 h with h|h
    ·exact A h
    ·rw[g.2]at h;cases h
   ·have G:hasB (ms.getD i 0) j=false:=lAL.2 fun h=>l ((s j).2 (.inr h));rcases(C.lt_succ c t).1 m with h|rfl
    ·exact⟨w j b t a h fun h=>l ((s _).2 (.inl h)),G⟩
    ·rw[D]at a;cases a
theorem Can.nC(C:Can P d n O base ops ms st pos V B K){q:Nat}:∀ a,q<=a->a<=ops.size->(∀e,e<ops.size->K e=true->q<=pos e->¬ pos e<a)->(st a).H=(st q).H
 |0,h,_,_=>by
  have:q=0:=by omega
  subst this;rfl
 |a+1,h,hs,hk=>by
  by_cases e:q=a+1
  ·subst e;rfl
  ·obtain⟨i,o,l,p,b⟩:=C.at (q:=a) hs;have c:K i=false:=lAL.2 fun f=>hk i (qew l) f (by omega) (by omega);rw[c]at b;rw[b.bER];exact C.nC a (by omega) (by omega) fun e g j k m=>hk e g j k (by omega)
structure HS(base:Nat)(ops:Array Oper)(ms:List Nat)(st:Nat->CS d)(pos:Nat->Nat)(B:Nat->Option bO)(K:Nat->Bool)(q:Nat)(X:Nat->Prop)(G:Hp):Prop where
 nx:G.nx=(st q).H.nx
 hit:∀ i b,i<ops.size->X i->B i=some b->¬ Mg ops ms pos K q i->G.get (base+i)=b
 miss:∀ c,gZ (c)->(∀i,i<ops.size->X i->B i≠none->¬ Mg ops ms pos K q i->c≠base+i)->G.get c=(st q).H.get c
theorem Can.view(C:Can P d n O base ops ms st pos V B K)(u:(st 0).pend=[])(v:∀ i,i<ops.size->B i≠none->gZ (base+i)){q:Nat}(w:q<=ops.size)(c:Nat->Bool)(y:∀ i,i<ops.size->c i=true->pos i<q):HS base ops ms st pos B K q (fun i=>c i=true) (qwn (fun p=>c p.i) (st q).pend (st q).H):=by
 obtain⟨j,E⟩:=C.pend u q w;have g:∀ p∈(st q).pend,gZ (p.nm):=fun p a=>by obtain⟨k,o,f,_⟩:=j p a;rw[o];exact v _ k (by simp[f])
 refine⟨qwm _ _ _,fun i b r h z A=>?_,fun x h D=>?_⟩
 ·have a:=E i b r z (y i r h) A;have t:=qoo (c:=fun p=>c p.i) (H:=(st q).H) (st q).pend g (fun p a s l e=>by
   obtain⟨k,o,f,_⟩:=j p a;obtain⟨I,J,F,_⟩:=j s l;have:p.i=s.i:=by omega
   rw[this,F]at f;exact(Option.some.inj f).symm) ⟨i,base+i,b⟩ a h
  dsimp only at t;exact t
 ·refine qsq h _ g fun p a m e=>?_;obtain⟨k,o,f,L,G⟩:=j p a;exact D p.i k m (by simp[f]) G (by omega)
theorem q00:∀ k,(∀x y,oQ k x y=true->x=y)/\(∀l m,qH k l m=true->l=m)
 |0=>⟨fun x y h=>by simp[oQ]at h,fun l m h=>by simp[qH]at h⟩
 |k+1=>by
  obtain⟨b,a⟩:=q00 k;refine⟨fun x y h=>?_,fun l m h=>?_⟩
  ·unfold oQ at h;split at h<;>first|rfl|(cases h;done)|skip
   ·simp_all
   ·simp_all
   ·simp_all
   ·simp_all
   ·simp_all
   ·simp_all
   ·simp_all
   ·simp only[qc]at h;rw[qp h.1.1,a _ _ h.1.2,a _ _ h.2]
   ·simp only[qc]at h;rw[qp h.1,b _ _ h.2]
   ·rw[a _ _ h]
   ·rw[a _ _ h]
  ·unfold qH at h;split at h
   ·omega
   ·rfl
   ·rename_i e;cases e;simp only[qc]at h;rw[b _ _ h.1,a _ _ h.2]
   ·cases h
theorem q85{a:List Pd}{H:Hp}:∀{e:List Wt},qi2 a H e=true->∀ x∈e,x.f (eU x.A a H)=.val x.v
 | [],_,x,b=>by cases b
 |y::l,h,x,b=>by
  have d:(zks (y.f (eU y.A a H)) y.v&&qi2 a H l)=true:=h;simp only[qc]at d;rcases qm.1 b with rfl|b
  ·have c:=d.1;unfold zks at c;split at c
   ·rename_i u f;rw[f,(q00 64).1 _ _ c]
   ·cases c
  ·exact q85 d.2 x b
theorem zj0{A i nm:Nat}{b:bO}{a:List Pd}{H:Hp}(h:hasB A i=false):eU A (⟨i,nm,b⟩::a) H=eU A a H:=by rw[qwo,qgn,lu (by simp[h]),qwo]
theorem Can.iW(C:Can P d n O base ops ms st pos V B K)(p:(st 0).iW=[]):∀ q,q<=ops.size->∀ x∈(st q).iW, x.f (eU x.A (st q).pend (st q).H)=.val x.v/\∀ j,hasB x.A j=true->pos j<q
 |0,_,x,a=>by rw[p]at a;cases a
 |q+1,hq,x,a=>by
  obtain⟨i,o,r,s,m⟩:=C.at hq;have ih:=C.iW p q (by omega);subst s;generalize t:B i=b at m;generalize V i=v at m;generalize u:K i=k at m;cases m with
  |skip _ e=>rw[e]at a ⊢;obtain⟨l,g⟩:=ih x a;exact⟨l,fun j c=>by have:=g j c;omega⟩
  |val lk f v h1 h2 h3 e=>
   rw[e]at a ⊢;cases lk with
   |false=>obtain⟨l,g⟩:=ih x a;exact⟨l,fun j c=>by have:=g j c;omega⟩
   |true=>
    simp only[uC,qm]at a;rcases a with rfl|a
    ·exact⟨h3,fun j c=>by have:=C.jZ r c;omega⟩
    ·obtain⟨l,g⟩:=ih x a;exact⟨l,fun j c=>by have:=g j c;omega⟩
  |new f v b' h1 h2 h3 h4 h5 e=>rw[e]at a ⊢;obtain⟨l,g⟩:=ih x a;refine⟨?_,fun j c=>by have:=g j c;omega⟩;rw[zj0];exact l;exact lAL.2 fun h=>xq _ (g i h)
  |lX f v H' h1 h2 h3 h4 e=>rw[e]at a ⊢;obtain⟨l,g⟩:=ih x (qpo.1 a).1;exact⟨q85 h4 x a,fun j c=>by have:=g j c;omega⟩
theorem Can.watch(C:Can P d n O base ops ms st pos V B K){k:Nat}{x:Wt}(l:x.i=k)(p:x∈(st (pos k+1)).iW):∀ q,pos k<q->q<=ops.size -> (∀e,e<ops.size->K e=true->pos k<pos e->pos e<q->hasB (ms.getD e 0) k=false)->x∈(st q).iW
 |0,h,_,_=>by omega
 |q+1,h,hq,hn=>by
  by_cases e:pos k=q
  ·simp_all
  ·have ih:=C.watch l p q (by omega) (by omega) fun e a c g m=>hn e a c g (by omega);obtain⟨i,o,r,s,j⟩:=C.at hq;subst s;generalize u:B i=b at j;generalize V i=v at j;generalize t:K i=kk at j;cases j with
   |skip _ e=>rw[e];exact ih
   |val lk f v a c g e=>
    rw[e];cases lk with
    |false=>exact ih
    |true=>exact uu _ ih
   |new f v b' a c g m h5 e=>rw[e];exact ih
   |lX f v H' a c g m e'=>rw[e'];refine qpo.2 ⟨ih,?_⟩;rw[l];exact hn i (qew r) t (by omega) (by omega)
/- parts of heaps -/
theorem HR.sub{ι:Im}{G f:Hp}{w:World}(h:HR ι G w)(n:f.nx=G.nx)(o:∀ c,gZ (c)->f.get c=G.get c\/f.get c=.dead):HR ι f w:=by
 have d:∀ c,gZ (c)->(f.get c).dH=false->f.get c=G.get c:=fun c j p=>by
  rcases o c j with e|e
  ·exact e
  ·rw[e]at p;cases p
 refine⟨by rw[n];exact h.top,fun b a=>?_,fun b l a g k=>?_,fun b c l m a j g k q r s=>?_,fun b a=>h.fresh b (by rw[<-n];exact a),fun b a i=>?_⟩
 ·rcases o b a with e|e
  ·rw[e];exact h.blk b a
  ·rw[e];trivial
 ·exact h.low b l a (by rw[<-d b a g];exact g) k
 ·have t:=d b a (bO.bC g);have u:=d c j k;exact h.inj b c l m a j (by rw[<-t];exact g) (by rw[<-u];exact k) q r s
 ·rcases o b i with e|e
  ·rw[e];exact h.free b (by rw[<-n];exact a) i
  ·exact e
theorem HR.drawn{ι:Im}{H:Hp}{w:World}(h:HR ι H w)(k:Nat):HR ι H {w with drawn:=k}:=
 ⟨h.top,fun b a=>(h.blk b a).keep fun _ _ _=>rfl,h.low,h.inj,h.fresh,h.free⟩
theorem mkG(H:Hp)(base:Nat)(f:Nat->Option bO):∀ N,(∀i,i<N->f i≠none->gZ (base+i))->∃ G:Hp,G.nx=H.nx/\(∀i b,i<N->f i=some b->G.get (base+i)=b)/\∀ c,gZ (c)->(∀i,i<N->f i≠none->c≠base+i)->G.get c=H.get c
 |0,_=>⟨H,rfl,fun i b h=>by omega,fun c _ _=>rfl⟩
 |N+1,h=>by
  obtain⟨G,l,m,n⟩:=mkG H base f N fun i a=>h i (by omega);cases o:f N with
  |none=>
   refine⟨G,l,fun i b a d=>?_,fun c g j=>n c g fun i a=>j i (by omega)⟩;by_cases e:i=N
   ·simp_all
   ·exact m i b (by omega) d
  |some b=>
   have k:=h N (by omega) (by simp[o]);refine⟨G.put (base+N) b,l,fun i p a d=>?_,fun c g j=>?_⟩
   ·rw[Hp.get_put _ _ _ _ k (h i a (by simp[d]))];by_cases e:i=N
    ·simp_all
    ·rw[lu (by omega)];exact m i p (by omega) d
   ·rw[Hp.get_put _ _ _ _ k g,lu (j N (by omega) (by simp[o]))];exact n c g fun i a=>j i (by omega)
theorem Fr.step{ι0 ι j:Im}{H0 G y:Hp}{w0 w w':World}(f:Fr ι0 ι H0 G w0 w)(le:ι.le j)(nx:G.nx<=y.nx)(z:∀ b,ι b=none->j b≠none->H0.nx<=b)(J:w'.os=w.os)(m:w'.tape=w.tape)(g:w'.output=w.output)(n:w.heap.size<=w'.heap.size)(o:∀ c,c<w.heap.size->(∀b l,gZ (b)->(G.get b).wr=true->ι b=some l->l.blk≠c)->w'.heap[c]? =w.heap[c]?)(A:∀ b l,gZ (b)->(y.get b).wr=true->j b=some l->w.heap.size<=l.blk\/∃ a d,gZ (a)/\(G.get a).wr=true/\ι a=some d/\d.blk=l.blk)(p:∀ b l,gZ (b)->(y.get b).dH=false->j b=some l->w.heap.size<=l.blk\/∃ a d,gZ (a)/\(G.get a).dH=false/\ι a=some d/\d.blk=l.blk):Fr ι0 j H0 y w0 w':=by
 refine⟨Im.le_trans f.le le,rq f.nx nx,fun b h k=>?_,J.trans f.os,m.trans f.tape,g.trans f.output,rq f.size n,fun c F H=>?_,fun b l q r s=>?_,fun b l q r s=>?_⟩
 ·cases I:ι b with
  |none=>exact z b I k
  |some l=>exact f.dom b h (by simp[I])
 ·rw[o c (lq F f.size) ?_,f.keep c F H];intro b l q r s K;rcases f.new b l q r s with e|⟨a,d,e,t,u,v⟩
  ·omega
  ·exact H a d e t u (v.trans K)
 ·rcases A b l q r s with e|⟨a,d,e,t,u,v⟩
  ·exact .inl (rq f.size e)
  ·rcases f.new a d e t u with x|⟨B,C,x,D,E,i⟩
   ·omega
   ·exact .inr ⟨B,C,x,D,E,i.trans v⟩
 ·rcases p b l q r s with e|⟨a,d,e,t,u,v⟩
  ·exact .inl (rq f.size e)
  ·rcases f.live a d e t u with x|⟨B,C,x,D,E,i⟩
   ·omega
   ·exact .inr ⟨B,C,x,D,E,i.trans v⟩
theorem Fr.congr{ι h:Im}{H G d:Hp}{w w':World}(f:Fr ι h H G w w')(j:d.nx=G.nx)(i:∀ c,gZ (c)->d.get c=G.get c):Fr ι h H d w w':=
 ⟨f.le,by rw[j];exact f.nx,f.dom,f.os,f.tape,f.output,f.size,f.keep,fun b l a e g=>f.new b l a (by rw[<-i b a];exact e) g,fun b l a e g=>f.live b l a (by rw[<-i b a];exact e) g⟩
theorem q53{F:Fence}{m:Nat}{o:Oper}{a j:Act}{next n:Act->World->Prop}{Q:Exit->Act->World->Prop}(d:∀ V w',next (j.put o.dst V) w'->n (a.put o.dst V) w')(hd:∀ i w',next i w'->i.defers=j.defers){r:Result Next}(h:o.uponIn F m P j next (fun _ _ _=>False) r):o.uponIn F m P a n Q r:=by
 cases r with
 |ok x w'=>
  cases x<;>simp only[Oper.uponIn]at h ⊢
  case value v=>exact d _ _ h
  case skip=>exact d _ _ h
  case defer dd=>have:=hd _ _ h;rw[put_defers]at this;simp_all
  case enter f args=>
   refine⟨h.1,CallsIn.mono h.2 fun e g b=>?_⟩;cases e with
   |returned v=>exact d _ _ b
   |panicked c=>exact b.elim
   |outgrown=>exact(by obtain⟨_,_,k⟩:=(b:LetsOut _);exact k.elim)
  case row row args=>exact⟨h.1,RowsIn.mono h.2 fun v g b=>d _ _ b⟩
  case round l f tmps assign body=>
   refine⟨h.1,RoundIn.mono h.2 fun e g b=>?_⟩;cases e with
   |returned v=>exact d _ _ b
   |panicked c=>exact b.elim
   |outgrown=>exact(by obtain⟨_,_,k⟩:=(b:LetsOut _);exact k.elim)
 |halt x w'=>cases x<;>simp only[Oper.uponIn]at h ⊢
structure aD9(d n base up:Nat)(ops:Array Oper)(ms:List Nat)(st:Nat->CS d)(pos:Nat->Nat)(V:Nat->AV)(B:Nat->Option bO)(K:Nat->Bool)(ι0:Im)(H0:Hp)(w0:World)(ds:List Deferred)
  (S:Nat->Prop) (a:Act) (w:World) (ι:Im) (L:TT AV d) (G:Hp) (q:Nat):Prop where
 shut:Shut ops S
 le:q<=ops.size
 lX:∀ e,e<ops.size->K e=true->(S e↔pos e<q)
 lr:LR ι d n L a.tmps
 tv:∀ t,t<8 ^ d->(dJ d t).f L=tv ops n V (st 0).L S ops.size t
 hr:HR ι G w
 hs:HS base ops ms st pos B K q S G
 dead:∀ i,i<ops.size->B i≠none->¬ Mg ops ms pos K q i->(st q).H.get (base+i)=.dead
 free:∀ i,i<ops.size->B i≠none->¬ S i->ι (base+i)=none
 some:∀ i,i<ops.size->B i≠none->S i->∃ l,ι (base+i)=some l
 up:base+up<=G.nx
 fr:Fr ι0 ι H0 G w0 w
 ds:a.defers=ds
theorem z90{ι f:Im}{L k:TT AV d}{a i:Act}(c:ι.le f)(h:LR ι d n L a.tmps){v:AV}{X:Value}{b:Option Tmp}(l:LR f d n ((dS d n b).f k v) (i.put b X).tmps)(m:i.tmps.size=n):LR f d n ((dS d n b).f L v) (a.put b X).tmps:=by
 cases b with
 |none=>exact h.mono c
 |some t=>
  by_cases e:t<n
  ·refine qh9 (h.mono c) _ ?_;have j:=l.get t e;rw[qjc h.fit (lq e h.fit),kz ⟨rfl,e⟩]at j;simp only[Act.put]at j;simp_all
  ·have g:Nat.blt t n=false:=by
    cases g:Nat.blt t n with
    |false=>rfl
    |true=>exact absurd (uE g) e
   rw[q96 g];simp only[Act.put];rw[Array.setIfInBounds_eq_of_size_le (by rw[h.size];exact lEB e)];exact h.mono c
theorem z07{L:TT AV d}{S:Nat->Prop}(C:Can P d n O base ops ms st pos V B K)(c:n<=8 ^ d)(e:Shut ops S)(f:∀ t,t<8 ^ d->(dJ d t).f L=tv ops n V (st 0).L S ops.size t){i:Nat}{o:Oper}(g:ops[i]? =some o)(a:¬ S i){v:AV}(h:V i=v):∀t,t<8 ^ d->(dJ d t).f ((dS d n o.dst).f L v)=tv ops n V (st 0).L (fun j=>S j\/j=i) ops.size t:=fun t b=>by rw[qjc c b,zxc C.edg e g a t,f t b,h]
theorem step_ok(hC:qer P O){F:Fence}(hF:Fence.dM F){m up:Nat}{ι0:Im}{H0:Hp}{w0:World}{ds:List Deferred}{Q:Exit->Act->World->Prop}(C:Can P d n O base ops ms st pos V B K)(h0:(st 0).pend=[])(h0w:(st 0).iW=[])(hb:∀ i,i<ops.size->B i≠none->base+i<base+up/\gZ (base+i))(hH0:H0.nx=base){S:Nat->Prop}{a:Act}{w:World}{ι:Im}{L:TT AV d}{G:Hp}{q:Nat}(I:aD9 d n base up ops ms st pos V B K ι0 H0 w0 ds S a w ι L G q){i:Nat}{o:Oper}(ho:ops[i]? =some o)(N:¬ S i)(hr:∀ j∈vO o,S j){K':Act->World->Prop}(hK:∀ a' w' ι' L' G' q',aD9 d n base up ops ms st pos V B K ι0 H0 w0 ds (fun j=>S j\/j=i) a' w' ι' L' G' q'->K' a' w'):wpOpIn F m P ops Q i K' a w:=by
 have hn:=I.lr.fit;have T:=qew ho;have hpj:=C.proj hn I.shut I.tv ho N hr;have aCh:∀ k,hasB (ms.getD i 0) k=true->S k:=fun k=>C.edg.vC I.shut i o k ho hr;have hlp:=I.lr.proj (kR ops o);have aCO:Shut ops (fun j=>S j\/j=i):=fun j oj hoj hj k hk=>by
  rcases hj with hj|rfl
  ·exact .inl (I.shut j oj hoj hj k hk)
  ·rw[ho]at hoj;cases hoj;exact .inl (hr k hk)
 have R:∀ i,i<ops.size->B i≠none->gZ (base+i):=fun i hi h=>(hb i hi h).2;have hnm:¬ Mg ops ms pos K q i:=fun⟨e,u,y,e3,e4⟩=>by obtain⟨oe,D⟩:=qph u;exact N (C.edg.qJ I.shut D ((I.lX e u e3).2 y) e4)
 -- a part of the heap
 have part:∀{Hv:Hp} {X:Nat->Prop},HS base ops ms st pos B K q X Hv->(∀j,j<ops.size->X j->S j)->Hv.nx=G.nx/\∀ c,gZ (c)->Hv.get c=G.get c\/Hv.get c=.dead:=fun{Hv X} hv hX=>by
  refine⟨hv.nx.trans I.hs.nx.symm,fun c s=>?_⟩;by_cases t:∃ j,j<ops.size/\X j/\B j≠none/\¬ Mg ops ms pos K q j/\c=base+j
  ·obtain⟨j,p,g,r,H,rfl⟩:=t;obtain⟨b,hbj⟩:=lAJ.1 r;left;rw[hv.hit j b p g hbj H,I.hs.hit j b p (hX j p g) hbj H]
  ·have u:=hv.miss c s fun j p g r H e=>t ⟨j,p,g,r,H,e⟩;by_cases x:∃ j,j<ops.size/\S j/\B j≠none/\¬ Mg ops ms pos K q j/\c=base+j
   ·obtain⟨j,p,g,r,H,rfl⟩:=x;right;rw[u];exact I.dead j p r H
   ·left;rw[u,I.hs.miss c s fun j p g r H e=>x ⟨j,p,g,r,H,e⟩]
 have U:=C.step i o ho;have hext:K i=false->∀ e,e<ops.size->K e=true->((S e\/e=i)↔pos e<q):=fun hKi e u y=>by
  constructor
  ·rintro (h|rfl)
   ·exact(I.lX e u y).1 h
   ·rw[hKi]at y;cases y
  ·exact fun h=>.inl ((I.lX e u y).2 h)
 have hhs:B i=none->HS base ops ms st pos B K q (fun j=>S j\/j=i) G:=fun hB=>by
  refine⟨I.hs.nx,fun j b p g r H=>?_,fun c s Z=>I.hs.miss c s fun j p g=>Z j p (.inl g)⟩;rcases g with g|rfl
  ·exact I.hs.hit j b p g r H
  ·rw[hB]at r;cases r
 have hsm:B i=none->∀ j,j<ops.size->B j≠none->(S j\/j=i)->∃ l,ι (base+j)=some l:=fun hB j p g r=>by
  rcases r with r|rfl
  ·exact I.some j p g r
  ·exact absurd hB g
 -- nothing but a value
 have aFt:∀{v:AV} {X:Value},V i=v->aL ι v X->B i=none->K i=false->K' (a.put o.dst X) w:=fun{v X} hv hX hB hKi=>
  hK _ _ ι ((dS d n o.dst).f L v) G q
   {shut:=aCO,le:=I.le,
    lX:=hext hKi,
    lr:=qh9 I.lr _ hX,tv:=z07 C hn I.shut I.tv ho N hv,hr:=I.hr,
    hs:=hhs hB,
    dead:=I.dead,free:=fun j p g r=>I.free j p g fun h=>r (.inl h),
    some:=hsm hB,
    up:=I.up,fr:=I.fr,ds:=by rw[put_defers];exact I.ds}
 unfold wpOpIn;simp only[ho];have W:∀ b,(sV d n ops o).f ((mQ d n (kR ops o)).f (st (pos i)).L)=Option.some b->Region.wanted o (yielded ops a.tmps)=b:=fun b hw=>by rw[<-hpj]at hw;have:=qi3 (a:={a with tmps:=qia (kR ops o) a.tmps}) (ops:=ops) (o:=o) hlp hw;rw[qyx]at this;exact this
 generalize hV:V i=v at U;generalize hB:B i=bo at U;generalize hKi:K i=ki at U;cases U with
 |skip hw _=>rw[W _ hw,lu (by simp)];exact⟨fun f _=>hF.fn f,aFt hV (by simp only[aL];rfl) hB hKi⟩
 |val lk f v hf hw hval hst=>
  rw[W _ hw,kz rfl];have hnd:∀ c,o.op≠ .defer c:=fun c s=>by unfold gW at hf;rw[s]at hf;cases hf
  have hsel:∀ cs b,o.op≠ .select cs b:=fun cs b s=>by unfold gW at hf;rw[s]at hf;cases hf
  obtain⟨Hv,hHv,hfv⟩:∃ Hv,HR ι Hv w/\f (base+i) ((mQ d n (kR ops o)).f L) Hv=.val v:=by
   cases lk with
   |false=>exact⟨G,I.hr,by rw[hpj,qs6 hf _ _ _ (eU (ms.getD i 0) (st (pos i)).pend (st (pos i)).H)];exact hval⟩
   |true=>
    have hlk:aEt (gW P d n o)=true:=by rw[hf];rfl
    by_cases hq:q<=pos i
    ·have hp:=C.plt i T;have hno:∀ e,e<ops.size->K e=true->q<=pos e->¬ pos e<pos i:=fun e u y e3 e4=>by
      obtain⟨oe,D⟩:=qph u;have hie:isE (gW P d n oe)=true:=by have hs:=C.step e oe D;rw[y]at hs;generalize V e=v1 at hs;generalize B e=b1 at hs;cases hs;rename_i h _ _ _ _;rw[h];rfl
      have:=(I.lX e u y).1 (aCh e (C.lX i o e oe ho D hie (.inr hlk) e4));omega
     have hH:=C.nC (q:=q) (pos i) hq (by omega) hno;have hM:∀ j,Mg ops ms pos K (pos i) j↔Mg ops ms pos K q j:=fun j=>
      ⟨fun⟨e,u,y,e3,e4⟩=>⟨e,u,Classical.byContradiction fun h=>hno e u e3 (by omega) y,e3,e4⟩,fun⟨e,u,y,e3,e4⟩=>⟨e,u,by omega,e3,e4⟩⟩
     have hv:=C.view h0 R (q:=pos i) (by omega) (fun j=>hasB (ms.getD i 0) j) (fun j _ hj=>C.jZ ho hj);have hv':HS base ops ms st pos B K q (fun j=>hasB (ms.getD i 0) j=true) (eU (ms.getD i 0) (st (pos i)).pend (st (pos i)).H):=
      ⟨hv.nx.trans (by rw[hH]),fun j b p g r H=>hv.hit j b p g r fun h=>H ((hM j).1 h),
       fun c s Z=>(hv.miss c s fun j p g r H=>Z j p g r fun h=>H ((hM j).2 h)).trans (by rw[hH])⟩
     obtain⟨p1,p2⟩:=part hv' fun j _ hj=>aCh j hj;exact⟨_,I.hr.sub p1 p2,by rw[hpj];exact hval⟩
    ·have hq:pos i<q:=by omega
     have hmem:(⟨i,ms.getD i 0,f (base+i) ((mQ d n (kR ops o)).f (st (pos i)).L),v⟩:Wt)∈(st (pos i+1)).iW:=by rw[hst];simp
     have hw:=C.watch (k:=i) rfl hmem q hq I.le fun e u y e3 e4=>lAL.2 fun h=>by obtain⟨oe,D⟩:=qph u;exact N (C.edg.qJ I.shut D ((I.lX e u y).2 e4) h)
     have hw':=(C.iW h0w q I.le _ hw).1;have hv:=C.view h0 R (q:=q) I.le (fun j=>hasB (ms.getD i 0) j) (fun j _ hj=>lEK (C.jZ ho hj) hq);obtain⟨p1,p2⟩:=part hv fun j _ hj=>aCh j hj;exact⟨_,I.hr.sub p1 p2,by rw[hpj];exact hw'⟩
  have hQ:=z16 (nm:=base+i) (a:={a with tmps:=qia (kR ops o) a.tmps}) hf hHv hlp;rw[hfv]at hQ;obtain⟨X,t,x⟩:=hQ;rw[qp3 a o hsel]at t;refine⟨fun f _=>hF.fn f,?_⟩;rw[qdd hnd,t];exact aFt hV x hB hKi
 |new f v b hf hal hwr hw hval hst=>
  rw[W _ hw,kz rfl];have hnd:∀ c,o.op≠ .defer c:=fun c s=>by unfold gW at hf;rw[s]at hf;cases hf
  have hsel:∀ cs b,o.op≠ .select cs b:=fun cs b s=>by unfold gW at hf;rw[s]at hf;cases hf
  have hfv:f (base+i) ((mQ d n (kR ops o)).f L) G=.new v b:=by rw[hpj,qs6 hf _ _ _ (eU (ms.getD i 0) (st (pos i)).pend (st (pos i)).H)];exact hval
  have hQ:=z16 (nm:=base+i) (a:={a with tmps:=qia (kR ops o) a.tmps}) hf I.hr hlp;rw[hfv]at hQ;obtain⟨X,w',l,t,x,h3⟩:=hQ;rw[qp3 a o hsel]at t;refine⟨fun f _=>hF.fn f,?_⟩;rw[qdd hnd,t];have hBi:B i≠none:=by rw[hB];simp
  obtain⟨hb1,hb2⟩:=hb i T hBi;have Y:=I.free i T hBi N;have hup:=I.up;have aB1:G.get (base+i)=.dead:=by
   rw[I.hs.miss (base+i) hb2 fun j p g r H e=>N (by
    have:i=j:=by omega
    rw[this];exact g)]
   exact I.dead i T hBi hnm
  obtain⟨r1,r2⟩:=h3 (ι.set (base+i) l) (Im.iT l Y) (Im.aZ ..);have hsz:w.heap.size<=w'.heap.size:=by rw[x.size];omega
  have hr':HR (ι.set (base+i) l) (G.put (base+i) b) w':=I.hr.add (nx':=G.nx) hb2 Y aB1 (lh _) I.hr.top (by omega) l b hsz (fun c mm s t z=>x.keep _ (I.hr.low c mm s t z)) (fun _=>by rw[x.blk,x.size];omega)
   (fun c mm s t z=>by have:=I.hr.low c mm s t z;have:=x.blk;omega) r2
  refine hK _ _ (ι.set (base+i) l) ((dS d n o.dst).f L v) (G.put (base+i) b) q
   {shut:=aCO,le:=I.le,
    lX:=hext hKi,
    lr:=qh9 (I.lr.mono (Im.iT l Y)) _ r1,tv:=z07 C hn I.shut I.tv ho N hV,hr:=hr',
    hs:=⟨I.hs.nx,fun j b' p g r H=>?_,fun c s Z=>?_⟩,
    dead:=I.dead,free:=fun j p g r=>?_,
    some:=fun j p g r=>?_,
    up:=I.up,fr:= ?_,ds:=by rw[put_defers];exact I.ds}
  ·rw[Hp.get_put _ _ _ _ hb2 (R j p (by simp[r]))];by_cases e:j=i
   ·subst e;rw[kz rfl];rw[hB]at r;exact Option.some.inj r
   ·rw[lu (by omega)];rcases g with g|g
    ·exact I.hs.hit j b' p g r H
    ·exact absurd g e
  ·have hne:c≠base+i:=Z i T (.inr rfl) hBi hnm;rw[Hp.get_put _ _ _ _ hb2 s,lu hne];exact I.hs.miss c s fun j p g=>Z j p (.inl g)
  ·have hne:j≠i:=fun e=>r (.inr e);rw[Im.dU _ _ (by omega)];exact I.free j p g fun h=>r (.inl h)
  ·by_cases e:j=i
   ·subst e;exact⟨l,Im.aZ ..⟩
   ·rw[Im.dU _ _ (by omega)];rcases r with r|r
    ·exact I.some j p g r
    ·exact absurd r e
  ·refine I.fr.step (Im.iT l Y) (lh _) (fun c t z=>?_) x.os x.tape x.output hsz (fun c s _=>x.keep c s) (fun c mm s h1' z=>?_) (fun c mm s h1' z=>?_)
   ·by_cases e:c=base+i
    ·omega
    ·rw[Im.dU _ _ e]at z;exact absurd t z
   ·by_cases e:c=base+i
    ·subst e;rw[Im.aZ]at z;cases z;exact .inl (by rw[x.blk];omega)
    ·rw[Hp.get_put _ _ _ _ hb2 s,lu e]at h1';rw[Im.dU _ _ e]at z;exact .inr ⟨c,mm,s,h1',z,rfl⟩
   ·by_cases e:c=base+i
    ·subst e;rw[Im.aZ]at z;cases z;exact .inl (by rw[x.blk];omega)
    ·rw[Hp.get_put _ _ _ _ hb2 s,lu e]at h1';rw[Im.dU _ _ e]at z;exact .inr ⟨c,mm,s,h1',z,rfl⟩
 |lX f v H' hf hw hval hwt hst=>
  rw[W _ hw,kz rfl];have hie:isE (gW P d n o)=true:=by rw[hf];rfl
  have hsel:∀ cs b,o.op≠ .select cs b:=fun cs b s=>by unfold gW at hf;rw[s]at hf;cases hf;cases hval
  have hnd:∀ c,o.op≠ .defer c:=fun c s=>by unfold gW at hf;rw[s]at hf;cases hf;cases hval
  have hp:=C.plt i T;have aFh:∀{e oe},ops[e]? =Option.some oe->K e=true->isE (gW P d n oe)=true:=fun{e oe} D y=>by have hs:=C.step e oe D;rw[y]at hs;generalize V e=v1 at hs;generalize B e=b1 at hs;cases hs;rename_i h _ _ _ _;rw[h];rfl
  -- the same effects
  have E:∀ e,e<ops.size->K e=true->(pos e<pos i↔pos e<q):=fun e u y=>by
   obtain⟨oe,D⟩:=qph u;constructor
   ·intro h;exact(I.lX e u y).1 (aCh e (C.lX i o e oe ho D (aFh D y) (.inl hie) h))
   ·intro h;have hSe:=(I.lX e u y).2 h;rcases dm (pos e) (pos i)with t|t|t
    ·exact t
    ·have:=C.inj e i u T t;subst this;exact absurd hSe N
    ·exact absurd (C.edg.qJ I.shut D hSe (C.lX e oe i o D ho hie (.inl (aFh D y)) t)) N
  have hH:(st (pos i)).H=(st q).H:=by
   rcases Nat.le_total q (pos i)with h|h
   ·exact C.nC (pos i) h (by omega) fun e u y e3 e4=>by have:=(E e u y).1 e4;omega
   ·exact(C.nC q h I.le fun e u y e3 e4=>by have:=(E e u y).2 e4;omega).symm
  have hM:∀ j,Mg ops ms pos K (pos i) j↔Mg ops ms pos K q j:=fun j=>
   ⟨fun⟨e,u,y,e3,e4⟩=>⟨e,u,(E e u e3).1 y,e3,e4⟩,fun⟨e,u,y,e3,e4⟩=>⟨e,u,(E e u e3).2 y,e3,e4⟩⟩
  have hv:=C.view h0 R (q:=pos i) (by omega) (fun j=>hasB (ms.getD i 0) j) (fun j _ hj=>C.jZ ho hj);generalize hHv:eU (ms.getD i 0) (st (pos i)).pend (st (pos i)).H=Hv at hval;rw[<-qwo,hHv]at hv;have hv':HS base ops ms st pos B K q (fun j=>hasB (ms.getD i 0) j=true) Hv:=
   ⟨hv.nx.trans (by rw[hH]),fun j b p g r H=>hv.hit j b p g r fun h=>H ((hM j).1 h),
    fun c s Z=>(hv.miss c s fun j p g r H=>Z j p g r fun h=>H ((hM j).2 h)).trans (by rw[hH])⟩
  obtain⟨p1,p2⟩:=part hv' fun j _ hj=>aCh j hj;have hHR:=I.hr.sub p1 p2
  -- what is not in the part is dead there
  have hout:∀ j,j<ops.size->B j≠none->¬ Mg ops ms pos K q j->hasB (ms.getD i 0) j=false->Hv.get (base+j)=.dead:=fun j p g r H=>by
   rw[hv'.miss (base+j) (R j p g) fun k k1 k2 k3 k4 e=>by
    have:j=k:=by omega
    subst this;rw[H]at k2;cases k2]
   exact I.dead j p g r
  have J:∀ c,gZ (c)->(Hv.get c).dH=false->Hv.get c=G.get c:=fun c s hl=>by
   rcases p2 c s with e|e
   ·exact e
   ·rw[e]at hl;cases hl
  have hq':(st (pos i+1)).H=H':=by rw[hst]
  have hM':∀ j,Mg ops ms pos K (pos i+1) j↔Mg ops ms pos K q j\/hasB (ms.getD i 0) j=true:=fun j=>by rw[C.pZ T,hM,hKi];simp
  rw[<-hpj]at hval
  let next:Act->World->Prop:=fun a'' w'=>∃ ι',LR ι' d n ((dS d n o.dst).f ((mQ d n (kR ops o)).f L) v) a''.tmps/\HR ι' H' w'/\Fr ι ι' Hv H' w w'/\a''.defers=a.defers
  have hwp:=z6w (m:=m) (F:=F) (Q:=fun _ _ _=>False) (next:=next) (a:={a with tmps:=qia (kR ops o) a.tmps}) hf hC hF hHR hlp hval
   (fun X w' ι' r1 r2 r3=>⟨ι',qh9 (hlp.mono r3.le) _ r1,r2,r3,by rw[put_defers]⟩)
  refine⟨fun f _=>hF.fn f,?_⟩;have aLn:=hwp.2;rw[qdd hnd,qp3 a o hsel]at aLn;rw[qdd hnd];refine q53 (fun X w' Z=>?_) (fun a'' w' Z=>Z.choose_spec.2.2.2) aLn;obtain⟨ι',x1,x2,M,_⟩:=Z;have hlr:=z90 (a:=a) M.le I.lr x1 (by simp only[qgx];exact I.lr.size);have hup:=I.up
  -- the heap behind
  let pb:Nat->Prop:=fun j=>S j/\¬ Mg ops ms pos K q j/\hasB (ms.getD i 0) j=false
  obtain⟨G',g1,g2,g3⟩:=mkG H' base (fun j=>open Classical in if pb j then B j else none) ops.size (fun j p g=>R j p (by intro e;simp only[e]at g;split at g<;>exact g rfl));have gin:∀ j b,j<ops.size->pb j->B j=Option.some b->G'.get (base+j)=b:=fun j b p g r=>g2 j b p (by rw[kz g];exact r);have aHP:∀ c,gZ (c)->(∀j,j<ops.size->pb j->B j≠none->c≠base+j)->G'.get c=H'.get c:=fun c s Z=>g3 c s fun j p g=>by
   by_cases e:pb j
   ·rw[kz e]at g;exact Z j p e g
   ·rw[lu e]at g;exact absurd rfl g
  -- facts on the blocks that are A
  have A:∀ j,j<ops.size->pb j->B j≠none->∃ b l,B j=Option.some b/\b.wr=true/\G.get (base+j)=b/\G'.get (base+j)=b/\ι (base+j)=Option.some l/\ι' (base+j)=Option.some l/\l.blk<w.heap.size/\Hv.get (base+j)=.dead:=fun j p g r=>by
   obtain⟨b,hbj⟩:=lAJ.1 r;obtain⟨l,hl⟩:=I.some j p r g.1;have hGj:=I.hs.hit j b p g.1 hbj g.2.1;have aNu:b.wr=true:=by obtain⟨oj,hoj⟩:=qph p;have hs:=C.step j oj hoj;rw[hbj]at hs;generalize V j=v1 at hs;generalize K j=k1 at hs;cases hs;assumption
   exact⟨b,l,hbj,aNu,hGj,gin j b p g hbj,hl,M.le _ _ hl,I.hr.low _ l (R j p r) (by rw[hGj];exact bO.bC aNu) hl,hout j p r g.2.1 g.2.2⟩
  have split:∀ c,gZ (c)->(∃j,j<ops.size/\pb j/\B j≠none/\c=base+j)\/G'.get c=H'.get c:=fun c s=>by
   by_cases e:∃ j,j<ops.size/\pb j/\B j≠none/\c=base+j
   ·exact .inl e
   ·exact .inr (aHP c s fun j p g r h=>e ⟨j,p,g,r,h⟩)
  -- a live block of H' does not lie on a A one
  have zH:∀ j,j<ops.size->pb j->B j≠none->∀ c l l',gZ (c)->(H'.get c).dH=false->ι (base+j)=Option.some l->ι' c=Option.some l'->l.blk≠l'.blk:=fun j p g r c l l' s hl t x e=>by
   obtain⟨b,l1,k1,k2,k3,k4,k5,k6,k7,k8⟩:=A j p g r;rw[k5]at t;cases t;rcases M.live c l' s hl x with h5|⟨b0,l0,c1,c2,c3,c4⟩
   ·omega
   ·have hb0:=J b0 c1 c2;have:=I.hr.inj (base+j) b0 l l0 (R j p r) c1 (by rw[k3];exact k2) (by rw[<-hb0];exact c2) k5 c3 (e.trans c4.symm);subst this;rw[k8]at c2;cases c2
  have aHx:∀ j,j<ops.size->B j≠none->¬ Mg ops ms pos K (pos i+1) j->H'.get (base+j)=.dead:=fun j p g r=>by
   have bC3:¬ Mg ops ms pos K q j:=fun h=>r ((hM' j).2 (.inl h));have hna:hasB (ms.getD i 0) j=false:=lAL.2 fun h=>r ((hM' j).2 (.inr h));refine Classical.byContradiction fun hnd=>?_;have hlv:(H'.get (base+j)).dH=false:=by cases hh:H'.get (base+j)<;>first|rfl|exact absurd hh hnd
   obtain⟨l',hl'⟩:=(x2.blk _ (R j p g)).some hlv;by_cases hSj:S j
   ·obtain⟨l,hl⟩:=I.some j p g hSj;have e:=M.le _ _ hl;rw[hl']at e;exact zH j p ⟨hSj,bC3,hna⟩ g (base+j) l l' (R j p g) hlv hl hl' (by cases e;rfl)
   ·have t:=I.free j p g hSj;have x:=M.dom (base+j) t (by rw[hl'];simp);have h3:=(hb j p g).1;omega
  have aWc:HR ι' G' w':=by
   refine⟨by rw[g1];exact x2.top,fun c s=>?_,fun c l s t x=>?_,fun c c' l l' s hc' t x h3 h4 h5=>?_,fun c s=>x2.fresh c (by rw[<-g1];exact s),fun c s hc'=>?_⟩
   ·rcases split c s with⟨j,p,g,r,rfl⟩|e
    ·obtain⟨b,l,k1,k2,k3,k4,k5,k6,k7,k8⟩:=A j p g r;rw[k4];have hBR:=I.hr.blk _ s;rw[k3]at hBR;refine(hBR.keep fun l2 _ hl2=>?_).mono M.le;rw[k5]at hl2;cases hl2;refine M.keep l.blk k7 fun b0 l0 c1 c2 c3 e=>?_;have hb0:=J b0 c1 (bO.bC c2);have:=I.hr.inj b0 (base+j) l0 l c1 s (by rw[<-hb0];exact c2) (by rw[k3];exact bO.bC k2) c3 k5 e;subst this;rw[k8]at c2;cases c2
    ·rw[e];exact x2.blk c s
   ·rcases split c s with⟨j,p,g,r,rfl⟩|e
    ·obtain⟨b,l1,k1,k2,k3,k4,k5,k6,k7,k8⟩:=A j p g r;rw[k6]at x;cases x;exact lq k7 M.size
    ·rw[e]at t;exact x2.low c l s t x
   ·rcases split c s with⟨j,p,g,r,rfl⟩|e
    ·obtain⟨b,l1,k1,k2,k3,k4,k5,k6,k7,k8⟩:=A j p g r;rw[k6]at h3;cases h3;rcases split c' hc' with⟨j',t1,t2,t3,rfl⟩|e'
     ·obtain⟨b',l2,m1,m2,m3,m4,m5,m6,m7,m8⟩:=A j' t1 t2 t3;rw[m6]at h4;cases h4;exact I.hr.inj _ _ l l' s hc' (by rw[k3];exact k2) (by rw[m3];exact bO.bC m2) k5 m5 h5
     ·rw[e']at x;exact absurd h5 (zH j p g r c' l l' hc' x k5 h4)
    ·rw[e]at t;rcases split c' hc' with⟨j',t1,t2,t3,rfl⟩|e'
     ·obtain⟨b',l2,m1,m2,m3,m4,m5,m6,m7,m8⟩:=A j' t1 t2 t3;rw[m6]at h4;cases h4;exact absurd h5.symm (zH j' t1 t2 t3 c l' l s (bO.bC t) m5 h3)
     ·rw[e']at x;exact x2.inj c c' l l' s hc' t x h3 h4 h5
   ·rw[g1]at s;have hnx:=M.nx;rw[aHP c hc' fun j p g r e=>by have:=(hb j p r).1;omega];exact x2.free c s hc'
  refine hK _ _ ι' ((dS d n o.dst).f L v) G' (pos i+1)
   {shut:=aCO,le:=hp,
    lX:=fun e u y=>?_,
    lr:=hlr,tv:=z07 C hn I.shut I.tv ho N hV,hr:=aWc,
    hs:=⟨by rw[g1,hq'],fun j b p g r H=>?_,fun c s Z=>?_⟩,
    dead:=fun j p g r=>by rw[hq'];exact aHx j p g r,
    free:=fun j p g r=>?_,
    some:=fun j p g r=>?_,
    up:=by rw[g1];have:=M.nx;omega,fr:= ?_,ds:=by rw[put_defers];exact I.ds}
  ·rw[C.lt_succ T u];constructor
   ·rintro (h|h)
    ·exact .inl ((E e u y).2 ((I.lX e u y).1 h))
    ·exact .inr h
   ·rintro (h|h)
    ·exact .inl ((I.lX e u y).2 ((E e u y).1 h))
    ·exact .inr h
  ·rcases g with g|rfl
   ·exact gin j b p ⟨g,fun h=>H ((hM' j).2 (.inl h)),lAL.2 fun h=>H ((hM' j).2 (.inr h))⟩ r
   ·rw[hB]at r;cases r
  ·rw[hq'];exact aHP c s fun j p g r=>Z j p (.inl g.1) r fun h=>by
    rcases(hM' j).1 h with h|h
    ·exact g.2.1 h
    ·rw[g.2.2]at h;cases h
  ·have t:=I.free j p g fun h=>r (.inl h);refine Classical.byContradiction fun x=>?_;have h3:=M.dom (base+j) t x;have h4:=(hb j p g).1;omega
  ·rcases r with r|rfl
   ·obtain⟨l,hl⟩:=I.some j p g r;exact⟨l,M.le _ _ hl⟩
   ·exact absurd hB g
  ·have hnx:=M.nx;refine I.fr.step M.le (by rw[g1,<-p1];exact hnx) (fun c t x=>?_) M.os M.tape M.output M.size (fun c s Z=>M.keep c s fun b l b1 b2 b3=>Z b l b1 (by rw[<-J b b1 (bO.bC b2)];exact b2) b3) (fun c l s t x=>?_) (fun c l s t x=>?_)
   ·have:=M.dom c t x;omega
   ·rcases split c s with⟨j,p,g,r,rfl⟩|e
    ·obtain⟨b,l1,k1,k2,k3,k4,k5,k6,k7,k8⟩:=A j p g r;rw[k6]at x;cases x;exact .inr ⟨base+j,l,s,by rw[k3];exact k2,k5,rfl⟩
    ·rw[e]at t;rcases M.new c l s t x with h3|⟨b0,l0,c1,c2,c3,c4⟩
     ·exact .inl h3
     ·exact .inr ⟨b0,l0,c1,by rw[<-J b0 c1 (bO.bC c2)];exact c2,c3,c4⟩
   ·rcases split c s with⟨j,p,g,r,rfl⟩|e
    ·obtain⟨b,l1,k1,k2,k3,k4,k5,k6,k7,k8⟩:=A j p g r;rw[k6]at x;cases x;exact .inr ⟨base+j,l,s,by rw[k3];exact bO.bC k2,k5,rfl⟩
    ·rw[e]at t;rcases M.live c l s t x with h3|⟨b0,l0,c1,c2,c3,c4⟩
     ·exact .inl h3
     ·exact .inr ⟨b0,l0,c1,by rw[<-J b0 c1 c2];exact c2,c3,c4⟩
def open_(listed:Array Bool)(N:Nat):Nat:=(List.range N).countP fun j=> !listed.getD j false
theorem qe7(a:Array Bool)(N:Nat):open_ a (N+1)=open_ a N+if a.getD N false=true then 0 else 1:=by unfold open_;rw[oz,List.countP_append];congr 1;cases h:a.getD N false<;>simp only[List.countP_cons,List.countP_nil,h]<;>rfl
theorem qce(a:Array Bool)(i j:Nat)(b:i<a.size):(a.setIfInBounds i true).getD j false=(a.getD j false||decide (j=i)):=by
 by_cases e:i=j
 ·simp_all
 ·have:j≠i:=fun h=>e h.symm;simp[e,this]
theorem zac(a:Array Bool)(i:Nat)(b:i<a.size)(c:a.getD i false=false):∀ N,i<N->open_ (a.setIfInBounds i true) N+1=open_ a N
 |0,h=>by omega
 |N+1,h=>by
  rw[qe7,qe7,qce _ _ _ b];by_cases e:i=N
  ·subst e;have:∀ M,M<=i->open_ (a.setIfInBounds i true) M=open_ a M:=fun M=>by
    induction M with
    |zero=>intro _;rfl
    |succ M ih=>
     intro d;rw[qe7,qe7,qce _ _ _ b,ih (by omega)];have:M≠i:=by omega
     simp[this]
   simp_all
  ·have ih:=zac a i b c N (by omega);have:N≠i:=fun h=>e h.symm;simp only[this,decide_false,Bool.or_false];omega
theorem q0a(a:Array Bool):∀ N,open_ a N=0->∀ j,j<N->a.getD j false=true
 |0,_,j,hj=>by omega
 |N+1,h,j,hj=>by
  rw[qe7]at h;by_cases e:j=N
  ·simp_all
  ·exact q0a a N (by omega) j (by omega)
theorem q0l{o:Oper}{j:Nat}:j∈vO o↔∃ e∈o.after,Region.binds .any e=true/\e.on=j:=by
 unfold vO;simp only[qj,xg,Array.mem_toList_iff];constructor
 ·rintro ⟨e,⟨a,b⟩,c⟩;exact⟨e,a,b,c⟩
 ·rintro ⟨e,a,b,c⟩;exact⟨e,⟨a,b⟩,c⟩
theorem any_ok(M:qer P O){F:Fence}(N:Fence.dM F){m up:Nat}{ι0:Im}{H0:Hp}{w0:World}{ds:List Deferred}{Q:Exit->Act->World->Prop}(C:Can P d n O base ops ms st pos V B K)(R:(st 0).pend=[])(r:(st 0).iW=[])(T:∀ i,i<ops.size->B i≠none->base+i<base+up/\gZ (base+i))(s:H0.nx=base)(E:∀ S a w ι L G q,(∀j,j<ops.size->S j)->aD9 d n base up ops ms st pos V B K ι0 H0 w0 ds S a w ι L G q->Q .normal a w):∀(c:Nat) (b:Array Bool) (a:Act) (w:World) (ι:Im) (L:TT AV d) (G:Hp) (q:Nat),b.size=ops.size->open_ b ops.size=c -> aD9 d n base up ops ms st pos V B K ι0 H0 w0 ds (fun j=>b.getD j false=true) a w ι L G q->wpAnyIn F m P .any ops Q c b a w:=by
 have v:∀ b:Array Bool,b.size=ops.size->Region.ready .any ops b=[]->∀ j,j<ops.size->b.getD j false=true:=fun b h p j=>by
  induction j using Nat.strongRecOn with
  |ind j ih=>
   intro u;refine Classical.byContradiction fun H=>?_;obtain⟨o,g⟩:=qph u;have:j∈Region.ready .any ops b:=mem_ready.2 ⟨by
     rw[zx,bg (by omega)]at H ⊢;simpa using H,o,g,fun e U t=>by
    have y:=C.edg.back j o g e.on (q0l.2 ⟨e,U,t,rfl⟩);exact ih e.on y (by omega)⟩
   simp_all
 intro c
 induction c with
 |zero=>
  intro b a w ι L G q h g I;have f:=q0a b _ g;refine⟨?_,E _ a w ι L G q f I⟩;cases p:Region.ready .any ops b with
  |nil=>rfl
  |cons x xs=>
   have:x∈Region.ready .any ops b:=by rw[p];simp
   obtain⟨J,o,A,_⟩:=mem_ready.1 this;have:=f x (qew A);rw[zx,bg (by rw[h];exact qew A)]at this J;simp_all
 |succ c ih=>
  intro b a w ι L G q h D I;refine⟨fun p=>E _ a w ι L G q (v b h p) I,fun i W=>?_⟩;obtain⟨J,o,g,A⟩:=mem_ready.1 W;have z:=qew g;have k:i<b.size:=by omega
  have l:b.getD i false=false:=by simp_all
  refine step_ok M N C R r T s I g (by rw[l];simp) (fun j u=>?_) fun X w' Y Z G' q' I'=>?_
  ·obtain⟨e,e1,e2,rfl⟩:=q0l.1 u;simp_all
  ·refine ih _ X w' Y Z G' q' (by simpa using h) ?_ ?_
   ·have:=zac b i k l ops.size z;omega
   ·have hS:(fun j=>(b.setIfInBounds i true).getD j false=true)=(fun j=>b.getD j false=true\/j=i):=by
     funext j;rw[qce _ _ _ k];simp
    simp_all
theorem zuj(hC:qer P O){F:Fence}(hF:Fence.dM F)(hm:P.follows .mixedOrders=true){m id:Nat}{Q:Exit->Act->World->Prop}{ι:Im}{H:Hp}{w:World}{a:Act}{L:TT AV d}(R:HR ι H w)(h:LR ι d n L a.tmps){L':TT AV d}{H':Hp}(A:(qlw P d n ops).f O L H=.ok L' H')(hK:Then ι H w a d n L' H' (Q .normal)):(Code.region id ops true).wpIn F m P Q a w:=by
 unfold qlw at A;split at A
 ·cases A
 ·rename_i pl hp;simp only at A
  ·
   split at A
   ·cases A
   ·rename_i L1 H1 z iW hx;cases A;obtain⟨st,pos,V,B,K,C,s0,sN,hu⟩:=Can.of (s:=⟨L,⟨H.t,H.nx+pl.up⟩,[],[]⟩) hp hx;have W:gZ (H.nx+pl.up):=oI;have u:∀ i,i<ops.size->B i≠none->H.nx+i<H.nx+pl.up/\gZ (H.nx+i):=fun i k r=>by
     obtain⟨o,ho⟩:=qph k;have hs:=C.step i o ho;obtain⟨b,u⟩:=lAJ.1 r;rw[u]at hs;generalize V i=v1 at hs;generalize K i=k1 at hs;have hal:qhn o.op=true:=by cases hs;assumption
     have X:ops.toList.any (fun o=>qhn o.op)=true:=zt.2 ⟨o,uB (i:=i) (by simpa using ho),hal⟩;rw[X]at hu;simp only[uC]at hu;exact⟨by omega,oI⟩
    have hd:=R.drawn (w.drawn+1);have hH0:HR ι ⟨H.t,H.nx+pl.up⟩ {w with drawn:=w.drawn+1}:=
     ⟨W,hd.blk,hd.low,hd.inj,fun b D=>R.fresh b (by simp only at D;omega),fun b D aUG=>R.free b (by simp only at D;omega) aUG⟩
    have hF0:Fr ι ι H ⟨H.t,H.nx+pl.up⟩ w {w with drawn:=w.drawn+1}:=
     ⟨Im.le_refl _,by simp,fun b g E=>absurd g E,rfl,rfl,rfl,lh _,fun _ _ _=>rfl,fun b l u g E=>.inr ⟨b,l,u,g,E,rfl⟩,fun b l u g E=>.inr ⟨b,l,u,g,E,rfl⟩⟩
    have aHg:∀ i,i<ops.size->B i≠none->H.get (H.nx+i)=.dead:=fun i k r=>R.free _ (by omega) (u i k r).2;refine wpIn_region_any hm (any_ok (base:=H.nx) (up:=pl.up) (ι0:=ι) (H0:=H) (w0:=w) (ds:=a.defers) hC hF C (by rw[s0]) (by rw[s0]) u rfl ?_ ops.size (Array.replicate ops.size false) a {w with drawn:=w.drawn+1} ι L ⟨H.t,H.nx+pl.up⟩ 0 (by simp) ?_ ?_)
    ·intro S a' w' ι' LL G q f I;have hM:∀ j,Mg ops pl.ms pos K ops.size j↔Mg ops pl.ms pos K q j:=fun j=>
      ⟨fun⟨e,p,e2,T,e4⟩=>⟨e,p,(I.lX e p T).1 (f e p),T,e4⟩,fun⟨e,p,e2,T,e4⟩=>⟨e,p,C.plt e p,T,e4⟩⟩
     have hHq:=C.nC (q:=q) ops.size I.le (lh _) fun e p e2 T e4=>by have:=(I.lX e p e2).1 (f e p);omega
     have hv:=C.view (by rw[s0]) (fun i k r=>(u i k r).2) (q:=ops.size) (lh _) (fun _=>true) (fun j hj _=>C.plt j hj);rw[<-z4g,sN]at hv;have Y:(mU z H1).nx=G.nx:=by have g:=hv.nx;have E:=I.hs.nx;simp_all
     have v:∀ c,gZ (c)->(mU z H1).get c=G.get c:=fun c U=>by
      by_cases e:∃ j,j<ops.size/\B j≠none/\¬ Mg ops pl.ms pos K q j/\c=H.nx+j
      ·obtain⟨j,J,j2,M,rfl⟩:=e;obtain⟨b,hbj⟩:=lAJ.1 j2;rw[hv.hit j b J rfl hbj fun x=>M ((hM j).1 x),I.hs.hit j b J (f j J) hbj M]
      ·rw[hv.miss c U fun j J _ M j4 x=>e ⟨j,J,M,fun y=>j4 ((hM j).2 y),x⟩,I.hs.miss c U fun j J _ M j4 x=>e ⟨j,J,M,j4,x⟩,hHq]
     refine hK a' w' ι' ⟨I.lr.size,I.lr.fits,fun t ht=>?_⟩ I.ds (I.hr.sub Y fun c U=>.inl (v c U)) (I.fr.congr Y v);have Z:=lq ht h.fit;have g:=C.locals h.fit ops.size (lh _) t Z;rw[sN]at g;rw[g,qi4 (S':=S) _ fun j hj _=>⟨fun _=>f j hj,fun _=>C.plt j hj⟩,<-I.tv t Z];exact I.lr.get t ht
    ·have:∀ N,open_ (Array.replicate ops.size false) N=N:=fun N=>by
      induction N with
      |zero=>rfl
      |succ N ih=>
       rw[qe7,ih];have:(Array.replicate ops.size false).getD N false=false:=by rw[zx,Array.getElem?_replicate];split<;>rfl
       rw[this];rfl
     exact this _
    ·have hgf:∀ j,(Array.replicate ops.size false).getD j false=false:=fun j=>by
      rw[zx,Array.getElem?_replicate];split<;>rfl
     refine{shut:=fun i o ho k=>?_,le:=gy _,lX:=fun e p e2=>?_,lr:=h,tv:=fun t ht=>?_,hr:=hH0,hs:=⟨by rw[s0],fun i b g E=>?_,fun c U _=>by rw[s0]⟩,dead:=fun i k r _=>?_,free:=fun i k r _=>R.fresh _ (by omega),some:=fun i k r hS=>?_,up:=lh _,fr:=hF0,ds:=rfl}
     ·simp_all
     ·simp_all
     ·have g:=C.locals h.fit 0 (gy _) t ht;simp_all
     ·simp_all
     ·rw[s0];exact aHg i k r
     ·simp_all
theorem zj4{a:TT AV d}{S:Nat->Prop}:∀ m,tv ops n V a S m n=(dJ d n).f a
 |0=>rfl
 |m+1=>by unfold tv;rw[lu (by omega)];exact zj4 m
theorem qto(b:n<8 ^ d){L:TT AV d}{H:Hp}{c:TT AV d}{g:Hp}(a:(qlw P d n ops).f O L H=.ok c g):(dJ d n).f c=(dJ d n).f L:=by
 unfold qlw at a;split at a
 ·cases a
 ·rename_i pl h;simp only at a
  ·
   split at a
   ·cases a
   ·rename_i L1 H1 f k i;cases a;obtain⟨st,pos,V,B,K,C,s0,j,l⟩:=Can.of (s:=⟨L,⟨H.t,H.nx+pl.up⟩,[],[]⟩) h i;have e:=C.locals (yu b) ops.size (lh _) n b;rw[j]at e;rw[e,s0];exact zj4 _
end Go.Ev
end
noncomputable section
namespace Go.Ev
open Go.RowKit
variable {P:Program} {w:World} {ι:Im} {a:Act} {d n:Nat} {L:TT AV d} {H:Hp} {O:Call} {F:Fence} {m:Nat}
def MdL(lo:Nat)(ι:Im)(H:Hp)(w:World):List AV->List Deferred->List Nat->Prop
 |l,[],Ds=>l=[]/\Ds=[]
 |l,x::ds,Ds=>(∃D Ds',Ds=D::Ds'/\x={target:=.collected D,args:= #[]}/\D∉Ds'/\(lo<=D/\D<w.heap.size/\w.heap[D]? =some (.deferred (some []))/\∀ b l,gZ (b)->(H.get b).dH=false->ι b=some l->l.blk≠D)/\MdL lo ι H w l ds Ds') \/
   (∃g all l' A C,l=.fn g all []::l'/\x={target:=.fn (.func g) C,args:=A}/\aK ι all (A.toList++C.toList)/\MdL lo ι H w l' ds Ds)
theorem MdL.fr{lo:Nat}{o:Im}{p:Hp}{w':World}(f:Fr ι o H p w w'):∀{ds:List Deferred} {l:List AV} {a:List Nat},MdL lo ι H w l ds a->MdL lo o p w' l ds a
 | [],l,a,h=>h
 |x::ds,l,a,h=>by
  rcases h with⟨D,e,i,j,k,⟨k0,q,k2,r⟩,m⟩|⟨g,n,v,A,C,i,j,k,m⟩
  ·refine .inl ⟨D,e,i,j,k,⟨k0,lq q f.size,?_,fun b l c s d t=>?_⟩,m.fr f⟩
   ·rw[f.keep D q fun b l c u d=>r b l c (bO.bC u) d];exact k2
   ·rcases f.live b l c s d with I|⟨y,z,B,E,F,G⟩
    ·omega
    ·exact r y z B E F (G.trans t)
  ·exact .inr ⟨g,n,v,A,C,i,j,aK.mono f.le _ _ k,m.fr f⟩
theorem MdL.lt{lo:Nat}:∀{ds:List Deferred} {l:List AV} {b:List Nat},MdL lo ι H w l ds b->∀ D∈b,D<w.heap.size
 | [],l,b,h,D,a=>by rw[h.2]at a;cases a
 |x::ds,l,b,h,D,a=>by
  rcases h with⟨m,e,d,f,i,⟨k0,j,k2,n⟩,c⟩|⟨g,k,o,A,C,d,f,i,c⟩
  ·subst d;rcases qm.1 a with rfl|a
   ·exact j
   ·exact c.lt D a
  ·exact c.lt D a
structure Md(pl:Bool)(lo:Nat)(ι:Im)(H:Hp)(w:World)(l:List AV)(ds:List Deferred):Prop where
 plain:pl=true->ds=[]
 low:lo<=w.heap.size
 ex:∃ Ds,MdL lo ι H w l ds Ds
theorem Md.nil{pl:Bool}{lo:Nat}(h:lo<=w.heap.size):Md pl lo ι H w [] []:=⟨fun _=>rfl,h,[],rfl,rfl⟩
theorem Md.fr{pl:Bool}{lo:Nat}{a:Im}{b:Hp}{w':World}{l:List AV}{ds:List Deferred}(h:Md pl lo ι H w l ds)(f:Fr ι a H b w w'):Md pl lo a b w' l ds:=by obtain⟨c,d,e,g⟩:=h;exact⟨c,rq d f.size,e,g.fr f⟩
def z8k:Ex->Exit
 | .normal=>.normal
 | .exit id=>.exit id
 | .ret=>.ret
 | .goto l=>.goto l
def After(pl:Bool)(lo:Nat)(ι:Im)(H:Hp)(w:World)(d n:Nat)(L':TT AV d)(H':Hp)(Q:Act->World->Prop):Prop:=
 ∀a' w' ι',LR ι' d n L' a'.tmps->Md pl lo ι' H' w' (dl ((dJ d n).f L')) a'.defers->HR ι' H' w'->Fr ι ι' H H' w w'->Q a' w'
theorem qwy{r:Rc d}{k:TT AV d->Hp->Rc d}{a:Ex}{b:TT AV d}{c:Hp}(h:qR r k=.ok a b c):(∃L1 H1,r=.ok .normal L1 H1/\k L1 H1=.ok a b c)\/(a≠ .normal/\r=.ok a b c):=by
 unfold qR at h;split at h
 ·exact .inl ⟨_,_,rfl,h⟩
 ·simp_all
theorem q1h{r:Rc d}{id:Nat}{a:Ex}{b:TT AV d}{c:Hp}(h:qts id r=.ok a b c):(a=.normal/\r=.ok (.exit id) b c)\/((∀i,a=.exit i->i≠id)/\r=.ok a b c):=by
 unfold qts at h;split at h
 ·rename_i f L1 H1;cases g:Nat.beq f id with
  |true=>rw[g]at h;simp only[uC]at h;cases h;have:=uD g;subst this;exact .inl ⟨rfl,rfl⟩
  |false=>rw[g]at h;simp only[aj]at h;cases h;refine .inr ⟨fun i e=>?_,rfl⟩;cases e;intro e;subst e;simp_all
 ·simp_all
theorem After.normal{pl:Bool}{lo:Nat}{e:Im}{H1:Hp}{w':World}{g:TT AV d}{i:Hp}{Q:Act->World->Prop}(f:Fr ι e H H1 w w')(h:After pl lo ι H w d n g i Q):After pl lo e H1 w' d n g i Q:=
 fun a b c j k l m=>h a b c j k l (f.trans m)
def qeq(P:Program)(O:Call)(d n m:Nat)(c:Code):Prop:=
 ∀{F:Fence},Fence.dM F->(F.round=none\/kG c=true)->∀{pl:Bool} {lo:Nat} {ι:Im} {w:World} {a:Act} {L:TT AV d} {H:Hp},HR ι H w->LR ι d n L a.tmps->(pl=true->kG c=true)->Md pl lo ι H w (dl ((dJ d n).f L)) a.defers ->
  ∀{ex:Ex} {L':TT AV d} {H':Hp},(den P d n c).f O L H=.ok ex L' H'->∀{Q:Exit->Act->World->Prop},After pl lo ι H w d n L' H' (Q (z8k ex))->c.wpIn F m P Q a w
theorem zus{x y:Code}(s:qeq P O d n m x)(C:qeq P O d n m y):qeq P O d n m (.seq x y):=by
 intro F p v pl lo ι w a L H z h f A D I J E Q B;have b:F.round=none\/kG x=true:=v.imp id fun h=>by simp only[kG,qc]at h;exact h.1
 have l:F.round=none\/kG y=true:=v.imp id fun h=>by simp only[kG,qc]at h;exact h.2
 have c:pl=true->kG x=true:=fun e=>by have:=f e;simp only[kG,qc]at this;exact this.1
 have o:pl=true->kG y=true:=fun e=>by have:=f e;simp only[kG,qc]at this;exact this.2
 refine wpIn_seq ?_;rcases qwy E with⟨L1,H1,q,G⟩|⟨r,q⟩
 ·exact s p b z h c A q fun t w' u g i j k=>C p l j g o i G (B.normal k)
 ·refine s p b z h c A q fun t w' u g i j k=>?_;have:=B t w' u g i j k;cases D<;>first|exact absurd rfl r|exact this
theorem zny{c:Operand}{x y:Code}(t:qeq P O d n m x)(u:qeq P O d n m y):qeq P O d n m (.cond c x y):=by
 intro F o p pl lo ι w a L H q h g r v z A f Q s;have i:F.round=none\/kG x=true:=p.imp id fun h=>by simp only[kG,qc]at h;exact h.1
 have j:F.round=none\/kG y=true:=p.imp id fun h=>by simp only[kG,qc]at h;exact h.2
 have k:pl=true->kG x=true:=fun e=>by have:=g e;simp only[kG,qc]at this;exact this.1
 have l:pl=true->kG y=true:=fun e=>by have:=g e;simp only[kG,qc]at this;exact this.2
 have b:=dP h c;change condC ((aH d n c).f L) _ _=_ at f;unfold condC at f;split at f
 ·rename_i e;rw[e]at b;simp only[aL]at b;exact wpIn_cond_true b (t o i q h k r f s)
 ·rename_i e;rw[e]at b;simp only[aL]at b;exact wpIn_cond_false b (u o j q h l r f s)
 ·cases f
theorem zdh{id:Nat}{x:Code}(p:qeq P O d n m x):qeq P O d n m (.block id x):=by
 intro F q r pl lo ι w a L H s h b t v z A y Q u;refine wpIn_block ?_;rcases q1h y with⟨rfl,l⟩|⟨o,l⟩
 ·refine p q r s h b t l fun c w' e f g j k=>?_;show if id=id then _ else _
  rw[kz rfl];exact u c w' e f g j k
 ·refine p q r s h b t l fun c w' e f g j k=>?_;have:=u c w' e f g j k;cases v with
  |exit i=>show if i=id then _ else _;rw[lu (o i rfl)];exact this
  |normal=>exact this
  |ret=>exact this
  |goto=>exact this
theorem znx{x:Code}(o:qeq P O d n m x):qeq P O d n m (.loop x):=by
 intro F r s pl lo ι w a L H t h b u y A B c Q v;change qqt _ bL L H=_ at c;refine wpIn_loop_rounds bL ?_;revert c;generalize bL=k;intro c
 induction k generalizing ι w a L H with
 |zero=>cases c
 |succ k ih=>
  rcases qwy c with⟨L1,H1,j,z⟩|⟨l,j⟩
  ·exact o r s t h b u j fun p w' q e f g i=>ih g e f (v.normal i) z
  ·refine o r s t h b u j fun p w' q e f g i=>?_;have:=v p w' q e f g i;cases y<;>first|exact absurd rfl l|exact this
theorem zdf{x:Code}(o:qeq P O d n m x)(p:∀ L H b g j,(den P d n x).f O L H=.ok b g j->∀ l,b≠ .goto l):qeq P O d n m (.scope x):=by
 intro F z c pl lo ι w a L H A h f B b g j k Q C;have c:F.round=none:=c.resolve_right (by simp[kG]);obtain⟨r,rfl⟩:=z.eq;have:r=none:=c;subst this;have D:({Fence.wide with round:=none}:Fence)=Fence.wide:=rfl;refine wpIn_wide.2 (wp_scope_straight ((wpIn_wide (n:=m)).1 ?_));refine o Fence.zR (.inl rfl) A h (fun e=>by have:=f e;simp[kG]at this) B k fun q w' s t u v y=>?_;have:=C q w' s t u v y;cases b with
 |goto l=>exact absurd rfl (p _ _ _ _ _ k l)
 |exit i=>exact this
 |normal=>exact this
 |ret=>exact this
theorem zdd:∀(c:Code) {L:TT AV d} {H:Hp} {g:Ex} {i:TT AV d} {j:Hp},(den P d n c).f O L H=.ok g i j->∀ l,g≠ .goto l:=by
 intro c
 induction c with
 |skip=>intro L H g i j h l;cases h;exact fun e=>by cases e
 |label=>intro L H g i j h l;cases h;exact fun e=>by cases e
 |region id ops draw=>
  intro L H g i j h l;cases draw with
  |false=>
   change mI _=_ at h;unfold mI at h;split at h
   ·cases h
   ·cases h;exact fun e=>by cases e
  |true=>
   change mI _=_ at h;unfold mI at h;split at h
   ·cases h
   ·cases h;exact fun e=>by cases e
 |seq a b iha ihb=>
  intro L H g i j h l;rcases qwy h with⟨L1,H1,m,o⟩|⟨_,m⟩
  ·exact ihb o l
  ·exact iha m l
 |cond x a b iha ihb=>
  intro L H g i j h l;change condC _ _ _=_ at h;unfold condC at h;split at h
  ·exact iha h l
  ·exact ihb h l
  ·cases h
 |block id b ih=>
  intro L H g i j h l;rcases q1h h with⟨rfl,_⟩|⟨_,m⟩
  ·simp
  ·exact ih m l
 |loop b ih=>
  intro L H g i j h l;change qqt _ bL L H=_ at h;revert h;generalize bL=k;intro h
  induction k generalizing L H with
  |zero=>cases h
  |succ k ihk=>
   rcases qwy h with⟨L1,H1,m,o⟩|⟨_,m⟩
   ·exact ihk o
   ·exact ih m l
 |scope b ih=>intro L H g i j h l;exact ih h l
 |exit id=>intro L H g i j h l;cases h;exact fun e=>by cases e
 |goto=>intro L H g i j h l;cases h
 |ret=>intro L H g i j h l;cases h;exact fun e=>by cases e
 |rangeFunc f ps assign body _ _=>
  intro L H g i j h l;unfold den at h;split at h
  ·cases h
  ·simp only at h
   ·
    unfold endLoop at h;split at h
    ·cases h
    ·split at h
     ·cases h;exact fun e=>by cases e
     ·cases h;exact fun e=>by cases e
     ·cases h;exact fun e=>by cases e
     ·cases h
 |refuse=>intro L H g i j h l;cases h
theorem HR.alloc(h:HR ι H w)(o:Obj):HR ι H (w.alloc o)/\Fr ι ι H H w (w.alloc o):=by
 have d:∀ c,c<w.heap.size->(w.alloc o).heap[c]? =w.heap[c]? :=fun c g=>Below.heap_alloc w o c g;refine⟨⟨h.top,fun b a=>(h.blk b a).keep fun l hd i=>d _ (h.low b l a hd i),fun b l a e f=>by have:=h.low b l a e f;simp;omega,h.inj,h.fresh,h.free⟩,
  ⟨Im.le_refl _,lh _,fun b e f=>absurd e f,rfl,rfl,rfl,by simp,fun c g _=>d c g,fun b l a e f=>.inr ⟨b,l,a,e,f,rfl⟩,fun b l a e f=>.inr ⟨b,l,a,e,f,rfl⟩⟩⟩
theorem HR.uJ(h:HR ι H w){b:Nat}{l:Loc}(d:ι b=some l)(a:(H.get b).wr=true)(k:bO)(o:Obj)(e:BR ι (w.putObj l.blk o) b k):HR ι (H.put b k) (w.putObj l.blk o)/\Fr ι ι H (H.put b k) w (w.putObj l.blk o):=
 h.put (h.lt d) a d k rfl rfl rfl (by simp) (fun c f=>World.putObj_heap_other f) e
set_option maxHeartbeats 1000000 in
theorem zdg{g:Operand}{u:Array Tmp}{assign body:Code}(hC:qer P O):qeq P O d n m (.rangeFunc g u assign body):=by
 intro F hF hr pl lo ι w a L H hH h hpl hM ex L' H' r Q hQ;have hro:F.round=none:=hr.resolve_right (by simp[kG]);have hpf:pl=false:=by
  cases pl with
  |false=>rfl
  |true=>have:=hpl rfl;simp[kG]at this
 subst hpf;unfold den at r;split at r
 ·cases r
 ·rename_i gf _ hg z;simp only at r
  ·
   have G:gZ (H.nx):=oI;simp only[qc]at z;have s:=dP h g;rw[hg]at s;simp only at s
   -- the record and the block for deferred calls
   obtain⟨hA,fA⟩:=hH.alloc (.deferred (some []));refine wpIn_rangeFunc fun fn _=>?_
   let lp:Loop:={state:=.ready,pending:=none,fn:=fn,tmps:=a.tmps,params:=u,assign:=assign,body:=body,defers:=w.heap.size}
   let loc:Loc:=⟨w.heap.size+1,0,0,0⟩
   have I:=hA.fresh H.nx (lh _);obtain⟨hB,fB⟩:=hA.push (w':=(w.alloc (.deferred (some []))).alloc (.loop lp)) G loc (.loop true none d n L u.toList assign body) rfl rfl rfl (by simp) (fun c hc=>Below.heap_alloc _ _ c hc) (by simp[loc])
    ⟨loc,lp,Im.aZ ..,by have:=World.alloc_heap_new (w.alloc (.deferred (some []))) (.loop lp);simpa [loc] using this,rfl,rfl,rfl,rfl,rfl,h.mono (Im.iT loc I),z.1,z.2⟩
   have W:=fA.trans fB;have hMd:Md false lo (ι.set H.nx loc) (aN H (.loop true none d n L u.toList assign body)) ((w.alloc (.deferred (some []))).alloc (.loop lp)) (dl ((dJ d n).f L)) ({target:=.collected w.heap.size,args:= #[]}::a.defers):=by
    obtain⟨Ds,m1⟩:=hM.ex;have m2:=m1.fr W;have J:=hM.low;refine⟨fun e=>(by cases e),rq J W.size,w.heap.size::Ds,.inl ⟨w.heap.size,Ds,rfl,rfl,fun Z=>absurd (m1.lt _ Z) (xq _),⟨J,by simp;omega,?_,fun b l hb' hl U e=>?_⟩,m2⟩⟩
    ·rw[Below.heap_alloc _ _ _ (by simp)];exact World.alloc_heap_new w _
    ·have hgp:(aN H (.loop true none d n L u.toList assign body)).get b=if b=H.nx then(.loop true none d n L u.toList assign body)else H.get b:=by exact Mem.get_put _ _ _ _
     by_cases e':b=H.nx
     ·subst e';rw[Im.aZ]at U;cases U;simp[loc]at e
     ·rw[Im.dU _ _ e']at U;rw[hgp,lu e']at hl;have:=hH.low b l hb' hl U;omega
   unfold endLoop at r;split at r
   ·cases r
   ·rename_i v H2 p;unfold qjo at p;split at p
    ·rename_i f first cap hgL
     rw[hgL]at s;obtain⟨A,Cc,r1,r2,r3⟩:=s;have M:ι.le (ι.set H.nx loc):=Im.iT loc I;have hyv:aL (ι.set H.nx loc) (.yield H.nx) (.func (.yield (w.heap.size+1)) #[] #[]):=by simp only[aL];exact⟨loc,Im.aZ ..,rfl⟩
     obtain⟨c1,c2⟩:=hC.fn _ _ _ _ _ p (ι.set H.nx loc) _ (A++[.func (.yield (w.heap.size+1)) #[] #[]]++Cc) hB
      (((aK.mono M _ _ r1).append (aK.singleton hyv)).append (aK.mono M _ _ r2))
     have t:(Instr.enterLoop fn a.tmps u assign body F.round).run P w=.ok (w.heap.size+1,[{target:=.collected w.heap.size,args:= #[]}]) ((w.alloc (.deferred (some []))).alloc (.loop lp)):=by rw[hro];exact run_enterLoop_outer fn a.tmps u assign body
     refine⟨w.heap.size+1,[{target:=.collected w.heap.size,args:= #[]}],(w.alloc (.deferred (some []))).alloc (.loop lp),{target:=.fn (.func f) Cc.toArray,args:=A.toArray++ #[Value.func (.yield (w.heap.size+1)) #[] #[]]},(w.alloc (.deferred (some []))).alloc (.loop lp),f,(A++[Value.func (.yield (w.heap.size+1)) #[] #[]]++Cc).toArray,(w.alloc (.deferred (some []))).alloc (.loop lp),t,?_,fun f' _=>hF.fn f',?_,?_,?_⟩
     ·simp only[resolve,r3,Deferred.ofValue,Sem.run_pure];congr 2;simp[Act.eval]
     ·simp only[invoke];simpa using c1
     ·simp[hF.depth]
     ·have aHv:=hF.calls (c2 (m-1));refine CallsIn.mono aHv ?_;intro e w' q;cases e with
      |panicked=>exact q.elim
      |outgrown=>exact q.elim
      |returned V=>
       obtain⟨ι',q1,q2,X⟩:=q;have y:ι' H.nx=some loc:=X.le _ _ (Im.aZ ..);have bC0:=hMd.fr X;have fin:∀{j:Bool} {pending:Option Code} {Y n':Nat} {L2:TT AV Y} {C:List Tmp} {D E:Code},H2.get H.nx=.loop j pending Y n' L2 C D E->(j=true\/pending.isSome=true) ->
         ∃x,(Instr.endLoop (w.heap.size+1)).run P w'=.ok pending x/\∀ K:Act->World->Prop,After false lo ι H w d n L (H2.put H.nx .dead) K->K {a with defers:=[{target:=.collected w.heap.size,args:= #[]}]++a.defers} x:=by
        intro j pending Y n' L2 C D E i B;have N:=q2.blk H.nx G;rw[i]at N;obtain⟨l2,R,b1,b2,b3,b4,_⟩:=N;rw[y]at b1;cases b1;have hne:R.state≠ .busy:=by
         rw[b3];rcases B with rfl|B
         ·simp
         ·cases j<;>simp[B]
        refine⟨_,by rw[<-b4];exact run_endLoop b2 hne,fun K hK=>?_⟩;obtain⟨z1,z2⟩:=q2.uJ (k:=.dead) (o:=.loop {R with state:=.exhausted}) y (by rw[i];rfl) trivial;exact hK _ _ ι' (h.mono (Im.le_trans W.le X.le)) (bC0.fr z2) z1 ((W.trans X).trans z2)
       split at r
       ·rename_i i;cases r;obtain⟨x,S,T⟩:=fin i (.inl rfl);exact⟨_,x,S,T _ hQ⟩
       ·rename_i i;cases r;obtain⟨x,S,T⟩:=fin i (.inr rfl);exact⟨_,x,S,wpIn_ret (T _ hQ)⟩
       ·rename_i i;cases r;obtain⟨x,S,T⟩:=fin i (.inr rfl);exact⟨_,x,S,wpIn_exit (T _ hQ)⟩
       ·cases r
    ·cases p
theorem qst(i:n<8 ^ d){ops:Array Oper}{o:Oper}{f:TT AV d}{h:Hp}(e:(yT P d n ops o).f O L H=.ok f h):(dJ d n).f f=(dJ d n).f L:=by
 have b:∀{a:TT AV d->AV->TT AV d} (_:dS d n o.dst=⟨a⟩) (v:AV),(dJ d n).f (a L v)=(dJ d n).f L:=fun c v=>by have:=qjc (v:=v) (yu i) (L:=L) i o.dst;simp_all
 have j:∀{a:TT AV d->AV->TT AV d} (_:dS d n o.dst=⟨a⟩) {r:R0},doQ a L H r=.ok f h->(dJ d n).f f=(dJ d n).f L:=fun c r hd=>by
  unfold doQ at hd;split at hd
  ·cases hd
  ·cases hd;exact b c _
  ·cases hd;exact b c _
 have g:∀{a:TT AV d->AV->TT AV d} (_:dS d n o.dst=⟨a⟩) {r:R1},doE a L r=.ok f h->(dJ d n).f f=(dJ d n).f L:=fun c r hd=>by
  unfold doE at hd;split at hd
  ·cases hd
  ·cases hd;exact b c _
 unfold yT at e;split at e
 ·rename_i c;exact j c e
 ·rename_i c;exact g c e
 ·rename_i c;simp only[ifW]at e;split at e
  ·exact j c e
  ·cases e;exact b c _
  ·cases e
 ·rename_i c;simp only[ifW]at e;split at e
  ·exact g c e
  ·cases e;exact b c _
  ·cases e
theorem q6t(B:qer P O)(t:Fence.dM F){ops:Array Oper}{Q:Exit->Act->World->Prop}{pl:Bool}{lo:Nat}:∀(l:List Oper),(F.round=none\/l.any qF=false)->(pl=true->l.any qF=false)->∀{ι:Im} {w:World} {a:Act} {L:TT AV d} {H:Hp},HR ι H w->LR ι d n L a.tmps->Md pl lo ι H w (dl ((dJ d n).f L)) a.defers -> ∀{u:TT AV d} {y:Hp},(pM P d n ops l).f O L H=.ok u y->After pl lo ι H w d n u y (Q .normal)->wpListIn F m P ops Q l a w
 | [],_,_,ι,w,a,L,H,hH,h,hM,u,y,he,hK=>by cases he;exact hK _ _ ι h hM hH (Fr.refl ..)
 |o::l,hr,hp,ι,w,a,L,H,hH,h,hM,u,y,he,hK=>by
  have q:F.round=none\/l.any qF=false:=hr.imp id fun e=>by simp only[lA6,lAN]at e;exact e.2
  have r:pl=true->l.any qF=false:=fun e=>by have:=hp e;simp only[lA6,lAN]at this;exact this.2
  simp only[pM,zdv]at he;split at he
  ·cases he
  ·rename_i L1 H1 b;unfold oK at b;split at b
   ·have D:=qst h.fits b;have:=zsh (m:=m) (Q:=Q) (K:=wpListIn F m P ops Q l) B t hH h b (fun a' w' ι' X Y Z R=>
     q6t B t l q r Z X (by rw[D,Y];exact hM.fr R) he (hK.normal R))
    trivial
   ·rename_i c z;unfold zC at z;split at z
    ·rename_i x args p V hg;have s:qF o=true:=by unfold qF;rw[V]
     have E:F.round=none:=hr.resolve_right (by simp[s]);have G:pl=false:=by
      cases pl with
      |false=>rfl
      |true=>have:=hp rfl;simp[s]at this
     subst G;cases z;have T:=dP h x;have ha:=qcz h args.toList;simp only at b;have g:Region.wanted o (yielded ops a.tmps)=true:=by simp[Region.wanted,hg]
     simp only[wpListIn,g,oh];refine⟨fun f _=>t.fn f,?_⟩;rw[E,Oper.semAt_none];unfold doD at b;split at b
     ·rename_i f first k M
      simp only[Rs.ok.injEq]at b;obtain⟨W,e2⟩:=b;subst e2;rw[M]at T;obtain⟨A,C,g1,g2,g3⟩:=T;have j:args.map a.eval=(args.toList.map a.eval).toArray:=by rw[<-lA7]
      have I:(execOp a.eval o).run P w=.ok (.defer {target:=.fn (.func f) C.toArray,args:=A.toArray++(args.toList.map a.eval).toArray}) w:=by simp[execOp,V,resolve,g3,Deferred.ofValue,j]
      rw[I];have J:LR ι d n ((setter d n).f L (.aX (.fn f (first++(tQ d n args.toList).f L++k) []::dl ((dJ d n).f L)))) a.tmps:=by refine⟨h.size,h.fits,fun i S=>?_⟩;rw[qey _ _ _ _ _ (lEK S h.fits) h.fits,lu (by omega)];exact h.get i S
      refine q6t B t l q r hH (L:=L1) ?_ ?_ he hK
      ·rw[<-W];exact qh9 (a:={a with defers:=_::a.defers}) J o.dst (by simp only[aL];rfl)
      ·rw[put_defers,<-W];have U:=qjc (v:=.undef) (yu h.fits) (L:=(setter d n).f L (.aX (.fn f (first++(tQ d n args.toList).f L++k) []::dl ((dJ d n).f L)))) h.fits o.dst;rw[lu (by omega)]at U;rw[U,qey _ _ _ _ _ h.fits h.fits,kz rfl];obtain⟨_,N,Ds,hD⟩:=hM;refine⟨fun e=>(by cases e),N,Ds,.inr ⟨f,first++(tQ d n args.toList).f L++k,dl ((dJ d n).f L),_,_,rfl,rfl,?_,hD⟩⟩;simpa using (g1.append ha).append g2
     ·cases b
    ·cases z
theorem zbf(u:qer P O)(y:P.follows .mixedOrders=true):∀ c:Code,qeq P O d n m c:=by
 intro c
 induction c with
 |skip=>intro F p t pl lo ι w a L H k h i l q r s g Q o;cases g;exact wpIn_skip (o a w ι h l k (Fr.refl ..))
 |label=>intro F p t pl lo ι w a L H k h i l q r s g Q o;cases g;exact wpIn_label (o a w ι h l k (Fr.refl ..))
 |region id ops draw=>
  intro F p t pl lo ι w a L H k h i l q r s g Q o;cases draw with
  |false=>
   change mI _=_ at g;unfold mI at g;split at g
   ·cases g
   ·rename_i L1 H1 j;cases g;exact wpIn_region_list (q6t u p ops.toList (t.imp (fun e=>e) fun e=>by simpa [kG] using e) (fun e=>by have:=i e;simpa [kG] using this) k h l j o)
  |true=>
   change mI _=_ at g;unfold mI at g;split at g
   ·cases g
   ·rename_i L1 H1 j;cases g;exact zuj u p y k h j fun z w' A B C D v=>o z w' A B (by rw[C,qto h.fits j];exact l.fr v) D v
 |seq a b iha ihb=>exact zus iha ihb
 |cond x a b iha ihb=>exact zny iha ihb
 |block id b ih=>exact zdh ih
 |loop b ih=>exact znx ih
 |scope b ih=>exact zdf ih fun L H q r s g=>zdd b g
 |exit id=>intro F p t pl lo ι w a L H k h i l q r s g Q o;cases g;exact wpIn_exit (o a w ι h l k (Fr.refl ..))
 |goto=>intro F p t pl lo ι w a L H k h i l q r s g Q o;cases g
 |ret=>intro F p t pl lo ι w a L H k h i l q r s g Q o;cases g;exact wpIn_ret (o a w ι h l k (Fr.refl ..))
 |rangeFunc f ps assign body _ _=>exact zdg u
 |refuse=>intro F p t pl lo ι w a L H k h i l q r s g Q o;cases g
end Go.Ev
end
noncomputable section
namespace Go.Ev
open Go.RowKit
variable {P:Program} {w:World} {ι:Im} {a:Act} {d n:Nat} {L:TT AV d} {H:Hp} {O:Call} {m:Nat}
/- results -/
def zkx(tmps:Array Value):ResultVar->Sem Value
 | .tmp t=>pure (tmps.getD t Go.undef)
 | .cell a t=>do loadVar t (<-asAddr (tmps.getD a Go.undef))
theorem zch(fn:Func)(tmps:Array Value):results fn tmps=(do
  let vs<-fn.results.mapM (zkx tmps)
  pure (if h:vs.size=1 then vs[0]else .tuple vs)):=by
 rfl
theorem zl9{v:AV}{x:AV}{X:Value}(e:aL ι x X){t:TypeId}(f:pR P t=some false)(a:HR ι H w)(h:aO H x=.val v):∃V,(do loadVar t (<-asAddr X):Sem Value).run P w=.ok V w/\aL ι v V:=by
 unfold aO at h;split at h
 ·rename_i b i;obtain⟨l,c,g⟩:=e;obtain⟨m,V,d,j,k,_⟩:=qzy (a.blk b (a.lt c)) h;rw[c]at d;cases d;exact⟨V,by simp[g,asAddr,loadVar,qf4 f,j],k⟩
 ·cases h
theorem zl6{v:AV}{x:AV}{X:Value}(n:aL ι x X){t:TypeId}(o:pR P t=some true){k:Nat}(p:gQ P t=some k)(g:HR ι H w)(h:dQ k H x=.val v):∃V,(do loadVar t (<-asAddr X):Sem Value).run P w=.ok V w/\aL ι v V:=by
 unfold dQ at h;split at h
 ·rename_i b i;obtain⟨l,m,q⟩:=n;cases f:jG (H.get b) i k with
  |none=>rw[f]at h;cases h
  |some cs=>
   rw[f]at h;cases h;obtain⟨c,r⟩:=qe4 (g.blk b (g.lt m)) f;have a:∀ vs:List Value,vs.length=k->(∀(j:Nat) (v:Value),vs[j]? =some v->w.cell? ⟨l.blk,l.base+i+j,none⟩=some v)->(do loadVar t (<-asAddr X):Sem Value).run P w=.ok (.agg vs.toArray) w:=fun vs d e=>by have:=run_loadCells P w l.blk (l.base+i) vs e;rw[d]at this;simp[q,asAddr,loadVar,qf4 o,mH p,this]
   rcases r with rfl|⟨loc,vs,d,e,s,u,y⟩
   ·have:cs=[]:=tq.1 c;subst this;exact⟨_,a [] rfl (by simp),by simp only[aL];exact⟨[],by simp[aK],rfl,by simp⟩⟩
   ·rw[m]at d;cases d;exact⟨_,a vs s y,by simp only[aL];exact⟨vs,e,rfl,u⟩⟩
 ·cases h
theorem zky(h:LR ι d n L a.tmps)(l:HR ι H w)(x:ResultVar){v:AV}(c:(aBh P d n x).f L H=some v):∃ V,(zkx a.tmps x).run P w=.ok V w/\aL ι v V:=by
 cases x with
 |tmp t=>have:=dP h (.tmp t);cases c;exact⟨_,rfl,this⟩
 |cell p t=>
  have f:=dP h (.tmp p);simp only[aBh]at c;generalize m:aH d n (.tmp p)=g at c f;cases e:pR P t with
  |none=>rw[e]at c;cases c
  |some b=>
   cases j:gQ P t with
   |none=>rw[e,j]at c;cases b<;>cases c
   |some k=>
    rw[e,j]at c;cases b with
    |true=>
     simp only at c;split at c
     ·rename_i u i;cases c;exact zl6 f e j l i
     ·cases c
    |false=>
     simp only at c;split at c
     ·rename_i u i;cases c;exact zl9 f e l i
     ·cases c
theorem q9z(h:LR ι d n L a.tmps)(c:HR ι H w):∀(xs:List ResultVar) {l:List AV},(zci P d n xs).f L H=some l->∃ vs,(xs.mapM (zkx a.tmps)).run P w=.ok vs w/\aK ι l vs
 | [],l,he=>by cases he;exact⟨[],rfl,by simp[aK]⟩
 |x::xs,l,he=>by
  have b:(match(aBh P d n x).f L H,(zci P d n xs).f L H with|some v,some l=>some (v::l)|_,_=>none)=some l:=he;split at b
  ·rename_i v j e f;cases b;obtain⟨V,k,g⟩:=zky h c x e;obtain⟨vs,m,i⟩:=q9z h c xs f;refine⟨V::vs,?_,by simp only[aK];exact⟨V,vs,rfl,g,i⟩⟩;simp_all
  ·cases b
theorem qsy(h:LR ι d n L a.tmps)(i:HR ι H w)(fn:Func){v:AV}(b:(qcj P d n fn.results.toList).f L H=some v):∃ V,(results fn a.tmps).run P w=.ok V w/\aL ι v V:=by
 rw[zch,Array.mapM_eq_mapM_toList];unfold qcj at b;split at b
 ·rename_i x k;obtain⟨V,t,u⟩:=zky h i x b;simp_all
 ·rename_i g;simp only at b;split at b
  ·rename_i l f;cases b;obtain⟨vs,y,m⟩:=q9z h i fn.results.toList f;refine⟨.tuple vs.toArray,?_,by simp only[aL];exact⟨vs,m,rfl⟩⟩;have j:¬ vs.toArray.size=1:=by
    have r:=m.length;have o:∀(xs:List ResultVar) (l:List AV),(zci P d n xs).f L H=some l->l.length=xs.length:=by
     intro xs
     induction xs with
     |nil=>intro l f;cases f;rfl
     |cons x xs ih=>
      intro l f;have c:(match(aBh P d n x).f L H,(zci P d n xs).f L H with|some v,some l=>some (v::l)|_,_=>none)=some l:=f;split at c
      ·rename_i v z A q;cases c;simp[ih _ q]
      ·cases c
    have s:=o _ _ f;intro e;simp at e;have p:fn.results.toList.length=1:=by omega
    obtain⟨x,k⟩:=List.length_eq_one_iff.1 p;exact g x k
   simp_all
  ·cases b
/- leaving -/
theorem MdL.putObj{lo D:Nat}{o:Obj}:∀{ds:List Deferred} {l:List AV} {a:List Nat},MdL lo ι H w l ds a->D∉a->MdL lo ι H (w.putObj D o) l ds a
 | [],l,a,h,_=>h
 |x::ds,l,a,h,hD=>by
  rcases h with⟨j,b,c,d,e,⟨k0,k,k2,m⟩,f⟩|⟨g,i,n,A,C,c,d,e,f⟩
  ·subst c;simp only[qm,not_or]at hD;exact .inl ⟨j,b,rfl,d,e,⟨k0,by simpa using k,by rw[World.putObj_heap_other (Ne.symm hD.1)];exact k2,m⟩,f.putObj hD.2⟩
  ·exact .inr ⟨g,i,n,A,C,c,d,e,f.putObj hD⟩
theorem qxh(t:qer P O){k:Nat}{fn:Func}{w0:World}{H0 q:Hp}{tmps:Array Value}{v:AV}(f:(qcj P d n fn.results.toList).f L q=some v):∀(ds:List Deferred) (l:List AV) (r:List Nat) (i:Im) (H:Hp) (w':World),MdL w0.heap.size i H w' l ds r->LR i d n L tmps->HR i H w'->Fr ι i H0 H w0 w'->aA8 O l H=some q -> LeavesInM Fence.wide k P fn tmps (Post ι H0 w0 v q) ds .returning w'
 | [],l,r,i,H,w',hM,hL,hH,hf,hr=>by rw[hM.1]at hr;cases hr;obtain⟨V,p,j⟩:=qsy (a:={tmps:=tmps,defers:=[]}) hL hH fn f;exact⟨V,p,i,j,hH,hf⟩
 |x::ds,l,r,i,H,w',hM,hL,hH,hf,hr=>by
  rcases hM with⟨D,w,p,j,y,⟨X,d1,R,S⟩,z⟩|⟨g,B,I,A,C,p,j,y,z⟩
  ·subst j;refine⟨by simp,.inl ⟨D,w'.putObj D (.deferred none),rfl,run_takeDeferred R,qxh t f ds l w i H _ (z.putObj y) hL ?_ ?_ hr⟩⟩
   ·exact⟨hH.top,fun b s=>(hH.blk b s).keep fun l hd K=>World.putObj_heap_other (S b l s hd K),fun b l s p j=>by have:=hH.low b l s p j;simpa using this,hH.inj,hH.fresh,hH.free⟩
   ·exact⟨hf.le,hf.nx,hf.dom,hf.os,hf.tape,hf.output,by simpa using hf.size,fun c M N=>by rw[World.putObj_heap_other (by omega)];exact hf.keep c M N,hf.new,hf.live⟩
  ·subst p;subst j;have m:(match O (.d g) B H with| .ok _ H'=>aA8 O I H'| .bad=>none)=some q:=hr;split at m
   ·rename_i Y H1 o;obtain⟨J,T⟩:=t.df _ _ _ _ _ o i w' _ hH y;have h:(A.toList++C.toList).toArray=A++C:=by simp
    rw[h]at J;refine⟨by simp,.inr ⟨fun e=>by simp[Fence.wide]at e,.func g,C,g,(A.toList++C.toList).toArray,rfl,?_,fun _ _=>trivial,(T _).mono fun e W u Q=>?_⟩⟩
    ·rw[h];simpa [invoke] using J
    ·obtain⟨rfl,E⟩:=Q;cases e with
     |returned V=>obtain⟨F,Z,U,G⟩:=E;exact qxh t f ds I r F H1 u (z.fr G) (hL.mono G.le) U (hf.trans G) m
     |panicked=>exact E.elim
     |outgrown=>exact E.elim
   ·cases m
theorem qkp{args:List AV}{k:Nat}(b:args.length<=k)(a:k+1<=262144):dl ((dJ (iF (k+1)) k).f (nR args 0 (same .undef _)))=[]:=by have hd:=zbe (k+1) a;rw[qh2 args 0 _ k (by omega) (by omega),lu (by omega),qg0];rfl
theorem LR.start{args:List AV}{a:List Value}(b:aK ι args a){k:Nat}(d:args.length<=k)(c:k+1<=262144):LR ι (iF (k+1)) k (nR args 0 (same .undef _)) (a.toArray++Array.replicate (k-a.toArray.size) Go.undef):=by
 have f:=b.length;have hd:=zbe (k+1) c;refine⟨by simp;omega,by omega,fun i e=>?_⟩;rw[qh2 args 0 _ i (by omega) (by omega)];by_cases h:i<args.length
 ·obtain⟨v,g,j⟩:=b.get i args[i] (lL h);have:(a.toArray++Array.replicate (k-a.toArray.size) Go.undef).getD i Go.undef=v:=by
   simp_all
  simp_all
 ·rw[lu (by omega),qg0];have:(a.toArray++Array.replicate (k-a.toArray.size) Go.undef).getD i Go.undef=Go.undef:=by
   simp_all
  trivial
structure z98(P:Program)(O:Call)(f:FuncId)(args:List AV)(H:Hp)(v:AV)(H':Hp) where
 fn:Func
 c:Code
 hfn:P.funcs[f]? =some fn
 hname:¬ fn.name = "runtime.NumGoroutine"
 hbody:fn.body=some c
 hb1:args.length<=fn.ntmps
 hb2:fn.ntmps+1<=262144
 ex:Ex
 L':TT AV (iF (fn.ntmps+1))
 H1:Hp
 run:(den P (iF (fn.ntmps+1)) fn.ntmps c).f O (nR args 0 (same .undef _)) H=.ok ex L' H1
 hex:ex=.normal\/ex=.ret
 dfr:aA8 O (dl ((dJ (iF (fn.ntmps+1)) fn.ntmps).f L')) H1=some H'
 res:(qcj P (iF (fn.ntmps+1)) fn.ntmps fn.results.toList).f L' H'=some v
theorem zaz{f:FuncId}{args:List AV}{v:AV}{j:Hp}(a:(aP P f).f O args H=.ok v j):Nonempty (z98 P O f args H v j):=by
 unfold aP at a;split at a
 ·cases a
 ·rename_i fn l;split at a
  ·cases a
  ·rename_i d;split at a
   ·cases a
   ·rename_i c g;simp only at a;cases i:(Nat.ble args.length fn.ntmps&&Nat.ble (fn.ntmps+1) 262144)with
    |false=>rw[i]at a;cases a
    |true=>
     rw[i]at a;simp only[qc]at i;have m:∀{h:Ex} {k:TT AV (iF (fn.ntmps+1))} {H1:Hp},(den P (iF (fn.ntmps+1)) fn.ntmps c).f O (nR args 0 (same .undef _)) H=.ok h k H1->(h=.normal\/h=.ret) ->
       iD fn.ntmps O (qcj P (iF (fn.ntmps+1)) fn.ntmps fn.results.toList).f k H1=.ok v j->Nonempty (z98 P O f args H v j):=fun{h k H1} n o b=>by
      unfold iD at b;split at b
      ·rename_i q hd;unfold fM at b;split at b
       ·rename_i u p;cases b;exact⟨⟨fn,c,l,fun e=>d (by rw[e];rfl),g,ai i.1,ai i.2,h,k,H1,n,o,hd,p⟩⟩
       ·cases b
      ·cases b
     unfold aC6 at a;split at a
     ·simp_all
     ·simp_all
     ·cases a
theorem z2u(c:qer P O)(h:P.follows .mixedOrders=true){f:FuncId}{args:List AV}{v:AV}{d:Hp}(i:(aP P f).f O args H=.ok v d){a:List Value}(j:HR ι H w)(l:aK ι args a):(callFunc f a.toArray).run P w=.ok (.enter f a.toArray) w/\∀ m,CallsIn Fence.wide m P f a.toArray w (Post ι H w v d):=by
 obtain⟨K⟩:=zaz i;refine⟨by simp[callFunc,K.hfn,K.hname,K.hbody],fun m=>?_⟩;have b:=LR.start l K.hb1 K.hb2;refine callsIn_of_wp_marks K.hfn K.hbody trivial ?_;refine zbf (m:=m) c h K.c Fence.zR (.inl rfl) (pl:=false) (lo:=w.heap.size) j b (fun e=>by cases e) (by rw[qkp K.hb1 K.hb2];exact Md.nil (lh _)) K.run fun g w' n o p q r=>?_;obtain⟨_,_,s,t⟩:=p;have:=qxh (k:=m) (fn:=K.fn) (tmps:=g.tmps) (v:=v) c K.res g.defers _ s n K.H1 w' t o q r K.dfr;rcases K.hex with e|e
 ·rw[e];exact this
 ·rw[e];exact this
theorem z2v(y:qer P O)(z:P.follows .mixedOrders=true){f:FuncId}{args:List AV}{v:AV}{j:Hp}(A:(aP P f).f O args H=.ok v j)(k:qpa P f=true){l:List Value}(B:HR ι H w)(C:aK ι args l):(callFunc f l.toArray).run P w=.ok (.enter f l.toArray) w/\∀ m,CallsDIn Fence.wide m P f l.toArray .returning w (fun e D w'=>D=.returning/\Post ι H w v j e w'):=by
 obtain⟨⟨fn,c,b,d,a,g,h,M,N,H1,r,s,i,t⟩⟩:=zaz A;refine⟨by simp[callFunc,b,d,a],fun m=>?_⟩;have o:=LR.start C g h;have p:kG c=true:=by unfold qpa at k;rw[b]at k;simp only[a]at k;exact k
 refine callsDIn_of_wp (R:=Post ι H w v j) b a trivial ?_;refine zbf (m:=m) y z c Fence.zR (.inl rfl) (pl:=true) (lo:=w.heap.size) B o (fun _=>p) (by rw[qkp g h];exact Md.nil (lh _)) r fun E w' F G I u J=>?_;obtain⟨n,_,Q,x⟩:=I;have n:=n rfl;rw[n]at x;rw[x.1]at i;have q:H1=j:=Option.some.inj i;subst q;obtain⟨V,K,L⟩:=qsy G u fn t;have:bodyPost P fn (Post ι H w v H1) .normal E w':=⟨n,V,K,F,L,u,J⟩;rcases s with rfl|rfl
 ·exact this
 ·exact this
theorem qzj:∀(a:List Tmp) (args:List AV) (b:List Value) {L:TT AV d} {tmps:Array Value},LR ι d n L tmps->aK ι args b->a.length=args.length->(∀p∈a,p<n) -> LR ι d n (qfv L a args) ((a.zip b).foldl (fun tmps x=>tmps.setIfInBounds x.1 x.2) tmps)
 | [],args,b,L,tmps,h,ha,hl,_=>by trivial
 |p::a,[],b,L,tmps,h,ha,hl,_=>by simp at hl
 |p::a,x::args,b,L,tmps,h,ha,hl,hp=>by obtain⟨X,R,rfl,e,f⟩:=ha;exact qzj a args R (h.set (hp p (by simp)) e) f (by simpa using hl) fun q c=>hp q (by simp[c])
theorem qoy(b:n<8 ^ d):∀(a:List Tmp) (args:List AV) {L:TT AV d},(∀p∈a,p<n)->(dJ d n).f (qfv L a args)=(dJ d n).f L
 | [],args,L,_=>by unfold qfv;rfl
 |p::a,[],L,_=>by unfold qfv;rfl
 |p::a,x::args,L,h=>by unfold qfv;have c:=h p (by simp);rw[qoy b a args fun q f=>h q (by simp[f]),qey _ _ _ _ _ b (lEK c b),lu (fun e=>absurd (e▸c) (xq _))]
theorem LR.slot{L:TT AV d}{tmps:Array Value}(h:LR ι d n L tmps)(v:AV):LR ι d n ((setter d n).f L v) tmps:=by refine⟨h.size,h.fits,fun i a=>?_⟩;rw[qey _ _ _ _ _ (lEK a h.fits) h.fits,lu (by omega)];exact h.get i a
theorem zjs(hC:qer P O)(hm:P.follows .mixedOrders=true){b:Nat}{args:List AV}{v:AV}{H':Hp}(g:qhi P O b args H=.ok v H'){C:List Value}{loc:Loc}(Y:HR ι H w)(ha:aK ι args C)(i:ι b=some loc):∃f tmps c h,(Instr.yield loc.blk C.toArray).run P w=.ok (.round loc.blk f tmps c h) w/\∀ m,RoundIn Fence.wide m P loc.blk f tmps c h w (Post ι H w v H'):=by
 have q:=Y.lt i;unfold qhi at g;split at g
 ·rename_i d n L u c h N;cases D:(Nat.beq u.length args.length&&u.all (fun p=>Nat.blt p n))with
  |false=>rw[D]at g;cases g
  |true=>
   rw[D]at g;simp only[qc,yl]at D;have hb1:=qp D.1;have E:=Y.blk b q;rw[N]at E;obtain⟨l,V,b1,b2,b3,b4,b5,b6,b7,W,b9,Q⟩:=E;rw[i]at b1;cases b1;have hy:=run_yield (P:=P) (args:=C.toArray) b2 (by
    have:=ha.length;have:V.params.size=u.length:=by rw[<-b5];simp
    simp;omega)
   refine⟨_,_,_,_,hy,fun m=>?_⟩;have hLR:=qzj u args C (W.slot .undef) ha hb1 (fun p Z=>uE (D.2 p Z));have hsl:dl ((dJ d n).f (qfv ((setter d n).f L .undef) u args))=[]:=by rw[qoy W.fits u args fun p Z=>uE (D.2 p Z),qey _ _ _ _ _ W.fits W.fits,kz rfl];rfl
   have htm:(V.params.zip C.toArray).foldl (fun tmps (t,a)=>tmps.setIfInBounds t a) V.tmps=(u.zip C).foldl (fun tmps x=>tmps.setIfInBounds x.1 x.2) V.tmps:=by rw[<-b5,<-Array.foldl_toList];simp
   rw[htm,b6,b7];split at g
   ·rename_i L1 H1 h1;split at g
    ·rename_i d' n' L' ps' nH y z;refine roundIn_of_wpIn (F:=Fence.wide) trivial ?_;refine zbf (m:=m) hC hm c (Fence.nI _) (.inr b9) (pl:=true) (lo:=0) Y hLR (fun _=>b9) (by rw[hsl];exact Md.nil (gy _)) h1 fun a1 w1 ι1 r1 r2 r3 r4=>?_;have G:=r4.le _ _ i;have I:=r3.blk b q;rw[z]at I;obtain⟨l1,R,c1,c2,c3,c4,c5,c6,c7,c8,c9,c10⟩:=I;rw[G]at c1;cases c1;refine⟨_,run_beginRound c2 (by rw[c3];rfl),?_⟩;have J:loc.blk<w1.heap.size:=r3.low b loc q (by rw[z];rfl) G;obtain⟨z1,z2⟩:=r3.uJ (k:=.loop false none d' n' L' ps' nH y) (o:=.loop {R with state:=.busy}) G (by rw[z];rfl)
      ⟨loc,{R with state:=.busy},G,World.putObj_heap_same J,rfl,c4,c5,c6,c7,c8,c9,c10⟩
     unfold endRound at g;split at g
     ·cases g
     ·rename_i e L2 H2 h2;split at g
      ·cases g
      ·rename_i j X;split at g
       ·rename_i d2 n2 L3 S T U A;cases g;refine zbf (m:=m) hC hm h (Fence.nI _) (.inr Q) (pl:=true) (lo:=0) z1 (r1.mono z2.le) (fun _=>Q) (r2.fr z2) h2 fun a2 w2 ι2 s1 s2 s3 s4=>?_;have s:=s4.le _ _ G;have K:=s3.blk b q;rw[A]at K;obtain⟨l2,B,g1,g2,g3,g4,g5,g6,g7,g8,g9,g10⟩:=K;rw[s]at g1;cases g1;have M:loc.blk<w2.heap.size:=s3.low b loc q (by rw[A];rfl) s;obtain⟨y1,y2⟩:=s3.uJ (k:=.loop j.isNone j d2 n2 L3 S T U) (o:=.loop {B with state:=if j.isNone then .ready else .done,pending:=j}) s (by rw[A];rfl)
         ⟨loc,{B with state:=if j.isNone then .ready else .done,pending:=j},s,World.putObj_heap_same M,by cases j<;>rfl,rfl,g5,g6,g7,g8,g9,g10⟩
        have hR:Post ι H w (.bool j.isNone) (H2.put b (.loop j.isNone j d2 n2 L3 S T U)) (.returned (.bool j.isNone)) (w2.putObj loc.blk (.loop {B with state:=if j.isNone then .ready else .done,pending:=j})):=
         ⟨ι2,by simp only[aL],y1,((r4.trans z2).trans s4).trans y2⟩
        have r:=run_endRound (P:=P) j g2;cases e with
        |normal=>cases X;exact⟨_,_,r,hR⟩
        |ret=>cases X;exact⟨_,_,r,hR⟩
        |exit id=>cases X;exact⟨_,_,r,hR⟩
        |goto l=>cases X
       ·cases g
    ·cases g
   ·cases g
 ·cases g
end Go.Ev
end
noncomputable section
namespace Go.Ev
open Go.RowKit Go.WideShapes Go.ChangeShapes
variable {P:Program} {w:World}
theorem qp6(n b:Nat):Hp.get ⟨Hp.empty.t,n⟩ b=.dead:=by
 show(bif Nat.blt b 2097152 then(dJ HD b).f (same bO.dead HD)else bO.dead)=bO.dead;cases Nat.blt b 2097152 with
 |true=>exact qg0 _ _ b
 |false=>rfl
theorem HR.empty:HR (fun _=>none) Hp.empty w:=by have a:∀ b,Hp.empty.get b=.dead:=fun b=>qp6 0 b;exact⟨oI,fun b _=>by rw[a];trivial,fun b l _ _ h=>(by cases h),fun b c l m _ _ _ _ h=>(by cases h),fun _ _=>rfl,fun b _ _=>a b⟩
noncomputable section
variable {Hd:Type} {enc:TypeId×Value->Hd}
theorem zcn{f:Func}{s:ChangeSpec}{c l d m:Bool}{W q:World}{args:Array Value}{v:Value}{ds u:List (DataW Hd)}{a pa pv:List MemPlace}(z:DataW.Whole enc P f.params.toList s.vars c W args.toList ds u a)(h:∀(b:Nat) (n:Nat->Bool) (hd:Bool),DataW.TrodAll enc P q b n hd f.resultTypes.toList (v.resultList f.resultTypes.size) (s.fn Hd (ds++u)).results [])(e:∀ n:Nat->Bool,(∀p∈a,n p.block=true)->DataW.TrodAll enc P q 0 n true f.params.toList args.toList (s.fn Hd (ds++u)).args pa)(g:∀ n:Nat->Bool,(∀p∈a,n p.block=true)->DataW.TrodVars enc P q n s.vars (s.fn Hd (ds++u)).vars pv)(A:a=pa++pv)(C:Below W.heap.size W q)(B:∀(j:Nat) (t:TypeId) (r:Value),f.resultTypes[j]? =some t->(v.resultList f.resultTypes.size)[j]? =some r->Value.okWide P q .any 0 t r):s.post enc P f c l d m W args v q:=by
 subst A;have x:=z.lt;have k:∀ p∈pa++pv,decide (p.block<W.heap.size)=true:=fun p i=>qw (x p i);refine⟨ds,u,pa++pv,[],pa,pv,z,h _ _ _,e (fun b=>decide (b<W.heap.size)) k,g (fun b=>decide (b<W.heap.size)) k,World.keptBut_mono (fun p i=>⟨i,.inr (pg.1 i)⟩) (C.frame (· ∈ pa++pv)),fun _=>?_⟩;obtain⟨_,_,_,_,_,o,D⟩:=z;refine⟨B,_,_,([]++pa)++pv,⟨[]++pa,pv,trodAll_append (e _ fun _ _=>rfl) (h _ _ _),g _ fun _ _=>rfl,rfl,fun b w i=>?_,fun E=>?_⟩,fun p i _=>?_⟩
 ·have y:MemPlace.cell b w∈pa++pv:=by simpa using i
  rw[C.frozen (x _ y)];exact o b w y
 ·simp_all
 ·simpa using i
end
end Go.Ev
end
noncomputable section
namespace Go.Ev
def z7w(k:IntKind):Nat:=@IntKind.rec (fun _=>Nat) 0 1 2 3 4 5 6 7 k
def aKD(a b:IntKind):Bool:=Nat.beq (z7w a) (z7w b)
theorem z2y(a b:IntKind):aKD a b=wK a b:=by cases a<;>cases b<;>rfl
def yB(k:IntKind):Nat:=@IntKind.rec (fun _=>Nat) 128 32768 2147483648 9223372036854775808 256 65536 4294967296 18446744073709551616 k
def aDW(k:IntKind):Bool:=@IntKind.rec (fun _=>Bool) true true true true false false false false k
def zbm(k:IntKind)(n:Int):Int:=
 @Int.rec (fun _=>Int) (fun m=>@Bool.rec (fun _=>Int) (k.wrap (.ofNat m)) (.ofNat m) (Nat.blt m (yB k))) (fun m=>@Bool.rec (fun _=>Int) (k.wrap (.negSucc m)) (.negSucc m) (Bool.and (aDW k) (Nat.blt m (yB k)))) n
theorem zoe(k:IntKind)(n:Int):zbm k n=uU k n:=by
 cases n with
 |ofNat m=>
  show @Bool.rec (fun _=>Int) _ _ (Nat.blt m (yB k))=bif qxq k (.ofNat m)then _ else _;have:qxq k (.ofNat m)=Nat.blt m (yB k):=by cases k<;>rfl
  rw[this];cases Nat.blt m (yB k)<;>rfl
 |negSucc m=>
  show @Bool.rec (fun _=>Int) _ _ (Bool.and (aDW k) (Nat.blt m (yB k)))=bif qxq k (.negSucc m)then _ else _;have:qxq k (.negSucc m)=Bool.and (aDW k) (Nat.blt m (yB k)):=by cases k<;>rfl
  rw[this];cases Bool.and (aDW k) (Nat.blt m (yB k))<;>rfl
def aM5(a b:Int):Int:=
 @Int.rec (fun _=>Int) (fun m=>@Int.rec (fun _=>Int) (fun n=>Int.ofNat (Nat.add m n)) (fun n=>Int.add (.ofNat m) (.negSucc n)) b) (fun m=>Int.add (.negSucc m) b) a
theorem z4h(a b:Int):aM5 a b=a+b:=by cases a<;>cases b<;>rfl
def aMW(a b:Int):Int:=
 @Int.rec (fun _=>Int) (fun m=>@Int.rec (fun _=>Int) (fun n=>@Bool.rec (fun _=>Int) (Int.negSucc (Nat.pred (Nat.sub n m))) (Int.ofNat (Nat.sub m n)) (Nat.ble n m)) (fun n=>Int.sub (.ofNat m) (.negSucc n)) b) (fun m=>Int.sub (.negSucc m) b) a
theorem z1b(a b:Int):aMW a b=a-b:=by
 cases a with
 |negSucc m=>rfl
 |ofNat m=>
  cases b with
  |negSucc n=>rfl
  |ofNat n=>
   show @Bool.rec (fun _=>Int) _ _ (Nat.ble n m)=_;cases h:Nat.ble n m with
   |true=>have h:=ai h;exact Int.ofNat_sub h
   |false=>
    have h:¬ n<=m:=fun c=>by rw[yx c]at h;cases h
    show Int.negSucc (Nat.pred (n-m))=(m:Int)-(n:Int);have:(Nat.pred (n-m):Int)+1=(n:Int)-(m:Int):=by have d:Nat.pred (n-m)+1=n-m:=Nat.succ_pred_eq_of_pos (by omega);omega
    omega
def aLX(a b:Int):Int:=
 @Int.rec (fun _=>Int) (fun m=>@Int.rec (fun _=>Int) (fun n=>Int.ofNat (Nat.mul m n)) (fun n=>Int.mul (.ofNat m) (.negSucc n)) b) (fun m=>Int.mul (.negSucc m) b) a
theorem z2h(a b:Int):aLX a b=a*b:=by cases a<;>cases b<;>rfl
def ltF(a b:Int):Bool:=
 @Int.rec (fun _=>Bool) (fun m=>@Int.rec (fun _=>Bool) (fun n=>Nat.blt m n) (fun _=>false) b) (fun m=>@Int.rec (fun _=>Bool) (fun _=>true) (fun n=>Nat.blt n m) b) a
theorem z7j(a b:Int):ltF a b=oU a b:=by cases a<;>cases b<;>rfl
def aGO(a b:Int):Bool:=
 @Int.rec (fun _=>Bool) (fun m=>@Int.rec (fun _=>Bool) (fun n=>Nat.beq m n) (fun _=>false) b) (fun m=>@Int.rec (fun _=>Bool) (fun _=>false) (fun n=>Nat.beq n m) b) a
theorem z2z(a b:Int):aGO a b=qY a b:=by
 cases a with
 |ofNat m=>cases b<;>rfl
 |negSucc m=>
  cases b with
  |ofNat n=>rfl
  |negSucc n=>
   show Nat.beq n m=Nat.beq m n;cases h:Nat.beq m n with
   |true=>rw[qp h];exact lEL n
   |false=>
    cases c:Nat.beq n m with
    |false=>rfl
    |true=>rw[qp c,lEL]at h;cases h
def aEX(b:Bool):Bool:=
 @Bool.rec (fun _=>Bool) (true) (false) (b)
theorem z19(b:Bool):aEX b= !b:=by cases b<;>rfl
def q60:BinOp->B2
 | .add=>⟨fun k a b=>.val (.int k (zbm k (aM5 a b)))⟩
 | .sub=>⟨fun k a b=>.val (.int k (zbm k (aMW a b)))⟩
 | .mul=>⟨fun k a b=>.val (.int k (zbm k (aLX a b)))⟩
 | .eql=>⟨fun _ a b=>.val (.bool (aGO a b))⟩
 | .neq=>⟨fun _ a b=>.val (.bool (aEX (aGO a b)))⟩
 | .lss=>⟨fun _ a b=>.val (.bool (ltF a b))⟩
 | .leq=>⟨fun _ a b=>.val (.bool (aEX (ltF b a)))⟩
 | .gtr=>⟨fun _ a b=>.val (.bool (ltF b a))⟩
 | .geq=>⟨fun _ a b=>.val (.bool (aEX (ltF a b)))⟩
 |op=>mM op
theorem zc3(a:BinOp):q60 a=mM a:=by cases a<;>simp only[q60,mM,zoe,z4h,z1b,z2h,z2z,z7j,z19]
def z2s(g:IntKind->Int->Int->R0)(x y:AV):R0:=
 @AV.rec (fun _=>R0) (fun _=>PUnit) R0.bad (fun _=>R0.bad) (fun _=>R0.bad) (fun k a=>@AV.rec (fun _=>R0) (fun _=>PUnit) R0.bad (fun _=>R0.bad) (fun _=>R0.bad) (fun k' b=>@Bool.rec (fun _=>R0) (R0.bad) (g k a b) (aKD k k')) (fun _ _=>R0.bad) (fun _ _=>R0.bad) R0.bad (fun _ _ _ _ _=>R0.bad) R0.bad R0.bad (fun _=>R0.bad) R0.bad (fun _ _ _ _ _=>R0.bad) (fun _=>R0.bad) R0.bad (fun _ _ _=>R0.bad) R0.bad (fun _ _=>R0.bad) (fun _ _=>R0.bad) PUnit.unit (fun _ _ _ _=>PUnit.unit) y) (fun _ _=>R0.bad) (fun _ _=>R0.bad) R0.bad (fun _ _ _ _ _=>R0.bad) R0.bad R0.bad (fun _=>R0.bad) R0.bad (fun _ _ _ _ _=>R0.bad) (fun _=>R0.bad) R0.bad (fun _ _ _=>R0.bad) R0.bad (fun _ _=>R0.bad) (fun _ _=>R0.bad) PUnit.unit (fun _ _ _ _=>PUnit.unit) x
theorem zty:z2s=gU:=by funext g x y;cases x<;>first|rfl|(cases y<;>first|rfl|(simp only[z2s,z2y,gU];generalize wK _ _=e;cases e<;>rfl))
def z5r(g:Nat->Nat->Nat->Nat->R0)(x y:AV):R0:=
 @AV.rec (fun _=>R0) (fun _=>PUnit) R0.bad (fun _=>R0.bad) (fun _=>R0.bad) (fun _ _=>R0.bad) (fun n a=>@AV.rec (fun _=>R0) (fun _=>PUnit) R0.bad (fun _=>R0.bad) (fun _=>R0.bad) (fun _ _=>R0.bad) (fun m b=>g n a m b) (fun _ _=>R0.bad) R0.bad (fun _ _ _ _ _=>R0.bad) R0.bad R0.bad (fun _=>R0.bad) R0.bad (fun _ _ _ _ _=>R0.bad) (fun _=>R0.bad) R0.bad (fun _ _ _=>R0.bad) R0.bad (fun _ _=>R0.bad) (fun _ _=>R0.bad) PUnit.unit (fun _ _ _ _=>PUnit.unit) y) (fun _ _=>R0.bad) R0.bad (fun _ _ _ _ _=>R0.bad) R0.bad R0.bad (fun _=>R0.bad) R0.bad (fun _ _ _ _ _=>R0.bad) (fun _=>R0.bad) R0.bad (fun _ _ _=>R0.bad) R0.bad (fun _ _=>R0.bad) (fun _ _=>R0.bad) PUnit.unit (fun _ _ _ _=>PUnit.unit) x
theorem zsg:z5r=gX:=by funext g x y;cases x<;>first|rfl|(cases y<;>rfl)
def zxj(c a b:AV):R0:=
 @AV.rec (fun _=>R0) (fun _=>PUnit) R0.bad (fun _=>R0.bad) (fun x=>@Bool.rec (fun _=>R0) (.val b) (.val a) (x)) (fun _ _=>R0.bad) (fun _ _=>R0.bad) (fun _ _=>R0.bad) R0.bad (fun _ _ _ _ _=>R0.bad) R0.bad R0.bad (fun _=>R0.bad) R0.bad (fun _ _ _ _ _=>R0.bad) (fun _=>R0.bad) R0.bad (fun _ _ _=>R0.bad) R0.bad (fun _ _=>R0.bad) (fun _ _=>R0.bad) PUnit.unit (fun _ _ _ _=>PUnit.unit) c
theorem zlk:zxj=dK:=by funext c a b;cases c<;>first|rfl|(rename_i x;cases x<;>rfl)
def aHl(P:Program)(op:BinOp)(t:TypeId):V2:=
 match P.underlying t with
 |some (.int _)=>
  match op with
  | .shl| .shr=>wD P op t
  |_=>match q60 op with|⟨g⟩=>⟨z2s g⟩
 |some .string=>match nT op with|⟨g⟩=>⟨z5r g⟩
 |_=>wD P op t
theorem z4d(P:Program)(a:BinOp)(t:TypeId):aHl P a t=wD P a t:=by
 unfold aHl;split
 ·rename_i h;split
  ·rfl
  ·rfl
  ·rw[zc3,zty];unfold wD;rw[h];simp
 ·rename_i h;rw[zsg];unfold wD;rw[h]
 ·rfl
def zmb(H:Hp)(a:AV):R0:=
 @AV.rec (fun _=>R0) (fun _=>PUnit) R0.bad (fun _=>R0.bad) (fun _=>R0.bad) (fun _ _=>R0.bad) (fun _ _=>R0.bad) (fun b o=>@bO.rec (fun _=>R0) R0.bad (fun d n c _ _=>@Bool.rec (fun _=>R0) (R0.bad) (.val ((dJ d o).f c)) (Nat.blt o n)) (fun _ _=>R0.bad) (fun _ _ _=>R0.bad) (fun _ _ _ _ _ _ _ _=>R0.bad) (H.get b)) R0.bad (fun _ _ _ _ _=>R0.bad) R0.bad R0.bad (fun _=>R0.bad) R0.bad (fun _ _ _ _ _=>R0.bad) (fun _=>R0.bad) R0.bad (fun _ _ _=>R0.bad) R0.bad (fun _ _=>R0.bad) (fun _ _=>R0.bad) PUnit.unit (fun _ _ _ _=>PUnit.unit) a
theorem zma:zmb=aO:=by
 funext H a;cases a<;>first|rfl|skip
 rename_i b o;show _=bK (H.get b) o;unfold zmb;simp only;generalize H.get b=k;cases k<;>first|rfl|skip
 rename_i d n c e z;show @Bool.rec (fun _=>R0) _ _ (Nat.blt o n)=bif Nat.blt o n then _ else _;cases Nat.blt o n<;>rfl
def zl8(k:Nat)(H:Hp)(a:AV):R0:=
 @AV.rec (fun _=>R0) (fun _=>PUnit) R0.bad (fun _=>R0.bad) (fun _=>R0.bad) (fun _ _=>R0.bad) (fun _ _=>R0.bad) (fun b o=>@bO.rec (fun _=>R0) R0.bad (fun _ n c _ _=>@Bool.rec (fun _=>R0) (R0.bad) (.val (.agg (rdN c k o))) (Nat.ble (Nat.add o k) n)) (fun _ _=>R0.bad) (fun _ _ _=>R0.bad) (fun _ _ _ _ _ _ _ _=>R0.bad) (H.get b)) R0.bad (fun _ _ _ _ _=>R0.bad) R0.bad R0.bad (fun _=>R0.bad) R0.bad (fun _ _ _ _ _=>R0.bad) (fun _=>R0.bad) R0.bad (fun _ _ _=>R0.bad) R0.bad (fun _ _=>R0.bad) (fun _ _=>R0.bad) PUnit.unit (fun _ _ _ _=>PUnit.unit) a
theorem zl7:zl8=dQ:=by
 funext k H a;cases a<;>first|rfl|skip
 rename_i b o;show _=aC1 (jG (H.get b) o k);unfold zl8;simp only;generalize H.get b=B;cases B<;>first|rfl|skip
 rename_i d n c e z;show @Bool.rec (fun _=>R0) _ _ (Nat.ble (Nat.add o k) n)=aC1 (bif Nat.ble (o+k) n then _ else _);cases Nat.ble (o+k) n<;>rfl
def aHw(x:AV):Bool:=
 @AV.rec (fun _=>Bool) (fun _=>PUnit) (false) (fun _=>false) (fun _=>true) (fun _ _=>true) (fun _ _=>true) (fun _ _=>true) true (fun _ _ _ _ _=>true) true true (fun _=>true) true (fun _ _ _ _ _=>true) (fun _=>true) true (fun _ _ _=>true) true (fun _ _=>false) (fun _ _=>false) PUnit.unit (fun _ _ _ _=>PUnit.unit) x
def aEQ(H:Hp)(b o:Nat)(v:AV):R1:=@bO.rec (fun _=>R1) R1.bad (fun d n c ro z=>@Bool.rec (fun _=>R1) (@Bool.rec (fun _=>R1) (R1.bad) (.ok .undef (H.put b (.cells d n ((setter d o).f c v) false z))) (Nat.blt o n)) (R1.bad) (ro)) (fun _ _=>R1.bad) (fun _ _ _=>R1.bad) (fun _ _ _ _ _ _ _ _=>R1.bad) (H.get b)
theorem z1e(H:Hp)(b o:Nat)(v:AV):aEQ H b o v=storeAt H b o [v] .undef:=by
 unfold aEQ storeAt;generalize H.get b=k;cases k<;>first|rfl|skip
 rename_i d n c a z;cases a with
 |true=>rfl
 |false=>show @Bool.rec (fun _=>R1) _ _ (Nat.blt o n)=_;have:uK (.cells d n c false z) o [v]=bif Nat.blt o n then some (.cells d n ((setter d o).f c v) false z)else none:=rfl;rw[this];cases Nat.blt o n<;>rfl
def zkb(H:Hp)(a x:AV):R1:=@AV.rec (fun _=>R1) (fun _=>PUnit) R1.bad (fun _=>R1.bad) (fun _=>R1.bad) (fun _ _=>R1.bad) (fun _ _=>R1.bad) (fun b o=>@Bool.rec (fun _=>R1) (R1.bad) (aEQ H b o x) (aHw x)) R1.bad (fun _ _ _ _ _=>R1.bad) R1.bad R1.bad (fun _=>R1.bad) R1.bad (fun _ _ _ _ _=>R1.bad) (fun _=>R1.bad) R1.bad (fun _ _ _=>R1.bad) R1.bad (fun _ _=>R1.bad) (fun _ _=>R1.bad) PUnit.unit (fun _ _ _ _=>PUnit.unit) a
theorem zb9:zkb=jX:=by
 funext H a x;cases a<;>first|rfl|skip
 rename_i b o;show @Bool.rec (fun _=>R1) _ (aEQ H b o x) (aHw x)=_;rw[z1e];cases x<;>rfl
def zm3(off:Nat)(x:AV):R0:=
 @AV.rec (fun _=>R0) (fun _=>PUnit) R0.bad (fun _=>R0.bad) (fun _=>R0.bad) (fun _ _=>R0.bad) (fun _ _=>R0.bad) (fun b o=>.val (.ptr b (Nat.add o off))) R0.bad (fun _ _ _ _ _=>R0.bad) R0.bad R0.bad (fun _=>R0.bad) R0.bad (fun _ _ _ _ _=>R0.bad) (fun _=>R0.bad) R0.bad (fun _ _ _=>R0.bad) R0.bad (fun _ _=>R0.bad) (fun _ _=>R0.bad) PUnit.unit (fun _ _ _ _=>PUnit.unit) x
theorem zc7:zm3=aQ:=by funext off x;cases x<;>rfl
def zm2(p:P1)(off:Nat)(x:AV):R0:=
 @AV.rec (fun _=>R0) (fun _=>PUnit) R0.bad (fun _=>R0.bad) (fun _=>R0.bad) (fun _ _=>R0.bad) (fun _ _=>R0.bad) (fun _ _=>R0.bad) R0.bad (fun _ _ _ _ _=>R0.bad) R0.bad R0.bad (fun _=>R0.bad) R0.bad (fun _ _ _ _ _=>R0.bad) (fun _=>R0.bad) R0.bad (fun _ _ _=>R0.bad) R0.bad (fun l _=>@Option.rec AV (fun _=>R0) R0.bad (fun v=>.val v) (p.f l off)) (fun _ _=>R0.bad) PUnit.unit (fun _ _ _ _=>PUnit.unit) x
theorem zc6:zm2=za8:=by
 funext p off x;cases x<;>first|rfl|skip
 rename_i l;show @Option.rec AV (fun _=>R0) _ _ (p.f l off)=match p.f l off with|some v=>.val v|none=>.bad
 cases p.f l off<;>rfl
def z7z(z:Nat)(x i:AV):R0:=
 @AV.rec (fun _=>R0) (fun _=>PUnit) R0.bad (fun _=>R0.bad) (fun _=>R0.bad) (fun _ _=>R0.bad) (fun _ _=>R0.bad) (fun _ _=>R0.bad) R0.bad (fun b o len _ _=>@AV.rec (fun _=>R0) (fun _=>PUnit) R0.bad (fun _=>R0.bad) (fun _=>R0.bad) (fun _ i=>@Int.rec (fun _=>R0) (fun i=>@Bool.rec (fun _=>R0) (R0.bad) (.val (.ptr b (Nat.add o (Nat.mul i z)))) (Nat.blt i len)) (fun _=>R0.bad) i) (fun _ _=>R0.bad) (fun _ _=>R0.bad) R0.bad (fun _ _ _ _ _=>R0.bad) R0.bad R0.bad (fun _=>R0.bad) R0.bad (fun _ _ _ _ _=>R0.bad) (fun _=>R0.bad) R0.bad (fun _ _ _=>R0.bad) R0.bad (fun _ _=>R0.bad) (fun _ _=>R0.bad) PUnit.unit (fun _ _ _ _=>PUnit.unit) i) R0.bad R0.bad (fun _=>R0.bad) R0.bad (fun _ _ _ _ _=>R0.bad) (fun _=>R0.bad) R0.bad (fun _ _ _=>R0.bad) R0.bad (fun _ _=>R0.bad) (fun _ _=>R0.bad) PUnit.unit (fun _ _ _ _=>PUnit.unit) x
theorem ztz:z7z=aG:=by
 funext z x i;cases x<;>first|rfl|skip
 rename_i b o a c d;cases i<;>first|rfl|skip
 rename_i k n;cases n<;>first|rfl|skip
 rename_i i;show @Bool.rec (fun _=>R0) _ _ (Nat.blt i a)=bif Nat.blt i a then _ else _;cases Nat.blt i a<;>rfl
def zmo(x i:AV):R0:=
 @AV.rec (fun _=>R0) (fun _=>PUnit) R0.bad (fun _=>R0.bad) (fun _=>R0.bad) (fun _ _=>R0.bad) (fun n a=>@AV.rec (fun _=>R0) (fun _=>PUnit) R0.bad (fun _=>R0.bad) (fun _=>R0.bad) (fun _ i=>@Int.rec (fun _=>R0) (fun i=>@Bool.rec (fun _=>R0) (R0.bad) (.val (.int .u8 (.ofNat (qqe a i)))) (Nat.blt i n)) (fun _=>R0.bad) i) (fun _ _=>R0.bad) (fun _ _=>R0.bad) R0.bad (fun _ _ _ _ _=>R0.bad) R0.bad R0.bad (fun _=>R0.bad) R0.bad (fun _ _ _ _ _=>R0.bad) (fun _=>R0.bad) R0.bad (fun _ _ _=>R0.bad) R0.bad (fun _ _=>R0.bad) (fun _ _=>R0.bad) PUnit.unit (fun _ _ _ _=>PUnit.unit) i) (fun _ _=>R0.bad) R0.bad (fun _ _ _ _ _=>R0.bad) R0.bad R0.bad (fun _=>R0.bad) R0.bad (fun _ _ _ _ _=>R0.bad) (fun _=>R0.bad) R0.bad (fun _ _ _=>R0.bad) R0.bad (fun _ _=>R0.bad) (fun _ _=>R0.bad) PUnit.unit (fun _ _ _ _=>PUnit.unit) x
theorem zc4:zmo=zas:=by
 funext x i;cases x<;>first|rfl|skip
 rename_i n a;cases i<;>first|rfl|skip
 rename_i k m;cases m<;>first|rfl|skip
 rename_i i;show @Bool.rec (fun _=>R0) _ _ (Nat.blt i n)=bif Nat.blt i n then _ else _;cases Nat.blt i n<;>rfl
def z7s(x:AV):R0:=
 @AV.rec (fun _=>R0) (fun _=>PUnit) R0.bad (fun _=>R0.bad) (fun _=>R0.bad) (fun _ _=>R0.bad) (fun n _=>.val (i64 n)) (fun _ _=>R0.bad) R0.bad (fun _ _ _ _ _=>R0.bad) R0.bad R0.bad (fun _=>R0.bad) R0.bad (fun _ _ _ _ _=>R0.bad) (fun _=>R0.bad) R0.bad (fun _ _ _=>R0.bad) R0.bad (fun _ _=>R0.bad) (fun _ _=>R0.bad) PUnit.unit (fun _ _ _ _=>PUnit.unit) x
theorem ztu:z7s=aEU:=by funext x;cases x<;>rfl
def zxo(x:AV):R0:=
 @AV.rec (fun _=>R0) (fun _=>PUnit) R0.bad (fun _=>R0.bad) (fun _=>R0.bad) (fun _ _=>R0.bad) (fun _ _=>R0.bad) (fun _ _=>R0.bad) R0.bad (fun _ _ n _ _=>.val (i64 n)) (.val (i64 0)) (.val (i64 0)) (fun _=>R0.bad) R0.bad (fun _ _ _ _ _=>R0.bad) (fun _=>R0.bad) R0.bad (fun _ _ _=>R0.bad) R0.bad (fun _ _=>R0.bad) (fun _ _=>R0.bad) PUnit.unit (fun _ _ _ _=>PUnit.unit) x
theorem zme:zxo=aF:=by funext x;cases x<;>rfl
def aNI(x:AV):R0:=
 @AV.rec (fun _=>R0) (fun _=>PUnit) R0.bad (fun _=>R0.bad) (fun _=>R0.bad) (fun _ _=>R0.bad) (fun _ _=>R0.bad) (fun b o=>.val (.ptr b o)) R0.bad (fun _ _ _ _ _=>R0.bad) R0.bad R0.bad (fun _=>R0.bad) R0.bad (fun a b c _ _=>.val (.fn a b c)) (fun l=>.val (.yield l)) R0.bad (fun _ _ _=>R0.bad) R0.bad (fun _ _=>R0.bad) (fun _ _=>R0.bad) PUnit.unit (fun _ _ _ _=>PUnit.unit) x
theorem z2d(x:AV):aNI x=(match x with| .ptr b o=>.val (.ptr b o)| .fn a b c=>.val (.fn a b c)| .yield l=>.val (.yield l)|_=>.bad):=by cases x<;>rfl
def aOl(i:Nat)(x:AV):R0:=
 @AV.rec (fun _=>R0) (fun _=>PUnit) R0.bad (fun _=>R0.bad) (fun _=>R0.bad) (fun _ _=>R0.bad) (fun _ _=>R0.bad) (fun _ _=>R0.bad) R0.bad (fun _ _ _ _ _=>R0.bad) R0.bad R0.bad (fun _=>R0.bad) R0.bad (fun _ _ _ _ _=>R0.bad) (fun _=>R0.bad) R0.bad (fun _ _ _=>R0.bad) R0.bad (fun _ _=>R0.bad) (fun l _=>@Option.rec AV (fun _=>R0) R0.bad (fun v=>.val v) l[i]?) PUnit.unit (fun _ _ _ _=>PUnit.unit) x
theorem z2x(i:Nat)(x:AV):aOl i x=(match x with| .aX l=>(match l[i]? with|some v=>.val v|none=>.bad)|_=>.bad):=by
 cases x<;>first|rfl|skip
 rename_i l;show @Option.rec AV (fun _=>R0) _ _ l[i]? =match l[i]? with|some v=>.val v|none=>.bad
 cases l[i]? <;>rfl
def z9k(nm:Nat)(x:AV):R0:=
 @Bool.rec (fun _=>R0) (R0.bad) (.new (.ptr nm 0) (.cells 1 1 (Q.mk x .undef .undef .undef .undef .undef .undef .undef:Q AV) false 0)) (aHw x)
theorem zu1:z9k=l9:=by funext nm x;cases x<;>rfl
def opF(P:Program)(d n:Nat)(o:Oper):jF d:=
 match o.op with
 | .pick c a b=>match aH d n c,aH d n a,aH d n b with|⟨gc⟩,⟨ga⟩,⟨gb⟩=>.q false fun _ L _=>zxj (gc L) (ga L) (gb L)
 | .box t x=>match pR P t,gQ P t,aH d n x with
  |some true,some k,⟨g⟩=>.q false fun nm L _=>yE k nm (g L)
  |some false,some _,⟨g⟩=>.q false fun nm L _=>z9k nm (g L)
  |_,_,_=>dX d
 | .load t a=>match pR P t,gQ P t,aH d n a with
  |some true,some k,⟨g⟩=>.q true fun _ L H=>zl8 k H (g L)
  |some false,some _,⟨g⟩=>.q true fun _ L H=>zmb H (g L)
  |_,_,_=>dX d
 | .store t a x=>match pR P t,gQ P t,aH d n a,aH d n x with
  |some true,some k,⟨g⟩,⟨h⟩=>.e fun _ L H=>zJ k H (g L) (h L)
  |some false,some 1,⟨g⟩,⟨h⟩=>.e fun _ L H=>zkb H (g L) (h L)
  |_,_,_,_=>dX d
 | .nilCheck x=>match aH d n x with|⟨g⟩=>.q false fun _ L _=>aNI (g L)
 | .binOp op t x y _=>match aHl P op t,aH d n x,aH d n y with
  |⟨e⟩,⟨g⟩,⟨h⟩=>.q false fun _ L _=>e (g L) (h L)
 | .fieldAddr s x f=>match P.underlying s,aH d n x with
  |some (.struct fs),⟨g⟩=>match fs[f]? with
   |some fl=>match gQ P fl.type with
    |some (_+1)=>.q false fun _ L _=>zm3 fl.offset (g L)
    |_=>dX d
   |none=>dX d
  |_,_=>dX d
 | .field t x f=>match P.underlying t,aH d n x with
  |some (.struct fs),⟨g⟩=>match fs[f]? with
   |some fl=>match qlt P fl.type with|p=>.q false fun _ L _=>zm2 p fl.offset (g L)
   |none=>dX d
  |_,_=>dX d
 | .indexAddr t x i=>match P.underlying t,aH d n x,aH d n i with
  |some (.slice e),⟨g⟩,⟨h⟩=>match gQ P e with
   |some z=>.q false fun _ L _=>z7z z (g L) (h L)
   |none=>dX d
  |_,_,_=>gW P d n o
 | .index t x i=>match P.underlying t,aH d n x,aH d n i with
  |some .string,⟨g⟩,⟨h⟩=>.q false fun _ L _=>zmo (g L) (h L)
  |_,_,_=>gW P d n o
 | .extract x i=>match aH d n x with|⟨g⟩=>.q false fun _ L _=>aOl i (g L)
 | .call {callee:=.builtin .len,args,argTypes}=>match args.toList,argTypes.toList with
  | [x],[t]=>match P.underlying t with
   |some .string=>match aH d n x with|⟨g⟩=>.q false fun _ L _=>z7s (g L)
   |some (.slice _)=>match aH d n x with|⟨g⟩=>.q false fun _ L _=>zxo (g L)
   |_=>gW P d n o
  |_,_=>gW P d n o
 |_=>gW P d n o
theorem z6x(P:Program)(d n:Nat)(o:Oper):opF P d n o=gW P d n o:=by
 unfold opF;split
 ·rename_i h;simp only[gW,h,z1j,zlk]
 ·rename_i h;simp only[gW,h,aCr,zu1];rfl
 ·rename_i h;simp only[gW,h,zkt,zma,zl7];rfl
 ·rename_i h;simp only[gW,h,qzl,zb9];rfl
 ·rename_i h;simp only[gW,h,qoz,z2d];rfl
 ·rename_i h;simp only[gW,h,zkv,z4d]
 ·rename_i h;simp only[gW,h,qe2,zc7];rfl
 ·rename_i h;simp only[gW,h,qzo,zc6];rfl
 ·rename_i h;simp only[gW,h,ztz];unfold qe1;split<;>simp_all<;>rfl
 ·rename_i h;simp only[gW,h,zc4];unfold qzn;split<;>simp_all
 ·rename_i h;simp only[gW,h,qw0,z2x];rfl
 ·rename_i args a h;split
  ·rename_i x t c e;split
   ·rename_i b;simp only[gW,h,qeo,c,e,u6,b,ztu]
   ·rename_i b;simp only[gW,h,qeo,c,e,u6,b,zme]
   ·rfl
  ·rfl
 ·rfl
def aGl{d:Nat}(put:TT AV d->AV->TT AV d)(L:TT AV d)(H:Hp)(r:R0):Rs d:=
 @R0.rec (fun _=>Rs d) .bad (fun v=>.ok (put L v) H) (fun v b=>.ok (put L v) (aN H b)) r
theorem z3l{d:Nat}:@aGl d=doQ:=by funext put L H r;cases r<;>rfl
def aHp{d:Nat}(put:TT AV d->AV->TT AV d)(L:TT AV d)(r:R1):Rs d:=
 @R1.rec (fun _=>Rs d) .bad (fun v H=>.ok (put L v) H) r
theorem z3m{d:Nat}:@aHp d=doE:=by funext put L r;cases r<;>rfl
def zyb{d:Nat}(r:Rs d)(k:TT AV d->Hp->Rs d):Rs d:=
 @Rs.rec d (fun _=>Rs d) .bad k r
theorem zoc{d:Nat}:@zyb d=zdv:=by funext r k;cases r<;>rfl
def zmr{d:Nat}(want:Bool)(x:AV)(a b:Rs d):Rs d:=
 @AV.rec (fun _=>Rs d) (fun _=>PUnit) (b) (fun _=>.bad) (fun v=>@Bool.rec (fun _=>Rs d) (@Bool.rec (fun _=>Rs d) (a) (b) (want)) (@Bool.rec (fun _=>Rs d) (b) (a) (want)) (v)) (fun _ _=>.bad) (fun _ _=>.bad) (fun _ _=>.bad) .bad (fun _ _ _ _ _=>.bad) .bad .bad (fun _=>.bad) .bad (fun _ _ _ _ _=>.bad) (fun _=>.bad) .bad (fun _ _ _=>.bad) .bad (fun _ _=>.bad) (fun _ _=>.bad) PUnit.unit (fun _ _ _ _=>PUnit.unit) x
theorem q0u{d:Nat}(c:Bool)(x:AV)(a b:Rs d):zmr c x a b=ifW (match x with| .bool b=>some (b==c)| .undef=>some false|_=>none) a b:=by
 cases x<;>first|rfl|skip
 rename_i v;cases v<;>cases c<;>rfl
def z1c(P:Program)(d n:Nat)(ops:Array Oper)(o:Oper):St d:=
 match opF P d n o,o.guard,dS d n o.dst with
 | .q _ f,none,⟨put⟩=>⟨fun _ L H=>aGl put L H (f H.nx L H)⟩
 | .e f,none,⟨put⟩=>⟨fun O L H=>aHp put L (f O L H)⟩
 | .q _ f,some (j,want),⟨put⟩=>match(ops[j]?).bind (·.dst)with
  |some t=>bif Nat.blt t n then(match dJ (α:=AV) d t with|⟨g⟩=>⟨fun _ L H=>zmr want (g L) (aGl put L H (f H.nx L H)) (.ok (put L .undef) H)⟩)else yT P d n ops o
  |none=>yT P d n ops o
 | .e f,some (j,want),⟨put⟩=>match(ops[j]?).bind (·.dst)with
  |some t=>bif Nat.blt t n then(match dJ (α:=AV) d t with|⟨g⟩=>⟨fun O L H=>zmr want (g L) (aHp put L (f O L H)) (.ok (put L .undef) H)⟩)else yT P d n ops o
  |none=>yT P d n ops o
theorem zsi(P:Program)(d n:Nat)(ops:Array Oper)(o:Oper):z1c P d n ops o=yT P d n ops o:=by
 unfold z1c;rw[z6x,z3l,z3m];split
 ·rename_i f a b c e;unfold yT;rw[b,c,e]
 ·rename_i f a b c e;unfold yT;rw[b,c,e]
 ·rename_i f j g a b c e;split
  ·rename_i t h;cases i:Nat.blt t n with
   |false=>rfl
   |true=>unfold yT sV;rw[b,c,e];simp only[h,i,uC,q0u];rfl
  ·rfl
 ·rename_i f j g a b c e;split
  ·rename_i t h;cases i:Nat.blt t n with
   |false=>rfl
   |true=>unfold yT sV;rw[b,c,e];simp only[h,i,uC,q0u];rfl
  ·rfl
def q9h(P:Program)(d n:Nat)(ops:Array Oper)(o:Oper):St d:=
 match zC o with
 |none=>z1c P d n ops o
 |some _=>oK P d n ops o
theorem qzb(P:Program)(d n:Nat)(ops:Array Oper)(o:Oper):q9h P d n ops o=oK P d n ops o:=by
 unfold q9h;split
 ·rename_i h;rw[zsi];unfold oK;rw[h]
 ·rfl
def aBA(P:Program)(d n:Nat)(ops:Array Oper):List Oper->St d
 | []=>⟨fun _ L H=>.ok L H⟩
 | [o]=>q9h P d n ops o
 |o::r=>⟨fun O L H=>zyb ((q9h P d n ops o).f O L H) ((aBA P d n ops r).f O)⟩
theorem q6v(P:Program)(d n:Nat)(ops:Array Oper):∀ l,aBA P d n ops l=pM P d n ops l
 | []=>rfl
 | [o]=>by
  simp only[aBA,pM,qzb];generalize oK P d n ops o=s;cases s with
  |mk f=>congr 1;funext O L H;show f O L H=zdv (f O L H) fun L H=>.ok L H;cases f O L H<;>rfl
 |o::a::r=>by simp only[aBA,zoc,qzb];rw[q6v P d n ops (a::r)];rfl
def z18{d:Nat}(r:Rs d):Rc d:=
 @Rs.rec d (fun _=>Rc d) .bad (fun L H=>.ok .normal L H) r
theorem zae{d:Nat}:@z18 d=mI:=by funext r;cases r<;>rfl
def z1i{d:Nat}(r:Rs d)(k:TT AV d->Hp->Rc d):Rc d:=
 @Rs.rec d (fun _=>Rc d) .bad k r
theorem q9m{d:Nat}(r:Rs d)(k:TT AV d->Hp->Rc d):z1i r k=qR (mI r) k:=by cases r<;>rfl
def zsr{d:Nat}(r:Rc d)(k:TT AV d->Hp->Rc d):Rc d:=
 @Rc.rec d (fun _=>Rc d) .bad (fun e L H=>@Ex.rec (fun _=>Rc d) (k L H) (fun id=>.ok (.exit id) L H) (fun l=>.ok (.goto l) L H) (.ok .ret L H) e) r
theorem qci{d:Nat}:@zsr d=qR:=by funext r k;cases r<;>first|rfl|(rename_i e L H;cases e<;>rfl)
def zob{d:Nat}(id:Nat)(r:Rc d):Rc d:=
 @Rc.rec d (fun _=>Rc d) .bad (fun e L H=>@Ex.rec (fun _=>Rc d) (.ok .normal L H) (fun id'=>@Bool.rec (fun _=>Rc d) (.ok (.exit id') L H) (.ok .normal L H) (Nat.beq id' id)) (fun l=>.ok (.goto l) L H) (.ok .ret L H) e) r
theorem zdu{d:Nat}:@zob d=qts:=by
 funext id r;cases r<;>first|rfl|skip
 rename_i e L H;cases e<;>first|rfl|skip
 rename_i a;show @Bool.rec (fun _=>Rc d) _ _ (Nat.beq a id)=bif Nat.beq a id then _ else _;cases Nat.beq a id<;>rfl
def zya{d:Nat}(c:AV)(a b:Rc d):Rc d:=
 @AV.rec (fun _=>Rc d) (fun _=>PUnit) .bad (fun _=>.bad) (fun x=>@Bool.rec (fun _=>Rc d) (b) (a) (x)) (fun _ _=>.bad) (fun _ _=>.bad) (fun _ _=>.bad) .bad (fun _ _ _ _ _=>.bad) .bad .bad (fun _=>.bad) .bad (fun _ _ _ _ _=>.bad) (fun _=>.bad) .bad (fun _ _ _=>.bad) .bad (fun _ _=>.bad) (fun _ _=>.bad) PUnit.unit (fun _ _ _ _=>PUnit.unit) c
theorem znw{d:Nat}:@zya d=condC:=by funext c a b;cases c<;>first|rfl|(rename_i x;cases x<;>rfl)
def zl5{d:Nat}(b:TT AV d->Hp->Rc d)(n:Nat):TT AV d->Hp->Rc d:=
 Nat.rec (motive:=fun _=>TT AV d->Hp->Rc d) (fun _ _=>.bad) (fun _ ih L H=>zsr (b L H) ih) n
theorem zl4{d:Nat}:@zl5 d=qqt:=by
 funext b n
 induction n with
 |zero=>rfl
 |succ n ih=>funext L H;show zsr (b L H) (zl5 b n)=qR (b L H) (qqt b n);rw[qci,ih]
def eT(P:Program)(d n:Nat):Code->Dn d
 | .skip| .label _=>⟨fun _ L H=>.ok .normal L H⟩
 | .region _ ops false=>match aBA P d n ops ops.toList with|⟨g⟩=>⟨fun O L H=>z18 (g O L H)⟩
 | .region _ ops true=>match qlw P d n ops with|⟨g⟩=>⟨fun O L H=>z18 (g O L H)⟩
 | .seq (.region _ ops false) b=>match aBA P d n ops ops.toList with|⟨g⟩=>⟨fun O L H=>z1i (g O L H) ((eT P d n b).f O)⟩
 | .seq (.region _ ops true) b=>match qlw P d n ops with|⟨g⟩=>⟨fun O L H=>z1i (g O L H) ((eT P d n b).f O)⟩
 | .seq a b=>⟨fun O L H=>zsr ((eT P d n a).f O L H) ((eT P d n b).f O)⟩
 | .cond x a b=>match aH d n x with|⟨g⟩=>⟨fun O L H=>zya (g L) ((eT P d n a).f O L H) ((eT P d n b).f O L H)⟩
 | .block id b=>⟨fun O L H=>zob id ((eT P d n b).f O L H)⟩
 | .loop b=>⟨fun O L H=>zl5 ((eT P d n b).f O) bL L H⟩
 | .scope b=>eT P d n b
 | .exit id=>⟨fun _ L H=>.ok (.exit id) L H⟩
 | .goto _=>⟨fun _ _ _=>.bad⟩
 | .ret=>⟨fun _ L H=>.ok .ret L H⟩
 | .rangeFunc f ps assign body=>den P d n (.rangeFunc f ps assign body)
 | .refuse _=>⟨fun _ _ _=>.bad⟩
theorem mO(P:Program)(d n:Nat):∀ c,eT P d n c=den P d n c
 | .skip| .label _=>rfl
 | .region _ ops false=>by simp only[eT,q6v,zae,den]
 | .region _ ops true=>by simp only[eT,zae,den]
 | .seq (.region _ ops false) b=>by simp only[eT,q6v,q9m,den,mO P d n b]
 | .seq (.region _ ops true) b=>by simp only[eT,q9m,den,mO P d n b]
 | .seq .skip b=>by simp only[eT,qci,den,mO P d n b]
 | .seq (.label _) b=>by simp only[eT,qci,den,mO P d n b]
 | .seq (.seq x y) b=>by rw[eT,den,qci,mO P d n (.seq x y),mO P d n b]<;>simp
 | .seq (.cond x y z) b=>by rw[eT,den,qci,mO P d n (.cond x y z),mO P d n b]<;>simp
 | .seq (.block x y) b=>by rw[eT,den,qci,mO P d n (.block x y),mO P d n b]<;>simp
 | .seq (.loop x) b=>by rw[eT,den,qci,mO P d n (.loop x),mO P d n b]<;>simp
 | .seq (.scope x) b=>by rw[eT,den,qci,mO P d n (.scope x),mO P d n b]<;>simp
 | .seq (.exit x) b=>by rw[eT,den,qci,mO P d n (.exit x),mO P d n b]<;>simp
 | .seq (.goto x) b=>by rw[eT,den,qci,mO P d n (.goto x),mO P d n b]<;>simp
 | .seq .ret b=>by rw[eT,den,qci,mO P d n .ret,mO P d n b]<;>simp
 | .seq (.rangeFunc x y z t) b=>by rw[eT,den,qci,mO P d n (.rangeFunc x y z t),mO P d n b]<;>simp
 | .seq (.refuse x) b=>by rw[eT,den,qci,mO P d n (.refuse x),mO P d n b]<;>simp
 | .cond x a b=>by simp only[eT,znw,den,mO P d n a,mO P d n b]
 | .block id b=>by simp only[eT,zdu,den,mO P d n b]
 | .loop b=>by simp only[eT,zl4,den,mO P d n b]
 | .scope b=>by simp only[eT,den,mO P d n b]
 | .exit id| .goto _| .ret| .refuse _=>rfl
 | .rangeFunc f ps assign body=>by simp only[eT]
def zcp{d:Nat}(n:Nat)(O:Call)(res:TT AV d->Hp->Option AV)(L:TT AV d)(H:Hp):R1:=@Option.rec Hp (fun _=>R1) .bad (fun H'=>@Option.rec AV (fun _=>R1) .bad (fun v=>.ok v H') (res L H')) (aA8 O (dl ((dJ d n).f L)) H)
theorem zaa{d:Nat}:@zcp d=iD:=by
 funext n O res L H;unfold zcp iD;cases aA8 O (dl ((dJ d n).f L)) H with
 |none=>rfl
 |some H'=>show @Option.rec AV (fun _=>R1) _ _ (res L H')=fM (res L H') H';cases res L H'<;>rfl
def z6b{d:Nat}(n:Nat)(O:Call)(res:TT AV d->Hp->Option AV)(r:Rc d):R1:=@Rc.rec d (fun _=>R1) .bad (fun e L H=>@Ex.rec (fun _=>R1) (zcp n O res L H) (fun _=>.bad) (fun _=>.bad) (zcp n O res L H) e) r
theorem zsv{d:Nat}:@z6b d=aC6:=by
 funext n O res r;cases r<;>first|rfl|skip
 rename_i e L H;cases e<;>first|rfl|skip
 ·show zcp n O res L H=iD n O res L H;rw[zaa]
 ·show zcp n O res L H=iD n O res L H;rw[zaa]
def uO(P:Program)(f:FuncId):Fd:=
 match P.funcs[f]? with
 |none=>⟨fun _ _ _=>.bad⟩
 |some fn=>if fn.name == "runtime.NumGoroutine" then⟨fun _ _ _=> .bad⟩else match fn.body with
  |none=>⟨fun _ _ _=>.bad⟩
  |some c=>match qcj P (iF (fn.ntmps+1)) fn.ntmps fn.results.toList,eT P (iF (fn.ntmps+1)) fn.ntmps c,Nat.ble (fn.ntmps+1) 262144 with
   |⟨res⟩,⟨dn⟩,true=>⟨fun O args H=>bif Nat.ble args.length fn.ntmps then z6b fn.ntmps O res (dn O (nR args 0 (same .undef _)) H)else .bad⟩
   |_,_,false=>⟨fun _ _ _=>.bad⟩
theorem q63(P:Program)(f:FuncId):uO P f=aP P f:=by
 unfold uO aP;split
 ·simp_all
 ·rename_i fn h;rw[h];simp only;split
  ·rfl
  ·split
   ·simp_all
   ·rename_i c a;rw[a];simp only[mO,zsv];cases b:Nat.ble (fn.ntmps+1) 262144 with
    |true=>simp
    |false=>simp
def qy0(P:Program)(O:Call)(l:Nat)(args:List AV)(H:Hp):R1:=
 match H.get l with
 | .loop true none d n L ps assign body=>
  bif Nat.beq ps.length args.length&&ps.all (fun p=>Nat.blt p n)then
   match(eT P d n assign).f O (qfv ((setter d n).f L .undef) ps args) H with
   | .ok .normal L1 H1=>match H1.get l with
    | .loop true none d' n' L' ps' nH body'=>endRound l ((eT P d n body).f O L1 (H1.put l (.loop false none d' n' L' ps' nH body')))
    |_=>.bad
   |_=>.bad
  else .bad
 |_=>.bad
theorem qyz(P:Program)(O:Call):qy0 P O=qhi P O:=by funext l args H;unfold qy0 qhi;simp only[mO];rfl
abbrev Ext:=FuncId->List AV->Hp->Option R1
def eY(P:Program)(ext:Ext)(n:Nat):Call:=
 Nat.rec (motive:=fun _=>Call) (fun _ _ _=>.bad) (fun _ ih c args H=>@Cl.rec (fun _=>R1) (fun f=>@Option.rec R1 (fun _=>R1) ((uO P f).f ih args H) (fun r=>r) (ext f args H)) (fun l=>qy0 P ih l args H) (fun f=>@Bool.rec (fun _=>R1) .bad ((uO P f).f ih args H) (qpa P f)) c) n
def zlw:Ext:=fun _ _ _=>none
end Go.Ev
end
noncomputable section
namespace Go.Ev
open Go.RowKit
variable {P:Program} {w:World} {ι:Im} {H:Hp}
structure vQ(P:Program)(ext:Ext):Prop where
 fn:∀ f args H r,ext f args H=some r->∀ v H',r=.ok v H'->∀ ι w bA,HR ι H w->aK ι args bA ->
  (callFunc f bA.toArray).run P w=.ok (.enter f bA.toArray) w/\∀ m,CallsIn Fence.wide m P f bA.toArray w (Post ι H w v H')
theorem qm1:vQ P zlw:=⟨fun _ _ _ _ h=>by cases h⟩
theorem qg5(g:P.follows .mixedOrders=true){ext:Ext}(m:vQ P ext):∀ k,qer P (eY P ext k)
 |0=>⟨(fun f args H v c h=>by cases h),(fun b args H v c h=>by cases h),(fun b args H v c h=>by cases h)⟩
 |k+1=>by
  have ih:=qg5 g m k;refine⟨fun f args H v c h ι w i d e=>?_,fun b args H v c h ι w i loc d e n=>?_,fun f args H v c h ι w i d e=>?_⟩
  ·have a:@Option.rec R1 (fun _=>R1) ((uO P f).f (eY P ext k) args H) (fun r=>r) (ext f args H)=.ok v c:=h;cases j:ext f args H with
   |none=>rw[j]at a;rw[q63]at a;exact z2u ih g a d e
   |some r=>rw[j]at a;exact m.fn f args H r j v c a ι w i d e
  ·have a:qy0 P (eY P ext k) b args H=.ok v c:=h;rw[qyz]at a;exact zjs ih g a d e n
  ·have a:@Bool.rec (fun _=>R1) .bad ((uO P f).f (eY P ext k) args H) (qpa P f)=.ok v c:=h;cases l:qpa P f with
   |false=>rw[l]at a;cases a
   |true=>rw[l]at a;rw[q63]at a;exact z2v ih g a l d e
theorem HR.of_below(h:HR ι H w){w':World}(a:Below w.heap.size w w'):HR ι H w'/\Fr ι ι H H w w':=by
 have e:∀ c,c<w.heap.size->w'.heap[c]? =w.heap[c]? :=a.block;refine⟨⟨h.top,fun b d=>(h.blk b d).keep fun l hd i=>e _ (h.low b l d hd i),fun b l d f g=>lq (h.low b l d f g) a.size,h.inj,h.fresh,h.free⟩,
  ⟨Im.le_refl _,lh _,fun b f g=>absurd f g,a.os,a.tape,a.output,a.size,fun c j _=>e c j,fun b l a f g=>.inr ⟨b,l,a,f,g,rfl⟩,fun b l a f g=>.inr ⟨b,l,a,f,g,rfl⟩⟩⟩
def Yes(P:Program)(f:FuncId):Prop:=∀ w,Calls P f #[] w fun e w'=>e=.returned (.bool true)/\Below w.heap.size w w'
def qfl(P:Program)(f:FuncId):Bool:=
 match P.funcs[f]? with
 |some fn=>fn.body.isSome&& !(fn.name == "runtime.NumGoroutine")
 |none=>false
def q84(tbl:List FuncId):Ext:=fun f args H=>
 match args with
 | []=>bif tbl.any (Nat.beq f)then some (.ok (.bool true) H)else none
 |_=>none
theorem zjt{tbl:List FuncId}(h:∀ f∈tbl,Yes P f)(hb:tbl.all (qfl P)=true):vQ P (q84 tbl):=by
 refine⟨fun f args H r he v H' hr ι w bA hH ha=>?_⟩;unfold q84 at he;split at he
 ·cases hc:tbl.any (Nat.beq f)with
  |false=>rw[hc]at he;cases he
  |true=>
   rw[hc]at he;simp only[uC,qh]at he;subst he;cases hr;subst ha;obtain⟨g,hg,e⟩:=zt.1 hc;have e:=qp e;subst e;have hbf:=yl.1 hb f hg;unfold qfl at hbf;split at hbf
   ·rename_i fn hfn;simp only[qc,yg]at hbf;refine⟨?_,fun m=>callsIn_wide.2 ((h f hg w).mono fun e w' hp=>?_)⟩
    ·obtain⟨c,hc'⟩:=lAR.1 hbf.1
     have hname':¬ fn.name = "runtime.NumGoroutine" :=fun e=>by rw[e]at hbf;simp at hbf
     simp[callFunc,hfn,hname',hc']
    ·obtain⟨rfl,hw⟩:=hp;obtain⟨k1,k2⟩:=hH.of_below hw;exact⟨ι,by simp only[aL],k1,k2⟩
   ·cases hbf
 ·cases he
theorem zbx(c:P.follows .mixedOrders=true){ext:Ext}(d:vQ P ext){k:Nat}{f:FuncId}(h:qte (eY P ext k (.f f) [] Hp.empty)=true):Yes P f:=by
 intro w;unfold qte at h;split at h
 ·rename_i b m g;subst h;have:=((qg5 c d k).fn _ _ _ _ _ g (fun _=>none) w [] HR.empty (by simp[aK])).2 0;refine(callsIn_wide.1 this).mono fun e w' a=>?_;cases e with
  |returned V=>obtain⟨n,i,o,j⟩:=a;exact⟨by rw[i],j.below _ (lh _) fun b l _ _ h=>by cases h⟩
  |panicked=>exact a.elim
  |outgrown=>exact a.elim
 ·cases h
end Go.Ev
end
