/-
 For ReachesGoals: the evaluator and its soundness, part 3 of 4: what a run of the abstract evaluator answers, the model's run answers, in every world and on every schedule. No conditions beyond those that each theorem states.
-/
import Derived.Test.YtnojgpkbpnimhaaGreatEv2
import Derived.LoopNIn
import Derived.Scope
import Derived.RangeFuncRecord
import Derived.ChangeSame
import Derived.Test.YtnojgpkbpnimhaaGreatEv1
import Derived.Sort.Grow
import Derived.Sort.EveryDepth
import Derived.Sort.Defs
import Derived.Shelf.GgSortFunc.InsertionK
noncomputable section
namespace Go.Ev
open Go.RowKit
variable {P:Program} {d n:Nat} {O:Call} {base:Nat} {ops:Array Oper} {ms:List Nat} {st:Nat->CS d} {pos:Nat->Nat} {V:Nat->AV} {B:Nat->Option bW} {K:Nat->Bool}
/- locals -/
def qv0(ops:Array Oper)(j:Nat):Option Tmp:=(ops[j]?).bind (·.dst)
open Classical in
def tv(ops:Array Oper)(n:Nat)(V:Nat->AV)(L0:TT AV d)(S:Nat->Prop):Nat->Nat->AV
 |0,t=>(dR d t).f L0
 |j+1,t=>if S j/\qv0 ops j=some t/\t<n then V j else tv ops n V L0 S j t
theorem qjf{c:TT AV d}{S S':Nat->Prop}{t:Nat}:∀ m,(∀j,j<m->qv0 ops j=some t->(S j↔S' j))->tv ops n V c S m t=tv ops n V c S' m t
 |0,_=>rfl
 |m+1,h=>by
  unfold tv;rw[qjf m fun j e=>h j (by omega)];by_cases b:qv0 ops m=some t
  ·have:=h m (by omega) b;by_cases a:S m
   ·simp[a,this.1 a,b]
   ·have:¬ S' m:=fun x=>a (this.2 x);simp[a,this]
  ·simp[b]
theorem zic{f:TT AV d}{S:Nat->Prop}{t i:Nat}(a:S i)(b:qv0 ops i=some t)(c:t<n):∀ m,i<m->(∀j,i<j->j<m->S j->qv0 ops j≠some t)->tv ops n V f S m t=V i
 |0,h,_=>by omega
 |m+1,h,k=>by
  unfold tv;by_cases e:i=m
  ·subst e;rw[qj ⟨a,b,c⟩]
  ·rw[pg (fun x=>k m (by omega) (by omega) x.1 x.2.1)];exact zic a b c m (by omega) fun j g l=>k j g (by omega)
theorem qew{i:Nat}{o:Oper}(h:ops[i]? =some o):i<ops.size:=(au.1 h).1
theorem qpk{i:Nat}(h:i<ops.size):∃ o,ops[i]? =some o:=⟨_,bu h⟩
theorem zxb{q:TT AV d}{S:Nat->Prop}(h:Edg ops ms)(u:Shut ops S){i:Nat}{o:Oper}(k:ops[i]? =some o)(p:¬ S i)(t:Nat):tv ops n V q (fun j=>S j\/j=i) ops.size t=if o.dst=some t/\t<n then V i else tv ops n V q S ops.size t:=by
 have c:qv0 ops i=o.dst:=by simp[qv0,k]
 by_cases f:o.dst=some t
 ·by_cases g:t<n
  ·rw[qj ⟨f,g⟩];refine zic (.inr rfl) (c.trans f) g _ (qew k) fun j r v l w=>?_;obtain⟨s,b⟩:=qpk v;have a:s.dst=some t:=by simpa [qv0,b] using w
   rcases l with l|l
   ·rcases h.tmps i j o s t k b f with e|e|e|e
    ·omega
    ·exact p (h.uF u b l e)
    ·have:=h.aJt i o j k e;omega
    ·exact e.2 a
   ·omega
  ·rw[pg (by simp[g])];generalize ops.size=m
   induction m with
   |zero=>rfl
   |succ m ih=>unfold tv;rw[pg (by simp[g]),pg (by simp[g]),ih]
 ·rw[pg (by simp[f])];refine qjf _ fun j x a=>?_;constructor
  ·rintro (r|rfl)
   ·exact r
   ·rw[c]at a;exact absurd a f
  ·exact .inl
theorem z2y{L:TT AV d}{v:AV}{u:Nat}(h:Nat.blt u n=true):(eG d n (some u)).f L v=(setter d u).f L v:=by unfold eG;simp only;rw[h];rfl
theorem q76{L:TT AV d}{v:AV}{u:Nat}(h:Nat.blt u n=false):(eG d n (some u)).f L v=L:=by unfold eG;simp only;rw[h];rfl
theorem qjq(f:n<=8 ^ d){L:TT AV d}{v:AV}{t:Nat}(g:t<8 ^ d)(a:Option Tmp):(dR d t).f ((eG d n a).f L v)=if a=some t/\t<n then v else(dR d t).f L:=by
 cases a with
 |none=>simp[eG]
 |some u=>
  cases c:Nat.blt u n with
  |true=>
   have b:=yE c;rw[z2y c,qex _ _ _ _ _ g (ku b f)];by_cases e:t=u
   ·subst e;simp[b]
   ·rw[pg e,pg (by simp;intro h;exact absurd h.symm e)]
  |false=>have b:=zbn c;rw[q76 c,pg];rintro ⟨i,j⟩;cases i;exact b j
theorem qlj.bEE{i A:Nat}{o:Oper}{s a:CS d}{v:AV}{b:Option bW}{k:Bool}(h:qlj P d n O base ops i A o s a v b k):a.L=(eG d n o.dst).f s.L v:=by cases h<;>(rename_i e;rw[e])
theorem qlj.bE2{i A:Nat}{o:Oper}{s a:CS d}{v:AV}{b:Option bW}(h:qlj P d n O base ops i A o s a v b false):a.H=s.H:=by cases h<;>(rename_i e;rw[e])
theorem Can.shut(C:Can P d n O base ops ms st pos V B K)(q:Nat):Shut ops (fun j=>pos j<q):=fun i o a b j c=>by have:=C.edge i o a j c;simp only at b;omega
theorem Can.kX(C:Can P d n O base ops ms st pos V B K){i k:Nat}{o:Oper}(a:ops[i]? =some o)(b:hasB (ms.getD i 0) k=true):pos k<pos i:=
 C.edg.yD (C.shut (pos i)) i o k a (fun j c=>C.edge i o a j c) b
theorem Can.at(C:Can P d n O base ops ms st pos V B K){q:Nat}(b:q<ops.size):∃ i o,ops[i]? =some o/\pos i=q/\qlj P d n O base ops i (ms.getD i 0) o (st q) (st (q+1)) (V i) (B i) (K i):=by obtain⟨i,c,rfl⟩:=C.aYz q b;obtain⟨o,a⟩:=qpk c;exact⟨i,o,a,rfl,C.step i o a⟩
theorem Can.lt_succ(C:Can P d n O base ops ms st pos V B K){i j:Nat}(a:i<ops.size)(b:j<ops.size):pos j<pos i+1↔pos j<pos i\/j=i:=by
 constructor
 ·intro h;by_cases e:pos j=pos i
  ·exact .inr (C.inj j i b a e)
  ·exact .inl (by omega)
 ·rintro (h|rfl)<;>omega
theorem Can.locals(C:Can P d n O base ops ms st pos V B K)(a:n<=8 ^ d):∀ q,q<=ops.size->∀ t,t<8 ^ d->(dR d t).f (st q).L=tv ops n V (st 0).L (fun j=>pos j<q) ops.size t
 |0,_,t,_=>by
  generalize ops.size=m
  induction m with
  |zero=>rfl
  |succ m ih=>unfold tv;rw[pg (by omega)];exact ih
 |q+1,hq,t,ht=>by obtain⟨i,o,b,e,f⟩:=C.at hq;subst e;rw[f.bEE,qjq a ht,C.locals a (pos i) (by omega) t ht];rw[<-zxb C.edg (C.shut (pos i)) b (xx _) t];exact qjf _ fun j c _=>(C.lt_succ (qew b) c).symm
theorem Can.proj(C:Can P d n O base ops ms st pos V B K)(f:n<=8 ^ d){S:Nat->Prop}(i:Shut ops S){L:TT AV d}(p:∀ t,t<8 ^ d->(dR d t).f L=tv ops n V (st 0).L S ops.size t){k:Nat}{o:Oper}(c:ops[k]? =some o)(l:¬ S k)(q:∀ j∈yS o,S j):(oG d n (lX ops o)).f L=(oG d n (lX ops o)).f (st (pos k)).L:=by
 refine qpb _ fun t r b=>?_;have v:=C.plt k (qew c);rw[p t (ku b f),C.locals f (pos k) (by omega) t (ku b f)];refine qjf _ fun j s u=>?_;obtain⟨m,a⟩:=qpk s;have g:m.dst=some t:=by simpa [qv0,a] using u
 rcases C.edg.tmps j k m o t a c g with e|e|e|e
 ·subst e;exact⟨fun h=>absurd h l,fun h=>absurd h (xx _)⟩
 ·exact⟨fun _=>C.kX c e,fun _=>C.edg.yD i k o j c q e⟩
 ·exact⟨fun h=>absurd (C.edg.uF i a h e) l,fun h=>absurd (C.kX a e) (by omega)⟩
 ·exact absurd r e.1
/- heaps -/
def quk(c:Pd->Bool)(pend:List Pd)(H:Hp):Hp:=
 List.rec (motive:=fun _=>Hp) H (fun p _ ih=>bif c p then ih.put p.nm p.b else ih) pend
theorem qul(A:Nat)(a:List Pd)(H:Hp):dZ A a H=quk (fun p=>hasB A p.i) a H:=rfl
theorem z4v(a:List Pd)(H:Hp):oF a H=quk (fun _=>true) a H:=rfl
theorem qhb(c:Pd->Bool)(p:Pd)(l:List Pd)(H:Hp):quk c (p::l) H=if c p=true then(quk c l H).put p.nm p.b else quk c l H:=by show(bif c p then _ else _)=_;cases c p<;>rfl
theorem quj(c:Pd->Bool)(H:Hp):∀ a,(quk c a H).nx=H.nx
 | []=>rfl
 |p::l=>by
  rw[qhb];split
  ·exact quj c H l
  ·exact quj c H l
theorem qrw{c:Pd->Bool}{H:Hp}{b:Nat}(f:eT (b)):∀ a,(∀p∈a,eT (p.nm))->(∀p∈a,c p=true->p.nm≠b)->(quk c a H).get b=H.get b
 | [],_,_=>rfl
 |p::l,h1,h=>by
  rw[qhb];have ih:=qrw (c:=c) (H:=H) f l (fun x d=>h1 x (by simp[d])) (fun x d=>h x (by simp[d]));split
  ·rename_i g;rw[Hp.get_put _ _ _ _ (h1 p (by simp)) f,pg (fun e=>h p (by simp) g e.symm)];exact ih
  ·exact ih
theorem qot{c:Pd->Bool}{H:Hp}:∀ a,(∀p∈a,eT (p.nm))->(∀p∈a,∀j∈a,p.nm=j.nm->p.b=j.b)->∀ p∈a,c p=true->(quk c a H).get p.nm=p.b
 | [],_,_,p,hp,_=>by cases hp
 |x::l,h1,h2,p,hp,hc=>by
  rw[qhb];have g:=h1 p hp;by_cases i:c x=true
  ·rw[qj i,Hp.get_put _ _ _ _ (h1 x (by simp)) g];by_cases e:p.nm=x.nm
   ·rw[qj e];exact h2 x (by simp) p hp e.symm
   ·rw[pg e];have d:p∈l:=by
     rcases su.1 hp with rfl|h
     ·exact absurd rfl e
     ·exact h
    exact qot l (fun y b=>h1 y (by simp[b])) (fun y b z f=>h2 y (by simp[b]) z (by simp[f])) p d hc
  ·rw[pg i];have d:p∈l:=by
    rcases su.1 hp with rfl|h
    ·exact absurd hc i
    ·exact h
   exact qot l (fun y b=>h1 y (by simp[b])) (fun y b z f=>h2 y (by simp[b]) z (by simp[f])) p d hc
def Mg(ops:Array Oper)(ms:List Nat)(pos:Nat->Nat)(K:Nat->Bool)(q i:Nat):Prop:=∃ e,e<ops.size/\pos e<q/\K e=true/\hasB (ms.getD e 0) i=true
theorem qyw{A:Nat}{p:Pd}:∀{l:List Pd},p∈sG A l↔p∈l/\hasB A p.i=false
 | []=>by simp[sG]
 |x::l=>by
  have ih:=qyw (A:=A) (p:=p) (l:=l);show p∈(bif hasB A x.i then sG A l else x::sG A l)↔_;cases c:hasB A x.i with
  |true=>
   simp only[uB,su];rw[ih];constructor
   ·rintro ⟨a,b⟩;exact⟨.inr a,b⟩
   ·rintro ⟨rfl|a,b⟩
    ·rw[c]at b;cases b
    ·exact⟨a,b⟩
  |false=>
   simp only[af,su];rw[ih];constructor
   ·rintro (rfl|⟨a,b⟩)
    ·exact⟨.inl rfl,c⟩
    ·exact⟨.inr a,b⟩
   ·rintro ⟨rfl|a,b⟩
    ·exact .inl rfl
    ·exact .inr ⟨a,b⟩
theorem qpr{A:Nat}{p:Wt}:∀{l:List Wt},p∈rP A l↔p∈l/\hasB A p.i=false
 | []=>by simp[rP]
 |x::l=>by
  have ih:=qpr (A:=A) (p:=p) (l:=l);show p∈(bif hasB A x.i then rP A l else x::rP A l)↔_;cases c:hasB A x.i with
  |true=>
   simp only[uB,su];rw[ih];constructor
   ·rintro ⟨a,b⟩;exact⟨.inr a,b⟩
   ·rintro ⟨rfl|a,b⟩
    ·rw[c]at b;cases b
    ·exact⟨a,b⟩
  |false=>
   simp only[af,su];rw[ih];constructor
   ·rintro (rfl|⟨a,b⟩)
    ·exact⟨.inl rfl,c⟩
    ·exact⟨.inr a,b⟩
   ·rintro ⟨rfl|a,b⟩
    ·exact .inl rfl
    ·exact .inr ⟨a,b⟩
theorem Can.rY(C:Can P d n O base ops ms st pos V B K){i j:Nat}(f:i<ops.size):Mg ops ms pos K (pos i+1) j↔Mg ops ms pos K (pos i) j\/(K i=true/\hasB (ms.getD i 0) j=true):=by
 constructor
 ·rintro ⟨e,c,g,a,b⟩;rcases(C.lt_succ f c).1 g with h|rfl
  ·exact .inl ⟨e,c,h,a,b⟩
  ·exact .inr ⟨a,b⟩
 ·rintro (⟨e,c,g,a,b⟩|⟨a,b⟩)
  ·exact⟨e,c,by omega,a,b⟩
  ·exact⟨i,f,by omega,a,b⟩
theorem Can.pend(C:Can P d n O base ops ms st pos V B K)(I:(st 0).pend=[]):∀ q,q<=ops.size -> (∀p∈(st q).pend,p.i<ops.size/\p.nm=base+p.i/\B p.i=some p.b/\pos p.i<q/\¬ Mg ops ms pos K q p.i) /\ (∀i b,i<ops.size->B i=some b->pos i<q->¬ Mg ops ms pos K q i->⟨i,base+i,b⟩∈(st q).pend)
 |0,_=>⟨(fun p g=>by rw[I]at g;cases g),(fun i b _ _ h=>by omega)⟩
 |q+1,hq=>by
  obtain⟨i,o,Q,g,E⟩:=C.at hq;obtain⟨u,w⟩:=C.pend I q (by omega);subst g;have c:=qew Q;have r:K i=false->B i=none->(st (pos i+1)).pend=(st (pos i)).pend ->
    (∀p∈(st (pos i+1)).pend,p.i<ops.size/\p.nm=base+p.i/\B p.i=some p.b/\pos p.i<pos i+1/\¬ Mg ops ms pos K (pos i+1) p.i) /\
    (∀j b,j<ops.size->B j=some b->pos j<pos i+1->¬ Mg ops ms pos K (pos i+1) j->⟨j,base+j,b⟩∈(st (pos i+1)).pend):=fun L M N=>by
   have s:∀ j,Mg ops ms pos K (pos i+1) j↔Mg ops ms pos K (pos i) j:=fun j=>by rw[C.rY c,L];simp
   rw[N];refine⟨fun p g=>?_,fun j b t a m l=>?_⟩
   ·obtain⟨x,y,z,J,A⟩:=u p g;exact⟨x,y,z,by omega,fun h=>A ((s _).1 h)⟩
   ·rcases(C.lt_succ c t).1 m with h|rfl
    ·exact w j b t a h fun h=>l ((s _).2 h)
    ·rw[M]at a;cases a
  generalize D:B i=b at E;generalize V i=v at E;generalize F:K i=k at E;cases E with
  |skip _ e=>exact r F D (by rw[e])
  |val _ _ _ _ _ _ e=>exact r F D (by rw[e])
  |new f _ b' _ _ _ _ _ e=>
   have s:∀ j,Mg ops ms pos K (pos i+1) j↔Mg ops ms pos K (pos i) j:=fun j=>by rw[C.rY c,F];simp
   rw[e];simp only[su];refine⟨fun p g=>?_,fun j b t a m l=>?_⟩
   ·rcases g with rfl|g
    ·refine⟨c,rfl,D,by simp,fun h=>?_⟩;obtain⟨e,R,T,U,S⟩:=(s i).1 h;obtain⟨W,H⟩:=qpk R;have:=C.kX H S;omega
    ·obtain⟨x,y,z,J,A⟩:=u p g;exact⟨x,y,z,by omega,fun h=>A ((s _).1 h)⟩
   ·rcases(C.lt_succ c t).1 m with h|rfl
    ·exact .inr (w j b t a h fun h=>l ((s _).2 h))
    ·rw[D]at a;cases a;exact .inl rfl
  |nH f _ H' _ _ _ _ e=>
   have s:∀ j,Mg ops ms pos K (pos i+1) j↔Mg ops ms pos K (pos i) j\/hasB (ms.getD i 0) j=true:=fun j=>by rw[C.rY c,F];simp
   rw[e];simp only[qyw];refine⟨fun p g=>?_,fun j b t a m l=>?_⟩
   ·obtain⟨x,y,z,J,A⟩:=u p g.1;refine⟨x,y,z,by omega,fun h=>?_⟩;rcases(s _).1 h with h|h
    ·exact A h
    ·rw[g.2]at h;cases h
   ·have G:hasB (ms.getD i 0) j=false:=lAE.2 fun h=>l ((s j).2 (.inr h));rcases(C.lt_succ c t).1 m with h|rfl
    ·exact⟨w j b t a h fun h=>l ((s _).2 (.inl h)),G⟩
    ·rw[D]at a;cases a
theorem Can.oK(C:Can P d n O base ops ms st pos V B K){q:Nat}:∀ a,q<=a->a<=ops.size->(∀e,e<ops.size->K e=true->q<=pos e->¬ pos e<a)->(st a).H=(st q).H
 |0,h,_,_=>by
  have:q=0:=by omega
  subst this;rfl
 |a+1,h,hs,hk=>by
  by_cases e:q=a+1
  ·subst e;rfl
  ·obtain⟨i,o,l,p,b⟩:=C.at (q:=a) hs;have c:K i=false:=lAE.2 fun f=>hk i (qew l) f (by omega) (by omega);rw[c]at b;rw[b.bE2];exact C.oK a (by omega) (by omega) fun e g j k m=>hk e g j k (by omega)
structure HS(base:Nat)(ops:Array Oper)(ms:List Nat)(st:Nat->CS d)(pos:Nat->Nat)(B:Nat->Option bW)(K:Nat->Bool)(q:Nat)(X:Nat->Prop)(G:Hp):Prop where
 nx:G.nx=(st q).H.nx
 hit:∀ i b,i<ops.size->X i->B i=some b->¬ Mg ops ms pos K q i->G.get (base+i)=b
 miss:∀ c,eT (c)->(∀i,i<ops.size->X i->B i≠none->¬ Mg ops ms pos K q i->c≠base+i)->G.get c=(st q).H.get c
theorem Can.view(C:Can P d n O base ops ms st pos V B K)(u:(st 0).pend=[])(v:∀ i,i<ops.size->B i≠none->eT (base+i)){q:Nat}(w:q<=ops.size)(c:Nat->Bool)(y:∀ i,i<ops.size->c i=true->pos i<q):HS base ops ms st pos B K q (fun i=>c i=true) (quk (fun p=>c p.i) (st q).pend (st q).H):=by
 obtain⟨j,E⟩:=C.pend u q w;have g:∀ p∈(st q).pend,eT (p.nm):=fun p a=>by obtain⟨k,o,f,_⟩:=j p a;rw[o];exact v _ k (by simp[f])
 refine⟨quj _ _ _,fun i b r h z A=>?_,fun x h D=>?_⟩
 ·have a:=E i b r z (y i r h) A;have t:=qot (c:=fun p=>c p.i) (H:=(st q).H) (st q).pend g (fun p a s l e=>by
   obtain⟨k,o,f,_⟩:=j p a;obtain⟨I,J,F,_⟩:=j s l;have:p.i=s.i:=by omega
   rw[this,F]at f;exact(Option.some.inj f).symm) ⟨i,base+i,b⟩ a h
  dsimp only at t;exact t
 ·refine qrw h _ g fun p a m e=>?_;obtain⟨k,o,f,L,G⟩:=j p a;exact D p.i k m (by simp[f]) G (by omega)
theorem qd9:∀ k,(∀x y,nC k x y=true->x=y)/\(∀l m,qW k l m=true->l=m)
 |0=>⟨fun x y h=>by simp[nC]at h,fun l m h=>by simp[qW]at h⟩
 |k+1=>by
  obtain⟨b,a⟩:=qd9 k;refine⟨fun x y h=>?_,fun l m h=>?_⟩
  ·unfold nC at h;split at h<;>first|rfl|(cases h;done)|skip
   ·simp_all
   ·simp_all
   ·simp_all
   ·simp_all
   ·simp_all
   ·simp_all
   ·simp_all
   ·simp only[qh]at h;rw[rf h.1.1,a _ _ h.1.2,a _ _ h.2]
   ·simp only[qh]at h;rw[rf h.1,b _ _ h.2]
   ·rw[a _ _ h]
   ·rw[a _ _ h]
  ·unfold qW at h;split at h
   ·omega
   ·rfl
   ·rename_i e;cases e;simp only[qh]at h;rw[b _ _ h.1,a _ _ h.2]
   ·cases h
theorem q6y{a:List Pd}{H:Hp}:∀{e:List Wt},qjc a H e=true->∀ x∈e,x.f (dZ x.A a H)=.val x.v
 | [],_,x,b=>by cases b
 |y::l,h,x,b=>by
  have d:(zjc (y.f (dZ y.A a H)) y.v&&qjc a H l)=true:=h;simp only[qh]at d;rcases su.1 b with rfl|b
  ·have c:=d.1;unfold zjc at c;split at c
   ·rename_i u f;rw[f,(qd9 64).1 _ _ c]
   ·cases c
  ·exact q6y d.2 x b
theorem zh6{A i nm:Nat}{b:bW}{a:List Pd}{H:Hp}(h:hasB A i=false):dZ A (⟨i,nm,b⟩::a) H=dZ A a H:=by rw[qul,qhb,pg (by simp[h]),qul]
theorem Can.jM(C:Can P d n O base ops ms st pos V B K)(p:(st 0).jM=[]):∀ q,q<=ops.size->∀ x∈(st q).jM, x.f (dZ x.A (st q).pend (st q).H)=.val x.v/\∀ j,hasB x.A j=true->pos j<q
 |0,_,x,a=>by rw[p]at a;cases a
 |q+1,hq,x,a=>by
  obtain⟨i,o,r,s,m⟩:=C.at hq;have ih:=C.jM p q (by omega);subst s;generalize t:B i=b at m;generalize V i=v at m;generalize u:K i=k at m;cases m with
  |skip _ e=>rw[e]at a ⊢;obtain⟨l,g⟩:=ih x a;exact⟨l,fun j c=>by have:=g j c;omega⟩
  |val lk f v h1 h2 h3 e=>
   rw[e]at a ⊢;cases lk with
   |false=>obtain⟨l,g⟩:=ih x a;exact⟨l,fun j c=>by have:=g j c;omega⟩
   |true=>
    simp only[uB,su]at a;rcases a with rfl|a
    ·exact⟨h3,fun j c=>by have:=C.kX r c;omega⟩
    ·obtain⟨l,g⟩:=ih x a;exact⟨l,fun j c=>by have:=g j c;omega⟩
  |new f v b' h1 h2 h3 h4 h5 e=>rw[e]at a ⊢;obtain⟨l,g⟩:=ih x a;refine⟨?_,fun j c=>by have:=g j c;omega⟩;rw[zh6];exact l;exact lAE.2 fun h=>xx _ (g i h)
  |nH f v H' h1 h2 h3 h4 e=>rw[e]at a ⊢;obtain⟨l,g⟩:=ih x (qpr.1 a).1;exact⟨q6y h4 x a,fun j c=>by have:=g j c;omega⟩
theorem Can.watch(C:Can P d n O base ops ms st pos V B K){k:Nat}{x:Wt}(l:x.i=k)(p:x∈(st (pos k+1)).jM):∀ q,pos k<q->q<=ops.size -> (∀e,e<ops.size->K e=true->pos k<pos e->pos e<q->hasB (ms.getD e 0) k=false)->x∈(st q).jM
 |0,h,_,_=>by omega
 |q+1,h,hq,hn=>by
  by_cases e:pos k=q
  ·simp_all
  ·have ih:=C.watch l p q (by omega) (by omega) fun e a c g m=>hn e a c g (by omega);obtain⟨i,o,r,s,j⟩:=C.at hq;subst s;generalize u:B i=b at j;generalize V i=v at j;generalize t:K i=kk at j;cases j with
   |skip _ e=>rw[e];exact ih
   |val lk f v a c g e=>
    rw[e];cases lk with
    |false=>exact ih
    |true=>exact uk _ ih
   |new f v b' a c g m h5 e=>rw[e];exact ih
   |nH f v H' a c g m e'=>rw[e'];refine qpr.2 ⟨ih,?_⟩;rw[l];exact hn i (qew r) t (by omega) (by omega)
/- parts of heaps -/
theorem HR.sub{ι:Im}{G f:Hp}{w:World}(h:HR ι G w)(n:f.nx=G.nx)(o:∀ c,eT (c)->f.get c=G.get c\/f.get c=.dead):HR ι f w:=by
 have d:∀ c,eT (c)->(f.get c).bD=false->f.get c=G.get c:=fun c j p=>by
  rcases o c j with e|e
  ·exact e
  ·rw[e]at p;cases p
 refine⟨by rw[n];exact h.top,fun b a=>?_,fun b l a g k=>?_,fun b c l m a j g k q r s=>?_,fun b a=>h.fresh b (by rw[<-n];exact a),fun b a i=>?_⟩
 ·rcases o b a with e|e
  ·rw[e];exact h.blk b a
  ·rw[e];trivial
 ·exact h.low b l a (by rw[<-d b a g];exact g) k
 ·have t:=d b a (bW.aW g);have u:=d c j k;exact h.inj b c l m a j (by rw[<-t];exact g) (by rw[<-u];exact k) q r s
 ·rcases o b i with e|e
  ·rw[e];exact h.free b (by rw[<-n];exact a) i
  ·exact e
theorem HR.drawn{ι:Im}{H:Hp}{w:World}(h:HR ι H w)(k:Nat):HR ι H {w with drawn:=k}:=
 ⟨h.top,fun b a=>(h.blk b a).keep fun _ _ _=>rfl,h.low,h.inj,h.fresh,h.free⟩
theorem mkG(H:Hp)(base:Nat)(f:Nat->Option bW):∀ N,(∀i,i<N->f i≠none->eT (base+i))->∃ G:Hp,G.nx=H.nx/\(∀i b,i<N->f i=some b->G.get (base+i)=b)/\∀ c,eT (c)->(∀i,i<N->f i≠none->c≠base+i)->G.get c=H.get c
 |0,_=>⟨H,rfl,fun i b h=>by omega,fun c _ _=>rfl⟩
 |N+1,h=>by
  obtain⟨G,g1,g2,g3⟩:=mkG H base f N fun i a=>h i (by omega);cases l:f N with
  |none=>
   refine⟨G,g1,fun i b a d=>?_,fun c g j=>g3 c g fun i a=>j i (by omega)⟩;by_cases e:i=N
   ·simp_all
   ·exact g2 i b (by omega) d
  |some b=>
   have k:=h N (by omega) (by simp[l]);refine⟨G.put (base+N) b,g1,fun i m a d=>?_,fun c g j=>?_⟩
   ·rw[Hp.get_put _ _ _ _ k (h i a (by simp[d]))];by_cases e:i=N
    ·simp_all
    ·rw[pg (by omega)];exact g2 i m (by omega) d
   ·rw[Hp.get_put _ _ _ _ k g,pg (j N (by omega) (by simp[l]))];exact g3 c g fun i a=>j i (by omega)
theorem Fr.step{ι0 ι j:Im}{H0 G G':Hp}{w0 w w':World}(f:Fr ι0 ι H0 G w0 w)(le:ι.le j)(nx:G.nx<=G'.nx)(x:∀ b,ι b=none->j b≠none->H0.nx<=b)(F:w'.os=w.os)(m:w'.tape=w.tape)(g:w'.output=w.output)(size:w.heap.size<=w'.heap.size)(n:∀ c,c<w.heap.size->(∀b l,eT (b)->(G.get b).wr=true->ι b=some l->l.blk≠c)->w'.heap[c]? =w.heap[c]?)(y:∀ b l,eT (b)->(G'.get b).wr=true->j b=some l->w.heap.size<=l.blk\/∃ a d,eT (a)/\(G.get a).wr=true/\ι a=some d/\d.blk=l.blk)(o:∀ b l,eT (b)->(G'.get b).bD=false->j b=some l->w.heap.size<=l.blk\/∃ a d,eT (a)/\(G.get a).bD=false/\ι a=some d/\d.blk=l.blk):Fr ι0 j H0 G' w0 w':=by
 refine⟨Im.le_trans f.le le,rq f.nx nx,fun b h k=>?_,F.trans f.os,m.trans f.tape,g.trans f.output,rq f.size size,fun c C D=>?_,fun b l p q r=>?_,fun b l p q r=>?_⟩
 ·cases E:ι b with
  |none=>exact x b E k
  |some l=>exact f.dom b h (by simp[E])
 ·rw[n c (ku C f.size) ?_,f.keep c C D];intro b l p q r H;rcases f.new b l p q r with e|⟨a,d,e,s,t,u⟩
  ·omega
  ·exact D a d e s t (u.trans H)
 ·rcases y b l p q r with e|⟨a,d,e,s,t,u⟩
  ·exact .inl (rq f.size e)
  ·rcases f.new a d e s t with v|⟨z,l1,v,A,B,i⟩
   ·omega
   ·exact .inr ⟨z,l1,v,A,B,i.trans u⟩
 ·rcases o b l p q r with e|⟨a,d,e,s,t,u⟩
  ·exact .inl (rq f.size e)
  ·rcases f.live a d e s t with v|⟨z,l1,v,A,B,i⟩
   ·omega
   ·exact .inr ⟨z,l1,v,A,B,i.trans u⟩
theorem Fr.congr{ι g:Im}{H G G':Hp}{w w':World}(f:Fr ι g H G w w')(i:G'.nx=G.nx)(h:∀ c,eT (c)->G'.get c=G.get c):Fr ι g H G' w w':=
 ⟨f.le,by rw[i];exact f.nx,f.dom,f.os,f.tape,f.output,f.size,f.keep,fun b l a d e=>f.new b l a (by rw[<-h b a];exact d) e,fun b l a d e=>f.live b l a (by rw[<-h b a];exact d) e⟩
theorem q2y{F:Fence}{m:Nat}{o:Oper}{a j:Act}{next n:Act->World->Prop}{Q:Exit->Act->World->Prop}(d:∀ V w',next (j.put o.dst V) w'->n (a.put o.dst V) w')(p:∀ i w',next i w'->i.defers=j.defers){r:Result Next}(h:o.uponIn F m P j next (fun _ _ _=>False) r):o.uponIn F m P a n Q r:=by
 cases r with
 |ok x w'=>
  cases x<;>simp only[Oper.uponIn]at h ⊢
  case value v=>exact d _ _ h
  case skip=>exact d _ _ h
  case defer dd=>have:=p _ _ h;rw[put_defers]at this;simp_all
  case enter f args=>
   refine⟨h.1,CallsIn.mono h.2 fun e g b=>?_⟩;cases e with
   |returned v=>exact d _ _ b
   |panicked c=>exact b.elim
   |outgrown=>exact(by obtain⟨_,_,k⟩:=(b:LetsOut _);exact k.elim)
  case row row args=>exact⟨h.1,RowsIn.mono h.2 fun v g b=>d _ _ b⟩
  case round l f tmps assign body=>
   refine⟨h.1,RoundIn.mono h.2 fun e g b=>?_⟩;cases e with
   |returned v=>exact d _ _ b
   |panicked c=>exact b.elim
   |outgrown=>exact(by obtain⟨_,_,k⟩:=(b:LetsOut _);exact k.elim)
 |halt x w'=>cases x<;>simp only[Oper.uponIn]at h ⊢
structure aFv(d n base up:Nat)(ops:Array Oper)(ms:List Nat)(st:Nat->CS d)(pos:Nat->Nat)(V:Nat->AV)(B:Nat->Option bW)(K:Nat->Bool)(ι0:Im)(H0:Hp)(w0:World)(ds:List Deferred)
  (S:Nat->Prop) (a:Act) (w:World) (ι:Im) (L:TT AV d) (G:Hp) (q:Nat):Prop where
 shut:Shut ops S
 le:q<=ops.size
 nH:∀ e,e<ops.size->K e=true->(S e↔pos e<q)
 lr:LR ι d n L a.tmps
 tv:∀ t,t<8 ^ d->(dR d t).f L=tv ops n V (st 0).L S ops.size t
 hr:HR ι G w
 hs:HS base ops ms st pos B K q S G
 dead:∀ i,i<ops.size->B i≠none->¬ Mg ops ms pos K q i->(st q).H.get (base+i)=.dead
 free:∀ i,i<ops.size->B i≠none->¬ S i->ι (base+i)=none
 some:∀ i,i<ops.size->B i≠none->S i->∃ l,ι (base+i)=some l
 up:base+up<=G.nx
 fr:Fr ι0 ι H0 G w0 w
 ds:a.defers=ds
theorem xab{ι f:Im}{L k:TT AV d}{a i:Act}(c:ι.le f)(h:LR ι d n L a.tmps){v:AV}{X:Value}{b:Option Tmp}(l:LR f d n ((eG d n b).f k v) (i.put b X).tmps)(m:i.tmps.size=n):LR f d n ((eG d n b).f L v) (a.put b X).tmps:=by
 cases b with
 |none=>exact h.mono c
 |some t=>
  by_cases e:t<n
  ·refine qim (h.mono c) _ ?_;have j:=l.get t e;rw[qjq h.fit (ku e h.fit),qj ⟨rfl,e⟩]at j;simp only[Act.put]at j;simp_all
  ·have g:Nat.blt t n=false:=by
    cases g:Nat.blt t n with
    |false=>rfl
    |true=>exact absurd (yE g) e
   rw[q76 g];simp only[Act.put];rw[Array.setIfInBounds_eq_of_size_le (by rw[h.size];exact lAI e)];exact h.mono c
theorem z18{L:TT AV d}{S:Nat->Prop}(C:Can P d n O base ops ms st pos V B K)(c:n<=8 ^ d)(e:Shut ops S)(f:∀ t,t<8 ^ d->(dR d t).f L=tv ops n V (st 0).L S ops.size t){i:Nat}{o:Oper}(g:ops[i]? =some o)(a:¬ S i){v:AV}(h:V i=v):∀t,t<8 ^ d->(dR d t).f ((eG d n o.dst).f L v)=tv ops n V (st 0).L (fun j=>S j\/j=i) ops.size t:=fun t b=>by rw[qjq c b,zxb C.edg e g a t,f t b,h]
theorem step_ok(hC:qet P O){F:Fence}(hF:Fence.dW F){m up:Nat}{ι0:Im}{H0:Hp}{w0:World}{ds:List Deferred}{Q:Exit->Act->World->Prop}(C:Can P d n O base ops ms st pos V B K)(h0:(st 0).pend=[])(h0w:(st 0).jM=[])(hb:∀ i,i<ops.size->B i≠none->base+i<base+up/\eT (base+i))(hH0:H0.nx=base){S:Nat->Prop}{a:Act}{w:World}{ι:Im}{L:TT AV d}{G:Hp}{q:Nat}(I:aFv d n base up ops ms st pos V B K ι0 H0 w0 ds S a w ι L G q){i:Nat}{o:Oper}(ho:ops[i]? =some o)(E:¬ S i)(hr:∀ j∈yS o,S j){K':Act->World->Prop}(hK:∀ a' w' ι' L' G' q',aFv d n base up ops ms st pos V B K ι0 H0 w0 ds (fun j=>S j\/j=i) a' w' ι' L' G' q'->K' a' w'):wpOpIn F m P ops Q i K' a w:=by
 have hn:=I.lr.fit;have J:=qew ho;have hpj:=C.proj hn I.shut I.tv ho E hr;have aDC:∀ k,hasB (ms.getD i 0) k=true->S k:=fun k=>C.edg.yD I.shut i o k ho hr;have hlp:=I.lr.proj (lX ops o);have aEb:Shut ops (fun j=>S j\/j=i):=fun j oj hoj hj k hk=>by
  rcases hj with hj|rfl
  ·exact .inl (I.shut j oj hoj hj k hk)
  ·rw[ho]at hoj;cases hoj;exact .inl (hr k hk)
 have H:∀ i,i<ops.size->B i≠none->eT (base+i):=fun i hi h=>(hb i hi h).2;have hnm:¬ Mg ops ms pos K q i:=fun⟨e,r,t,e3,U⟩=>by obtain⟨oe,y⟩:=qpk r;exact E (C.edg.uF I.shut y ((I.nH e r e3).2 t) U)
 -- a part of the heap
 have part:∀{Hv:Hp} {X:Nat->Prop},HS base ops ms st pos B K q X Hv->(∀j,j<ops.size->X j->S j)->Hv.nx=G.nx/\∀ c,eT (c)->Hv.get c=G.get c\/Hv.get c=.dead:=fun{Hv X} hv hX=>by
  refine⟨hv.nx.trans I.hs.nx.symm,fun c g=>?_⟩;by_cases p:∃ j,j<ops.size/\X j/\B j≠none/\¬ Mg ops ms pos K q j/\c=base+j
  ·obtain⟨j,j1,j2,j3,j4,rfl⟩:=p;obtain⟨b,hbj⟩:=lAQ.1 j3;left;rw[hv.hit j b j1 j2 hbj j4,I.hs.hit j b j1 (hX j j1 j2) hbj j4]
  ·have r:=hv.miss c g fun j j1 j2 j3 j4 e=>p ⟨j,j1,j2,j3,j4,e⟩;by_cases s:∃ j,j<ops.size/\S j/\B j≠none/\¬ Mg ops ms pos K q j/\c=base+j
   ·obtain⟨j,j1,j2,j3,j4,rfl⟩:=s;right;rw[r];exact I.dead j j1 j3 j4
   ·left;rw[r,I.hs.miss c g fun j j1 j2 j3 j4 e=>s ⟨j,j1,j2,j3,j4,e⟩]
 have M:=C.step i o ho;have hext:K i=false->∀ e,e<ops.size->K e=true->((S e\/e=i)↔pos e<q):=fun W e r t=>by
  constructor
  ·rintro (h|rfl)
   ·exact(I.nH e r t).1 h
   ·rw[W]at t;cases t
  ·exact fun h=>.inl ((I.nH e r t).2 h)
 have hhs:B i=none->HS base ops ms st pos B K q (fun j=>S j\/j=i) G:=fun hB=>by
  refine⟨I.hs.nx,fun j b j1 j2 j3 j4=>?_,fun c g T=>I.hs.miss c g fun j j1 j2=>T j j1 (.inl j2)⟩;rcases j2 with j2|rfl
  ·exact I.hs.hit j b j1 j2 j3 j4
  ·rw[hB]at j3;cases j3
 have hsm:B i=none->∀ j,j<ops.size->B j≠none->(S j\/j=i)->∃ l,ι (base+j)=some l:=fun hB j j1 j2 j3=>by
  rcases j3 with j3|rfl
  ·exact I.some j j1 j2 j3
  ·exact absurd hB j2
 -- nothing but a value
 have aG5:∀{v:AV} {X:Value},V i=v->aO ι v X->B i=none->K i=false->K' (a.put o.dst X) w:=fun{v X} hv hX hB W=>
  hK _ _ ι ((eG d n o.dst).f L v) G q
   {shut:=aEb,le:=I.le,
    nH:=hext W,
    lr:=qim I.lr _ hX,tv:=z18 C hn I.shut I.tv ho E hv,hr:=I.hr,
    hs:=hhs hB,
    dead:=I.dead,free:=fun j j1 j2 j3=>I.free j j1 j2 fun h=>j3 (.inl h),
    some:=hsm hB,
    up:=I.up,fr:=I.fr,ds:=by rw[put_defers];exact I.ds}
 unfold wpOpIn;simp only[ho];have N:∀ b,(xW d n ops o).f ((oG d n (lX ops o)).f (st (pos i)).L)=Option.some b->Region.wanted o (yielded ops a.tmps)=b:=fun b hw=>by rw[<-hpj]at hw;have:=qje (a:={a with tmps:=qin (lX ops o) a.tmps}) (ops:=ops) (o:=o) hlp hw;rw[qw5]at this;exact this
 generalize hV:V i=v at M;generalize hB:B i=bo at M;generalize W:K i=ki at M;cases M with
 |skip hw _=>rw[N _ hw,pg (by simp)];exact⟨fun f _=>hF.fn f,aG5 hV (by simp only[aO];rfl) hB W⟩
 |val lk f v hf hw hval hst=>
  rw[N _ hw,qj rfl];have Y:∀ c,o.op≠ .defer c:=fun c g=>by unfold lJ at hf;rw[g]at hf;cases hf
  have hsel:∀ cs b,o.op≠ .select cs b:=fun cs b g=>by unfold lJ at hf;rw[g]at hf;cases hf
  obtain⟨Hv,hHv,hfv⟩:∃ Hv,HR ι Hv w/\f (base+i) ((oG d n (lX ops o)).f L) Hv=.val v:=by
   cases lk with
   |false=>exact⟨G,I.hr,by rw[hpj,qsb hf _ _ _ (dZ (ms.getD i 0) (st (pos i)).pend (st (pos i)).H)];exact hval⟩
   |true=>
    have hlk:aF0 (lJ P d n o)=true:=by rw[hf];rfl
    by_cases hq:q<=pos i
    ·have hp:=C.plt i J;have hno:∀ e,e<ops.size->K e=true->q<=pos e->¬ pos e<pos i:=fun e r t e3 U=>by
      obtain⟨oe,y⟩:=qpk r;have hie:isE (lJ P d n oe)=true:=by have hs:=C.step e oe y;rw[t]at hs;generalize V e=v1 at hs;generalize B e=b1 at hs;cases hs;rename_i h _ _ _ _;rw[h];rfl
      have:=(I.nH e r t).1 (aDC e (C.nH i o e oe ho y hie (.inr hlk) U));omega
     have hH:=C.oK (q:=q) (pos i) hq (by omega) hno;have hM:∀ j,Mg ops ms pos K (pos i) j↔Mg ops ms pos K q j:=fun j=>
      ⟨fun⟨e,r,t,e3,U⟩=>⟨e,r,Classical.byContradiction fun h=>hno e r e3 (by omega) t,e3,U⟩,fun⟨e,r,t,e3,U⟩=>⟨e,r,by omega,e3,U⟩⟩
     have hv:=C.view h0 H (q:=pos i) (by omega) (fun j=>hasB (ms.getD i 0) j) (fun j _ hj=>C.kX ho hj);have hv':HS base ops ms st pos B K q (fun j=>hasB (ms.getD i 0) j=true) (dZ (ms.getD i 0) (st (pos i)).pend (st (pos i)).H):=
      ⟨hv.nx.trans (by rw[hH]),fun j b j1 j2 j3 j4=>hv.hit j b j1 j2 j3 fun h=>j4 ((hM j).1 h),
       fun c g T=>(hv.miss c g fun j j1 j2 j3 j4=>T j j1 j2 j3 fun h=>j4 ((hM j).2 h)).trans (by rw[hH])⟩
     obtain⟨p1,p2⟩:=part hv' fun j _ hj=>aDC j hj;exact⟨_,I.hr.sub p1 p2,by rw[hpj];exact hval⟩
    ·have hq:pos i<q:=by omega
     have hmem:(⟨i,ms.getD i 0,f (base+i) ((oG d n (lX ops o)).f (st (pos i)).L),v⟩:Wt)∈(st (pos i+1)).jM:=by rw[hst];simp
     have hw:=C.watch (k:=i) rfl hmem q hq I.le fun e r t e3 U=>lAE.2 fun h=>by obtain⟨oe,y⟩:=qpk r;exact E (C.edg.uF I.shut y ((I.nH e r t).2 U) h)
     have hw':=(C.jM h0w q I.le _ hw).1;have hv:=C.view h0 H (q:=q) I.le (fun j=>hasB (ms.getD i 0) j) (fun j _ hj=>lE5 (C.kX ho hj) hq);obtain⟨p1,p2⟩:=part hv fun j _ hj=>aDC j hj;exact⟨_,I.hr.sub p1 p2,by rw[hpj];exact hw'⟩
  have hQ:=z3b (nm:=base+i) (a:={a with tmps:=qin (lX ops o) a.tmps}) hf hHv hlp;rw[hfv]at hQ;obtain⟨X,p,s⟩:=hQ;rw[qp7 a o hsel]at p;refine⟨fun f _=>hF.fn f,?_⟩;rw[qde Y,p];exact aG5 hV s hB W
 |new f v b hf hal hwr hw hval hst=>
  rw[N _ hw,qj rfl];have Y:∀ c,o.op≠ .defer c:=fun c g=>by unfold lJ at hf;rw[g]at hf;cases hf
  have hsel:∀ cs b,o.op≠ .select cs b:=fun cs b g=>by unfold lJ at hf;rw[g]at hf;cases hf
  have hfv:f (base+i) ((oG d n (lX ops o)).f L) G=.new v b:=by rw[hpj,qsb hf _ _ _ (dZ (ms.getD i 0) (st (pos i)).pend (st (pos i)).H)];exact hval
  have hQ:=z3b (nm:=base+i) (a:={a with tmps:=qin (lX ops o) a.tmps}) hf I.hr hlp;rw[hfv]at hQ;obtain⟨X,w',l,p,s,h3⟩:=hQ;rw[qp7 a o hsel]at p;refine⟨fun f _=>hF.fn f,?_⟩;rw[qde Y,p];have hBi:B i≠none:=by rw[hB];simp
  obtain⟨hb1,hb2⟩:=hb i J hBi;have R:=I.free i J hBi E;have hup:=I.up;have aDh:G.get (base+i)=.dead:=by
   rw[I.hs.miss (base+i) hb2 fun j j1 j2 j3 j4 e=>E (by
    have:i=j:=by omega
    rw[this];exact j2)]
   exact I.dead i J hBi hnm
  obtain⟨r1,r2⟩:=h3 (ι.set (base+i) l) (Im.jI l R) (Im.dA ..);have hsz:w.heap.size<=w'.heap.size:=by rw[s.size];omega
  have hr':HR (ι.set (base+i) l) (G.put (base+i) b) w':=I.hr.add (nx':=G.nx) hb2 R aDh (lu _) I.hr.top (by omega) l b hsz (fun c mm g p u=>s.keep _ (I.hr.low c mm g p u)) (fun _=>by rw[s.blk,s.size];omega)
   (fun c mm g p u=>by have:=I.hr.low c mm g p u;have:=s.blk;omega) r2
  refine hK _ _ (ι.set (base+i) l) ((eG d n o.dst).f L v) (G.put (base+i) b) q
   {shut:=aEb,le:=I.le,
    nH:=hext W,
    lr:=qim (I.lr.mono (Im.jI l R)) _ r1,tv:=z18 C hn I.shut I.tv ho E hV,hr:=hr',
    hs:=⟨I.hs.nx,fun j b' j1 j2 j3 j4=>?_,fun c g T=>?_⟩,
    dead:=I.dead,free:=fun j j1 j2 j3=>?_,
    some:=fun j j1 j2 j3=>?_,
    up:=I.up,fr:= ?_,ds:=by rw[put_defers];exact I.ds}
  ·rw[Hp.get_put _ _ _ _ hb2 (H j j1 (by simp[j3]))];by_cases e:j=i
   ·subst e;rw[qj rfl];rw[hB]at j3;exact Option.some.inj j3
   ·rw[pg (by omega)];rcases j2 with j2|j2
    ·exact I.hs.hit j b' j1 j2 j3 j4
    ·exact absurd j2 e
  ·have hne:c≠base+i:=T i J (.inr rfl) hBi hnm;rw[Hp.get_put _ _ _ _ hb2 g,pg hne];exact I.hs.miss c g fun j j1 j2=>T j j1 (.inl j2)
  ·have hne:j≠i:=fun e=>j3 (.inr e);rw[Im.eU _ _ (by omega)];exact I.free j j1 j2 fun h=>j3 (.inl h)
  ·by_cases e:j=i
   ·subst e;exact⟨l,Im.dA ..⟩
   ·rw[Im.eU _ _ (by omega)];rcases j3 with j3|j3
    ·exact I.some j j1 j2 j3
    ·exact absurd j3 e
  ·refine I.fr.step (Im.jI l R) (lu _) (fun c p u=>?_) s.os s.tape s.output hsz (fun c g _=>s.keep c g) (fun c mm g h1' u=>?_) (fun c mm g h1' u=>?_)
   ·by_cases e:c=base+i
    ·omega
    ·rw[Im.eU _ _ e]at u;exact absurd p u
   ·by_cases e:c=base+i
    ·subst e;rw[Im.dA]at u;cases u;exact .inl (by rw[s.blk];omega)
    ·rw[Hp.get_put _ _ _ _ hb2 g,pg e]at h1';rw[Im.eU _ _ e]at u;exact .inr ⟨c,mm,g,h1',u,rfl⟩
   ·by_cases e:c=base+i
    ·subst e;rw[Im.dA]at u;cases u;exact .inl (by rw[s.blk];omega)
    ·rw[Hp.get_put _ _ _ _ hb2 g,pg e]at h1';rw[Im.eU _ _ e]at u;exact .inr ⟨c,mm,g,h1',u,rfl⟩
 |nH f v H' hf hw hval hwt hst=>
  rw[N _ hw,qj rfl];have hie:isE (lJ P d n o)=true:=by rw[hf];rfl
  have hsel:∀ cs b,o.op≠ .select cs b:=fun cs b g=>by unfold lJ at hf;rw[g]at hf;cases hf;cases hval
  have Y:∀ c,o.op≠ .defer c:=fun c g=>by unfold lJ at hf;rw[g]at hf;cases hf;cases hval
  have hp:=C.plt i J;have aGJ:∀{e oe},ops[e]? =Option.some oe->K e=true->isE (lJ P d n oe)=true:=fun{e oe} y t=>by have hs:=C.step e oe y;rw[t]at hs;generalize V e=v1 at hs;generalize B e=b1 at hs;cases hs;rename_i h _ _ _ _;rw[h];rfl
  -- the same effects
  have z:∀ e,e<ops.size->K e=true->(pos e<pos i↔pos e<q):=fun e r t=>by
   obtain⟨oe,y⟩:=qpk r;constructor
   ·intro h;exact(I.nH e r t).1 (aDC e (C.nH i o e oe ho y (aGJ y t) (.inl hie) h))
   ·intro h;have hSe:=(I.nH e r t).2 h;rcases Nat.lt_trichotomy (pos e) (pos i)with p|p|p
    ·exact p
    ·have:=C.inj e i r J p;subst this;exact absurd hSe E
    ·exact absurd (C.edg.uF I.shut y hSe (C.nH e oe i o y ho hie (.inl (aGJ y t)) p)) E
  have hH:(st (pos i)).H=(st q).H:=by
   rcases Nat.le_total q (pos i)with h|h
   ·exact C.oK (pos i) h (by omega) fun e r t e3 U=>by have:=(z e r t).1 U;omega
   ·exact(C.oK q h I.le fun e r t e3 U=>by have:=(z e r t).2 U;omega).symm
  have hM:∀ j,Mg ops ms pos K (pos i) j↔Mg ops ms pos K q j:=fun j=>
   ⟨fun⟨e,r,t,e3,U⟩=>⟨e,r,(z e r e3).1 t,e3,U⟩,fun⟨e,r,t,e3,U⟩=>⟨e,r,(z e r e3).2 t,e3,U⟩⟩
  have hv:=C.view h0 H (q:=pos i) (by omega) (fun j=>hasB (ms.getD i 0) j) (fun j _ hj=>C.kX ho hj);generalize hHv:dZ (ms.getD i 0) (st (pos i)).pend (st (pos i)).H=Hv at hval;rw[<-qul,hHv]at hv;have hv':HS base ops ms st pos B K q (fun j=>hasB (ms.getD i 0) j=true) Hv:=
   ⟨hv.nx.trans (by rw[hH]),fun j b j1 j2 j3 j4=>hv.hit j b j1 j2 j3 fun h=>j4 ((hM j).1 h),
    fun c g T=>(hv.miss c g fun j j1 j2 j3 j4=>T j j1 j2 j3 fun h=>j4 ((hM j).2 h)).trans (by rw[hH])⟩
  obtain⟨p1,p2⟩:=part hv' fun j _ hj=>aDC j hj;have hHR:=I.hr.sub p1 p2
  -- what is not in the part is dead there
  have hout:∀ j,j<ops.size->B j≠none->¬ Mg ops ms pos K q j->hasB (ms.getD i 0) j=false->Hv.get (base+j)=.dead:=fun j j1 j2 j3 j4=>by
   rw[hv'.miss (base+j) (H j j1 j2) fun k k1 k2 k3 k4 e=>by
    have:j=k:=by omega
    subst this;rw[j4]at k2;cases k2]
   exact I.dead j j1 j2 j3
  have A:∀ c,eT (c)->(Hv.get c).bD=false->Hv.get c=G.get c:=fun c g hl=>by
   rcases p2 c g with e|e
   ·exact e
   ·rw[e]at hl;cases hl
  have hq':(st (pos i+1)).H=H':=by rw[hst]
  have hM':∀ j,Mg ops ms pos K (pos i+1) j↔Mg ops ms pos K q j\/hasB (ms.getD i 0) j=true:=fun j=>by rw[C.rY J,hM,W];simp
  rw[<-hpj]at hval
  let next:Act->World->Prop:=fun a'' w'=>∃ ι',LR ι' d n ((eG d n o.dst).f ((oG d n (lX ops o)).f L) v) a''.tmps/\HR ι' H' w'/\Fr ι ι' Hv H' w w'/\a''.defers=a.defers
  have hwp:=z7t (m:=m) (F:=F) (Q:=fun _ _ _=>False) (next:=next) (a:={a with tmps:=qin (lX ops o) a.tmps}) hf hC hF hHR hlp hval
   (fun X w' ι' r1 r2 r3=>⟨ι',qim (hlp.mono r3.le) _ r1,r2,r3,by rw[put_defers]⟩)
  refine⟨fun f _=>hF.fn f,?_⟩;have aMM:=hwp.2;rw[qde Y,qp7 a o hsel]at aMM;rw[qde Y];refine q2y (fun X w' T=>?_) (fun a'' w' T=>T.choose_spec.2.2.2) aMM;obtain⟨ι',x1,x2,D,_⟩:=T;have hlr:=xab (a:=a) D.le I.lr x1 (by simp only[qhn];exact I.lr.size);have hup:=I.up
  -- the heap behind
  let pb:Nat->Prop:=fun j=>S j/\¬ Mg ops ms pos K q j/\hasB (ms.getD i 0) j=false
  obtain⟨G',g1,g2,g3⟩:=mkG H' base (fun j=>open Classical in if pb j then B j else none) ops.size (fun j j1 j2=>H j j1 (by intro e;simp only[e]at j2;split at j2<;>exact j2 rfl));have gin:∀ j b,j<ops.size->pb j->B j=Option.some b->G'.get (base+j)=b:=fun j b j1 j2 j3=>g2 j b j1 (by rw[qj j2];exact j3);have aJv:∀ c,eT (c)->(∀j,j<ops.size->pb j->B j≠none->c≠base+j)->G'.get c=H'.get c:=fun c g T=>g3 c g fun j j1 j2=>by
   by_cases e:pb j
   ·rw[qj e]at j2;exact T j j1 e j2
   ·rw[pg e]at j2;exact absurd rfl j2
  -- facts on the blocks that are x
  have x:∀ j,j<ops.size->pb j->B j≠none->∃ b l,B j=Option.some b/\b.wr=true/\G.get (base+j)=b/\G'.get (base+j)=b/\ι (base+j)=Option.some l/\ι' (base+j)=Option.some l/\l.blk<w.heap.size/\Hv.get (base+j)=.dead:=fun j j1 j2 j3=>by
   obtain⟨b,hbj⟩:=lAQ.1 j3;obtain⟨l,hl⟩:=I.some j j1 j3 j2.1;have hGj:=I.hs.hit j b j1 j2.1 hbj j2.2.1;have aOv:b.wr=true:=by obtain⟨oj,hoj⟩:=qpk j1;have hs:=C.step j oj hoj;rw[hbj]at hs;generalize V j=v1 at hs;generalize K j=k1 at hs;cases hs;assumption
   exact⟨b,l,hbj,aOv,hGj,gin j b j1 j2 hbj,hl,D.le _ _ hl,I.hr.low _ l (H j j1 j3) (by rw[hGj];exact bW.aW aOv) hl,hout j j1 j3 j2.2.1 j2.2.2⟩
  have split:∀ c,eT (c)->(∃j,j<ops.size/\pb j/\B j≠none/\c=base+j)\/G'.get c=H'.get c:=fun c g=>by
   by_cases e:∃ j,j<ops.size/\pb j/\B j≠none/\c=base+j
   ·exact .inl e
   ·exact .inr (aJv c g fun j j1 j2 j3 h=>e ⟨j,j1,j2,j3,h⟩)
  -- a live block of H' does not lie on a x one
  have aAP:∀ j,j<ops.size->pb j->B j≠none->∀ c l l',eT (c)->(H'.get c).bD=false->ι (base+j)=Option.some l->ι' c=Option.some l'->l.blk≠l'.blk:=fun j j1 j2 j3 c l l' g hl p s e=>by
   obtain⟨b,l1,k1,k2,k3,k4,k5,k6,k7,k8⟩:=x j j1 j2 j3;rw[k5]at p;cases p;rcases D.live c l' g hl s with h5|⟨b0,l0,c1,c2,c3,c4⟩
   ·omega
   ·have hb0:=A b0 c1 c2;have:=I.hr.inj (base+j) b0 l l0 (H j j1 j3) c1 (by rw[k3];exact k2) (by rw[<-hb0];exact c2) k5 c3 (e.trans c4.symm);subst this;rw[k8]at c2;cases c2
  have aJg:∀ j,j<ops.size->B j≠none->¬ Mg ops ms pos K (pos i+1) j->H'.get (base+j)=.dead:=fun j j1 j2 j3=>by
   have bDk:¬ Mg ops ms pos K q j:=fun h=>j3 ((hM' j).2 (.inl h));have hna:hasB (ms.getD i 0) j=false:=lAE.2 fun h=>j3 ((hM' j).2 (.inr h));refine Classical.byContradiction fun Y=>?_;have hlv:(H'.get (base+j)).bD=false:=by cases hh:H'.get (base+j)<;>first|rfl|exact absurd hh Y
   obtain⟨l',hl'⟩:=(x2.blk _ (H j j1 j2)).some hlv;by_cases hSj:S j
   ·obtain⟨l,hl⟩:=I.some j j1 j2 hSj;have e:=D.le _ _ hl;rw[hl']at e;exact aAP j j1 ⟨hSj,bDk,hna⟩ j2 (base+j) l l' (H j j1 j2) hlv hl hl' (by cases e;rfl)
   ·have p:=I.free j j1 j2 hSj;have s:=D.dom (base+j) p (by rw[hl'];simp);have h3:=(hb j j1 j2).1;omega
  have aXc:HR ι' G' w':=by
   refine⟨by rw[g1];exact x2.top,fun c g=>?_,fun c l g p s=>?_,fun c c' l l' g Z p s h3 h4 h5=>?_,fun c g=>x2.fresh c (by rw[<-g1];exact g),fun c g Z=>?_⟩
   ·rcases split c g with⟨j,j1,j2,j3,rfl⟩|e
    ·obtain⟨b,l,k1,k2,k3,k4,k5,k6,k7,k8⟩:=x j j1 j2 j3;rw[k4];have hBR:=I.hr.blk _ g;rw[k3]at hBR;refine(hBR.keep fun l2 _ hl2=>?_).mono D.le;rw[k5]at hl2;cases hl2;refine D.keep l.blk k7 fun b0 l0 c1 c2 c3 e=>?_;have hb0:=A b0 c1 (bW.aW c2);have:=I.hr.inj b0 (base+j) l0 l c1 g (by rw[<-hb0];exact c2) (by rw[k3];exact bW.aW k2) c3 k5 e;subst this;rw[k8]at c2;cases c2
    ·rw[e];exact x2.blk c g
   ·rcases split c g with⟨j,j1,j2,j3,rfl⟩|e
    ·obtain⟨b,l1,k1,k2,k3,k4,k5,k6,k7,k8⟩:=x j j1 j2 j3;rw[k6]at s;cases s;exact ku k7 D.size
    ·rw[e]at p;exact x2.low c l g p s
   ·rcases split c g with⟨j,j1,j2,j3,rfl⟩|e
    ·obtain⟨b,l1,k1,k2,k3,k4,k5,k6,k7,k8⟩:=x j j1 j2 j3;rw[k6]at h3;cases h3;rcases split c' Z with⟨j',t1,t2,t3,rfl⟩|e'
     ·obtain⟨b',l2,m1,m2,m3,m4,m5,m6,m7,m8⟩:=x j' t1 t2 t3;rw[m6]at h4;cases h4;exact I.hr.inj _ _ l l' g Z (by rw[k3];exact k2) (by rw[m3];exact bW.aW m2) k5 m5 h5
     ·rw[e']at s;exact absurd h5 (aAP j j1 j2 j3 c' l l' Z s k5 h4)
    ·rw[e]at p;rcases split c' Z with⟨j',t1,t2,t3,rfl⟩|e'
     ·obtain⟨b',l2,m1,m2,m3,m4,m5,m6,m7,m8⟩:=x j' t1 t2 t3;rw[m6]at h4;cases h4;exact absurd h5.symm (aAP j' t1 t2 t3 c l' l g (bW.aW p) m5 h3)
     ·rw[e']at s;exact x2.inj c c' l l' g Z p s h3 h4 h5
   ·rw[g1]at g;have hnx:=D.nx;rw[aJv c Z fun j j1 j2 j3 e=>by have:=(hb j j1 j3).1;omega];exact x2.free c g Z
  refine hK _ _ ι' ((eG d n o.dst).f L v) G' (pos i+1)
   {shut:=aEb,le:=hp,
    nH:=fun e r t=>?_,
    lr:=hlr,tv:=z18 C hn I.shut I.tv ho E hV,hr:=aXc,
    hs:=⟨by rw[g1,hq'],fun j b j1 j2 j3 j4=>?_,fun c g T=>?_⟩,
    dead:=fun j j1 j2 j3=>by rw[hq'];exact aJg j j1 j2 j3,
    free:=fun j j1 j2 j3=>?_,
    some:=fun j j1 j2 j3=>?_,
    up:=by rw[g1];have:=D.nx;omega,fr:= ?_,ds:=by rw[put_defers];exact I.ds}
  ·rw[C.lt_succ J r];constructor
   ·rintro (h|h)
    ·exact .inl ((z e r t).2 ((I.nH e r t).1 h))
    ·exact .inr h
   ·rintro (h|h)
    ·exact .inl ((I.nH e r t).2 ((z e r t).1 h))
    ·exact .inr h
  ·rcases j2 with j2|rfl
   ·exact gin j b j1 ⟨j2,fun h=>j4 ((hM' j).2 (.inl h)),lAE.2 fun h=>j4 ((hM' j).2 (.inr h))⟩ j3
   ·rw[hB]at j3;cases j3
  ·rw[hq'];exact aJv c g fun j j1 j2 j3=>T j j1 (.inl j2.1) j3 fun h=>by
    rcases(hM' j).1 h with h|h
    ·exact j2.2.1 h
    ·rw[j2.2.2]at h;cases h
  ·have p:=I.free j j1 j2 fun h=>j3 (.inl h);refine Classical.byContradiction fun s=>?_;have h3:=D.dom (base+j) p s;have h4:=(hb j j1 j2).1;omega
  ·rcases j3 with j3|rfl
   ·obtain⟨l,hl⟩:=I.some j j1 j2 j3;exact⟨l,D.le _ _ hl⟩
   ·exact absurd hB j2
  ·have hnx:=D.nx;refine I.fr.step D.le (by rw[g1,<-p1];exact hnx) (fun c p s=>?_) D.os D.tape D.output D.size (fun c g T=>D.keep c g fun b l b1 b2 b3=>T b l b1 (by rw[<-A b b1 (bW.aW b2)];exact b2) b3) (fun c l g p s=>?_) (fun c l g p s=>?_)
   ·have:=D.dom c p s;omega
   ·rcases split c g with⟨j,j1,j2,j3,rfl⟩|e
    ·obtain⟨b,l1,k1,k2,k3,k4,k5,k6,k7,k8⟩:=x j j1 j2 j3;rw[k6]at s;cases s;exact .inr ⟨base+j,l,g,by rw[k3];exact k2,k5,rfl⟩
    ·rw[e]at p;rcases D.new c l g p s with h3|⟨b0,l0,c1,c2,c3,c4⟩
     ·exact .inl h3
     ·exact .inr ⟨b0,l0,c1,by rw[<-A b0 c1 (bW.aW c2)];exact c2,c3,c4⟩
   ·rcases split c g with⟨j,j1,j2,j3,rfl⟩|e
    ·obtain⟨b,l1,k1,k2,k3,k4,k5,k6,k7,k8⟩:=x j j1 j2 j3;rw[k6]at s;cases s;exact .inr ⟨base+j,l,g,by rw[k3];exact bW.aW k2,k5,rfl⟩
    ·rw[e]at p;rcases D.live c l g p s with h3|⟨b0,l0,c1,c2,c3,c4⟩
     ·exact .inl h3
     ·exact .inr ⟨b0,l0,c1,by rw[<-A b0 c1 c2];exact c2,c3,c4⟩
def open_(listed:Array Bool)(N:Nat):Nat:=(List.range N).countP fun j=> !listed.getD j false
theorem qe8(a:Array Bool)(N:Nat):open_ a (N+1)=open_ a N+if a.getD N false=true then 0 else 1:=by unfold open_;rw[lAM,List.countP_append];congr 1;cases h:a.getD N false<;>simp only[List.countP_cons,List.countP_nil,h]<;>rfl
theorem qvx(a:Array Bool)(i j:Nat)(b:i<a.size):(a.setIfInBounds i true).getD j false=(a.getD j false||decide (j=i)):=by
 by_cases e:i=j
 ·simp_all
 ·have:j≠i:=fun h=>e h.symm;simp[e,this]
theorem q8d(a:Array Bool)(i:Nat)(b:i<a.size)(c:a.getD i false=false):∀ N,i<N->open_ (a.setIfInBounds i true) N+1=open_ a N
 |0,h=>by omega
 |N+1,h=>by
  rw[qe8,qe8,qvx _ _ _ b];by_cases e:i=N
  ·subst e;have:∀ M,M<=i->open_ (a.setIfInBounds i true) M=open_ a M:=fun M=>by
    induction M with
    |zero=>intro _;rfl
    |succ M ih=>
     intro d;rw[qe8,qe8,qvx _ _ _ b,ih (by omega)];have:M≠i:=by omega
     simp[this]
   simp_all
  ·have ih:=q8d a i b c N (by omega);have:N≠i:=fun h=>e h.symm;simp only[this,decide_false,Bool.or_false];omega
theorem qyi(a:Array Bool):∀ N,open_ a N=0->∀ j,j<N->a.getD j false=true
 |0,_,j,hj=>by omega
 |N+1,h,j,hj=>by
  rw[qe8]at h;by_cases e:j=N
  ·simp_all
  ·exact qyi a N (by omega) j (by omega)
theorem qyv{o:Oper}{j:Nat}:j∈yS o↔∃ e∈o.after,Region.binds .any e=true/\e.on=j:=by
 unfold yS;simp only[uC,xF,Array.mem_toList_iff];constructor
 ·rintro ⟨e,⟨a,b⟩,c⟩;exact⟨e,a,b,c⟩
 ·rintro ⟨e,a,b,c⟩;exact⟨e,⟨a,b⟩,c⟩
theorem any_ok(M:qet P O){F:Fence}(N:Fence.dW F){m up:Nat}{ι0:Im}{H0:Hp}{w0:World}{ds:List Deferred}{Q:Exit->Act->World->Prop}(C:Can P d n O base ops ms st pos V B K)(R:(st 0).pend=[])(r:(st 0).jM=[])(T:∀ i,i<ops.size->B i≠none->base+i<base+up/\eT (base+i))(s:H0.nx=base)(E:∀ S a w ι L G q,(∀j,j<ops.size->S j)->aFv d n base up ops ms st pos V B K ι0 H0 w0 ds S a w ι L G q->Q .normal a w):∀(c:Nat) (b:Array Bool) (a:Act) (w:World) (ι:Im) (L:TT AV d) (G:Hp) (q:Nat),b.size=ops.size->open_ b ops.size=c -> aFv d n base up ops ms st pos V B K ι0 H0 w0 ds (fun j=>b.getD j false=true) a w ι L G q->wpAnyIn F m P .any ops Q c b a w:=by
 have v:∀ b:Array Bool,b.size=ops.size->Region.ready .any ops b=[]->∀ j,j<ops.size->b.getD j false=true:=fun b h p j=>by
  induction j using Nat.strongRecOn with
  |ind j ih=>
   intro u;refine Classical.byContradiction fun H=>?_;obtain⟨o,g⟩:=qpk u;have:j∈Region.ready .any ops b:=mem_ready.2 ⟨by
     rw[zu,bu (by omega)]at H ⊢;simpa using H,o,g,fun e U t=>by
    have y:=C.edg.back j o g e.on (qyv.2 ⟨e,U,t,rfl⟩);exact ih e.on y (by omega)⟩
   simp_all
 intro c
 induction c with
 |zero=>
  intro b a w ι L G q h g I;have f:=qyi b _ g;refine⟨?_,E _ a w ι L G q f I⟩;cases p:Region.ready .any ops b with
  |nil=>rfl
  |cons x xs=>
   have:x∈Region.ready .any ops b:=by rw[p];simp
   obtain⟨J,o,A,_⟩:=mem_ready.1 this;have:=f x (qew A);rw[zu,bu (by rw[h];exact qew A)]at this J;simp_all
 |succ c ih=>
  intro b a w ι L G q h D I;refine⟨fun p=>E _ a w ι L G q (v b h p) I,fun i W=>?_⟩;obtain⟨J,o,g,A⟩:=mem_ready.1 W;have z:=qew g;have k:i<b.size:=by omega
  have l:b.getD i false=false:=by simp_all
  refine step_ok M N C R r T s I g (by rw[l];simp) (fun j u=>?_) fun X w' Y Z G' q' I'=>?_
  ·obtain⟨e,e1,e2,rfl⟩:=qyv.1 u;simp_all
  ·refine ih _ X w' Y Z G' q' (by simpa using h) ?_ ?_
   ·have:=q8d b i k l ops.size z;omega
   ·have hS:(fun j=>(b.setIfInBounds i true).getD j false=true)=(fun j=>b.getD j false=true\/j=i):=by
     funext j;rw[qvx _ _ _ k];simp
    simp_all
theorem ztv(hC:qet P O){F:Fence}(hF:Fence.dW F)(hm:P.follows .mixedOrders=true){m id:Nat}{Q:Exit->Act->World->Prop}{ι:Im}{H:Hp}{w:World}{a:Act}{L:TT AV d}(J:HR ι H w)(h:LR ι d n L a.tmps){L':TT AV d}{H':Hp}(A:(qq2 P d n ops).f O L H=.ok L' H')(hK:Then ι H w a d n L' H' (Q .normal)):(Code.region id ops true).wpIn F m P Q a w:=by
 unfold qq2 at A;split at A
 ·cases A
 ·rename_i pl hp;simp only at A
  ·
   split at A
   ·cases A
   ·rename_i L1 H1 z jM hx;cases A;obtain⟨st,pos,V,B,K,C,s0,sN,hu⟩:=Can.of (s:=⟨L,⟨H.t,H.nx+pl.up⟩,[],[]⟩) hp hx;have T:eT (H.nx+pl.up):=p8;have u:∀ i,i<ops.size->B i≠none->H.nx+i<H.nx+pl.up/\eT (H.nx+i):=fun i k r=>by
     obtain⟨o,ho⟩:=qpk k;have hs:=C.step i o ho;obtain⟨b,u⟩:=lAQ.1 r;rw[u]at hs;generalize V i=v1 at hs;generalize K i=k1 at hs;have hal:qh7 o.op=true:=by cases hs;assumption
     have U:ops.toList.any (fun o=>qh7 o.op)=true:=dC.2 ⟨o,uz (i:=i) (by simpa using ho),hal⟩;rw[U]at hu;simp only[uB]at hu;exact⟨by omega,p8⟩
    have hd:=J.drawn (w.drawn+1);have hH0:HR ι ⟨H.t,H.nx+pl.up⟩ {w with drawn:=w.drawn+1}:=
     ⟨T,hd.blk,hd.low,hd.inj,fun b D=>J.fresh b (by simp only at D;omega),fun b D aVW=>J.free b (by simp only at D;omega) aVW⟩
    have hF0:Fr ι ι H ⟨H.t,H.nx+pl.up⟩ w {w with drawn:=w.drawn+1}:=
     ⟨Im.le_refl _,by simp,fun b g E=>absurd g E,rfl,rfl,rfl,lu _,fun _ _ _=>rfl,fun b l u g E=>.inr ⟨b,l,u,g,E,rfl⟩,fun b l u g E=>.inr ⟨b,l,u,g,E,rfl⟩⟩
    have aIE:∀ i,i<ops.size->B i≠none->H.get (H.nx+i)=.dead:=fun i k r=>J.free _ (by omega) (u i k r).2;refine wpIn_region_any hm (any_ok (base:=H.nx) (up:=pl.up) (ι0:=ι) (H0:=H) (w0:=w) (ds:=a.defers) hC hF C (by rw[s0]) (by rw[s0]) u rfl ?_ ops.size (Array.replicate ops.size false) a {w with drawn:=w.drawn+1} ι L ⟨H.t,H.nx+pl.up⟩ 0 (by simp) ?_ ?_)
    ·intro S a' w' ι' LL G q f I;have hM:∀ j,Mg ops pl.ms pos K ops.size j↔Mg ops pl.ms pos K q j:=fun j=>
      ⟨fun⟨e,p,Z,M,e4⟩=>⟨e,p,(I.nH e p M).1 (f e p),M,e4⟩,fun⟨e,p,Z,M,e4⟩=>⟨e,p,C.plt e p,M,e4⟩⟩
     have hHq:=C.oK (q:=q) ops.size I.le (lu _) fun e p Z M e4=>by have:=(I.nH e p Z).1 (f e p);omega
     have hv:=C.view (by rw[s0]) (fun i k r=>(u i k r).2) (q:=ops.size) (lu _) (fun _=>true) (fun j hj _=>C.plt j hj);rw[<-z4v,sN]at hv;have W:(oF z H1).nx=G.nx:=by have g:=hv.nx;have E:=I.hs.nx;simp_all
     have v:∀ c,eT (c)->(oF z H1).get c=G.get c:=fun c R=>by
      by_cases e:∃ j,j<ops.size/\B j≠none/\¬ Mg ops pl.ms pos K q j/\c=H.nx+j
      ·obtain⟨j,j1,j2,j3,rfl⟩:=e;obtain⟨b,Y⟩:=lAQ.1 j2;rw[hv.hit j b j1 rfl Y fun x=>j3 ((hM j).1 x),I.hs.hit j b j1 (f j j1) Y j3]
      ·rw[hv.miss c R fun j j1 _ j3 j4 x=>e ⟨j,j1,j3,fun y=>j4 ((hM j).2 y),x⟩,I.hs.miss c R fun j j1 _ j3 j4 x=>e ⟨j,j1,j3,j4,x⟩,hHq]
     refine hK a' w' ι' ⟨I.lr.size,I.lr.fits,fun t ht=>?_⟩ I.ds (I.hr.sub W fun c R=>.inl (v c R)) (I.fr.congr W v);have X:=ku ht h.fit;have g:=C.locals h.fit ops.size (lu _) t X;rw[sN]at g;rw[g,qjf (S':=S) _ fun j hj _=>⟨fun _=>f j hj,fun _=>C.plt j hj⟩,<-I.tv t X];exact I.lr.get t ht
    ·have:∀ N,open_ (Array.replicate ops.size false) N=N:=fun N=>by
      induction N with
      |zero=>rfl
      |succ N ih=>
       rw[qe8,ih];have:(Array.replicate ops.size false).getD N false=false:=by rw[zu,Array.getElem?_replicate];split<;>rfl
       rw[this];rfl
     exact this _
    ·have hgf:∀ j,(Array.replicate ops.size false).getD j false=false:=fun j=>by
      rw[zu,Array.getElem?_replicate];split<;>rfl
     refine{shut:=fun i o ho k=>?_,le:=gp _,nH:=fun e p Z=>?_,lr:=h,tv:=fun t ht=>?_,hr:=hH0,hs:=⟨by rw[s0],fun i b g E=>?_,fun c R _=>by rw[s0]⟩,dead:=fun i k r _=>?_,free:=fun i k r _=>J.fresh _ (by omega),some:=fun i k r hS=>?_,up:=lu _,fr:=hF0,ds:=rfl}
     ·simp_all
     ·simp_all
     ·have g:=C.locals h.fit 0 (gp _) t ht;simp_all
     ·simp_all
     ·rw[s0];exact aIE i k r
     ·simp_all
theorem zib{a:TT AV d}{S:Nat->Prop}:∀ m,tv ops n V a S m n=(dR d n).f a
 |0=>rfl
 |m+1=>by unfold tv;rw[pg (by omega)];exact zib m
theorem qss(b:n<8 ^ d){L:TT AV d}{H:Hp}{c:TT AV d}{g:Hp}(a:(qq2 P d n ops).f O L H=.ok c g):(dR d n).f c=(dR d n).f L:=by
 unfold qq2 at a;split at a
 ·cases a
 ·rename_i pl h;simp only at a
  ·
   split at a
   ·cases a
   ·rename_i L1 H1 f k i;cases a;obtain⟨st,pos,V,B,K,C,s0,j,l⟩:=Can.of (s:=⟨L,⟨H.t,H.nx+pl.up⟩,[],[]⟩) h i;have e:=C.locals (zo b) ops.size (lu _) n b;rw[j]at e;rw[e,s0];exact zib _
end Go.Ev
end
noncomputable section
namespace Go.Ev
open Go.RowKit
variable {P:Program} {w:World} {ι:Im} {a:Act} {d n:Nat} {L:TT AV d} {H:Hp} {O:Call} {F:Fence} {m:Nat}
def MdL(lo:Nat)(ι:Im)(H:Hp)(w:World):List AV->List Deferred->List Nat->Prop
 |l,[],Ds=>l=[]/\Ds=[]
 |l,x::ds,Ds=>(∃D Ds',Ds=D::Ds'/\x={target:=.collected D,args:= #[]}/\D∉Ds'/\(lo<=D/\D<w.heap.size/\w.heap[D]? =some (.deferred (some []))/\∀ b l,eT (b)->(H.get b).bD=false->ι b=some l->l.blk≠D)/\MdL lo ι H w l ds Ds') \/
   (∃g all l' A C,l=.fn g all []::l'/\x={target:=.fn (.func g) C,args:=A}/\aL ι all (A.toList++C.toList)/\MdL lo ι H w l' ds Ds)
theorem MdL.fr{lo:Nat}{o:Im}{p:Hp}{w':World}(f:Fr ι o H p w w'):∀{ds:List Deferred} {l:List AV} {a:List Nat},MdL lo ι H w l ds a->MdL lo o p w' l ds a
 | [],l,a,h=>h
 |x::ds,l,a,h=>by
  rcases h with⟨D,e,i,j,k,⟨k0,q,k2,k3⟩,m⟩|⟨g,n,u,A,C,i,j,k,m⟩
  ·refine .inl ⟨D,e,i,j,k,⟨k0,ku q f.size,?_,fun b l c r d s=>?_⟩,m.fr f⟩
   ·rw[f.keep D q fun b l c t d=>k3 b l c (bW.aW t) d];exact k2
   ·rcases f.live b l c r d with F|⟨v,y,z,B,E,c4⟩
    ·omega
    ·exact k3 v y z B E (c4.trans s)
  ·exact .inr ⟨g,n,u,A,C,i,j,aL.mono f.le _ _ k,m.fr f⟩
theorem MdL.lt{lo:Nat}:∀{ds:List Deferred} {l:List AV} {b:List Nat},MdL lo ι H w l ds b->∀ D∈b,D<w.heap.size
 | [],l,b,h,D,a=>by rw[h.2]at a;cases a
 |x::ds,l,b,h,D,a=>by
  rcases h with⟨m,e,d,f,i,⟨k0,j,k2,k3⟩,c⟩|⟨g,k,n,A,C,d,f,i,c⟩
  ·subst d;rcases su.1 a with rfl|a
   ·exact j
   ·exact c.lt D a
  ·exact c.lt D a
structure Md(pl:Bool)(lo:Nat)(ι:Im)(H:Hp)(w:World)(l:List AV)(ds:List Deferred):Prop where
 plain:pl=true->ds=[]
 low:lo<=w.heap.size
 ex:∃ Ds,MdL lo ι H w l ds Ds
theorem Md.nil{pl:Bool}{lo:Nat}(h:lo<=w.heap.size):Md pl lo ι H w [] []:=⟨fun _=>rfl,h,[],rfl,rfl⟩
theorem Md.fr{pl:Bool}{lo:Nat}{a:Im}{b:Hp}{w':World}{l:List AV}{ds:List Deferred}(h:Md pl lo ι H w l ds)(f:Fr ι a H b w w'):Md pl lo a b w' l ds:=by obtain⟨c,d,e,g⟩:=h;exact⟨c,rq d f.size,e,g.fr f⟩
def z9f:Ex->Exit
 | .normal=>.normal
 | .exit id=>.exit id
 | .ret=>.ret
 | .goto l=>.goto l
def After(pl:Bool)(lo:Nat)(ι:Im)(H:Hp)(w:World)(d n:Nat)(L':TT AV d)(H':Hp)(Q:Act->World->Prop):Prop:=
 ∀a' w' ι',LR ι' d n L' a'.tmps->Md pl lo ι' H' w' (dl ((dR d n).f L')) a'.defers->HR ι' H' w'->Fr ι ι' H H' w w'->Q a' w'
theorem quw{r:Rc d}{k:TT AV d->Hp->Rc d}{a:Ex}{b:TT AV d}{c:Hp}(h:zW r k=.ok a b c):(∃L1 H1,r=.ok .normal L1 H1/\k L1 H1=.ok a b c)\/(a≠ .normal/\r=.ok a b c):=by
 unfold zW at h;split at h
 ·exact .inl ⟨_,_,rfl,h⟩
 ·simp_all
theorem qzr{r:Rc d}{id:Nat}{a:Ex}{b:TT AV d}{c:Hp}(h:qzs id r=.ok a b c):(a=.normal/\r=.ok (.exit id) b c)\/((∀i,a=.exit i->i≠id)/\r=.ok a b c):=by
 unfold qzs at h;split at h
 ·rename_i f L1 H1;cases g:Nat.beq f id with
  |true=>rw[g]at h;simp only[uB]at h;cases h;have:=yM g;subst this;exact .inl ⟨rfl,rfl⟩
  |false=>rw[g]at h;simp only[af]at h;cases h;refine .inr ⟨fun i e=>?_,rfl⟩;cases e;intro e;subst e;simp_all
 ·simp_all
theorem After.normal{pl:Bool}{lo:Nat}{e:Im}{H1:Hp}{w':World}{g:TT AV d}{i:Hp}{Q:Act->World->Prop}(f:Fr ι e H H1 w w')(h:After pl lo ι H w d n g i Q):After pl lo e H1 w' d n g i Q:=
 fun a b c j k l m=>h a b c j k l (f.trans m)
def qes(P:Program)(O:Call)(d n m:Nat)(c:Code):Prop:=
 ∀{F:Fence},Fence.dW F->(F.round=none\/lI c=true)->∀{pl:Bool} {lo:Nat} {ι:Im} {w:World} {a:Act} {L:TT AV d} {H:Hp},HR ι H w->LR ι d n L a.tmps->(pl=true->lI c=true)->Md pl lo ι H w (dl ((dR d n).f L)) a.defers ->
  ∀{ex:Ex} {L':TT AV d} {H':Hp},(den P d n c).f O L H=.ok ex L' H'->∀{Q:Exit->Act->World->Prop},After pl lo ι H w d n L' H' (Q (z9f ex))->c.wpIn F m P Q a w
theorem zt1{x y:Code}(s:qes P O d n m x)(C:qes P O d n m y):qes P O d n m (.seq x y):=by
 intro F p v pl lo ι w a L H z h f A D I J E Q B;have b:F.round=none\/lI x=true:=v.imp id fun h=>by simp only[lI,qh]at h;exact h.1
 have l:F.round=none\/lI y=true:=v.imp id fun h=>by simp only[lI,qh]at h;exact h.2
 have c:pl=true->lI x=true:=fun e=>by have:=f e;simp only[lI,qh]at this;exact this.1
 have o:pl=true->lI y=true:=fun e=>by have:=f e;simp only[lI,qh]at this;exact this.2
 refine wpIn_seq ?_;rcases quw E with⟨L1,H1,q,G⟩|⟨r,q⟩
 ·exact s p b z h c A q fun t w' u g i j k=>C p l j g o i G (B.normal k)
 ·refine s p b z h c A q fun t w' u g i j k=>?_;have:=B t w' u g i j k;cases D<;>first|exact absurd rfl r|exact this
theorem zmk{c:Operand}{x y:Code}(t:qes P O d n m x)(u:qes P O d n m y):qes P O d n m (.cond c x y):=by
 intro F o p pl lo ι w a L H q h g r v z A f Q s;have i:F.round=none\/lI x=true:=p.imp id fun h=>by simp only[lI,qh]at h;exact h.1
 have j:F.round=none\/lI y=true:=p.imp id fun h=>by simp only[lI,qh]at h;exact h.2
 have k:pl=true->lI x=true:=fun e=>by have:=g e;simp only[lI,qh]at this;exact this.1
 have l:pl=true->lI y=true:=fun e=>by have:=g e;simp only[lI,qh]at this;exact this.2
 have b:=fK h c;change condC ((aM d n c).f L) _ _=_ at f;unfold condC at f;split at f
 ·rename_i e;rw[e]at b;simp only[aO]at b;exact wpIn_cond_true b (t o i q h k r f s)
 ·rename_i e;rw[e]at b;simp only[aO]at b;exact wpIn_cond_false b (u o j q h l r f s)
 ·cases f
theorem zbc{id:Nat}{x:Code}(p:qes P O d n m x):qes P O d n m (.block id x):=by
 intro F q r pl lo ι w a L H s h b t v z A y Q u;refine wpIn_block ?_;rcases qzr y with⟨rfl,l⟩|⟨o,l⟩
 ·refine p q r s h b t l fun c w' e f g j k=>?_;show if id=id then _ else _
  rw[qj rfl];exact u c w' e f g j k
 ·refine p q r s h b t l fun c w' e f g j k=>?_;have:=u c w' e f g j k;cases v with
  |exit i=>show if i=id then _ else _;rw[pg (o i rfl)];exact this
  |normal=>exact this
  |ret=>exact this
  |goto=>exact this
theorem zmj{x:Code}(o:qes P O d n m x):qes P O d n m (.loop x):=by
 intro F r s pl lo ι w a L H t h b u y A B c Q v;change qyy _ bZ L H=_ at c;refine wpIn_loop_rounds bZ ?_;revert c;generalize bZ=k;intro c
 induction k generalizing ι w a L H with
 |zero=>cases c
 |succ k ih=>
  rcases quw c with⟨L1,H1,j,z⟩|⟨l,j⟩
  ·exact o r s t h b u j fun p w' q e f g i=>ih g e f (v.normal i) z
  ·refine o r s t h b u j fun p w' q e f g i=>?_;have:=v p w' q e f g i;cases y<;>first|exact absurd rfl l|exact this
theorem zba{x:Code}(o:qes P O d n m x)(p:∀ L H b g j,(den P d n x).f O L H=.ok b g j->∀ l,b≠ .goto l):qes P O d n m (.scope x):=by
 intro F z c pl lo ι w a L H A h f B b g j k Q C;have c:F.round=none:=c.resolve_right (by simp[lI]);obtain⟨r,rfl⟩:=z.eq;have:r=none:=c;subst this;have D:({Fence.wide with round:=none}:Fence)=Fence.wide:=rfl;refine wpIn_wide.2 (wp_scope_straight ((wpIn_wide (n:=m)).1 ?_));refine o Fence.aA2 (.inl rfl) A h (fun e=>by have:=f e;simp[lI]at this) B k fun q w' s t u v y=>?_;have:=C q w' s t u v y;cases b with
 |goto l=>exact absurd rfl (p _ _ _ _ _ k l)
 |exit i=>exact this
 |normal=>exact this
 |ret=>exact this
theorem za8:∀(c:Code) {L:TT AV d} {H:Hp} {g:Ex} {i:TT AV d} {j:Hp},(den P d n c).f O L H=.ok g i j->∀ l,g≠ .goto l:=by
 intro c
 induction c with
 |skip=>intro L H g i j h l;cases h;exact fun e=>by cases e
 |label=>intro L H g i j h l;cases h;exact fun e=>by cases e
 |region id ops draw=>
  intro L H g i j h l;cases draw with
  |false=>
   change pO _=_ at h;unfold pO at h;split at h
   ·cases h
   ·cases h;exact fun e=>by cases e
  |true=>
   change pO _=_ at h;unfold pO at h;split at h
   ·cases h
   ·cases h;exact fun e=>by cases e
 |seq a b iha ihb=>
  intro L H g i j h l;rcases quw h with⟨L1,H1,m,o⟩|⟨_,m⟩
  ·exact ihb o l
  ·exact iha m l
 |cond x a b iha ihb=>
  intro L H g i j h l;change condC _ _ _=_ at h;unfold condC at h;split at h
  ·exact iha h l
  ·exact ihb h l
  ·cases h
 |block id b ih=>
  intro L H g i j h l;rcases qzr h with⟨rfl,_⟩|⟨_,m⟩
  ·simp
  ·exact ih m l
 |loop b ih=>
  intro L H g i j h l;change qyy _ bZ L H=_ at h;revert h;generalize bZ=k;intro h
  induction k generalizing L H with
  |zero=>cases h
  |succ k ihk=>
   rcases quw h with⟨L1,H1,m,o⟩|⟨_,m⟩
   ·exact ihk o
   ·exact ih m l
 |scope b ih=>intro L H g i j h l;exact ih h l
 |exit id=>intro L H g i j h l;cases h;exact fun e=>by cases e
 |goto=>intro L H g i j h l;cases h
 |ret=>intro L H g i j h l;cases h;exact fun e=>by cases e
 |rangeFunc f ps assign body _ _=>
  intro L H g i j h l;unfold den at h;split at h
  ·cases h
  ·simp only at h
   ·
    unfold endLoop at h;split at h
    ·cases h
    ·split at h
     ·cases h;exact fun e=>by cases e
     ·cases h;exact fun e=>by cases e
     ·cases h;exact fun e=>by cases e
     ·cases h
 |refuse=>intro L H g i j h l;cases h
theorem HR.alloc(h:HR ι H w)(o:Obj):HR ι H (w.alloc o)/\Fr ι ι H H w (w.alloc o):=by
 have d:∀ c,c<w.heap.size->(w.alloc o).heap[c]? =w.heap[c]? :=fun c g=>Below.heap_alloc w o c g;refine⟨⟨h.top,fun b a=>(h.blk b a).keep fun l i j=>d _ (h.low b l a i j),fun b l a e f=>by have:=h.low b l a e f;simp;omega,h.inj,h.fresh,h.free⟩,
  ⟨Im.le_refl _,lu _,fun b e f=>absurd e f,rfl,rfl,rfl,by simp,fun c g _=>d c g,fun b l a e f=>.inr ⟨b,l,a,e,f,rfl⟩,fun b l a e f=>.inr ⟨b,l,a,e,f,rfl⟩⟩⟩
theorem HR.xH(h:HR ι H w){b:Nat}{l:Loc}(d:ι b=some l)(a:(H.get b).wr=true)(k:bW)(o:Obj)(e:BR ι (w.putObj l.blk o) b k):HR ι (H.put b k) (w.putObj l.blk o)/\Fr ι ι H (H.put b k) w (w.putObj l.blk o):=
 h.put (h.lt d) a d k rfl rfl rfl (by simp) (fun c f=>World.putObj_heap_other f) e
set_option maxHeartbeats 1000000 in
theorem zbb{g:Operand}{ps:Array Tmp}{assign body:Code}(hC:qet P O):qes P O d n m (.rangeFunc g ps assign body):=by
 intro F hF hr pl lo ι w a L H hH h hpl hM ex L' H' r Q hQ;have Z:F.round=none:=hr.resolve_right (by simp[lI]);have hpf:pl=false:=by
  cases pl with
  |false=>rfl
  |true=>have:=hpl rfl;simp[lI]at this
 subst hpf;unfold den at r;split at r
 ·cases r
 ·rename_i gf _ hg y;simp only at r
  ·
   have E:eT (H.nx):=p8;simp only[qh]at y;have s:=fK h g;rw[hg]at s;simp only at s
   -- the record and the block for deferred calls
   obtain⟨hA,fA⟩:=hH.alloc (.deferred (some []));refine wpIn_rangeFunc fun fn _=>?_
   let lp:Loop:={state:=.ready,pending:=none,fn:=fn,tmps:=a.tmps,params:=ps,assign:=assign,body:=body,defers:=w.heap.size}
   let loc:Loc:=⟨w.heap.size+1,0,0,0⟩
   have G:=hA.fresh H.nx (lu _);obtain⟨hB,fB⟩:=hA.push (w':=(w.alloc (.deferred (some []))).alloc (.loop lp)) E loc (.loop true none d n L ps.toList assign body) rfl rfl rfl (by simp) (fun c hc=>Below.heap_alloc _ _ c hc) (by simp[loc])
    ⟨loc,lp,Im.dA ..,by have:=World.alloc_heap_new (w.alloc (.deferred (some []))) (.loop lp);simpa [loc] using this,rfl,rfl,rfl,rfl,rfl,h.mono (Im.jI loc G),y.1,y.2⟩
   have U:=fA.trans fB;have hMd:Md false lo (ι.set H.nx loc) (aI H (.loop true none d n L ps.toList assign body)) ((w.alloc (.deferred (some []))).alloc (.loop lp)) (dl ((dR d n).f L)) ({target:=.collected w.heap.size,args:= #[]}::a.defers):=by
    obtain⟨Ds,m1⟩:=hM.ex;have m2:=m1.fr U;have I:=hM.low;refine⟨fun e=>(by cases e),rq I U.size,w.heap.size::Ds,.inl ⟨w.heap.size,Ds,rfl,rfl,fun X=>absurd (m1.lt _ X) (xx _),⟨I,by simp;omega,?_,fun b l Y hl T e=>?_⟩,m2⟩⟩
    ·rw[Below.heap_alloc _ _ _ (by simp)];exact World.alloc_heap_new w _
    ·have hgp:(aI H (.loop true none d n L ps.toList assign body)).get b=if b=H.nx then(.loop true none d n L ps.toList assign body)else H.get b:=by exact Mem.get_put _ _ _ _
     by_cases e':b=H.nx
     ·subst e';rw[Im.dA]at T;cases T;simp[loc]at e
     ·rw[Im.eU _ _ e']at T;rw[hgp,pg e']at hl;have:=hH.low b l Y hl T;omega
   unfold endLoop at r;split at r
   ·cases r
   ·rename_i v H2 p;unfold qj3 at p;split at p
    ·rename_i f first cap hgL
     rw[hgL]at s;obtain⟨A,Cc,r1,r2,r3⟩:=s;have J:ι.le (ι.set H.nx loc):=Im.jI loc G;have hyv:aO (ι.set H.nx loc) (.yield H.nx) (.func (.yield (w.heap.size+1)) #[] #[]):=by simp only[aO];exact⟨loc,Im.dA ..,rfl⟩
     obtain⟨c1,c2⟩:=hC.fn _ _ _ _ _ p (ι.set H.nx loc) _ (A++[.func (.yield (w.heap.size+1)) #[] #[]]++Cc) hB
      (((aL.mono J _ _ r1).append (aL.singleton hyv)).append (aL.mono J _ _ r2))
     have t:(Instr.enterLoop fn a.tmps ps assign body F.round).run P w=.ok (w.heap.size+1,[{target:=.collected w.heap.size,args:= #[]}]) ((w.alloc (.deferred (some []))).alloc (.loop lp)):=by rw[Z];exact run_enterLoop_outer fn a.tmps ps assign body
     refine⟨w.heap.size+1,[{target:=.collected w.heap.size,args:= #[]}],(w.alloc (.deferred (some []))).alloc (.loop lp),{target:=.fn (.func f) Cc.toArray,args:=A.toArray++ #[Value.func (.yield (w.heap.size+1)) #[] #[]]},(w.alloc (.deferred (some []))).alloc (.loop lp),f,(A++[Value.func (.yield (w.heap.size+1)) #[] #[]]++Cc).toArray,(w.alloc (.deferred (some []))).alloc (.loop lp),t,?_,fun f' _=>hF.fn f',?_,?_,?_⟩
     ·simp only[resolve,r3,Deferred.ofValue,Sem.run_pure];congr 2;simp[Act.eval]
     ·simp only[invoke];simpa using c1
     ·simp[hF.depth]
     ·have aJd:=hF.calls (c2 (m-1));refine CallsIn.mono aJd ?_;intro e w' q;cases e with
      |panicked=>exact q.elim
      |outgrown=>exact q.elim
      |returned V=>
       obtain⟨ι',q1,q2,q3⟩:=q;have x:ι' H.nx=some loc:=q3.le _ _ (Im.dA ..);have bDh:=hMd.fr q3;have fin:∀{j:Bool} {pending:Option Code} {W n':Nat} {L2:TT AV W} {B:List Tmp} {C D:Code},H2.get H.nx=.loop j pending W n' L2 B C D->(j=true\/pending.isSome=true) ->
         ∃u,(Instr.endLoop (w.heap.size+1)).run P w'=.ok pending u/\∀ K:Act->World->Prop,After false lo ι H w d n L (H2.put H.nx .dead) K->K {a with defers:=[{target:=.collected w.heap.size,args:= #[]}]++a.defers} u:=by
        intro j pending W n' L2 B C D i z;have M:=q2.blk H.nx E;rw[i]at M;obtain⟨l2,N,b1,b2,b3,b4,_⟩:=M;rw[x]at b1;cases b1;have hne:N.state≠ .busy:=by
         rw[b3];rcases z with rfl|z
         ·simp
         ·cases j<;>simp[z]
        refine⟨_,by rw[<-b4];exact run_endLoop b2 hne,fun K hK=>?_⟩;obtain⟨z1,z2⟩:=q2.xH (k:=.dead) (o:=.loop {N with state:=.exhausted}) x (by rw[i];rfl) trivial;exact hK _ _ ι' (h.mono (Im.le_trans U.le q3.le)) (bDh.fr z2) z1 ((U.trans q3).trans z2)
       split at r
       ·rename_i i;cases r;obtain⟨u,R,S⟩:=fin i (.inl rfl);exact⟨_,u,R,S _ hQ⟩
       ·rename_i i;cases r;obtain⟨u,R,S⟩:=fin i (.inr rfl);exact⟨_,u,R,wpIn_ret (S _ hQ)⟩
       ·rename_i i;cases r;obtain⟨u,R,S⟩:=fin i (.inr rfl);exact⟨_,u,R,wpIn_exit (S _ hQ)⟩
       ·cases r
    ·cases p
theorem qr0(j:n<8 ^ d){ops:Array Oper}{o:Oper}{g:TT AV d}{i:Hp}(e:(q28 P d n ops o).f O L H=.ok g i):(dR d n).f g=(dR d n).f L:=by
 have b:∀{a:TT AV d->AV->TT AV d} (_:eG d n o.dst=⟨a⟩) (v:AV),(dR d n).f (a L v)=(dR d n).f L:=fun c v=>by have:=qjq (v:=v) (zo j) (L:=L) j o.dst;simp_all
 have k:∀{a:TT AV d->AV->TT AV d} (_:eG d n o.dst=⟨a⟩) {r:R0},doQ a L H r=.ok g i->(dR d n).f g=(dR d n).f L:=fun c r f=>by
  unfold doQ at f;split at f
  ·cases f
  ·cases f;exact b c _
  ·cases f;exact b c _
 have h:∀{a:TT AV d->AV->TT AV d} (_:eG d n o.dst=⟨a⟩) {r:R1},doE a L r=.ok g i->(dR d n).f g=(dR d n).f L:=fun c r f=>by
  unfold doE at f;split at f
  ·cases f
  ·cases f;exact b c _
 unfold q28 at e;split at e
 ·rename_i c;exact k c e
 ·rename_i c;exact h c e
 ·rename_i c;simp only[ifW]at e;split at e
  ·exact k c e
  ·cases e;exact b c _
  ·cases e
 ·rename_i c;simp only[ifW]at e;split at e
  ·exact h c e
  ·cases e;exact b c _
  ·cases e
theorem q3w(B:qet P O)(t:Fence.dW F){ops:Array Oper}{Q:Exit->Act->World->Prop}{pl:Bool}{lo:Nat}:∀(l:List Oper),(F.round=none\/l.any sM=false)->(pl=true->l.any sM=false)->∀{ι:Im} {w:World} {a:Act} {L:TT AV d} {H:Hp},HR ι H w->LR ι d n L a.tmps->Md pl lo ι H w (dl ((dR d n).f L)) a.defers -> ∀{u:TT AV d} {y:Hp},(vC P d n ops l).f O L H=.ok u y->After pl lo ι H w d n u y (Q .normal)->wpListIn F m P ops Q l a w
 | [],_,_,ι,w,a,L,H,hH,h,hM,u,y,he,hK=>by cases he;exact hK _ _ ι h hM hH (Fr.refl ..)
 |o::l,hr,hp,ι,w,a,L,H,hH,h,hM,u,y,he,hK=>by
  have q:F.round=none\/l.any sM=false:=hr.imp id fun e=>by simp only[List.any_cons,lAS]at e;exact e.2
  have r:pl=true->l.any sM=false:=fun e=>by have:=hp e;simp only[List.any_cons,lAS]at this;exact this.2
  simp only[vC,zt9]at he;split at he
  ·cases he
  ·rename_i L1 H1 b;unfold qqt at b;split at b
   ·have D:=qr0 h.fits b;have:=zrw (m:=m) (Q:=Q) (K:=wpListIn F m P ops Q l) B t hH h b (fun a' w' ι' X Y Z R=>
     q3w B t l q r Z X (by rw[D,Y];exact hM.fr R) he (hK.normal R))
    trivial
   ·rename_i c z;unfold aCl at z;split at z
    ·rename_i x args p V hg;have s:sM o=true:=by unfold sM;rw[V]
     have E:F.round=none:=hr.resolve_right (by simp[s]);have G:pl=false:=by
      cases pl with
      |false=>rfl
      |true=>have:=hp rfl;simp[s]at this
     subst G;cases z;have T:=fK h x;have ha:=qc8 h args.toList;simp only at b;have g:Region.wanted o (yielded ops a.tmps)=true:=by simp[Region.wanted,hg]
     simp only[wpListIn,g,mg];refine⟨fun f _=>t.fn f,?_⟩;rw[E,Oper.semAt_none];unfold doD at b;split at b
     ·rename_i f first k M
      simp only[Rs.ok.injEq]at b;obtain⟨W,e2⟩:=b;subst e2;rw[M]at T;obtain⟨A,C,g1,g2,g3⟩:=T;have j:args.map a.eval=(args.toList.map a.eval).toArray:=by rw[<-lAH]
      have I:(execOp a.eval o).run P w=.ok (.defer {target:=.fn (.func f) C.toArray,args:=A.toArray++(args.toList.map a.eval).toArray}) w:=by simp[execOp,V,resolve,g3,Deferred.ofValue,j]
      rw[I];have J:LR ι d n ((setter d n).f L (.bA (.fn f (first++(vV d n args.toList).f L++k) []::dl ((dR d n).f L)))) a.tmps:=by refine⟨h.size,h.fits,fun i S=>?_⟩;rw[qex _ _ _ _ _ (lE5 S h.fits) h.fits,pg (by omega)];exact h.get i S
      refine q3w B t l q r hH (L:=L1) ?_ ?_ he hK
      ·rw[<-W];exact qim (a:={a with defers:=_::a.defers}) J o.dst (by simp only[aO];rfl)
      ·rw[put_defers,<-W];have U:=qjq (v:=.undef) (zo h.fits) (L:=(setter d n).f L (.bA (.fn f (first++(vV d n args.toList).f L++k) []::dl ((dR d n).f L)))) h.fits o.dst;rw[pg (by omega)]at U;rw[U,qex _ _ _ _ _ h.fits h.fits,qj rfl];obtain⟨_,N,Ds,hD⟩:=hM;refine⟨fun e=>(by cases e),N,Ds,.inr ⟨f,first++(vV d n args.toList).f L++k,dl ((dR d n).f L),_,_,rfl,rfl,?_,hD⟩⟩;simpa using (g1.append ha).append g2
     ·cases b
    ·cases z
theorem q9a(u:qet P O)(y:P.follows .mixedOrders=true):∀ c:Code,qes P O d n m c:=by
 intro c
 induction c with
 |skip=>intro F p t pl lo ι w a L H k h i l q r s g Q o;cases g;exact wpIn_skip (o a w ι h l k (Fr.refl ..))
 |label=>intro F p t pl lo ι w a L H k h i l q r s g Q o;cases g;exact wpIn_label (o a w ι h l k (Fr.refl ..))
 |region id ops draw=>
  intro F p t pl lo ι w a L H k h i l q r s g Q o;cases draw with
  |false=>
   change pO _=_ at g;unfold pO at g;split at g
   ·cases g
   ·rename_i L1 H1 j;cases g;exact wpIn_region_list (q3w u p ops.toList (t.imp (fun e=>e) fun e=>by simpa [lI] using e) (fun e=>by have:=i e;simpa [lI] using this) k h l j o)
  |true=>
   change pO _=_ at g;unfold pO at g;split at g
   ·cases g
   ·rename_i L1 H1 j;cases g;exact ztv u p y k h j fun z w' A B C D v=>o z w' A B (by rw[C,qss h.fits j];exact l.fr v) D v
 |seq a b iha ihb=>exact zt1 iha ihb
 |cond x a b iha ihb=>exact zmk iha ihb
 |block id b ih=>exact zbc ih
 |loop b ih=>exact zmj ih
 |scope b ih=>exact zba ih fun L H q r s g=>za8 b g
 |exit id=>intro F p t pl lo ι w a L H k h i l q r s g Q o;cases g;exact wpIn_exit (o a w ι h l k (Fr.refl ..))
 |goto=>intro F p t pl lo ι w a L H k h i l q r s g Q o;cases g
 |ret=>intro F p t pl lo ι w a L H k h i l q r s g Q o;cases g;exact wpIn_ret (o a w ι h l k (Fr.refl ..))
 |rangeFunc f ps assign body _ _=>exact zbb u
 |refuse=>intro F p t pl lo ι w a L H k h i l q r s g Q o;cases g
end Go.Ev
end
noncomputable section
namespace Go.Ev
open Go.RowKit
variable {P:Program} {w:World} {ι:Im} {a:Act} {d n:Nat} {L:TT AV d} {H:Hp} {O:Call} {m:Nat}
/- results -/
def zjf(tmps:Array Value):ResultVar->Sem Value
 | .tmp t=>pure (tmps.getD t Go.undef)
 | .cell a t=>do loadVar t (<-asAddr (tmps.getD a Go.undef))
theorem zaa(fn:Func)(tmps:Array Value):results fn tmps=(do
  let vs<-fn.results.mapM (zjf tmps)
  pure (if h:vs.size=1 then vs[0]else .tuple vs)):=by
 rfl
theorem zkw{v:AV}{x:AV}{X:Value}(e:aO ι x X){t:TypeId}(f:uP P t=some false)(a:HR ι H w)(h:aR H x=.val v):∃V,(do loadVar t (<-asAddr X):Sem Value).run P w=.ok V w/\aO ι v V:=by
 unfold aR at h;split at h
 ·rename_i b i;obtain⟨l,c,g⟩:=e;obtain⟨m,V,d,j,k,_⟩:=qx6 (a.blk b (a.lt c)) h;rw[c]at d;cases d;exact⟨V,by simp[g,asAddr,loadVar,qgn f,j],k⟩
 ·cases h
theorem zkv{v:AV}{x:AV}{X:Value}(n:aO ι x X){t:TypeId}(o:uP P t=some true){k:Nat}(p:jA P t=some k)(g:HR ι H w)(h:cO k H x=.val v):∃V,(do loadVar t (<-asAddr X):Sem Value).run P w=.ok V w/\aO ι v V:=by
 unfold cO at h;split at h
 ·rename_i b i;obtain⟨l,m,q⟩:=n;cases f:fD (H.get b) i k with
  |none=>rw[f]at h;cases h
  |some cs=>
   rw[f]at h;cases h;obtain⟨c,r⟩:=qgm (g.blk b (g.lt m)) f;have a:∀ vs:List Value,vs.length=k->(∀(j:Nat) (v:Value),vs[j]? =some v->w.cell? ⟨l.blk,l.base+i+j,none⟩=some v)->(do loadVar t (<-asAddr X):Sem Value).run P w=.ok (.agg vs.toArray) w:=fun vs d e=>by have:=run_loadCells P w l.blk (l.base+i) vs e;rw[d]at this;simp[q,asAddr,loadVar,qgn o,qR p,this]
   rcases r with rfl|⟨loc,vs,d,e,s,u,y⟩
   ·have:cs=[]:=tu.1 c;subst this;exact⟨_,a [] rfl (by simp),by simp only[aO];exact⟨[],by simp[aL],rfl,by simp⟩⟩
   ·rw[m]at d;cases d;exact⟨_,a vs s y,by simp only[aO];exact⟨vs,e,rfl,u⟩⟩
 ·cases h
theorem zjg(h:LR ι d n L a.tmps)(l:HR ι H w)(x:ResultVar){v:AV}(c:(aCq P d n x).f L H=some v):∃ V,(zjf a.tmps x).run P w=.ok V w/\aO ι v V:=by
 cases x with
 |tmp t=>have:=fK h (.tmp t);cases c;exact⟨_,rfl,this⟩
 |cell p t=>
  have f:=fK h (.tmp p);simp only[aCq]at c;generalize m:aM d n (.tmp p)=g at c f;cases e:uP P t with
  |none=>rw[e]at c;cases c
  |some b=>
   cases j:jA P t with
   |none=>rw[e,j]at c;cases b<;>cases c
   |some k=>
    rw[e,j]at c;cases b with
    |true=>
     simp only at c;split at c
     ·rename_i u i;cases c;exact zkv f e j l i
     ·cases c
    |false=>
     simp only at c;split at c
     ·rename_i u i;cases c;exact zkw f e l i
     ·cases c
theorem q7x(h:LR ι d n L a.tmps)(c:HR ι H w):∀(xs:List ResultVar) {l:List AV},(zab P d n xs).f L H=some l->∃ vs,(xs.mapM (zjf a.tmps)).run P w=.ok vs w/\aL ι l vs
 | [],l,he=>by cases he;exact⟨[],rfl,by simp[aL]⟩
 |x::xs,l,he=>by
  have b:(match(aCq P d n x).f L H,(zab P d n xs).f L H with|some v,some l=>some (v::l)|_,_=>none)=some l:=he;split at b
  ·rename_i v j e f;cases b;obtain⟨V,k,g⟩:=zjg h c x e;obtain⟨vs,m,i⟩:=q7x h c xs f;refine⟨V::vs,?_,by simp only[aL];exact⟨V,vs,rfl,g,i⟩⟩;simp_all
  ·cases b
theorem qr4(h:LR ι d n L a.tmps)(i:HR ι H w)(fn:Func){v:AV}(b:(qcs P d n fn.results.toList).f L H=some v):∃ V,(results fn a.tmps).run P w=.ok V w/\aO ι v V:=by
 rw[zaa,Array.mapM_eq_mapM_toList];unfold qcs at b;split at b
 ·rename_i x k;obtain⟨V,t,u⟩:=zjg h i x b;simp_all
 ·rename_i g;simp only at b;split at b
  ·rename_i l f;cases b;obtain⟨vs,y,m⟩:=q7x h i fn.results.toList f;refine⟨.tuple vs.toArray,?_,by simp only[aO];exact⟨vs,m,rfl⟩⟩;have j:¬ vs.toArray.size=1:=by
    have r:=m.length;have o:∀(xs:List ResultVar) (l:List AV),(zab P d n xs).f L H=some l->l.length=xs.length:=by
     intro xs
     induction xs with
     |nil=>intro l f;cases f;rfl
     |cons x xs ih=>
      intro l f;have c:(match(aCq P d n x).f L H,(zab P d n xs).f L H with|some v,some l=>some (v::l)|_,_=>none)=some l:=f;split at c
      ·rename_i v z A q;cases c;simp[ih _ q]
      ·cases c
    have s:=o _ _ f;intro e;simp at e;have p:fn.results.toList.length=1:=by omega
    obtain⟨x,k⟩:=List.length_eq_one_iff.1 p;exact g x k
   simp_all
  ·cases b
/- leaving -/
theorem MdL.putObj{lo D:Nat}{o:Obj}:∀{ds:List Deferred} {l:List AV} {a:List Nat},MdL lo ι H w l ds a->D∉a->MdL lo ι H (w.putObj D o) l ds a
 | [],l,a,h,_=>h
 |x::ds,l,a,h,hD=>by
  rcases h with⟨j,b,c,d,e,⟨k0,k,k2,k3⟩,f⟩|⟨g,i,m,A,C,c,d,e,f⟩
  ·subst c;simp only[su,not_or]at hD;exact .inl ⟨j,b,rfl,d,e,⟨k0,by simpa using k,by rw[World.putObj_heap_other (Ne.symm hD.1)];exact k2,k3⟩,f.putObj hD.2⟩
  ·exact .inr ⟨g,i,m,A,C,c,d,e,f.putObj hD⟩
theorem qvm(t:qet P O){k:Nat}{fn:Func}{w0:World}{H0 q:Hp}{tmps:Array Value}{v:AV}(f:(qcs P d n fn.results.toList).f L q=some v):∀(ds:List Deferred) (l:List AV) (r:List Nat) (i:Im) (H:Hp) (w':World),MdL w0.heap.size i H w' l ds r->LR i d n L tmps->HR i H w'->Fr ι i H0 H w0 w'->aFg O l H=some q -> LeavesInM Fence.wide k P fn tmps (Post ι H0 w0 v q) ds .returning w'
 | [],l,r,i,H,w',hM,hL,hH,hf,hr=>by rw[hM.1]at hr;cases hr;obtain⟨V,p,j⟩:=qr4 (a:={tmps:=tmps,defers:=[]}) hL hH fn f;exact⟨V,p,i,j,hH,hf⟩
 |x::ds,l,r,i,H,w',hM,hL,hH,hf,hr=>by
  rcases hM with⟨D,w,p,j,y,⟨W,X,R,S⟩,z⟩|⟨g,B,G,A,C,p,j,y,z⟩
  ·subst j;refine⟨by simp,.inl ⟨D,w'.putObj D (.deferred none),rfl,run_takeDeferred R,qvm t f ds l w i H _ (z.putObj y) hL ?_ ?_ hr⟩⟩
   ·exact⟨hH.top,fun b s=>(hH.blk b s).keep fun l J K=>World.putObj_heap_other (S b l s J K),fun b l s p j=>by have:=hH.low b l s p j;simpa using this,hH.inj,hH.fresh,hH.free⟩
   ·exact⟨hf.le,hf.nx,hf.dom,hf.os,hf.tape,hf.output,by simpa using hf.size,fun c M N=>by rw[World.putObj_heap_other (by omega)];exact hf.keep c M N,hf.new,hf.live⟩
  ·subst p;subst j;have m:(match O (.d g) B H with| .ok _ H'=>aFg O G H'| .bad=>none)=some q:=hr;split at m
   ·rename_i Y H1 o;obtain⟨I,T⟩:=t.df _ _ _ _ _ o i w' _ hH y;have h:(A.toList++C.toList).toArray=A++C:=by simp
    rw[h]at I;refine⟨by simp,.inr ⟨fun e=>by simp[Fence.wide]at e,.func g,C,g,(A.toList++C.toList).toArray,rfl,?_,fun _ _=>trivial,(T _).mono fun e U u Q=>?_⟩⟩
    ·rw[h];simpa [invoke] using I
    ·obtain⟨rfl,E⟩:=Q;cases e with
     |returned V=>obtain⟨F,q1,q2,q3⟩:=E;exact qvm t f ds G r F H1 u (z.fr q3) (hL.mono q3.le) q2 (hf.trans q3) m
     |panicked=>exact E.elim
     |outgrown=>exact E.elim
   ·cases m
theorem qkt{args:List AV}{k:Nat}(b:args.length<=k)(a:k+1<=262144):dl ((dR (iF (k+1)) k).f (pX args 0 (same .undef _)))=[]:=by have c:=q89 (k+1) a;rw[qif args 0 _ k (by omega) (by omega),pg (by omega),qhp];rfl
theorem LR.start{args:List AV}{a:List Value}(b:aL ι args a){k:Nat}(d:args.length<=k)(c:k+1<=262144):LR ι (iF (k+1)) k (pX args 0 (same .undef _)) (a.toArray++Array.replicate (k-a.toArray.size) Go.undef):=by
 have f:=b.length;have g:=q89 (k+1) c;refine⟨by simp;omega,by omega,fun i e=>?_⟩;rw[qif args 0 _ i (by omega) (by omega)];by_cases h:i<args.length
 ·obtain⟨v,j,l⟩:=b.get i args[i] (lq h);have:(a.toArray++Array.replicate (k-a.toArray.size) Go.undef).getD i Go.undef=v:=by
   simp_all
  simp_all
 ·rw[pg (by omega),qhp];have:(a.toArray++Array.replicate (k-a.toArray.size) Go.undef).getD i Go.undef=Go.undef:=by
   simp_all
  trivial
structure xaf(P:Program)(O:Call)(f:FuncId)(args:List AV)(H:Hp)(v:AV)(H':Hp) where
 fn:Func
 c:Code
 hfn:P.funcs[f]? =some fn
 hname:¬ fn.name = "runtime.NumGoroutine"
 hbody:fn.body=some c
 hb1:args.length<=fn.ntmps
 hb2:fn.ntmps+1<=262144
 ex:Ex
 L':TT AV (iF (fn.ntmps+1))
 H1:Hp
 run:(den P (iF (fn.ntmps+1)) fn.ntmps c).f O (pX args 0 (same .undef _)) H=.ok ex L' H1
 hex:ex=.normal\/ex=.ret
 dfr:aFg O (dl ((dR (iF (fn.ntmps+1)) fn.ntmps).f L')) H1=some H'
 res:(qcs P (iF (fn.ntmps+1)) fn.ntmps fn.results.toList).f L' H'=some v
theorem q8y{f:FuncId}{args:List AV}{v:AV}{j:Hp}(a:(aK P f).f O args H=.ok v j):Nonempty (xaf P O f args H v j):=by
 unfold aK at a;split at a
 ·cases a
 ·rename_i fn l;split at a
  ·cases a
  ·rename_i d;split at a
   ·cases a
   ·rename_i c g;simp only at a;cases i:(Nat.ble args.length fn.ntmps&&Nat.ble (fn.ntmps+1) 262144)with
    |false=>rw[i]at a;cases a
    |true=>
     rw[i]at a;simp only[qh]at i;have m:∀{h:Ex} {k:TT AV (iF (fn.ntmps+1))} {H1:Hp},(den P (iF (fn.ntmps+1)) fn.ntmps c).f O (pX args 0 (same .undef _)) H=.ok h k H1->(h=.normal\/h=.ret) ->
       jR fn.ntmps O (qcs P (iF (fn.ntmps+1)) fn.ntmps fn.results.toList).f k H1=.ok v j->Nonempty (xaf P O f args H v j):=fun{h k H1} n o b=>by
      unfold jR at b;split at b
      ·rename_i r p;unfold dM at b;split at b
       ·rename_i u q;cases b;exact⟨⟨fn,c,l,fun e=>d (by rw[e];rfl),g,yg i.1,yg i.2,h,k,H1,n,o,p,q⟩⟩
       ·cases b
      ·cases b
     unfold aGj at a;split at a
     ·simp_all
     ·simp_all
     ·cases a
theorem z3t(c:qet P O)(h:P.follows .mixedOrders=true){f:FuncId}{args:List AV}{v:AV}{d:Hp}(i:(aK P f).f O args H=.ok v d){a:List Value}(j:HR ι H w)(l:aL ι args a):(callFunc f a.toArray).run P w=.ok (.enter f a.toArray) w/\∀ m,CallsIn Fence.wide m P f a.toArray w (Post ι H w v d):=by
 obtain⟨K⟩:=q8y i;refine⟨by simp[callFunc,K.hfn,K.hname,K.hbody],fun m=>?_⟩;have b:=LR.start l K.hb1 K.hb2;refine callsIn_of_wp_marks K.hfn K.hbody trivial ?_;refine q9a (m:=m) c h K.c Fence.aA2 (.inl rfl) (pl:=false) (lo:=w.heap.size) j b (fun e=>by cases e) (by rw[qkt K.hb1 K.hb2];exact Md.nil (lu _)) K.run fun g w' n o p q r=>?_;obtain⟨_,_,s,t⟩:=p;have:=qvm (k:=m) (fn:=K.fn) (tmps:=g.tmps) (v:=v) c K.res g.defers _ s n K.H1 w' t o q r K.dfr;rcases K.hex with e|e
 ·rw[e];exact this
 ·rw[e];exact this
theorem z3u(y:qet P O)(z:P.follows .mixedOrders=true){f:FuncId}{args:List AV}{v:AV}{j:Hp}(A:(aK P f).f O args H=.ok v j)(k:qpd P f=true){l:List Value}(B:HR ι H w)(C:aL ι args l):(callFunc f l.toArray).run P w=.ok (.enter f l.toArray) w/\∀ m,CallsDIn Fence.wide m P f l.toArray .returning w (fun e D w'=>D=.returning/\Post ι H w v j e w'):=by
 obtain⟨⟨fn,c,b,d,a,g,h,M,N,H1,r,s,i,t⟩⟩:=q8y A;refine⟨by simp[callFunc,b,d,a],fun m=>?_⟩;have o:=LR.start C g h;have p:lI c=true:=by unfold qpd at k;rw[b]at k;simp only[a]at k;exact k
 refine callsDIn_of_wp (R:=Post ι H w v j) b a trivial ?_;refine q9a (m:=m) y z c Fence.aA2 (.inl rfl) (pl:=true) (lo:=w.heap.size) B o (fun _=>p) (by rw[qkt g h];exact Md.nil (lu _)) r fun E w' F G I u J=>?_;obtain⟨n,_,Q,x⟩:=I;have n:=n rfl;rw[n]at x;rw[x.1]at i;have q:H1=j:=Option.some.inj i;subst q;obtain⟨V,K,L⟩:=qr4 G u fn t;have:bodyPost P fn (Post ι H w v H1) .normal E w':=⟨n,V,K,F,L,u,J⟩;rcases s with rfl|rfl
 ·exact this
 ·exact this
theorem qxv:∀(ps:List Tmp) (args:List AV) (a:List Value) {L:TT AV d} {tmps:Array Value},LR ι d n L tmps->aL ι args a->ps.length=args.length->(∀p∈ps,p<n) -> LR ι d n (qgk L ps args) ((ps.zip a).foldl (fun tmps x=>tmps.setIfInBounds x.1 x.2) tmps)
 | [],args,a,L,tmps,h,ha,hl,_=>by trivial
 |p::ps,[],a,L,tmps,h,ha,hl,_=>by simp at hl
 |p::ps,x::args,a,L,tmps,h,ha,hl,hp=>by obtain⟨X,R,rfl,c,e⟩:=ha;exact qxv ps args R (h.set (hp p (by simp)) c) e (by simpa using hl) fun q b=>hp q (by simp[b])
theorem qo1(a:n<8 ^ d):∀(ps:List Tmp) (args:List AV) {L:TT AV d},(∀p∈ps,p<n)->(dR d n).f (qgk L ps args)=(dR d n).f L
 | [],args,L,_=>by unfold qgk;rfl
 |p::ps,[],L,_=>by unfold qgk;rfl
 |p::ps,x::args,L,h=>by unfold qgk;have b:=h p (by simp);rw[qo1 a ps args fun q c=>h q (by simp[c]),qex _ _ _ _ _ a (lE5 b a),pg (fun e=>absurd (e▸b) (xx _))]
theorem LR.slot{L:TT AV d}{tmps:Array Value}(h:LR ι d n L tmps)(v:AV):LR ι d n ((setter d n).f L v) tmps:=by refine⟨h.size,h.fits,fun i a=>?_⟩;rw[qex _ _ _ _ _ (lE5 a h.fits) h.fits,pg (by omega)];exact h.get i a
theorem zh0(hC:qet P O)(hm:P.follows .mixedOrders=true){b:Nat}{args:List AV}{v:AV}{H':Hp}(g:qh1 P O b args H=.ok v H'){B:List Value}{loc:Loc}(X:HR ι H w)(ha:aL ι args B)(i:ι b=some loc):∃f tmps c h,(Instr.yield loc.blk B.toArray).run P w=.ok (.round loc.blk f tmps c h) w/\∀ m,RoundIn Fence.wide m P loc.blk f tmps c h w (Post ι H w v H'):=by
 have q:=X.lt i;unfold qh1 at g;split at g
 ·rename_i d n L ps c h M;cases C:(Nat.beq ps.length args.length&&ps.all (fun p=>Nat.blt p n))with
  |false=>rw[C]at g;cases g
  |true=>
   rw[C]at g;simp only[qh,vk]at C;have hb1:=rf C.1;have D:=X.blk b q;rw[M]at D;obtain⟨l,U,b1,b2,b3,b4,b5,b6,b7,V,b9,N⟩:=D;rw[i]at b1;cases b1;have hy:=run_yield (P:=P) (args:=B.toArray) b2 (by
    have:=ha.length;have:U.params.size=ps.length:=by rw[<-b5];simp
    simp;omega)
   refine⟨_,_,_,_,hy,fun m=>?_⟩;have hLR:=qxv ps args B (V.slot .undef) ha hb1 (fun p Y=>yE (C.2 p Y));have hsl:dl ((dR d n).f (qgk ((setter d n).f L .undef) ps args))=[]:=by rw[qo1 V.fits ps args fun p Y=>yE (C.2 p Y),qex _ _ _ _ _ V.fits V.fits,qj rfl];rfl
   have htm:(U.params.zip B.toArray).foldl (fun tmps (t,a)=>tmps.setIfInBounds t a) U.tmps=(ps.zip B).foldl (fun tmps x=>tmps.setIfInBounds x.1 x.2) U.tmps:=by rw[<-b5,<-Array.foldl_toList];simp
   rw[htm,b6,b7];split at g
   ·rename_i L1 H1 h1;split at g
    ·rename_i d' n' L' ps' xG u y;refine roundIn_of_wpIn (F:=Fence.wide) trivial ?_;refine q9a (m:=m) hC hm c (Fence.oO _) (.inr b9) (pl:=true) (lo:=0) X hLR (fun _=>b9) (by rw[hsl];exact Md.nil (gp _)) h1 fun a1 w1 ι1 r1 r2 Z r4=>?_;have E:=r4.le _ _ i;have G:=Z.blk b q;rw[y]at G;obtain⟨l1,Q,c1,c2,c3,c4,c5,c6,c7,c8,c9,c10⟩:=G;rw[E]at c1;cases c1;refine⟨_,run_beginRound c2 (by rw[c3];rfl),?_⟩;have I:loc.blk<w1.heap.size:=Z.low b loc q (by rw[y];rfl) E;obtain⟨z1,z2⟩:=Z.xH (k:=.loop false none d' n' L' ps' xG u) (o:=.loop {Q with state:=.busy}) E (by rw[y];rfl)
      ⟨loc,{Q with state:=.busy},E,World.putObj_heap_same I,rfl,c4,c5,c6,c7,c8,c9,c10⟩
     unfold endRound at g;split at g
     ·cases g
     ·rename_i e L2 H2 h2;split at g
      ·cases g
      ·rename_i j W;split at g
       ·rename_i d2 n2 L3 R S T z;cases g;refine q9a (m:=m) hC hm h (Fence.oO _) (.inr N) (pl:=true) (lo:=0) z1 (r1.mono z2.le) (fun _=>N) (r2.fr z2) h2 fun a2 w2 ι2 s1 s2 s3 s4=>?_;have s:=s4.le _ _ E;have J:=s3.blk b q;rw[z]at J;obtain⟨l2,A,g1,g2,g3,g4,g5,g6,g7,g8,g9,g10⟩:=J;rw[s]at g1;cases g1;have K:loc.blk<w2.heap.size:=s3.low b loc q (by rw[z];rfl) s;obtain⟨y1,y2⟩:=s3.xH (k:=.loop j.isNone j d2 n2 L3 R S T) (o:=.loop {A with state:=if j.isNone then .ready else .done,pending:=j}) s (by rw[z];rfl)
         ⟨loc,{A with state:=if j.isNone then .ready else .done,pending:=j},s,World.putObj_heap_same K,by cases j<;>rfl,rfl,g5,g6,g7,g8,g9,g10⟩
        have hR:Post ι H w (.bool j.isNone) (H2.put b (.loop j.isNone j d2 n2 L3 R S T)) (.returned (.bool j.isNone)) (w2.putObj loc.blk (.loop {A with state:=if j.isNone then .ready else .done,pending:=j})):=
         ⟨ι2,by simp only[aO],y1,((r4.trans z2).trans s4).trans y2⟩
        have r:=run_endRound (P:=P) j g2;cases e with
        |normal=>cases W;exact⟨_,_,r,hR⟩
        |ret=>cases W;exact⟨_,_,r,hR⟩
        |exit id=>cases W;exact⟨_,_,r,hR⟩
        |goto l=>cases W
       ·cases g
    ·cases g
   ·cases g
 ·cases g
end Go.Ev
end
noncomputable section
namespace Go.Ev
open Go.RowKit Go.WideShapes Go.ChangeShapes
variable {P:Program} {w:World}
theorem qj2(n b:Nat):Hp.get ⟨Hp.empty.t,n⟩ b=.dead:=by
 show(bif Nat.blt b 2097152 then(dR HD b).f (same bW.dead HD)else bW.dead)=bW.dead;cases Nat.blt b 2097152 with
 |true=>exact qhp _ _ b
 |false=>rfl
theorem HR.empty:HR (fun _=>none) Hp.empty w:=by have a:∀ b,Hp.empty.get b=.dead:=fun b=>qj2 0 b;exact⟨p8,fun b _=>by rw[a];trivial,fun b l _ _ h=>(by cases h),fun b c l m _ _ _ _ h=>(by cases h),fun _ _=>rfl,fun b _ _=>a b⟩
noncomputable section
variable {Hd:Type} {enc:TypeId×Value->Hd}
theorem zak{f:Func}{s:ChangeSpec}{c l d m:Bool}{W o:World}{args:Array Value}{v:Value}{ds q:List (DataW Hd)}{a pa pv:List MemPlace}(y:DataW.Whole enc P f.params.toList s.vars c W args.toList ds q a)(h:∀(b:Nat) (sp:Nat->Bool) (D:Bool),DataW.TrodAll enc P o b sp D f.resultTypes.toList (v.resultList f.resultTypes.size) (s.fn Hd (ds++q)).results [])(e:∀ sp:Nat->Bool,(∀p∈a,sp p.block=true)->DataW.TrodAll enc P o 0 sp true f.params.toList args.toList (s.fn Hd (ds++q)).args pa)(g:∀ sp:Nat->Bool,(∀p∈a,sp p.block=true)->DataW.TrodVars enc P o sp s.vars (s.fn Hd (ds++q)).vars pv)(z:a=pa++pv)(B:Below W.heap.size W o)(A:∀(j:Nat) (t:TypeId) (r:Value),f.resultTypes[j]? =some t->(v.resultList f.resultTypes.size)[j]? =some r->Value.okWide P o .any 0 t r):s.post enc P f c l d m W args v o:=by
 subst z;have w:=y.lt;have k:∀ p∈pa++pv,decide (p.block<W.heap.size)=true:=fun p i=>qc (w p i);refine⟨ds,q,pa++pv,[],pa,pv,y,h _ _ _,e (fun b=>decide (b<W.heap.size)) k,g (fun b=>decide (b<W.heap.size)) k,World.keptBut_mono (fun p i=>⟨i,.inr (qi.1 i)⟩) (B.frame (· ∈ pa++pv)),fun _=>?_⟩;obtain⟨_,_,_,_,_,n,C⟩:=y;refine⟨A,_,_,([]++pa)++pv,⟨[]++pa,pv,trodAll_append (e _ fun _ _=>rfl) (h _ _ _),g _ fun _ _=>rfl,rfl,fun b u i=>?_,fun E=>?_⟩,fun p i _=>?_⟩
 ·have x:MemPlace.cell b u∈pa++pv:=by simpa using i
  rw[B.frozen (w _ x)];exact n b u x
 ·simp_all
 ·simpa using i
end
end Go.Ev
end
noncomputable section
namespace Go.Ev
def zG(P:Program)(f:FuncId):Fd:=aK P f
theorem q4b(P:Program)(f:FuncId):zG P f=aK P f:=rfl
def q6w(P:Program)(O:Call):=qh1 P O
theorem qw7(P:Program)(O:Call):q6w P O=qh1 P O:=rfl
abbrev Ext:=FuncId->List AV->Hp->Option R1
def gT(P:Program)(ext:Ext)(n:Nat):Call:=
 Nat.rec (motive:=fun _=>Call) (fun _ _ _=>.bad) (fun _ ih c args H=>@Cl.rec (fun _=>R1) (fun f=>@Option.rec R1 (fun _=>R1) ((zG P f).f ih args H) (fun r=>r) (ext f args H)) (fun l=>q6w P ih l args H) (fun f=>@Bool.rec (fun _=>R1) .bad ((zG P f).f ih args H) (qpd P f)) c) n
def yJ:Ext:=fun _ _ _=>none
end Go.Ev
end
noncomputable section
namespace Go.Ev
open Go.RowKit
variable {P:Program} {w:World} {ι:Im} {H:Hp}
structure xC(P:Program)(ext:Ext):Prop where
 fn:∀ f args H r,ext f args H=some r->∀ v H',r=.ok v H'->∀ ι w bC,HR ι H w->aL ι args bC ->
  (callFunc f bC.toArray).run P w=.ok (.enter f bC.toArray) w/\∀ m,CallsIn Fence.wide m P f bC.toArray w (Post ι H w v H')
theorem qvg:xC P yJ:=⟨fun _ _ _ _ h=>by cases h⟩
theorem qhv(g:P.follows .mixedOrders=true){ext:Ext}(m:xC P ext):∀ k,qet P (gT P ext k)
 |0=>⟨(fun f args H v c h=>by cases h),(fun b args H v c h=>by cases h),(fun b args H v c h=>by cases h)⟩
 |k+1=>by
  have ih:=qhv g m k;refine⟨fun f args H v c h ι w i d e=>?_,fun b args H v c h ι w i loc d e n=>?_,fun f args H v c h ι w i d e=>?_⟩
  ·have a:@Option.rec R1 (fun _=>R1) ((zG P f).f (gT P ext k) args H) (fun r=>r) (ext f args H)=.ok v c:=h;cases j:ext f args H with
   |none=>rw[j]at a;rw[q4b]at a;exact z3t ih g a d e
   |some r=>rw[j]at a;exact m.fn f args H r j v c a ι w i d e
  ·have a:q6w P (gT P ext k) b args H=.ok v c:=h;rw[qw7]at a;exact zh0 ih g a d e n
  ·have a:@Bool.rec (fun _=>R1) .bad ((zG P f).f (gT P ext k) args H) (qpd P f)=.ok v c:=h;cases l:qpd P f with
   |false=>rw[l]at a;cases a
   |true=>rw[l]at a;rw[q4b]at a;exact z3u ih g a l d e
theorem HR.of_below(h:HR ι H w){w':World}(a:Below w.heap.size w w'):HR ι H w'/\Fr ι ι H H w w':=by
 have e:∀ c,c<w.heap.size->w'.heap[c]? =w.heap[c]? :=a.block;refine⟨⟨h.top,fun b d=>(h.blk b d).keep fun l i j=>e _ (h.low b l d i j),fun b l d f g=>ku (h.low b l d f g) a.size,h.inj,h.fresh,h.free⟩,
  ⟨Im.le_refl _,lu _,fun b f g=>absurd f g,a.os,a.tape,a.output,a.size,fun c k _=>e c k,fun b l a f g=>.inr ⟨b,l,a,f,g,rfl⟩,fun b l a f g=>.inr ⟨b,l,a,f,g,rfl⟩⟩⟩
def Yes(P:Program)(f:FuncId):Prop:=∀ w,Calls P f #[] w fun e w'=>e=.returned (.bool true)/\Below w.heap.size w w'
def qfv(P:Program)(f:FuncId):Bool:=
 match P.funcs[f]? with
 |some fn=>fn.body.isSome&& !(fn.name == "runtime.NumGoroutine")
 |none=>false
def q6x(tbl:List FuncId):Ext:=fun f args H=>
 match args with
 | []=>bif tbl.any (Nat.beq f)then some (.ok (.bool true) H)else none
 |_=>none
theorem zh1{tbl:List FuncId}(h:∀ f∈tbl,Yes P f)(hb:tbl.all (qfv P)=true):xC P (q6x tbl):=by
 refine⟨fun f args H r he v H' hr ι w bC hH ha=>?_⟩;unfold q6x at he;split at he
 ·cases hc:tbl.any (Nat.beq f)with
  |false=>rw[hc]at he;cases he
  |true=>
   rw[hc]at he;simp only[uB,qo]at he;subst he;cases hr;subst ha;obtain⟨g,hg,e⟩:=dC.1 hc;have e:=rf e;subst e;have hbf:=vk.1 hb f hg;unfold qfv at hbf;split at hbf
   ·rename_i fn hfn;simp only[qh,yh]at hbf;refine⟨?_,fun m=>callsIn_wide.2 ((h f hg w).mono fun e w' hp=>?_)⟩
    ·obtain⟨c,hc'⟩:=lAU.1 hbf.1
     have hname':¬ fn.name = "runtime.NumGoroutine" :=fun e=>by rw[e]at hbf;simp at hbf
     simp[callFunc,hfn,hname',hc']
    ·obtain⟨rfl,hw⟩:=hp;obtain⟨k1,k2⟩:=hH.of_below hw;exact⟨ι,by simp only[aO],k1,k2⟩
   ·cases hbf
 ·cases he
theorem q9t(c:P.follows .mixedOrders=true){ext:Ext}(d:xC P ext){k:Nat}{f:FuncId}(h:qsj (gT P ext k (.f f) [] Hp.empty)=true):Yes P f:=by
 intro w;unfold qsj at h;split at h
 ·rename_i b m g;subst h;have:=((qhv c d k).fn _ _ _ _ _ g (fun _=>none) w [] HR.empty (by simp[aL])).2 0;refine(callsIn_wide.1 this).mono fun e w' a=>?_;cases e with
  |returned V=>obtain⟨n,i,o,j⟩:=a;exact⟨by rw[i],j.below _ (lu _) fun b l _ _ h=>by cases h⟩
  |panicked=>exact a.elim
  |outgrown=>exact a.elim
 ·cases h
end Go.Ev
end
noncomputable section
namespace Go.Di
open Go.Ev
variable {d:Nat}
def G(L:TT AV d)(i:Nat):AV:=(dR d i).f L
abbrev Kt(d:Nat):=Ex->TT AV d->Hp->R1
def fin(r:Rc d)(K:Kt d):R1:=match r with| .bad=>.bad| .ok e L H=>K e L H
def p9(r:Rs d)(k:TT AV d->Hp->R1):R1:=match r with| .bad=>.bad| .ok L H=>k L H
def aI8(r:Rx d)(k:TT AV d->Hp->List Pd->List Wt->R1):R1:=match r with| .bad=>.bad| .ok L H p w=>k L H p w
def nrm(r:R0)(H:Hp):Option (AV×Hp):=match r with| .bad=>none| .val v=>some (v,H)| .new v b=>some (v,aI H b)
def vq(r:R0)(H:Hp)(k:AV->Hp->R1):R1:=match nrm r H with|none=>.bad|some p=>k p.1 p.2
def ve(r:R1)(k:AV->Hp->R1):R1:=match r with| .bad=>.bad| .ok v H=>k v H
def vg0(w:Option Bool)(r:R0)(H:Hp)(k:AV->Hp->R1):R1:=match w with|some true=>vq r H k|some false=>k .undef H|none=>.bad
def aEa(w:Option Bool)(r:R1)(H:Hp)(k:AV->Hp->R1):R1:=match w with|some true=>ve r k|some false=>k .undef H|none=>.bad
def bV(want:Bool)(v:AV):Option Bool:=match v with| .bool b=>some (b==want)| .undef=>some false|_=>none
def cd(x:AV)(a b:R1):R1:=match x with| .bool true=>a| .bool false=>b|_=>.bad
/- steps of a region that draws its order -/
def dq0(lk al:Bool)(i A nm:Nat)(H:Hp)(p:List Pd)(w:List Wt)(f:Hp->R0)(g:Option Bool)(k:AV->Hp->List Pd->List Wt->R1):R1:=
 match g with
 |none=>.bad
 |some false=>k .undef H p w
 |some true=>match f (dZ A p H)with
  | .bad=>.bad
  | .val v=>k v H p (bif lk then⟨i,A,f,v⟩::w else w)
  | .new v b=>bif al&&b.wr then k v H (⟨i,nm,b⟩::p) w else .bad
def de0(A:Nat)(H:Hp)(p:List Pd)(w:List Wt)(r:R1)(g:Option Bool)(k:AV->Hp->List Pd->List Wt->R1):R1:=
 match g with
 |none=>.bad
 |some false=>k .undef H p w
 |some true=>match r with
  | .bad=>.bad
  | .ok v H'=>bif qjc (sG A p) H' (rP A w)then k v H' (sG A p) (rP A w)else .bad
def vl(r:R0)(k:AV->R1):R1:=match r with| .bad=>.bad| .val v=>k v| .new _ _=>.bad
def aCz(w:Option Bool)(r:R0)(k:AV->R1):R1:=match w with|some true=>vl r k|some false=>k .undef|none=>.bad
/- constants that cannot be taken apart: so two sides are compared argument by argument -/
def vg:Option Bool->R0->Hp->(AV->Hp->R1)->R1:=Classical.choose (⟨vg0,rfl⟩:∃ f,f=vg0)
theorem zro:vg=vg0:=uw (⟨vg0,rfl⟩:∃ f,f=vg0)
def veg:Option Bool->R1->Hp->(AV->Hp->R1)->R1:=Classical.choose (⟨aEa,rfl⟩:∃ f,f=aEa)
theorem zh8:veg=aEa:=uw (⟨aEa,rfl⟩:∃ f,f=aEa)
def vlg:Option Bool->R0->(AV->R1)->R1:=Classical.choose (⟨aCz,rfl⟩:∃ f,f=aCz)
theorem q61:vlg=aCz:=uw (⟨aCz,rfl⟩:∃ f,f=aCz)
def dq:Bool->Bool->Nat->Nat->Nat->Hp->List Pd->List Wt->(Hp->R0)->Option Bool->(AV->Hp->List Pd->List Wt->R1)->R1:=Classical.choose (⟨dq0,rfl⟩:∃ f,f=dq0)
theorem zty:dq=dq0:=uw (⟨dq0,rfl⟩:∃ f,f=dq0)
def de:Nat->Hp->List Pd->List Wt->R1->Option Bool->(AV->Hp->List Pd->List Wt->R1)->R1:=Classical.choose (⟨de0,rfl⟩:∃ f,f=de0)
theorem ztz:de=de0:=uw (⟨de0,rfl⟩:∃ f,f=de0)
theorem q83(a:TT AV d->AV->TT AV d)(L:TT AV d)(H:Hp)(r:R0)(k:TT AV d->Hp->R1):p9 (doQ a L H r) k=vq r H fun v H=>k (a L v) H:=by cases r<;>rfl
theorem q84(a:TT AV d->AV->TT AV d)(L:TT AV d)(r:R1)(k:TT AV d->Hp->R1):p9 (doE a L r) k=ve r fun v H=>k (a L v) H:=by cases r<;>rfl
structure StC(d:Nat) where f:Ev.Call->TT AV d->Hp->(TT AV d->Hp->R1)->R1
def ziw(P:Program)(d n:Nat)(ops:Array Oper)(o:Oper):StC d:=
 match lJ P d n o,o.guard,xW d n ops o,eG d n o.dst with
 | .q _ f,none,_,⟨put⟩=>⟨fun _ L H k=>vq (f H.nx L H) H fun v H=>k (put L v) H⟩
 | .e f,none,_,⟨put⟩=>⟨fun O L H k=>ve (f O L H) fun v H=>k (put L v) H⟩
 | .q _ f,some _,⟨w⟩,⟨put⟩=>⟨fun _ L H k=>vg (w L) (f H.nx L H) H fun v H=>k (put L v) H⟩
 | .e f,some _,⟨w⟩,⟨put⟩=>⟨fun O L H k=>veg (w L) (f O L H) H fun v H=>k (put L v) H⟩
theorem ziv(P:Program)(d n:Nat)(ops:Array Oper)(o:Oper)(O:Ev.Call)(L:TT AV d)(H:Hp)(k:TT AV d->Hp->R1):p9 ((q28 P d n ops o).f O L H) k=(ziw P d n ops o).f O L H k:=by
 unfold q28 ziw;generalize lJ P d n o=x;generalize o.guard=g;generalize xW d n ops o=w;generalize eG d n o.dst=p;obtain⟨w⟩:=w;cases x with
 |q l f=>cases g with
  |none=>exact q83 ..
  |some j=>
   show p9 (ifW (w L) _ _) k=vg (w L) _ H _;rw[zro];cases h:w L with
   |none=>rfl
   |some b=>cases b with
    |true=>exact q83 ..
    |false=>rfl
 |e f=>cases g with
  |none=>exact q84 ..
  |some j=>
   show p9 (ifW (w L) _ _) k=veg (w L) _ H _;rw[zh8];cases h:w L with
   |none=>rfl
   |some b=>cases b with
    |true=>exact q84 ..
    |false=>rfl
def q69(P:Program)(d n:Nat)(ops:Array Oper)(o:Oper):StC d:=
 match aCl o with
 |none=>ziw P d n ops o
 |some _=>match qqt P d n ops o with|⟨g⟩=>⟨fun O L H k=>p9 (g O L H) k⟩
theorem zix(P:Program)(d n:Nat)(ops:Array Oper)(o:Oper)(O:Ev.Call)(L:TT AV d)(H:Hp)(k:TT AV d->Hp->R1):p9 ((qqt P d n ops o).f O L H) k=(q69 P d n ops o).f O L H k:=by
 unfold q69;cases h:aCl o with
 |none=>simp only;rw[<-ziv];unfold qqt;rw[h]
 |some c=>rfl
def aFP(P:Program)(d n:Nat)(ops:Array Oper):List Oper->StC d
 | []=>⟨fun _ L H k=>k L H⟩
 |o::r=>match q69 P d n ops o,aFP P d n ops r with|⟨g⟩,⟨h⟩=>⟨fun O L H k=>g O L H fun L H=>h O L H k⟩
theorem zj7(P:Program)(d n:Nat)(ops:Array Oper)(O:Ev.Call):∀(l:List Oper) (L:TT AV d) (H:Hp) (k:TT AV d->Hp->R1), p9 ((vC P d n ops l).f O L H) k=(aFP P d n ops l).f O L H k
 | [],_,_,_=>rfl
 |o::r,L,H,k=>by
  show p9 (zt9 ((qqt P d n ops o).f O L H) ((vC P d n ops r).f O)) k=(q69 P d n ops o).f O L H fun L H=>(aFP P d n ops r).f O L H k;rw[<-zix];cases (qqt P d n ops o).f O L H with
  |bad=>rfl
  |ok L H=>exact zj7 P d n ops O r L H k
structure SxC(d:Nat) where f:Ev.Call->Nat->TT AV d->Hp->List Pd->List Wt->(TT AV d->Hp->List Pd->List Wt->R1)->R1
def qrz(P:Program)(d n:Nat)(ops:Array Oper)(i A:Nat)(o:Oper):SxC d:=
 match lJ P d n o,oG d n (lX ops o),xW d n ops o,eG d n o.dst with
 | .q lk f,⟨pj⟩,⟨w⟩,⟨put⟩=>⟨fun _ base L H p ws k=>dq lk (qh7 o.op&& !lk) i A (base+i) H p ws (f (base+i) (pj L)) (w (pj L)) fun v H p ws=>k (put L v) H p ws⟩
 | .e f,⟨pj⟩,⟨w⟩,⟨put⟩=>⟨fun O _ L H p ws k=>de A H p ws (f O (pj L) (dZ A p H)) (w (pj L)) fun v H p ws=>k (put L v) H p ws⟩
theorem ziu(P:Program)(d n:Nat)(ops:Array Oper)(i A:Nat)(o:Oper)(O:Ev.Call)(base:Nat)(L:TT AV d)(H:Hp)(p:List Pd)(ws:List Wt)(k:TT AV d->Hp->List Pd->List Wt->R1):aI8 ((qxh P d n ops i A o).f O base L H p ws) k=(qrz P d n ops i A o).f O base L H p ws k:=by
 unfold qxh qrz;generalize lJ P d n o=x;generalize oG d n (lX ops o)=j;generalize xW d n ops o=w;generalize eG d n o.dst=pt;obtain⟨w⟩:=w;obtain⟨j⟩:=j;cases x with
 |q lk f=>
  dsimp only;rw[zty];unfold qX dq0;cases w (j L)with
  |none=>rfl
  |some b=>cases b with
   |false=>rfl
   |true=>
    cases f (base+i) (j L) (dZ A p H)with
    |bad=>rfl
    |val v=>rfl
    |new v b=>simp only;cases (qh7 o.op&& !lk&&b.wr)<;>rfl
 |e f=>
  dsimp only;rw[ztz];unfold eX de0;cases w (j L)with
  |none=>rfl
  |some b=>cases b with
   |false=>rfl
   |true=>
    cases f O (j L) (dZ A p H)with
    |bad=>rfl
    |ok v H'=>simp only;cases qjc (sG A p) H' (rP A ws)<;>rfl
def qqw(P:Program)(d n:Nat)(ops:Array Oper)(ms:List Nat):List Nat->SxC d
 | []=>⟨fun _ _ L H p w k=>k L H p w⟩
 |i::r=>match ops[i]? with
  |some o=>match qrz P d n ops i (ms.getD i 0) o,qqw P d n ops ms r with|⟨g⟩,⟨h⟩=>⟨fun O base L H p w k=>g O base L H p w fun L H p w=>h O base L H p w k⟩
  |none=>⟨fun _ _ _ _ _ _ _=>.bad⟩
theorem q8c(P:Program)(d n:Nat)(ops:Array Oper)(ms:List Nat)(O:Ev.Call)(base:Nat):∀(l:List Nat) (L:TT AV d) (H:Hp) (p:List Pd) (w:List Wt) (k:TT AV d->Hp->List Pd->List Wt->R1), aI8 ((vK P d n ops ms l).f O base L H p w) k=(qqw P d n ops ms l).f O base L H p w k
 | [],_,_,_,_,_=>rfl
 |i::r,L,H,p,w,k=>by
  unfold vK qqw;cases ops[i]? with
  |none=>rfl
  |some o=>
   show aI8 (z4r ((qxh P d n ops i (ms.getD i 0) o).f O base L H p w) ((vK P d n ops ms r).f O base)) k=(qrz P d n ops i (ms.getD i 0) o).f O base L H p w fun L H p w=>(qqw P d n ops ms r).f O base L H p w k;rw[<-ziu];cases (qxh P d n ops i (ms.getD i 0) o).f O base L H p w with
   |bad=>rfl
   |ok L H p w=>exact q8c P d n ops ms O base r L H p w k
def z4c(P:Program)(d n:Nat)(ops:Array Oper):StC d:=
 match q3u P d n ops with
 |none=>⟨fun _ _ _ _=>.bad⟩
 |some pl=>match qqw P d n ops pl.ms pl.ord with
  |⟨g⟩=>⟨fun O L H k=>g O H.nx L ⟨H.t,H.nx+pl.up⟩ [] [] fun L H p _=>k L (oF p H)⟩
theorem ztx(P:Program)(d n:Nat)(ops:Array Oper)(O:Ev.Call)(L:TT AV d)(H:Hp)(k:TT AV d->Hp->R1):p9 ((qq2 P d n ops).f O L H) k=(z4c P d n ops).f O L H k:=by
 unfold qq2 z4c;cases q3u P d n ops with
 |none=>rfl
 |some pl=>show p9 (match(vK P d n ops pl.ms pl.ord).f O H.nx L ⟨H.t,H.nx+pl.up⟩ [] []with| .bad=>.bad| .ok L' H' pend _=>.ok L' (oF pend H')) k=(qqw P d n ops pl.ms pl.ord).f O H.nx L ⟨H.t,H.nx+pl.up⟩ [] [] fun L H p _=>k L (oF p H);rw[<-q8c];cases (vK P d n ops pl.ms pl.ord).f O H.nx L ⟨H.t,H.nx+pl.up⟩ [] []<;>rfl
/- regions that draw their order, without effects and new blocks -/
def q74(P:Program)(d n:Nat)(ops:Array Oper)(i:Nat):Bool:=match ops[i]? with|some o=> !isE (lJ P d n o)&& !qh7 o.op|none=>false
def z3h(P:Program)(d n:Nat)(ops:Array Oper)(i:Nat)(o:Oper):StC d:=
 match lJ P d n o,oG d n (lX ops o),o.guard,xW d n ops o,eG d n o.dst with
 | .q _ f,⟨pj⟩,none,_,⟨put⟩=>⟨fun _ L H k=>vl (f (H.nx+i) (pj L) H) fun v=>k (put L v) H⟩
 | .q _ f,⟨pj⟩,some _,⟨w⟩,⟨put⟩=>⟨fun _ L H k=>vlg (w (pj L)) (f (H.nx+i) (pj L) H) fun v=>k (put L v) H⟩
 | .e _,_,_,_,_=>⟨fun _ _ _ _=>.bad⟩
def q3x(P:Program)(d n:Nat)(ops:Array Oper):List Nat->StC d
 | []=>⟨fun _ L H k=>k L H⟩
 |i::r=>match ops[i]? with
  |some o=>match z3h P d n ops i o,q3x P d n ops r with|⟨g⟩,⟨h⟩=>⟨fun O L H k=>g O L H fun L H=>h O L H k⟩
  |none=>⟨fun _ _ _ _=>.bad⟩
theorem zx3(lk:Bool)(i A nm:Nat)(H:Hp)(w:List Wt)(f:Hp->R0)(g:Option Bool)(k:AV->Hp->List Pd->List Wt->R1)(a:AV->R1)(h:∀ v w,k v H [] w=a v):dq lk false i A nm H [] w f g k=vlg g (f H) a:=by
 rw[zty,q61];unfold dq0 aCz;cases g with
 |none=>rfl
 |some b=>cases b with
  |false=>exact h _ _
  |true=>
   show(match f H with| .bad=>R1.bad| .val v=>_| .new v b=>_)=vl (f H) a;cases f H with
   |bad=>rfl
   |val v=>exact h _ _
   |new v b=>rfl
theorem qvc(P:Program)(d n:Nat)(ops:Array Oper)(ms:List Nat)(O:Ev.Call)(H:Hp):∀(l:List Nat),l.all (q74 P d n ops)=true->∀(L:TT AV d) (w:List Wt) (k:TT AV d->Hp->R1), (qqw P d n ops ms l).f O H.nx L H [] w (fun L H p _=>k L (oF p H))=(q3x P d n ops l).f O L H k
 | [],_,_,_,_=>rfl
 |i::r,hl,L,w,k=>by
  rw[lA6,qh]at hl;have a:=hl.1;unfold q74 at a;unfold qqw q3x;cases u:ops[i]? with
  |none=>simp[u]at a
  |some o=>
   rw[u]at a;simp only[qh,yh]at a;show(qrz P d n ops i (ms.getD i 0) o).f O H.nx L H [] w (fun L x p w=>(qqw P d n ops ms r).f O H.nx L x p w (fun L H p _=>k L (oF p H)))=(z3h P d n ops i o).f O L H fun L H=>(q3x P d n ops r).f O L H k;unfold qrz z3h;have c:=a.2;have s:=a.1;have t:o.guard=none->(xW d n ops o).f=fun _=>some true:=fun g=>by unfold xW;rw[g]
   generalize xW d n ops o=h at t;generalize lJ P d n o=x2 at s;generalize oG d n (lX ops o)=m;generalize eG d n o.dst=b;obtain⟨h⟩:=h;obtain⟨m⟩:=m;obtain⟨b⟩:=b;cases x2 with
   |e f=>cases s
   |q lk f=>
    cases g:o.guard with
    |none=>have e:=t g;subst e;rw[c];refine(zx3 lk i _ _ H w _ (some true) _ (fun v=>(q3x P d n ops r).f O (b L v) H k) fun v w=>?_).trans (by rw[q61];rfl);exact qvc P d n ops ms O H r hl.2 (b L v) w k
    |some j=>rw[c];exact zx3 lk i _ _ H w _ (h (m L)) _ (fun v=>(q3x P d n ops r).f O (b L v) H k) fun v w=>qvc P d n ops ms O H r hl.2 (b L v) w k
def z4b(P:Program)(d n:Nat)(ops:Array Oper):StC d:=
 match q3u P d n ops with
 |none=>⟨fun _ _ _ _=>.bad⟩
 |some pl=>match pl.ord.all (q74 P d n ops)&&Nat.beq pl.up 0,q3x P d n ops pl.ord,qqw P d n ops pl.ms pl.ord with
  |true,⟨g⟩,_=>⟨g⟩
  |false,_,⟨g⟩=>⟨fun O L H k=>g O H.nx L ⟨H.t,H.nx+pl.up⟩ [] [] fun L H p _=>k L (oF p H)⟩
theorem ztw(P:Program)(d n:Nat)(ops:Array Oper)(O:Ev.Call)(L:TT AV d)(H:Hp)(k:TT AV d->Hp->R1):p9 ((qq2 P d n ops).f O L H) k=(z4b P d n ops).f O L H k:=by
 rw[ztx];unfold z4c z4b;cases q3u P d n ops with
 |none=>rfl
 |some pl=>
  dsimp only;cases a:(pl.ord.all (q74 P d n ops)&&Nat.beq pl.up 0)with
  |false=>rfl
  |true=>rw[qh]at a;have b:=rf a.2;rw[b];exact qvc P d n ops pl.ms O H pl.ord a.1 L [] k
def thn(b:TT AV d->Hp->R1)(K:Kt d):Kt d:=fun e L H=>match e with| .normal=>b L H|e=>K e L H
def aBp(id:Nat)(K:Kt d):Kt d:=fun e L H=>match e with| .exit i=>bif Nat.beq i id then K .normal L H else K (.exit i) L H|e=>K e L H
structure DnC(d:Nat) where f:Ev.Call->TT AV d->Hp->Kt d->R1
def oQ(P:Program)(d n:Nat):Code->DnC d
 | .skip| .label _=>⟨fun _ L H K=>K .normal L H⟩
 | .region _ ops false=>match aFP P d n ops ops.toList with|⟨g⟩=>⟨fun O L H K=>g O L H (K .normal)⟩
 | .region _ ops true=>match z4b P d n ops with|⟨g⟩=>⟨fun O L H K=>g O L H (K .normal)⟩
 | .seq a b=>match oQ P d n a,oQ P d n b with|⟨f⟩,⟨g⟩=>⟨fun O L H K=>f O L H (thn (fun L H=>g O L H K) K)⟩
 | .cond x a b=>match aM d n x,oQ P d n a,oQ P d n b with|⟨g⟩,⟨f⟩,⟨h⟩=>⟨fun O L H K=>cd (g L) (f O L H K) (h O L H K)⟩
 | .block id b=>match oQ P d n b with|⟨f⟩=>⟨fun O L H K=>f O L H (aBp id K)⟩
 | .scope b=>oQ P d n b
 | .exit id=>⟨fun _ L H K=>K (.exit id) L H⟩
 | .ret=>⟨fun _ L H K=>K .ret L H⟩
 |c=>match den P d n c with|⟨g⟩=>⟨fun O L H K=>fin (g O L H) K⟩
theorem q82(r:Rs d)(K:Kt d):fin (pO r) K=p9 r (K .normal):=by cases r<;>rfl
theorem q4d(r:Rc d)(k:TT AV d->Hp->Rc d)(K:Kt d):fin (zW r k) K=fin r (thn (fun L H=>fin (k L H) K) K):=by
 cases r with
 |bad=>rfl
 |ok e L H=>cases e<;>rfl
theorem qzd(id:Nat)(r:Rc d)(K:Kt d):fin (qzs id r) K=fin r (aBp id K):=by
 cases r with
 |bad=>rfl
 |ok e L H=>
  cases e with
  |exit i=>show fin (bif Nat.beq i id then _ else _) K=bif Nat.beq i id then _ else _;cases Nat.beq i id<;>rfl
  |_=>rfl
theorem qgy(P:Program)(d n:Nat)(O:Ev.Call):∀(c:Code) (L:TT AV d) (H:Hp) (K:Kt d),fin ((den P d n c).f O L H) K=(oQ P d n c).f O L H K
 | .skip,_,_,_| .label _,_,_,_| .exit _,_,_,_| .ret,_,_,_| .goto _,_,_,_| .loop _,_,_,_| .rangeFunc ..,_,_,_| .refuse _,_,_,_=>rfl
 | .region _ ops false,L,H,K=>(q82 ..).trans (zj7 ..)
 | .region _ ops true,L,H,K=>(q82 ..).trans (ztw ..)
 | .seq a b,L,H,K=>by refine(q4d ((den P d n a).f O L H) ((den P d n b).f O) K).trans ?_;rw[qgy P d n O a];show(oQ P d n a).f O L H (thn (fun L H=>fin ((den P d n b).f O L H) K) K)=(oQ P d n a).f O L H (thn (fun L H=>(oQ P d n b).f O L H K) K);congr 2;funext L H;exact qgy P d n O b L H K
 | .cond x a b,L,H,K=>by
  show fin (condC ((aM d n x).f L) ((den P d n a).f O L H) ((den P d n b).f O L H)) K=cd ((aM d n x).f L) ((oQ P d n a).f O L H K) ((oQ P d n b).f O L H K);rw[<-qgy P d n O a,<-qgy P d n O b];generalize (aM d n x).f L=v;cases v with
  |bool q=>cases q<;>rfl
  |_=>rfl
 | .block id b,L,H,K=>(qzd ..).trans (qgy P d n O b L H (aBp id K))
 | .scope b,L,H,K=>qgy P d n O b L H K
def Lk(P:Program)(d n:Nat)(O:Ev.Call)(c:Code)(K:Kt d)(D:TT AV d->Hp->R1):Prop:=∀ L H,fin ((den P d n c).f O L H) K=D L H
variable {P:Program} {n:Nat} {O:Ev.Call} {K:Kt d}
theorem q0{c:Code}{D:TT AV d->Hp->R1}(h:∀ L H,(oQ P d n c).f O L H K=D L H):Lk P d n O c K D:=fun L H=>(qgy P d n O c L H K).trans (h L H)
theorem mB{a b:Code}{D E:TT AV d->Hp->R1}(c:Lk P d n O b K E)(e:Lk P d n O a (thn E K) D):Lk P d n O (.seq a b) K D:=fun L H=>by refine(q4d ((den P d n a).f O L H) ((den P d n b).f O) K).trans ?_;rw[show(fun L H=>fin ((den P d n b).f O L H) K)=E from funext fun L=>funext fun H=>c L H];exact e L H
theorem r8{id:Nat}{b:Code}{D:TT AV d->Hp->R1}(h:Lk P d n O b (aBp id K) D):Lk P d n O (.block id b) K D:=fun L H=>(qzd ..).trans (h L H)
theorem kB{b:Code}{D:TT AV d->Hp->R1}(h:Lk P d n O b K D):Lk P d n O (.scope b) K D:=h
theorem pB{x:Operand}{a b:Code}{A B:TT AV d->Hp->R1}(c:Lk P d n O a K A)(e:Lk P d n O b K B):Lk P d n O (.cond x a b) K (fun L H=>cd ((aM d n x).f L) (A L H) (B L H)):=fun L H=>by
 show fin (condC ((aM d n x).f L) ((den P d n a).f O L H) ((den P d n b).f O L H)) K=cd ((aM d n x).f L) (A L H) (B L H);rw[<-c L H,<-e L H];generalize (aM d n x).f L=v;cases v with
 |bool q=>cases q<;>rfl
 |_=>rfl
def dG:Nat:=Classical.choose (⟨bZ,rfl⟩:∃ n,n=bZ)
theorem dD:dG=bZ:=uw (⟨bZ,rfl⟩:∃ n,n=bZ)
theorem pT{b:Code}{D:Nat->TT AV d->Hp->R1}(c:∀ k,Lk P d n O b (thn (D k) K) (D (k+1)))(e:∀ L H,D 0 L H=.bad:=by intros;kernel_rfl):Lk P d n O (.loop b) K (D dG):=by
 have a:∀ k L H,fin (qyy ((den P d n b).f O) k L H) K=D k L H:=by
  intro k
  induction k with
  |zero=>intro L H;exact(e L H).symm
  |succ k ih=>intro L H;show fin (zW ((den P d n b).f O L H) (qyy ((den P d n b).f O) k)) K=_;rw[q4d,show(fun L H=>fin (qyy ((den P d n b).f O) k L H) K)=D k from funext fun L=>funext fun H=>ih L H];exact c k L H
 rw[dD];exact fun L H=>a bZ L H
theorem qS{c:Code}{D E:TT AV d->Hp->R1}(h:Lk P d n O c K D)(e:∀ L H,D L H=E L H:=by intros;kernel_rfl):Lk P d n O c K E:=fun L H=>(h L H).trans (e L H)
def aJC(n:Nat)(O:Ev.Call)(res:TT AV d->Hp->Option AV):Kt d:=fun e L H=>match e with| .normal=>jR n O res L H| .ret=>jR n O res L H|_=>.bad
theorem z2k(n:Nat)(O:Ev.Call)(a:TT AV d->Hp->Option AV)(r:Rc d):aGj n O a r=fin r (aJC n O a):=by
 cases r with
 |bad=>rfl
 |ok e L H=>cases e<;>rfl
def codeOf(f:Func):Code:=match f.body with|some c=>c|none=>.skip
theorem ztj{f:FuncId}{F:Func}(hf:P.funcs[f]? =some F)(hn:(F.name == "runtime.NumGoroutine")=false) (hb:F.body.isSome=true) {args:List AV} (ha:(Nat.ble args.length F.ntmps&&Nat.ble (F.ntmps+1) 262144)=true)
  {D:TT AV (iF (F.ntmps+1))->Hp->R1} (h:Lk P (iF (F.ntmps+1)) F.ntmps O (codeOf F) (aJC F.ntmps O (qcs P (iF (F.ntmps+1)) F.ntmps F.results.toList).f) D) (H:Hp) :
  (aK P f).f O args H=D (pX args 0 (same .undef _)) H:=by
 unfold aK;rw[hf];simp only[hn,dm,lEB];unfold codeOf at h;cases hc:F.body with
 |none=>rw[hc]at hb;cases hb
 |some c=>rw[hc]at h;show(bif Nat.ble args.length F.ntmps&&Nat.ble (F.ntmps+1) 262144 then aGj F.ntmps O _ _ else .bad)=_;rw[ha,<-h _ H];exact z2k ..
end Go.Di
namespace Go.Di
open Go.Ev
variable {d n:Nat} {P:Program} {O:Ev.Call}
def qk6:Code->Bool
 | .region _ ops _=> !(ops.toList.any sM)
 | .seq a b=>qk6 a&&qk6 b
 | .cond _ a b=>qk6 a&&qk6 b
 | .block _ b=>qk6 b
 | .loop b=>qk6 b
 | .scope b=>qk6 b
 | .rangeFunc .. =>true
 |_=>true
theorem zl8{o:Oper}(h:sM o=false):aCl o=none:=by
 unfold sM at h;unfold aCl;split
 ·simp_all
 ·rfl
theorem qyh(f:n<8 ^ d){ops:Array Oper}:∀(l:List Oper),l.any sM=false->∀{L:TT AV d} {H:Hp} {a:TT AV d} {c:Hp},(vC P d n ops l).f O L H=.ok a c->(dR d n).f a=(dR d n).f L
 | [],_,L,H,a,c,h=>by cases h;rfl
 |o::r,hl,L,H,a,c,h=>by
  rw[List.any_cons,lAS]at hl;have e:zt9 ((qqt P d n ops o).f O L H) ((vC P d n ops r).f O)=.ok a c:=h;cases b:(qqt P d n ops o).f O L H with
  |bad=>rw[b]at e;cases e
  |ok L1 H1=>rw[b]at e;unfold qqt at b;rw[zl8 hl.1]at b;exact(qyh f r hl.2 e).trans (qr0 f b)
theorem qep(p:n<8 ^ d):∀(c:Code),qk6 c=true->∀{L:TT AV d} {H:Hp} {e:Ex} {l:TT AV d} {o:Hp},(den P d n c).f O L H=.ok e l o->(dR d n).f l=(dR d n).f L
 | .skip,_,_,_,_,_,_,h| .label _,_,_,_,_,_,_,h| .exit _,_,_,_,_,_,_,h| .ret,_,_,_,_,_,_,h=>by cases h;rfl
 | .goto _,_,_,_,_,_,_,h| .refuse _,_,_,_,_,_,_,h=>by cases h
 | .rangeFunc f ps sa bd,_,L,H,e,l,o,h=>by
  rw[den]at h;split at h
  ·cases h
  ·rename_i g _ _;have h:endLoop H.nx (qj3 O (g L) [.yield H.nx] (aI H (.loop true none d n L ps.toList sa bd))) L=.ok e l o:=h;unfold endLoop at h;split at h
   ·cases h
   ·split at h<;>first|(cases h;rfl)|cases h
 | .region _ ops false,hc,L,H,e,l,o,h=>by
  have j:pO ((vC P d n ops ops.toList).f O L H)=.ok e l o:=h;cases m:(vC P d n ops ops.toList).f O L H with
  |bad=>rw[m]at j;cases j
  |ok L1 H1=>rw[m]at j;cases j;exact qyh p _ (by simpa [qk6] using hc) m
 | .region _ ops true,_,L,H,e,l,o,h=>by
  have j:pO ((qq2 P d n ops).f O L H)=.ok e l o:=h;cases m:(qq2 P d n ops).f O L H with
  |bad=>rw[m]at j;cases j
  |ok L1 H1=>rw[m]at j;cases j;exact qss p m
 | .seq a b,hc,L,H,e,l,o,h=>by
  simp only[qk6,qh]at hc;have j:zW ((den P d n a).f O L H) ((den P d n b).f O)=.ok e l o:=h;cases m:(den P d n a).f O L H with
  |bad=>rw[m]at j;cases j
  |ok e1 L1 H1=>
   rw[m]at j;have g1:=qep p a hc.1 m;cases e1 with
   |normal=>exact(qep p b hc.2 j).trans g1
   |exit i=>cases j;exact g1
   |goto i=>cases j;exact g1
   |ret=>cases j;exact g1
 | .cond x a b,hc,L,H,e,l,o,h=>by
  simp only[qk6,qh]at hc;have j:condC ((aM d n x).f L) ((den P d n a).f O L H) ((den P d n b).f O L H)=.ok e l o:=h;unfold condC at j;split at j
  ·exact qep p a hc.1 j
  ·exact qep p b hc.2 j
  ·cases j
 | .block id b,hc,L,H,e,l,o,h=>by
  have j:qzs id ((den P d n b).f O L H)=.ok e l o:=h;cases m:(den P d n b).f O L H with
  |bad=>rw[m]at j;cases j
  |ok e1 L1 H1=>
   rw[m]at j;have g1:=qep p b hc m;cases e1 with
   |exit i=>
    have r:(bif Nat.beq i id then Rc.ok .normal L1 H1 else Rc.ok (.exit i) L1 H1)=.ok e l o:=j;cases s:Nat.beq i id with
    |true=>rw[s]at r;cases r;exact g1
    |false=>rw[s]at r;cases r;exact g1
   |normal=>cases j;exact g1
   |goto i=>cases j;exact g1
   |ret=>cases j;exact g1
 | .loop b,hc,L,H,e,l,o,h=>by
  have q:∀(k:Nat) {L:TT AV d} {H:Hp},qyy ((den P d n b).f O) k L H=.ok e l o->(dR d n).f l=(dR d n).f L:=by
   intro k
   induction k with
   |zero=>intro L H h;cases h
   |succ k ih=>
    intro L H h;have j:zW ((den P d n b).f O L H) (qyy ((den P d n b).f O) k)=.ok e l o:=h;cases m:(den P d n b).f O L H with
    |bad=>rw[m]at j;cases j
    |ok e1 L1 H1=>
     rw[m]at j;have g1:=qep p b hc m;cases e1 with
     |normal=>exact(ih j).trans g1
     |exit i=>cases j;exact g1
     |goto i=>cases j;exact g1
     |ret=>cases j;exact g1
  exact q bZ h
 | .scope b,hc,L,H,e,l,o,h=>qep p b hc h
def aF9(res:TT AV d->Hp->Option AV):Kt d:=fun e L H=>match e with| .normal=>dM (res L H) H| .ret=>dM (res L H) H|_=>.bad
theorem mA{c:Code}{K:Kt d}:Lk P d n O c K (fun L H=>(oQ P d n c).f O L H K):=fun L H=>qgy P d n O c L H K
theorem qd8{f:FuncId}{F:Func}(hf:P.funcs[f]? =some F)(hn:(F.name == "runtime.NumGoroutine")=false) (hb:F.body.isSome=true) (hd:qk6 (codeOf F)=true) {args:List AV} (ha:(Nat.ble args.length F.ntmps&&Nat.ble (F.ntmps+1) 262144)=true)
  {D:TT AV (iF (F.ntmps+1))->Hp->R1} (h:Lk P (iF (F.ntmps+1)) F.ntmps O (codeOf F) (aF9 (qcs P (iF (F.ntmps+1)) F.ntmps F.results.toList).f) D) (H:Hp) :
  (aK P f).f O args H=D (pX args 0 (same .undef _)) H:=by
 refine(ztj hf hn hb ha (D:=fun L H=>fin ((den P (iF (F.ntmps+1)) F.ntmps (codeOf F)).f O L H) (aJC F.ntmps O (qcs P (iF (F.ntmps+1)) F.ntmps F.results.toList).f)) (fun _ _=>rfl) H).trans ?_;rw[<-h];cases h1:(den P (iF (F.ntmps+1)) F.ntmps (codeOf F)).f O (pX args 0 (same .undef _)) H with
 |bad=>rfl
 |ok e L' H'=>
  have hs:=qep (ku (ig _) (qb5 _)) (codeOf F) hd h1;simp only[qh,Nat.ble_eq]at ha;have h0:=qkt ha.1 ha.2;have hout:jR F.ntmps O (qcs P (iF (F.ntmps+1)) F.ntmps F.results.toList).f L' H'=dM ((qcs P (iF (F.ntmps+1)) F.ntmps F.results.toList).f L' H') H':=by unfold jR;rw[hs,h0];rfl
  cases e with
  |normal=>exact hout
  |ret=>exact hout
  |exit i=>rfl
  |goto i=>rfl
end Go.Di
end
noncomputable section
namespace Go.Di
open Go.Ev
def dz(up:Nat)(H:Hp)(k:Nat->Hp->R1):R1:=k H.nx ⟨H.t,H.nx+up⟩
def xZ(p:List Pd)(H:Hp)(k:Hp->R1):R1:=k (oF p H)
def rV(r:R0):Option AV:=match r with| .val v=>some v|_=>none
def fQ(a:Option AV)(b:Option (List AV)):Option (List AV):=match a,b with|some v,some l=>some (v::l)|_,_=>none
def gH(a:Option (List AV)):Option AV:=match a with|some l=>some (.bA l)|none=>none
def pA(k:Nat):P1:=⟨fun cs off=>some (.agg ((cs.drop off).take k))⟩
def p1:P1:=⟨fun cs off=>cs[off]?⟩
def aY(x:AV):R0:=match x with| .ptr b o=>.val (.ptr b o)| .fn a b c=>.val (.fn a b c)| .yield l=>.val (.yield l)|_=>.bad
def aU(i:Nat)(x:AV):R0:=match x with| .bA l=>(match l[i]? with|some v=>.val v|none=>.bad)|_=>.bad
end Go.Di
end
noncomputable section
namespace Go.Ev
open Go.RowKit Go.Sort
variable {P:Program} {w:World} {ι:Im} {H:Hp}
def qpx:List AV->Option (List Int)
 | []=>some []
 | .int .i64 z::l=>match qpx l with|some r=>some (z::r)|none=>none
 |_::_=>none
def qjk(zs:List Int):List Int:=zs.mergeSort fun x y=>decide (x<=y)
def qxo(H:Hp)(b o n:Nat):Option R1:=
 match fD (H.get b) o n with
 |some l=>match qpx l with
  |some zs=>match storeAt H b o ((qjk zs).map fun z=>.int .i64 z) (.bA [])with
   | .ok v H'=>bif Nat.blt n 4611686018427387904 then some (.ok v H')else none
   | .bad=>none
  |none=>none
 |none=>none
def qus(f:FuncId)(e:Ext):Ext:=fun g args H=>
 bif Nat.beq g f then(match args with
 | [.sl b o n _ _]=>qxo H b o n
 | [.aA]=>some (.ok (.bA []) H)
 |_=>none)else e g args H
theorem qsk:∀{l:List AV} {zs:List Int},qpx l=some zs->l=zs.map fun z=>.int .i64 z
 | [],zs,h=>by cases h;rfl
 | .int .i64 z::l,zs,h=>by
  unfold qpx at h;split at h
  ·rename_i r a;cases h;rw[qsk a];rfl
  ·cases h
 | .int .i8 _::_,_,h| .int .i16 _::_,_,h| .int .i32 _::_,_,h| .int .u8 _::_,_,h| .int .u16 _::_,_,h| .int .u32 _::_,_,h| .int .u64 _::_,_,h=>by cases h
 | .undef::_,_,h| .lit _::_,_,h| .bool _::_,_,h| .str _ _::_,_,h| .ptr _ _::_,_,h| .bJ::_,_,h| .sl _ _ _ _ _::_,_,h| .aA::_,_,h| .sle::_,_,h| .map _::_,_,h| .bQ::_,_,h| .fn _ _ _::_,_,h| .yield _::_,_,h| .jH::_,_,h| .iface _ _::_,_,h| .pI::_,_,h| .agg _::_,_,h| .bA _::_,_,h=>by cases h
def qD(P:Program)(f:FuncId):Prop:=∀(blk off cap:Nat) (zs:List Int) (w:World),Holds (Value.int .i64) w blk off zs.toArray->blk<w.heap.size->zs.length<4611686018427387904 ->
 Calls P f #[.slice (some ⟨blk,off,none⟩) zs.length cap] w fun e w'=>e=.returned (.tuple #[])/\∃ n os,w'=Go.Sort.grow (putRow (Value.int .i64) (Sort.ahead w n) blk off (qjk zs).toArray) os
theorem qox(zs:List Int):(qjk zs).length=zs.length:=lE6 _
theorem quz{α:Type}[Inhabited α](enc:α->Value){b a e:Nat}{c:TT AV a}{f o:Nat}{loc:Loc}(q:HR ι H w)(x:H.get b=.cells a e c false f)(p:ι b=some loc){r d:Array α}(s:Holds enc w loc.blk (loc.base+o) r)(t:d.size=r.size){l:List AV}(B:l.length=d.size)(C:o+d.size<=e)(g:∀ j,j<d.size->aO ι (l.getD j .undef) (enc d[j]!)/\(enc d[j]!).oneCell=true)(k:Nat)(u:Array Obj):HR ι (H.put b (.cells a e (pX l o c) false f)) (Go.Sort.grow (putRow enc (Sort.ahead w k) loc.blk (loc.base+o) d) u)/\Fr ι ι H (H.put b (.cells a e (pX l o c) false f)) w (Go.Sort.grow (putRow enc (Sort.ahead w k) loc.blk (loc.base+o) d) u):=by
 have h:=q.lt p;have y:=q.blk b h;rw[x]at y;obtain⟨R,z,A,K,L⟩:=y;rw[p]at z;cases z;have i:HR ι (H.put b (.cells a e (pX l o c) false f)) (putRow enc (Sort.ahead w k) loc.blk (loc.base+o) d)/\Fr ι ι H (H.put b (.cells a e (pX l o c) false f)) w (putRow enc (Sort.ahead w k) loc.blk (loc.base+o) d):=by
  refine q.put h (by rw[x];rfl) p _ rfl rfl rfl (by rw[size_putRow];rfl) (fun D E=>?_) ?_
  ·show(w.heap.modify loc.blk _)[D]? =_;rw[Array.getElem?_modify,pg (by omega)]
  ·refine⟨loc,p,A,fun j v=>?_,fun _ j v=>?_⟩
   ·have G:=A.1;rw[qif _ _ _ _ (by omega) (by omega),B];obtain⟨V,M,N,O,c4⟩:=K j v;by_cases n:o<=j/\j<o+d.size
    ·rw[qj n];obtain⟨P,Q⟩:=g (j-o) (by omega);refine⟨enc d[j-o]!,?_,P,Q,fun _=>?_⟩
     ·have I:=cell?_putRow enc (Sort.ahead w k) loc.blk (loc.base+o) r d s t (j-o) (by omega);rwa [show loc.base+o+(j-o)=loc.base+j by omega]at I
     ·simp_all
    ·rw[pg n];refine⟨V,?_,N,O,fun _=>?_⟩
     ·rw[cell?_putRow_other _ _ _ _ _ _ (.inr (by simp only;omega))];exact M
     ·simp_all
   ·have J:=L rfl j v;rw[frozen?_putRow,cell?_putRow_other _ _ _ _ _ _ (.inr (by simp only;omega))];exact J
 obtain⟨g1,g2⟩:=i;have m:Below (putRow enc (Sort.ahead w k) loc.blk (loc.base+o) d).heap.size (putRow enc (Sort.ahead w k) loc.blk (loc.base+o) d) (Go.Sort.grow (putRow enc (Sort.ahead w k) loc.blk (loc.base+o) d) u):=⟨rfl,rfl,rfl,by rw[Go.Sort.size_grow];omega,fun c F=>Go.Sort.heap_grow_old _ _ F⟩;obtain⟨g3,g4⟩:=g1.of_below m;exact⟨g3,g2.trans g4⟩
theorem qe5{b:bW}{o n:Nat}{l:List AV}(h:fD b o n=some l):∃ e d c f g,b=.cells e d c f g/\o+n<=d/\l.length=n/\∀ j,j<n->l[j]? =some ((dR e (o+j)).f c):=by
 cases b with
 |cells e d c f g=>
  have h:(bif Nat.ble (o+n) d then some (w9 c n o)else none)=some l:=h;cases a:Nat.ble (o+n) d with
  |false=>rw[a]at h;cases h
  |true=>rw[a]at h;simp only[uB,qo]at h;subst h;exact⟨e,d,c,f,g,rfl,pK a,qhm c n o,zjo c n o⟩
 |_=>cases h
theorem qfm{b o:Nat}{l:List AV}{v g:AV}{i:Hp}{e d j:Nat}{c:TT AV e}{f:Bool}(k:H.get b=.cells e d c f j)(h:storeAt H b o l v=.ok g i):f=false/\g=v/\i=H.put b (.cells e d (pX l o c) false j)/\o+l.length<=d:=by
 unfold storeAt qig at h;rw[k]at h;cases f with
 |true=>cases h
 |false=>
  dsimp only at h;cases a:Nat.ble (o+l.length) d with
  |false=>rw[a]at h;cases h
  |true=>rw[a]at h;cases h;exact⟨rfl,rfl,rfl,pK a⟩
theorem zr1{f:FuncId}(M:qD P f){b o n m:Nat}{x:Bool}{v:AV}{E:Hp}(h:qxo H b o n=some (.ok v E)){F:List Value}(s:HR ι H w)(N:aL ι [.sl b o n m x] F):Calls P f F.toArray w (Post ι H w v E):=by
 obtain⟨V,r,rfl,⟨Q,loc,t,rfl⟩,rfl⟩:=N;unfold qxo at h;split at h
 ·rename_i l R;split at h
  ·rename_i zs S;have y:=qsk S;split at h
   ·rename_i Y Z C;cases i:Nat.blt n 4611686018427387904 with
    |false=>rw[i]at h;cases h
    |true=>
     rw[i]at h;cases h;have i:=pK i;obtain⟨T,nn,c,ro,zz,u,U,D,I⟩:=qe5 R;obtain⟨rfl,rfl,rfl,_⟩:=qfm u C;have p:=s.lt t;have G:=s.blk b p;rw[u]at G;obtain⟨l',J,b2,W,b4⟩:=G;rw[t]at J;cases J;have A:zs.length=n:=by rw[<-D,y,pz]
     subst A;have g:∀ j,j<zs.length->(dR T (o+j)).f c=.int .i64 zs[j]! :=fun j a=>by simp_all
     have q:Holds (Value.int .i64) w loc.blk (loc.base+o) zs.toArray:=fun j a=>by
      have a:j<zs.length:=by simpa using a
      obtain⟨V,K,L,c3,c4⟩:=W (o+j) (by omega);rw[g j a]at L;subst L;rw[<-uu]at K c4;refine⟨?_,c4 rfl⟩;rw[K];simp
     have B:loc.blk<w.heap.size:=s.low b loc p (by rw[u];rfl) t;refine(M loc.blk (loc.base+o) (if x then m else m+loc.ext) zs w q B i).mono fun e w' O=>?_;obtain⟨rfl,k,X,rfl⟩:=O;obtain⟨g1,g2⟩:=quz (Value.int .i64) s u t q (d:=(qjk zs).toArray) (l:=(qjk zs).map fun z=>.int .i64 z) (by simp[qox]) (by simp) (by simp[qox];omega) (fun j a=>by
      have a:j<(qjk zs).length:=by simpa using a
      refine⟨?_,rfl⟩;rw[gy,xy,lq a];simp[a,aO]) k X
     exact⟨ι,by simp only[aO,aL];exact⟨[],rfl,rfl⟩,g1,g2⟩
   ·cases h
  ·cases h
 ·cases h
def zm2(P:Program)(f:FuncId):Prop:=∀ w,Calls P f #[.slice none 0 0] w fun e w'=>e=.returned (.tuple #[])/\Below w.heap.size w w'
def zk5:R1->Bool
 | .ok (.bA []) _=>true
 | .ok _ _=>false
 | .bad=>false
theorem qqu(d:P.follows .mixedOrders=true){ext:Ext}(g:xC P ext){k:Nat}{f:FuncId}(h:zk5 (gT P ext k (.f f) [.aA] Hp.empty)=true):zm2 P f:=by
 intro w;unfold zk5 at h;split at h
 ·rename_i m i;have:=((qhv d g k).fn _ _ _ _ _ i (fun _=>none) w [.slice none 0 0] HR.empty (by simp[aL,aO])).2 0;refine(callsIn_wide.1 this).mono fun e w' a=>?_;cases e with
  |returned V=>obtain⟨n,c,o,j⟩:=a;obtain⟨r,rfl,c⟩:=c;exact⟨by simp[c],j.below _ (lu _) fun b l _ _ h=>by cases h⟩
  |panicked=>exact a.elim
  |outgrown=>exact a.elim
 ·cases h
 ·cases h
theorem qea{f:FuncId}(hb:qfv P f=true)(A:Array Value):(callFunc f A).run P w=.ok (.enter f A) w:=by
 unfold qfv at hb;split at hb
 ·rename_i fn hfn;simp only[qh,yh]at hb;obtain⟨c,hc'⟩:=lAU.1 hb.1
  have hname':¬ fn.name = "runtime.NumGoroutine" :=fun e=>by rw[e]at hb;simp at hb
  simp[callFunc,hfn,hname',hc']
 ·cases hb
theorem q95{e:Ext}(i:xC P e){f:FuncId}(j:qD P f)(k:zm2 P f)(l:qfv P f=true):xC P (qus f e):=by
 refine⟨fun g args H r a v n b ι w o c d=>?_⟩;unfold qus at a;cases h:Nat.beq g f with
 |false=>rw[h]at a;exact i.fn g _ H r a v n b ι w o c d
 |true=>
  rw[h]at a;obtain rfl:=rf h;refine⟨qea l _,fun m=>callsIn_wide.2 ?_⟩;split at a
  ·subst b;exact zr1 j a c d
  ·cases a;cases b;obtain⟨V,r,rfl,rfl,rfl⟩:=d;refine(k w).mono fun e w' p=>?_;obtain⟨rfl,q⟩:=p;obtain⟨s,k2⟩:=c.of_below q;exact⟨ι,by simp[aO,aL],s,k2⟩
  ·cases a
structure Eg where
 (f t:Int)
 s:Bool
 deriving Inhabited
def egV(e:Eg):List AV:=[.int .i64 e.f,.int .i64 e.t,.bool e.s]
def egU(e:Eg):List Value:=[.int .i64 e.f,.int .i64 e.t,.bool e.s]
def qp9:List AV->Option (List Eg)
 | []=>some []
 | .int .i64 f:: .int .i64 t:: .bool s::l=>match qp9 l with|some r=>some (⟨f,t,s⟩::r)|none=>none
 |_=>none
def cI(a b:Int):Int:=if a<b then -1 else if b<a then 1 else 0
def or3(a b c:Int):Int:=if a=0 then if b=0 then c else b else a
def sgB(s:Bool):Int:=if s then 1 else 0
def jX(x y:Eg):Int:=or3 (cI x.f y.f) (cI x.t y.t) (cI (sgB x.s) (sgB y.s))
def qlo(l:List Eg):List Eg:=l.mergeSort fun x y=> !decide (jX y x<0)
theorem q96(l:List Eg):(qlo l).length=l.length:=lE6 _
theorem zl1:∀{l:List AV} {es:List Eg},qp9 l=some es->l=es.flatMap egV:=by
 intro l
 induction l using qp9.induct with
 |case1=>intro es h;unfold qp9 at h;cases h;rfl
 |case2 f t s l r h1 ih=>intro es h;unfold qp9 at h;rw[h1]at h;cases h;rw[ih h1];rfl
 |case3 f t s l h1 _=>intro es h;unfold qp9 at h;simp_all
 |case4 l h1 h2=>
  intro es h;unfold qp9 at h;split at h
  ·trivial
  ·rename_i f t s l;exact absurd rfl (h2 f t s l)
  ·cases h
theorem zly(es:List Eg):(es.flatMap egV).length=es.length*3:=by
 induction es with
 |nil=>rfl
 |cons a l ih=>rw[uA,lL,ih,pq];show 3+_=_;omega
theorem zl0:∀(es:List Eg) (t:Nat) (h:t<es.length*3),(es.flatMap egV)[t]? =(egV (es[t / 3]'(by omega)))[t%3]?
 | [],t,h=>by simp at h
 |a::l,t,h=>by
  rw[uA];by_cases d:t<3
  ·rw[uj (by show t<3;exact d)];have b:t / 3=0:=by omega
   have c:t%3=t:=by omega
   simp only[b,c,List.getElem_cons_zero]
  ·rw[uh (by show 3<=t;omega)];show(l.flatMap egV)[t-3]? =_;rw[pq]at h;rw[zl0 l (t-3) (by omega)];have b:t / 3=(t-3) / 3+1:=by omega
   have c:t%3=(t-3)%3:=by omega
   simp_all
theorem zxp(e:Eg){i:Nat}(a:i<3){V:Value}:aO ι ((egV e).getD i .undef) V↔V=(egU e)[i]!:=by
 match i,a with
 |0,_|1,_|2,_=>simp only[egV,egU];exact Iff.rfl
theorem z3z(e:Eg){i:Nat}(a:i<3):((egU e)[i]!).oneCell=true:=by
 match i,a with
 |0,_|1,_|2,_=>rfl
def qxr(H:Hp)(b o n:Nat):Option R1:=
 match fD (H.get b) o (n*3)with
 |some l=>match qp9 l with
  |some es=>match storeAt H b o ((qlo es).flatMap egV) (.bA [])with
   | .ok v H'=>bif Nat.blt n 4611686018427387904 then some (.ok v H')else none
   | .bad=>none
  |none=>none
 |none=>none
def nY(P:Program)(f fc:FuncId):Prop:=∀(d:Array Eg) (blk off cap:Nat) (w:World),Go.Sort.HoldsK egU 3 w blk off d->blk<w.heap.size->d.size<4611686018427387904 ->
 Calls P f #[.slice (some ⟨blk,off,none⟩) d.size cap,.func (.func fc) #[] #[]] w fun e w'=>e=.returned (.tuple #[])/\∃ n os,w'=Go.Proofs.sortWorldK egU 3 w blk off n (qlo d.toList).toArray os
def wR(P:Program)(f:FuncId):Prop:=∀ p cap fv w,Calls P f #[.slice p 0 cap,fv] w fun e w'=>e=.returned (.tuple #[])/\w'=w
def qhg(f fc:FuncId)(e:Ext):Ext:=fun g args H=>
 bif Nat.beq g f then(match args with
 | [.sl b o n _ _,.fn c [] []]=>bif Nat.beq c fc then qxr H b o n else none
 | [.aA,.fn c [] []]=>bif Nat.beq c fc then some (.ok (.bA []) H)else none
 |_=>none)else e g args H
theorem zi8{f I:FuncId}(S:nY P f I){b o n m:Nat}{x:Bool}{v:AV}{J:Hp}(h:qxr H b o n=some (.ok v J)){K:List Value}(z:HR ι H w)(T:aL ι [.sl b o n m x,.fn I [] []] K):Calls P f K.toArray w (Post ι H w v J):=by
 obtain⟨V,r,rfl,⟨Z,loc,B,rfl⟩,V2,r2,rfl,⟨_,_,rfl,rfl,rfl⟩,rfl⟩:=T;unfold qxr at h;split at h
 ·rename_i l hl;split at h
  ·rename_i es hz;have p:=zl1 hz;split at h
   ·rename_i v' H2 F;cases A:Nat.blt n 4611686018427387904 with
    |false=>rw[A]at h;cases h
    |true=>
     rw[A]at h;cases h;have A:=pK A;obtain⟨dd,nn,c,ro,zz,C,hle,G,y⟩:=qe5 hl;obtain⟨rfl,rfl,rfl,_⟩:=qfm C F;have q:=z.lt B;have L:=z.blk b q;rw[C]at L;obtain⟨l',O,b2,b3,b4⟩:=L;rw[B]at O;cases O;have D:es.length=n:=by rw[p,zly]at G;omega
     subst D;have M:∀(d:List Eg) (t:Nat),t<d.length*3->(Go.Sort.flatK egU 3 d.toArray)[t]! =(egU (d[t / 3]!))[t%3]! :=fun d t U=>by rw[Go.Sort.get_flatK egU 3 d.toArray t (by simpa using U)];simp
     have s:Go.Sort.HoldsK egU 3 w loc.blk (loc.base+o) es.toArray:=fun j a=>by
      have a:j<es.length*3:=by simpa using a
      obtain⟨V,Q,R,c3,c4⟩:=b3 (o+j) (by omega);have X:=y j a;have N:=zl0 es j a;rw[<-p,X]at N;have g:j%3<3:=xq _ (by omega);have Y:(dR dd (o+j)).f c=(egV (es[j / 3]'(by omega))).getD (j%3) .undef:=by rw[gy,<-N];rfl
      rw[Y,zxp _ g]at R;subst R;rw[<-uu]at Q c4;refine⟨?_,c4 rfl⟩;rw[Q];show some _=some (Go.Sort.flatK egU 3 es.toArray)[j]!;rw[M es j a,getElem!_pos es (j / 3) (by omega)]
     have E:loc.blk<w.heap.size:=z.low b loc q (by rw[C];rfl) B;have i:=S es.toArray loc.blk (loc.base+o) (if x then m else m+loc.ext) w s E (by rw[List.size_toArray];omega);refine i.mono fun e w' W=>?_;obtain⟨rfl,k,os,rfl⟩:=W;have u:=q96 es;obtain⟨g1,g2⟩:=quz (α:=Value) id z C B s (d:=Go.Sort.flatK egU 3 (qlo es).toArray) (l:=(qlo es).flatMap egV) (by simp[u]) (by rw[zly];simp) (by simp[u];omega) (fun j a=>by
      have a:j<(qlo es).length*3:=by simpa using a
      have g:j%3<3:=xq _ (by omega);rw[M _ j a,getElem!_pos (qlo es) (j / 3) (by omega)];refine⟨?_,z3z _ g⟩;rw[gy,zl0 _ j a,<-gy];exact(zxp _ g).2 rfl) k os
     exact⟨ι,by simp only[aO,aL];exact⟨[],rfl,rfl⟩,g1,g2⟩
   ·cases h
  ·cases h
 ·cases h
theorem q3g{e:Ext}(q:xC P e){f h:FuncId}(s:nY P f h)(t:wR P f)(u:qfv P f=true):xC P (qhg f h e):=by
 refine⟨fun g args H r a v y i ι w z j l=>?_⟩;unfold qhg at a;cases p:Nat.beq g f with
 |false=>rw[p]at a;exact q.fn g _ H r a v y i ι w z j l
 |true=>
  rw[p]at a;obtain rfl:=rf p;refine⟨qea u _,fun k=>callsIn_wide.2 ?_⟩;split at a
  ·rename_i b o n m x c;cases d:Nat.beq c h with
   |false=>rw[d]at a;cases a
   |true=>rw[d]at a;obtain rfl:=rf d;subst i;exact zi8 s a j l
  ·rename_i c;cases d:Nat.beq c h with
   |false=>rw[d]at a;cases a
   |true=>rw[d]at a;cases a;cases i;obtain⟨V,r,rfl,rfl,V2,B,rfl,⟨_,_,rfl,rfl,rfl⟩,rfl⟩:=l;exact(t none 0 _ w).mono fun e w' A=>by obtain⟨rfl,rfl⟩:=A;exact⟨ι,by simp[aO,aL],j,Fr.refl _ _ _⟩
  ·cases a
def aJA(P:Program)(f:FuncId)(s:Nat×Nat):Prop:=∀(V:Value) (ι:Im) (w:World),aO ι (.str s.1 s.2) V->Calls P f #[V] w fun e w'=>e=.returned (.bool true)/\Below w.heap.size w w'
def quh(fs:List FuncId)(ns:List (Nat×Nat))(e:Ext):Ext:=fun g args H=>
 bif fs.any (Nat.beq g)then(match args with
 | [.str n a]=>bif ns.any (fun s=>Nat.beq n s.1&&Nat.beq a s.2)then some (.ok (.bool true) H)else none
 |_=>none)else e g args H
theorem q9u{e:Ext}(x:xC P e){i:List FuncId}{m:List (Nat×Nat)}(h:∀ f∈i,∀s∈m,aJA P f s)(y:i.all (qfv P)=true):xC P (quh i m e):=by
 refine⟨fun g args H r b v z q ι w A t u=>?_⟩;unfold quh at b;cases j:i.any (Nat.beq g)with
 |false=>rw[j]at b;exact x.fn g _ H r b v z q ι w A t u
 |true=>
  rw[j]at b;rw[dC]at j;obtain⟨I,d,o⟩:=j;obtain rfl:=rf o;refine⟨qea (vk.1 y _ d) _,fun k=>callsIn_wide.2 ?_⟩;split at b
  ·rename_i n a;cases l:m.any (fun s=>Nat.beq n s.1&&Nat.beq a s.2)with
   |false=>rw[l]at b;cases b
   |true=>rw[l]at b;cases b;cases q;rw[dC]at l;obtain⟨s,p,c⟩:=l;rw[qh]at c;have C:=rf c.1;have D:=rf c.2;subst C D;obtain⟨V,r,rfl,E,rfl⟩:=u;refine(h g d s p V ι w E).mono fun e w' B=>?_;obtain⟨rfl,F⟩:=B;obtain⟨G,k2⟩:=t.of_below F;exact⟨ι,by simp[aO],G,k2⟩
  ·cases b
theorem q2x(c:P.follows .mixedOrders=true){ext:Ext}(d:xC P ext){k:Nat}{f:FuncId}{s:Nat×Nat}(h:qsj (gT P ext k (.f f) [.str s.1 s.2] Hp.empty)=true):aJA P f s:=by
 intro V ι w g;unfold qsj at h;split at h
 ·rename_i b n i;subst h;have:=((qhv c d k).fn _ _ _ _ _ i (fun _=>none) w [V] HR.empty (by simp only[aL];exact⟨V,[],rfl,by simpa only[aO] using g,rfl⟩)).2 0;refine(callsIn_wide.1 this).mono fun e w' a=>?_;cases e with
  |returned V=>obtain⟨o,j,p,m⟩:=a;exact⟨by rw[j],m.below _ (lu _) fun b l _ _ h=>by cases h⟩
  |panicked=>exact a.elim
  |outgrown=>exact a.elim
 ·cases h
end Go.Ev
end
