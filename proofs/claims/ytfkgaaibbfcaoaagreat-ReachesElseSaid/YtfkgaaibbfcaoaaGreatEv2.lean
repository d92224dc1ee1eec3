/-
 For ReachesElse: the evaluator and its soundness, part 2 of 2: what a run of the abstract evaluator answers, the model's run answers, in every world and on every schedule. No conditions beyond those that each theorem states.
-/
import Derived.Test.YtfkgaaibbfcaoaaGreatEv1
import Derived.LoopNIn
import Derived.Scope
import Derived.RangeFuncRecord
import Derived.ChangeSame
import Derived.Sort.Grow
import Derived.Sort.EveryDepth
import Derived.Sort.Defs
import Derived.Shelf.GgSortFunc.InsertionK
import Derived.Lib.BitFns
import Derived.WideKeyArgs
import Derived.Carry
import Derived.OpenShut
import Derived.ProofKit
import Derived.WalkKit
set_option linter.all false
noncomputable section
namespace Go.Ev
open Go.RowKit
variable {P:Program} {d n:Nat} {O:Call} {base:Nat} {ops:Array Oper} {ms:List Nat} {st:Nat->CS d} {pos:Nat->Nat} {V:Nat->AV} {B:Nat->Option cZ} {K:Nat->Bool}
def mo(ops:Array Oper)(j:Nat):Option Tmp:=(ops[j]?).bind (·.dst)
open Classical in
def tv(ops:Array Oper)(n:Nat)(V:Nat->AV)(L0:TT AV d)(S:Nat->Prop):Nat->Nat->AV
 |0,t=>(dV d t).f L0
 |j+1,t=>if S j/\mo ops j=some t/\t<n then V j else tv ops n V L0 S j t
variable{L':TT AV d}
theorem BB{S S':Nat->Prop}{t:Nat}:∀m,(∀j,j<m->mo ops j=some t->(S j↔S' j))->tv ops n V L' S m t=tv ops n V L' S' m t
 |0,_=>rfl
 |m+1,h=>by
  unfold tv;rw[BB m λj e=>h j (by omega)];by_cases b:mo ops m=some t
  ·have:=h m (by omega) b;by_cases a:S m
   ·simp[a,this.1 a,b]
   ·have:¬S' m:=λx=>a (this.2 x);simp[a,this]
  ·simp[b]
variable{F:Nat->Prop}
theorem O0{t i:Nat}(a:F i)(b:mo ops i=some t)(c:t<n):∀m,i<m->(∀j,i<j->j<m->F j->mo ops j≠some t)->tv ops n V L' F m t=V i
 |0,h,_=>by omega
 |m+1,h,k=>by
  unfold tv;by_cases e:i=m
  ·subst e;rw[sB ⟨a,b,c⟩]
  ·rw[sy (λx=>k m (by omega) (by omega) x.1 x.2.1)];exact O0 a b c m (by omega) λj g l=>k j g (by omega)
variable{E:Oper}
theorem oT(h:ops[d]? =some E):d<ops.size:=(lIU.1 h).1
def ij(h:d<ops.size):∃o,ops[d]? =some o:=⟨_,uu h⟩
theorem zx8(h:Edg ops ms)(u:cz ops F){i:Nat}(k:ops[i]? =some E)(p:¬F i)(t:Nat):tv ops n V L' (λj=>F j\/j=i) ops.size t=if E.dst=some t/\t<n then V i else tv ops n V L' F ops.size t:=by
 have c:mo ops i=E.dst:=by simp[mo,k]
 by_cases f:E.dst=some t
 ·by_cases g:t<n
  ·rw[sB ⟨f,g⟩];refine O0 (.inr rfl) (c.trans f) g _ (oT k) λj r v l w=>?_;obtain⟨s,b⟩:=ij v;have a:s.dst=some t:=by simpa [mo,b] using w
   rcases l with l|l
   ·rcases h.tmps i j E s t k b f with e|e|e|e
    ·omega
    ·exact p (h.uO u b l e)
    ·have:=h.aKh i E j k e;omega
    ·exact e.2 a
   ·omega
  ·rw[sy (by simp[g])];generalize ops.size=m
   induction m with
   |zero=>rfl
   |succ m ih=>unfold tv;rw[sy (by simp[g]),sy (by simp[g]),ih]
 ·rw[sy (by simp[f])];refine BB _ λj x a=>?_;constructor
  ·rintro (r|rfl)
   ·exact r
   ·rw[c]at a;exact absurd a f
  ·exact .inl
variable{I:AV}
theorem z0y{u:Nat}(h:Nat.blt u n=true):(eO d n (some u)).f L' I=(ak d u).f L' I:=by unfold eO;simp only;rw[h];rfl
theorem Sk{u:Nat}(h:Nat.blt u n=false):(eO d n (some u)).f L' I=L':=by unfold eO;simp only;rw[h];rfl
theorem BG(f:n<=8 ^ d){L:TT AV d}{v:AV}{t:Nat}(g:t<8 ^ d)(a:Option Tmp):(dV d t).f ((eO d n a).f L v)=if a=some t/\t<n then v else(dV d t).f L:=by
 cases a with
 |none=>simp[eO]
 |some u=>
  cases c:Nat.blt u n with
  |true=>
   have b:=yS c;rw[z0y c,je _ _ _ _ _ g (AE b f)];by_cases e:t=u
   ·subst e;simp[b]
   ·rw[sy e,sy (by simp;intro h;exact absurd h.symm e)]
  |false=>have b:=xf c;rw[Sk c,sy];rintro ⟨i,j⟩;cases i;exact b j
variable{T:Option cZ}
theorem qls.bEM{i A:Nat}{s a:CS d}{k:Bool}(h:qls P d n O base ops i A E s a I T k):a.L=(eO d n E.dst).f s.L I:=by cases h<;>(rename_i e;rw[e])
theorem qls.bFf{i A:Nat}{s a:CS d}(h:qls P d n O base ops i A E s a I T false):a.H=s.H:=by cases h<;>(rename_i e;rw[e])
theorem Can.shut(C:Can P d n O base ops ms st pos V B K)(q:Nat):cz ops (λj=>pos j<q):=λi o a b j c=>by have:=C.edge i o a j c;simp only at b;omega
theorem Can.lH(C:Can P d n O base ops ms st pos V B K){i k:Nat}(a:ops[i]? =some E)(b:aa (ms.getD i 0) k=true):pos k<pos i:=
 C.edg.yY (C.shut (pos i)) i E k a (λj c=>C.edge i E a j c) b
theorem Can.at(C:Can P d n O base ops ms st pos V B K){q:Nat}(b:q<ops.size):∃i o,ops[i]? =some o/\pos i=q/\qls P d n O base ops i (ms.getD i 0) o (st q) (st (q+1)) (V i) (B i) (K i):=by obtain⟨i,c,rfl⟩:=C.aZs q b;obtain⟨o,a⟩:=ij c;exact⟨i,o,a,rfl,C.step i o a⟩
theorem Can.lt_succ(C:Can P d n O base ops ms st pos V B K){i j:Nat}(a:i<ops.size)(b:j<ops.size):pos j<pos i+1↔pos j<pos i\/j=i:=by
 constructor
 ·intro h;by_cases e:pos j=pos i
  ·exact .inr (C.inj j i b a e)
  ·exact .inl (by omega)
 ·rintro (h|rfl)<;>omega
theorem Can.locals(C:Can P d n O base ops ms st pos V B K)(a:n<=8 ^ d):∀q,q<=ops.size->∀t,t<8 ^ d->(dV d t).f (st q).L=tv ops n V (st 0).L (λj=>pos j<q) ops.size t
 |0,_,t,_=>by
  generalize ops.size=m
  induction m with
  |zero=>rfl
  |succ m ih=>unfold tv;rw[sy (by omega)];exact ih
 |q+1,hq,t,ht=>by obtain⟨i,o,b,e,f⟩:=C.at hq;subst e;rw[f.bEM,BG a ht,C.locals a (pos i) (by omega) t ht];rw[<-zx8 C.edg (C.shut (pos i)) b (dC _) t];exact BB _ λj c _=>(C.lt_succ (oT b) c).symm
def Can.proj(C:Can P d n O base ops ms st pos V B K)(f:n<=8 ^ d)(i:cz ops F)(p:∀t,t<8 ^ d->(dV d t).f L'=tv ops n V (st 0).L F ops.size t){k:Nat}(c:ops[k]? =some E)(l:¬F k)(q:∀j∈zM E,F j):(oQ d n (mP ops E)).f L'=(oQ d n (mP ops E)).f (st (pos k)).L:=by
 refine S5 _ λt r b=>?_;have v:=C.plt k (oT c);rw[p t (AE b f),C.locals f (pos k) (by omega) t (AE b f)];refine BB _ λj s u=>?_;obtain⟨m,a⟩:=ij s;have g:m.dst=some t:=by simpa [mo,a] using u
 rcases C.edg.tmps j k m E t a c g with e|e|e|e
 ·subst e;exact⟨λh=>absurd h l,λh=>absurd h (dC _)⟩
 ·exact⟨λ_=>C.lH c e,λ_=>C.edg.yY i k E j c q e⟩
 ·exact⟨λh=>absurd (C.edg.uO i a h e) l,λh=>absurd (C.lH a e) (by omega)⟩
 ·exact absurd r e.1
def mh(c:Pd->Bool)(pend:List Pd)(H:Hp):Hp:=
 List.rec (motive:=λ_=>Hp) H (λp _ a=>bif c p then a.put p.nm p.b else a) pend
theorem MQ(A:Nat)(a:List Pd)(H:Hp):eB A a H=mh (λp=>aa A p.i) a H:=rfl
theorem z2j(a:List Pd)(H:Hp):oW a H=mh (λ_=>true) a H:=rfl
theorem Fb(c:Pd->Bool)(p:Pd)(l:List Pd)(H:Hp):mh c (p::l) H=if c p=true then(mh c l H).put p.nm p.b else mh c l H:=by show(bif c p then _ else _)=_;cases c p<;>rfl
theorem MP(c:Pd->Bool)(H:Hp):∀a,(mh c a H).nx=H.nx
 | []=>rfl
 |p::l=>by
  rw[Fb];split
  ·exact MP c H l
  ·exact MP c H l
theorem TL{c:Pd->Bool}{H:Hp}{b:Nat}(f:fD (b)):∀a,(∀p∈a,fD (p.nm))->(∀p∈a,c p=true->p.nm≠b)->(mh c a H).get b=H.get b
 | [],_,_=>rfl
 |p::l,h1,h=>by
  rw[Fb];have ih:=TL (c:=c) (H:=H) f l (λx d=>h1 x (by simp[d])) (λx d=>h x (by simp[d]));split
  ·rename_i g;rw[Hp.get_put _ _ _ _ (h1 p (by simp)) f,sy (λe=>h p (by simp) g e.symm)];exact ih
  ·exact ih
theorem Mm{c:Pd->Bool}{H:Hp}:∀a,(∀p∈a,fD (p.nm))->(∀p∈a,∀j∈a,p.nm=j.nm->p.b=j.b)->∀p∈a,c p=true->(mh c a H).get p.nm=p.b
 | [],_,_,p,hp,_=>by cases hp
 |x::l,h1,h2,p,hp,hc=>by
  rw[Fb];have g:=h1 p hp;by_cases i:c x=true
  ·rw[sB i,Hp.get_put _ _ _ _ (h1 x (by simp)) g];by_cases e:p.nm=x.nm
   ·rw[sB e];exact h2 x (by simp) p hp e.symm
   ·rw[sy e];have d:p∈l:=by
     rcases lE4.1 hp with rfl|h
     ·exact absurd rfl e
     ·exact h
    exact Mm l (λy b=>h1 y (by simp[b])) (λy b z f=>h2 y (by simp[b]) z (by simp[f])) p d hc
  ·rw[sy i];have d:p∈l:=by
    rcases lE4.1 hp with rfl|h
    ·exact absurd hc i
    ·exact h
   exact Mm l (λy b=>h1 y (by simp[b])) (λy b z f=>h2 y (by simp[b]) z (by simp[f])) p d hc
def Mg(ops:Array Oper)(ms:List Nat)(a:Nat->Nat)(K:Nat->Bool)(q i:Nat):Prop:=∃e,e<ops.size/\a e<q/\K e=true/\aa (ms.getD e 0) i=true
theorem UM{A:Nat}{p:Pd}:∀{l:List Pd},p∈sK A l↔p∈l/\aa A p.i=false
 | []=>by simp[sK]
 |x::l=>by
  have ih:=UM (A:=A) (p:=p) (l:=l);show p∈(bif aa A x.i then sK A l else x::sK A l)↔_;cases c:aa A x.i with
  |true=>
   simp only[AN,lE4];rw[ih];constructor
   ·rintro ⟨a,b⟩;exact⟨.inr a,b⟩
   ·rintro ⟨rfl|a,b⟩
    ·rw[c]at b;cases b
    ·exact⟨a,b⟩
  |false=>
   simp only[bu,lE4];rw[ih];constructor
   ·rintro (rfl|⟨a,b⟩)
    ·exact⟨.inl rfl,c⟩
    ·exact⟨.inr a,b⟩
   ·rintro ⟨rfl|a,b⟩
    ·exact .inl rfl
    ·exact .inr ⟨a,b⟩
theorem Ml{A:Nat}{p:Wt}:∀{l:List Wt},p∈sS A l↔p∈l/\aa A p.i=false
 | []=>by simp[sS]
 |x::l=>by
  have ih:=Ml (A:=A) (p:=p) (l:=l);show p∈(bif aa A x.i then sS A l else x::sS A l)↔_;cases c:aa A x.i with
  |true=>
   simp only[AN,lE4];rw[ih];constructor
   ·rintro ⟨a,b⟩;exact⟨.inr a,b⟩
   ·rintro ⟨rfl|a,b⟩
    ·rw[c]at b;cases b
    ·exact⟨a,b⟩
  |false=>
   simp only[bu,lE4];rw[ih];constructor
   ·rintro (rfl|⟨a,b⟩)
    ·exact⟨.inl rfl,c⟩
    ·exact⟨.inr a,b⟩
   ·rintro ⟨rfl|a,b⟩
    ·exact .inl rfl
    ·exact .inr ⟨a,b⟩
theorem Can.sJ(C:Can P d n O base ops ms st pos V B K){i j:Nat}(f:i<ops.size):Mg ops ms pos K (pos i+1) j↔Mg ops ms pos K (pos i) j\/(K i=true/\aa (ms.getD i 0) j=true):=by
 constructor
 ·rintro ⟨e,c,g,a,b⟩;rcases(C.lt_succ f c).1 g with h|rfl
  ·exact .inl ⟨e,c,h,a,b⟩
  ·exact .inr ⟨a,b⟩
 ·rintro (⟨e,c,g,a,b⟩|⟨a,b⟩)
  ·exact⟨e,c,by omega,a,b⟩
  ·exact⟨i,f,by omega,a,b⟩
theorem Can.pend(C:Can P d n O base ops ms st pos V B K)(I:(st 0).pend=[]):∀q,q<=ops.size -> (∀p∈(st q).pend,p.i<ops.size/\p.nm=base+p.i/\B p.i=some p.b/\pos p.i<q/\¬Mg ops ms pos K q p.i) /\ (∀i b,i<ops.size->B i=some b->pos i<q->¬Mg ops ms pos K q i->⟨i,base+i,b⟩∈(st q).pend)
 |0,_=>⟨(λp g=>by rw[I]at g;cases g),(λi b _ _ h=>by omega)⟩
 |q+1,hq=>by
  obtain⟨i,o,Q,g,E⟩:=C.at hq;obtain⟨u,w⟩:=C.pend I q (by omega);subst g;have c:=oT Q;have r:K i=false->B i=none->(st (pos i+1)).pend=(st (pos i)).pend ->
    (∀p∈(st (pos i+1)).pend,p.i<ops.size/\p.nm=base+p.i/\B p.i=some p.b/\pos p.i<pos i+1/\¬Mg ops ms pos K (pos i+1) p.i) /\
    (∀j b,j<ops.size->B j=some b->pos j<pos i+1->¬Mg ops ms pos K (pos i+1) j->⟨j,base+j,b⟩∈(st (pos i+1)).pend):=λL M N=>by
   have s:∀j,Mg ops ms pos K (pos i+1) j↔Mg ops ms pos K (pos i) j:=λj=>by rw[C.sJ c,L];simp
   rw[N];refine⟨λp g=>?_,λj b t a m l=>?_⟩
   ·obtain⟨x,y,z,J,A⟩:=u p g;exact⟨x,y,z,by omega,λh=>A ((s _).1 h)⟩
   ·rcases(C.lt_succ c t).1 m with h|rfl
    ·exact w j b t a h λh=>l ((s _).2 h)
    ·rw[M]at a;cases a
  generalize D:B i=b at E;generalize V i=v at E;generalize F:K i=k at E;cases E with
  |skip _ e=>exact r F D (by rw[e])
  |val _ _ _ _ _ _ e=>exact r F D (by rw[e])
  |new f _ b' _ _ _ _ _ e=>
   have s:∀j,Mg ops ms pos K (pos i+1) j↔Mg ops ms pos K (pos i) j:=λj=>by rw[C.sJ c,F];simp
   rw[e];simp only[lE4];refine⟨λp g=>?_,λj b t a m l=>?_⟩
   ·rcases g with rfl|g
    ·refine⟨c,rfl,D,by simp,λh=>?_⟩;obtain⟨e,R,T,U,S⟩:=(s i).1 h;obtain⟨W,H⟩:=ij R;have:=C.lH H S;omega
    ·obtain⟨x,y,z,J,A⟩:=u p g;exact⟨x,y,z,by omega,λh=>A ((s _).1 h)⟩
   ·rcases(C.lt_succ c t).1 m with h|rfl
    ·exact .inr (w j b t a h λh=>l ((s _).2 h))
    ·rw[D]at a;cases a;exact .inl rfl
  |nR f _ H' _ _ _ _ e=>
   have s:∀j,Mg ops ms pos K (pos i+1) j↔Mg ops ms pos K (pos i) j\/aa (ms.getD i 0) j=true:=λj=>by rw[C.sJ c,F];simp
   rw[e];simp only[UM];refine⟨λp g=>?_,λj b t a m l=>?_⟩
   ·obtain⟨x,y,z,J,A⟩:=u p g.1;refine⟨x,y,z,by omega,λh=>?_⟩;rcases(s _).1 h with h|h
    ·exact A h
    ·rw[g.2]at h;cases h
   ·have G:aa (ms.getD i 0) j=false:=lU9.2 λh=>l ((s j).2 (.inr h));rcases(C.lt_succ c t).1 m with h|rfl
    ·exact⟨w j b t a h λh=>l ((s _).2 (.inl h)),G⟩
    ·rw[D]at a;cases a
theorem Can.pF(C:Can P d n O base ops ms st pos V B K){q:Nat}:∀a,q<=a->a<=ops.size->(∀e,e<ops.size->K e=true->q<=pos e->¬pos e<a)->(st a).H=(st q).H
 |0,h,_,_=>by
  have:q=0:=by omega
  subst this;rfl
 |a+1,h,hs,hk=>by
  by_cases e:q=a+1
  ·subst e;rfl
  ·obtain⟨i,o,l,p,b⟩:=C.at (q:=a) hs;have c:K i=false:=lU9.2 λf=>hk i (oT l) f (by omega) (by omega);rw[c]at b;rw[b.bFf];exact C.pF a (by omega) (by omega) λe g j k m=>hk e g j k (by omega)
structure HS(base:Nat)(ops:Array Oper)(ms:List Nat)(st:Nat->CS d)(pos:Nat->Nat)(B:Nat->Option cZ)(K:Nat->Bool)(q:Nat)(X:Nat->Prop)(G:Hp):Prop where
 nx:G.nx=(st q).H.nx
 hit:∀i b,i<ops.size->X i->B i=some b->¬Mg ops ms pos K q i->G.get (base+i)=b
 miss:∀c,fD (c)->(∀i,i<ops.size->X i->B i≠none->¬Mg ops ms pos K q i->c≠base+i)->G.get c=(st q).H.get c
def Can.view(C:Can P d n O base ops ms st pos V B K)(u:(st 0).pend=[])(v:∀i,i<ops.size->B i≠none->fD (base+i)){q:Nat}(w:q<=ops.size)(c:Nat->Bool)(y:∀i,i<ops.size->c i=true->pos i<q):HS base ops ms st pos B K q (λi=>c i=true) (mh (λp=>c p.i) (st q).pend (st q).H):=by
 obtain⟨j,E⟩:=C.pend u q w;have g:∀p∈(st q).pend,fD (p.nm):=λp a=>by obtain⟨k,o,f,_⟩:=j p a;rw[o];exact v _ k (by simp[f])
 refine⟨MP _ _ _,λi b r h z A=>?_,λx h D=>?_⟩
 ·have a:=E i b r z (y i r h) A;have t:=Mm (c:=λp=>c p.i) (H:=(st q).H) (st q).pend g (λp a s l e=>by
   obtain⟨k,o,f,_⟩:=j p a;obtain⟨I,J,F,_⟩:=j s l;have:p.i=s.i:=by omega
   rw[this,F]at f;exact(Option.some.inj f).symm) ⟨i,base+i,b⟩ a h
  dsimp only at t;exact t
 ·refine TL h _ g λp a m e=>?_;obtain⟨k,o,f,L,G⟩:=j p a;exact D p.i k m (by simp[f]) G (by omega)
theorem tB:∀k,(∀x y,lV k x y=true->x=y)/\(∀l m,oJ k l m=true->l=m)
 |0=>⟨λx y h=>by simp[lV]at h,λl m h=>by simp[oJ]at h⟩
 |k+1=>by
  obtain⟨a,b⟩:=tB k;refine⟨λx y h=>?_,λl m h=>?_⟩
  ·unfold lV at h;split at h<;>first|rfl|(cases h;done)|skip
   ·simp_all
   ·simp_all
   ·simp_all
   ·simp_all
   ·simp_all
   ·simp_all
   ·simp_all
   ·simp only[sA]at h
    grind [AK]
   ·simp only[sA]at h
    grind [AK]
   ·grind
   ·grind
  ·unfold oJ at h
   grind
variable{H0:Hp}{U:List Pd}
theorem RN:∀{e:List Wt},eR U H0 e=true->∀x∈e,x.f (eB x.A U H0)=.val x.v
 | [],_,x,b=>by cases b
 |y::l,h,x,b=>by
  have d:(Dd (y.f (eB y.A U H0)) y.v&&eR U H0 l)=true:=h;simp only[sA]at d;rcases lE4.1 b with rfl|b
  ·have c:=d.1;unfold Dd at c;split at c
   ·rename_i u f;rw[f,(tB 64).1 _ _ c]
   ·cases c
  ·exact RN d.2 x b
theorem zi9{b:cZ}(h:aa d n=false):eB d (⟨n,base,b⟩::U) H0=eB d U H0:=by rw[MQ,Fb,sy (by simp[h]),MQ]
theorem Can.jY(C:Can P d n O base ops ms st pos V B K)(c:(st 0).jY=[]):∀q,q<=ops.size->∀x∈(st q).jY, x.f (eB x.A (st q).pend (st q).H)=.val x.v/\∀j,aa x.A j=true->pos j<q
 |0,_,x,hx=>by grind
 |q+1,hq,x,hx=>by
  obtain⟨i,o,h,g,a⟩:=C.at hq;have ih:=C.jY c q (by omega);subst g;generalize l:B i=b at a;generalize V i=v at a;generalize m:K i=k at a;cases a with
  |skip _ e=>
   grind
  |val lk f v h1 h2 h3 e=>
   rw[e]at hx ⊢;cases lk with
   |false=>
    grind
   |true=>
    simp only[AN,lE4]at hx
    grind [C.lH]
  |new f v b' h1 h2 h3 h4 h5 e=>
   grind [zi9,grind]
  |nR f v H' h1 h2 h3 h4 e=>
   grind [Ml,RN]
theorem Can.watch(C:Can P d n O base ops ms st pos V B K){k:Nat}{x:Wt}(m:x.i=k)(p:x∈(st (pos k+1)).jY):∀q,pos k<q->q<=ops.size -> (∀e,e<ops.size->K e=true->pos k<pos e->pos e<q->aa (ms.getD e 0) k=false)->x∈(st q).jY
 |0,h,_,_=>by omega
 |q+1,h,hq,hn=>by
  by_cases e:pos k=q
  ·simp_all
  ·have ih:=C.watch m p q (by omega) (by omega) λe a c g l=>hn e a c g (by omega);obtain⟨i,o,s,r,j⟩:=C.at hq;subst r;generalize t:B i=b at j;generalize V i=v at j;generalize u:K i=kk at j;cases j with
   |skip _ e=>rw[e];exact ih
   |val lk f v a c g e=>
    rw[e];cases lk with
    |false=>exact ih
    |true=>exact DQ _ ih
   |new f v b' a c g l h5 e=>rw[e];exact ih
   |nR f v H' a c g l e'=>
    grind [Ml,oT]
variable{w0:World}{ι:Im}
def HR.sub{f:Hp}(h:HR ι H0 w0)(o:f.nx=H0.nx)(j:∀c,fD (c)->f.get c=H0.get c\/f.get c=.dead):HR ι f w0:=by
 have a:∀c,fD (c)->(f.get c).bG=false->f.get c=H0.get c:=λc g k=>by
  rcases j c g with e|e
  ·exact e
  ·rw[e]at k;cases k
 refine⟨by rw[o];exact h.top,λb d=>?_,λb l d n i=>?_,λb c l m d g n i q r s=>?_,λb d=>h.fresh b (by grind),λb d p=>?_⟩
 ·rcases j b d with e|e
  ·grind [h.blk]
  ·rw[e];trivial
 ·exact h.low b l d (by grind) i
 ·have t:=a b d (cZ.aZ n);have u:=a c g i
  grind [h.inj]
 ·grind [h.free]
def HR.drawn(h:HR ι H0 w0)(k:Nat):HR ι H0 {w0 with drawn:=k}:=
 ⟨h.top,λb a=>(h.blk b a).keep λ_ _ _=>rfl,h.low,h.inj,h.fresh,h.free⟩
theorem Qs(H:Hp)(base:Nat)(f:Nat->Option cZ):∀N,(∀i,i<N->f i≠none->fD (base+i))->∃G:Hp,G.nx=H.nx/\(∀i b,i<N->f i=some b->G.get (base+i)=b)/\∀c,fD (c)->(∀i,i<N->f i≠none->c≠base+i)->G.get c=H.get c
 |0,_=>⟨H,rfl,λi b h=>by omega,λc _ _=>rfl⟩
 |N+1,h=>by
  obtain⟨G,g1,g2,g3⟩:=Qs H base f N λi d=>h i (by omega);cases a:f N with
  |none=>
   grind
  |some b=>
   have j:=h N (by omega) (by simp[a]);refine⟨G.put (base+N) b,g1,λi k d l=>?_,λc e g=>?_⟩
   ·grind [Hp.get_put,grind]
   ·rw[Hp.get_put _ _ _ _ j e,sy (g N (by omega) (by simp[a]))]
    grind
variable{G' H':Hp}{w':World}{ι0:Im}
def Fr.step{g:Im}{w:World}(f:Fr ι0 ι H0 H' w0 w)(le:ι.le g)(nx:H'.nx<=G'.nx)(x:∀b,ι b=none->g b≠none->H0.nx<=b)(y:w'.os=w.os)(i:w'.tape=w.tape)(d:w'.output=w.output)(size:w.heap.size<=w'.heap.size)(v:∀c,c<w.heap.size->(∀b l,fD (b)->(H'.get b).wr=true->ι b=some l->l.blk≠c)->w'.heap[c]? =w.heap[c]?)(n:∀b l,fD (b)->(G'.get b).wr=true->g b=some l->w.heap.size<=l.blk\/∃a e,fD (a)/\(H'.get a).wr=true/\ι a=some e/\e.blk=l.blk)(j:∀b l,fD (b)->(G'.get b).bG=false->g b=some l->w.heap.size<=l.blk\/∃a e,fD (a)/\(H'.get a).bG=false/\ι a=some e/\e.blk=l.blk):Fr ι0 g H0 G' w0 w':=by
 refine⟨Im.le_trans f.le le,AL f.nx nx,λb h k=>?_,y.trans f.os,i.trans f.tape,d.trans f.output,AL f.size size,λc D E=>?_,λb l o p q=>?_,λb l o p q=>?_⟩
 ·grind [f.dom]
 ·grind [Fr.keep,AE,f.size,f.keep,f.new,grind]
 ·rcases n b l o p q with m|⟨a,e,m,r,s,z⟩
  ·grind [AL,f.size]
  ·rcases f.new a e m r s with t|⟨A,l1,t,B,C,u⟩
   ·omega
   ·grind
 ·rcases j b l o p q with m|⟨a,e,m,r,s,z⟩
  ·grind [AL,f.size]
  ·rcases f.live a e m r s with t|⟨A,l1,t,B,C,u⟩
   ·omega
   ·grind
theorem Fr.congr(f:Fr ι ι0 H0 H' w0 w')(g:G'.nx=H'.nx)(i:∀c,fD (c)->G'.get c=H'.get c):Fr ι ι0 H0 G' w0 w':=
 ⟨f.le,by rw[g];exact f.nx,f.dom,f.os,f.tape,f.output,f.size,f.keep,λb l a h d=>f.new b l a (by grind) d,λb l a h d=>f.live b l a (by grind) d⟩
variable{D:Exit->Act->World->Prop}{J:Fence}{K':Act->World->Prop}{M N:Act}
def q4g{m:Nat}{n:Act->World->Prop}(d:∀V w',K' (N.put E.dst V) w'->n (M.put E.dst V) w')(p:∀i w',K' i w'->i.defers=N.defers){r:Result Next}(h:E.uponIn J m P N K' (λ_ _ _=>False) r):E.uponIn J m P M n D r:=by
 cases r with
 |ok x w'=>
  cases x<;>simp only[Oper.uponIn]at h ⊢
  case value v=>exact d _ _ h
  case skip=>exact d _ _ h
  case defer dd=>have:=p _ _ h;rw[ay]at this;simp_all
  case enter f args=>
   refine⟨h.1,CallsIn.mono h.2 λe g b=>?_⟩;cases e with
   |returned v=>exact d _ _ b
   |panicked c=>exact b.elim
   |outgrown=>exact(by obtain⟨_,_,k⟩:=(b:LetsOut _);exact k.elim)
  case row row args=>exact⟨h.1,RowsIn.mono h.2 λv g b=>d _ _ b⟩
  case round l f tmps assign body=>
   refine⟨h.1,RoundIn.mono h.2 λe g b=>?_⟩;cases e with
   |returned v=>exact d _ _ b
   |panicked c=>exact b.elim
   |outgrown=>exact(by obtain⟨_,_,k⟩:=(b:LetsOut _);exact k.elim)
 |halt x w'=>cases x<;>simp only[Oper.uponIn]at h ⊢
structure zn(d n base up:Nat)(ops:Array Oper)(ms:List Nat)(st:Nat->CS d)(pos:Nat->Nat)(V:Nat->AV)(B:Nat->Option cZ)(K:Nat->Bool)(ι0:Im)(H0:Hp)(w0:World)(ds:List Deferred)
  (S:Nat->Prop) (a:Act) (w:World) (ι:Im) (L:TT AV d) (G:Hp) (q:Nat):Prop where
 shut:cz ops S
 le:q<=ops.size
 nR:∀e,e<ops.size->K e=true->(S e↔pos e<q)
 lr:LR ι d n L a.tmps
 tv:∀t,t<8 ^ d->(dV d t).f L=tv ops n V (st 0).L S ops.size t
 hr:HR ι G w
 hs:HS base ops ms st pos B K q S G
 dead:∀i,i<ops.size->B i≠none->¬Mg ops ms pos K q i->(st q).H.get (base+i)=.dead
 free:∀i,i<ops.size->B i≠none->¬S i->ι (base+i)=none
 some:∀i,i<ops.size->B i≠none->S i->∃l,ι (base+i)=some l
 up:base+up<=G.nx
 fr:Fr ι0 ι H0 G w0 w
 ds:a.defers=ds
variable{h:TT AV d}
def xcb{a:Act}(c:ι.le ι0)(j:LR ι d n L' a.tmps){X:Value}{b:Option Tmp}(k:LR ι0 d n ((eO d n b).f h I) (M.put b X).tmps)(l:M.tmps.size=n):LR ι0 d n ((eO d n b).f L' I) (a.put b X).tmps:=by
 cases b with
 |none=>exact j.mono c
 |some t=>
  by_cases f:t<n
  ·refine t6 (j.mono c) _ ?_;have i:=k.get t f;rw[BG j.fit (AE f j.fit),sB ⟨rfl,f⟩]at i;simp only[Act.put]at i;simp_all
  ·grind [Nat.blt,yS,Sk,Act.put,Array.setIfInBounds_eq_of_size_le,j.size,uz,j.mono]
def Pr(C:Can P d n O base ops ms st pos V B K)(b:n<=8 ^ d)(c:cz ops F)(e:∀t,t<8 ^ d->(dV d t).f L'=tv ops n V (st 0).L F ops.size t){i:Nat}(f:ops[i]? =some E)(a:¬F i)(g:V i=I):∀t,t<8 ^ d->(dV d t).f ((eO d n E.dst).f L' I)=tv ops n V (st 0).L (λj=>F j\/j=i) ops.size t:=λt h=>by
 grind [BG,zx8,C.edg]
def cy(hC:eK P O)(hF:Fence.dZ J){m up:Nat}{ds:List Deferred}(C:Can P d n O base ops ms st pos V B K)(h0:(st 0).pend=[])(h0w:(st 0).jY=[])(hb:∀i,i<ops.size->B i≠none->base+i<base+up/\fD (base+i))(hH0:H0.nx=base){S:Nat->Prop}{w:World}{G:Hp}{q:Nat}(I:zn d n base up ops ms st pos V B K ι0 H0 w0 ds S M w ι h G q){i:Nat}(ho:ops[i]? =some E)(Q:¬S i)(hr:∀j∈zM E,S j)(hK:∀a' w' ι' L' G' q',zn d n base up ops ms st pos V B K ι0 H0 w0 ds (λj=>S j\/j=i) a' w' ι' L' G' q'->K' a' w'):wpOpIn J m P ops D i K' M w:=by
 have hn:=I.lr.fit;have H:=oT ho;have hpj:=C.proj hn I.shut I.tv ho Q hr;have aDJ:∀k,aa (ms.getD i 0) k=true->S k:=λk=>C.edg.yY I.shut i E k ho hr;have hlp:=I.lr.proj (mP ops E);have aEJ:cz ops (λj=>S j\/j=i):=λj oj hoj hj k hk=>by
  rcases hj with hj|rfl
  ·exact .inl (I.shut j oj hoj hj k hk)
  ·grind
 have F:∀i,i<ops.size->B i≠none->fD (base+i):=λi hi L=>(hb i hi L).2;have hnm:¬Mg ops ms pos K q i:=λ⟨e,r,u,e3,T⟩=>by obtain⟨oe,x⟩:=ij r;exact Q (C.edg.uO I.shut x ((I.nR e r e3).2 u) T)
 have Y:∀{Hv:Hp} {X:Nat->Prop},HS base ops ms st pos B K q X Hv->(∀j,j<ops.size->X j->S j)->Hv.nx=G.nx/\∀c,fD (c)->Hv.get c=G.get c\/Hv.get c=.dead:=λ{Hv X} hv hX=>by
  refine⟨hv.nx.trans I.hs.nx.symm,λc g=>?_⟩;by_cases p:∃j,j<ops.size/\X j/\B j≠none/\¬Mg ops ms pos K q j/\c=base+j
  ·obtain⟨j,j1,j2,j3,j4,rfl⟩:=p;obtain⟨b,hbj⟩:=lOV.1 j3;left;rw[hv.hit j b j1 j2 hbj j4,I.hs.hit j b j1 (hX j j1 j2) hbj j4]
  ·have r:=hv.miss c g λj j1 j2 j3 j4 e=>p ⟨j,j1,j2,j3,j4,e⟩;by_cases s:∃j,j<ops.size/\S j/\B j≠none/\¬Mg ops ms pos K q j/\c=base+j
   ·obtain⟨j,j1,j2,j3,j4,rfl⟩:=s;right;rw[r];exact I.dead j j1 j3 j4
   ·left;rw[r,I.hs.miss c g λj j1 j2 j3 j4 e=>s ⟨j,j1,j2,j3,j4,e⟩]
 have a:=C.step i E ho;have hext:K i=false->∀e,e<ops.size->K e=true->((S e\/e=i)↔pos e<q):=λhKi e r u=>by grind [I.nR]
 have hhs:B i=none->HS base ops ms st pos B K q (λj=>S j\/j=i) G:=λhB=>by
  refine⟨I.hs.nx,λj b j1 j2 j3 j4=>?_,λc g hx=>I.hs.miss c g λj j1 j2=>hx j j1 (.inl j2)⟩;rcases j2 with j2|rfl
  ·exact I.hs.hit j b j1 j2 j3 j4
  ·rw[hB]at j3;cases j3
 have hsm:B i=none->∀j,j<ops.size->B j≠none->(S j\/j=i)->∃l,ι (base+j)=some l:=λhB j j1 j2 j3=>by
  rcases j3 with j3|rfl
  ·exact I.some j j1 j2 j3
  ·exact absurd hB j2
 have aHM:∀{v:AV} {X:Value},V i=v->aQ ι v X->B i=none->K i=false->K' (M.put E.dst X) w:=λ{v X} hv hX hB hKi=>
  hK _ _ ι ((eO d n E.dst).f h v) G q
   {shut:=aEJ,le:=I.le,
    nR:=hext hKi,
    lr:=t6 I.lr _ hX,tv:=Pr C hn I.shut I.tv ho Q hv,hr:=I.hr,
    hs:=hhs hB,
    dead:=I.dead,free:=λj j1 j2 j3=>I.free j j1 j2 λL=>j3 (.inl L),
    some:=hsm hB,
    up:=I.up,fr:=I.fr,ds:=by rw[ay];exact I.ds}
 unfold wpOpIn;simp only[ho];have N:∀b,(yE d n ops E).f ((oQ d n (mP ops E)).f (st (pos i)).L)=Option.some b->Region.wanted E (yielded ops M.tmps)=b:=λb hw=>by rw[<-hpj]at hw;have:=BA (a:={M with tmps:=dy (mP ops E) M.tmps}) (ops:=ops) (o:=E) hlp hw;rw[qx5]at this;exact this
 generalize hV:V i=v at a;generalize hB:B i=bo at a;generalize hKi:K i=ki at a;cases a with
 |skip hw _=>rw[N _ hw,sy (by simp)];exact⟨λf _=>hF.fn f,aHM hV (by simp only[aQ];rfl) hB hKi⟩
 |val lk f v hf hw hval hst=>
  rw[N _ hw,sB rfl];have U:∀c,E.op≠ .defer c:=λc g=>by unfold lZ at hf;rw[g]at hf;cases hf
  have Z:∀cs b,E.op≠ .select cs b:=λcs b g=>by unfold lZ at hf;rw[g]at hf;cases hf
  obtain⟨Hv,hHv,hfv⟩:∃Hv,HR ι Hv w/\f (base+i) ((oQ d n (mP ops E)).f h) Hv=.val v:=by
   cases lk with
   |false=>exact⟨G,I.hr,by rw[hpj,T3 hf _ _ _ (eB (ms.getD i 0) (st (pos i)).pend (st (pos i)).H)];exact hval⟩
   |true=>
    have hlk:Dy (lZ P d n E)=true:=by rw[hf];rfl
    by_cases hq:q<=pos i
    ·have hp:=C.plt i H;have hno:∀e,e<ops.size->K e=true->q<=pos e->¬pos e<pos i:=λe r u e3 T=>by
      obtain⟨oe,x⟩:=ij r;have hie:mZ (lZ P d n oe)=true:=by have hs:=C.step e oe x;rw[u]at hs;generalize V e=v1 at hs;generalize B e=b1 at hs;cases hs;rename_i L _ _ _ _;rw[L];rfl
      have:=(I.nR e r u).1 (aDJ e (C.nR i E e oe ho x hie (.inr hlk) T));omega
     have hH:=C.pF (q:=q) (pos i) hq (by omega) hno;have hM:∀j,Mg ops ms pos K (pos i) j↔Mg ops ms pos K q j:=λj=>
      ⟨λ⟨e,r,u,e3,T⟩=>⟨e,r,Classical.byContradiction λL=>hno e r e3 (by omega) u,e3,T⟩,λ⟨e,r,u,e3,T⟩=>⟨e,r,by omega,e3,T⟩⟩
     have hv:=C.view h0 F (q:=pos i) (by omega) (λj=>aa (ms.getD i 0) j) (λj _ hj=>C.lH ho hj);have hv':HS base ops ms st pos B K q (λj=>aa (ms.getD i 0) j=true) (eB (ms.getD i 0) (st (pos i)).pend (st (pos i)).H):=
      ⟨hv.nx.trans (by rw[hH]),λj b j1 j2 j3 j4=>hv.hit j b j1 j2 j3 λL=>j4 ((hM j).1 L),
       λc g hx=>(hv.miss c g λj j1 j2 j3 j4=>hx j j1 j2 j3 λL=>j4 ((hM j).2 L)).trans (by rw[hH])⟩
     obtain⟨p1,p2⟩:=Y hv' λj _ hj=>aDJ j hj;exact⟨_,I.hr.sub p1 p2,by rw[hpj];exact hval⟩
    ·have hq:pos i<q:=by omega
     have hmem:(⟨i,ms.getD i 0,f (base+i) ((oQ d n (mP ops E)).f (st (pos i)).L),v⟩:Wt)∈(st (pos i+1)).jY:=by rw[hst];simp
     have hw:=C.watch (k:=i) rfl hmem q hq I.le λe r u e3 T=>lU9.2 λL=>by obtain⟨oe,x⟩:=ij r;exact Q (C.edg.uO I.shut x ((I.nR e r u).2 T) L)
     have hw':=(C.jY h0w q I.le _ hw).1;have hv:=C.view h0 F (q:=q) I.le (λj=>aa (ms.getD i 0) j) (λj _ hj=>vk (C.lH ho hj) hq);obtain⟨p1,p2⟩:=Y hv λj _ hj=>aDJ j hj;exact⟨_,I.hr.sub p1 p2,by rw[hpj];exact hw'⟩
  have hQ:=Nr (nm:=base+i) (a:={M with tmps:=dy (mP ops E) M.tmps}) hf hHv hlp;rw[hfv]at hQ;obtain⟨X,p,s⟩:=hQ;rw[Mz M E Z]at p;refine⟨λf _=>hF.fn f,?_⟩;rw[tD U,p];exact aHM hV s hB hKi
 |new f v b hf hal hwr hw hval hst=>
  rw[N _ hw,sB rfl];have U:∀c,E.op≠ .defer c:=λc g=>by unfold lZ at hf;rw[g]at hf;cases hf
  have Z:∀cs b,E.op≠ .select cs b:=λcs b g=>by unfold lZ at hf;rw[g]at hf;cases hf
  have hfv:f (base+i) ((oQ d n (mP ops E)).f h) G=.new v b:=by rw[hpj,T3 hf _ _ _ (eB (ms.getD i 0) (st (pos i)).pend (st (pos i)).H)];exact hval
  have hQ:=Nr (nm:=base+i) (a:={M with tmps:=dy (mP ops E) M.tmps}) hf I.hr hlp;rw[hfv]at hQ;obtain⟨X,w',l,p,s,h3⟩:=hQ;rw[Mz M E Z]at p;refine⟨λf _=>hF.fn f,?_⟩;rw[tD U,p];have hBi:B i≠none:=by rw[hB];simp
  obtain⟨hb1,hb2⟩:=hb i H hBi;have R:=I.free i H hBi Q;have hup:=I.up;have aDn:G.get (base+i)=.dead:=by
   rw[I.hs.miss (base+i) hb2 λj j1 j2 j3 j4 e=>Q (by
    have:i=j:=by omega
    rw[this];exact j2)]
   exact I.dead i H hBi hnm
  obtain⟨r1,r2⟩:=h3 (ι.set (base+i) l) (Im.jS l R) (Im.dH ..);have hsz:w.heap.size<=w'.heap.size:=by rw[s.size];omega
  have hr':HR (ι.set (base+i) l) (G.put (base+i) b) w':=I.hr.add (nx':=G.nx) hb2 R aDn (AF _) I.hr.top (by omega) l b hsz (λc mm g p t=>s.keep _ (I.hr.low c mm g p t)) (λ_=>by rw[s.blk,s.size];omega)
   (λc mm g p t=>by have:=I.hr.low c mm g p t;have:=s.blk;omega) r2
  refine hK _ _ (ι.set (base+i) l) ((eO d n E.dst).f h v) (G.put (base+i) b) q
   {shut:=aEJ,le:=I.le,
    nR:=hext hKi,
    lr:=t6 (I.lr.mono (Im.jS l R)) _ r1,tv:=Pr C hn I.shut I.tv ho Q hV,hr:=hr',
    hs:=⟨I.hs.nx,λj b' j1 j2 j3 j4=>?_,λc g hx=>?_⟩,
    dead:=I.dead,free:=λj j1 j2 j3=>?_,
    some:=λj j1 j2 j3=>?_,
    up:=I.up,fr:= ?_,ds:=by rw[ay];exact I.ds}
  ·rw[Hp.get_put _ _ _ _ hb2 (F j j1 (by simp[j3]))];by_cases e:j=i
   ·subst e;rw[sB rfl];rw[hB]at j3;exact Option.some.inj j3
   ·rw[sy (by omega)];rcases j2 with j2|j2
    ·exact I.hs.hit j b' j1 j2 j3 j4
    ·exact absurd j2 e
  ·have hne:c≠base+i:=hx i H (.inr rfl) hBi hnm;rw[Hp.get_put _ _ _ _ hb2 g,sy hne];exact I.hs.miss c g λj j1 j2=>hx j j1 (.inl j2)
  ·grind [Im.fI,I.free]
  ·by_cases e:j=i
   ·subst e;exact⟨l,Im.dH ..⟩
   ·grind [Im.fI,I.some]
  ·refine I.fr.step (Im.jS l R) (AF _) (λc p t=>?_) s.os s.tape s.output hsz (λc g _=>s.keep c g) (λc mm g h1' t=>?_) (λc mm g h1' t=>?_)
   ·by_cases e:c=base+i
    ·omega
    ·rw[Im.fI _ _ e]at t;exact absurd p t
   ·by_cases e:c=base+i
    ·subst e;rw[Im.dH]at t;cases t;exact .inl (by rw[s.blk];omega)
    ·rw[Hp.get_put _ _ _ _ hb2 g,sy e]at h1';rw[Im.fI _ _ e]at t;exact .inr ⟨c,mm,g,h1',t,rfl⟩
   ·by_cases e:c=base+i
    ·subst e;rw[Im.dH]at t;cases t;exact .inl (by rw[s.blk];omega)
    ·rw[Hp.get_put _ _ _ _ hb2 g,sy e]at h1';rw[Im.fI _ _ e]at t;exact .inr ⟨c,mm,g,h1',t,rfl⟩
 |nR f v H' hf hw hval hwt hst=>
  rw[N _ hw,sB rfl];have hie:mZ (lZ P d n E)=true:=by rw[hf];rfl
  have Z:∀cs b,E.op≠ .select cs b:=λcs b g=>by unfold lZ at hf;rw[g]at hf;cases hf;cases hval
  have U:∀c,E.op≠ .defer c:=λc g=>by unfold lZ at hf;rw[g]at hf;cases hf;cases hval
  have hp:=C.plt i H;have aHo:∀{e oe},ops[e]? =Option.some oe->K e=true->mZ (lZ P d n oe)=true:=λ{e oe} x u=>by have hs:=C.step e oe x;rw[u]at hs;generalize V e=v1 at hs;generalize B e=b1 at hs;cases hs;rename_i L _ _ _ _;rw[L];rfl
  have y:∀e,e<ops.size->K e=true->(pos e<pos i↔pos e<q):=λe r u=>by
   obtain⟨oe,x⟩:=ij r;constructor
   ·intro L;exact(I.nR e r u).1 (aDJ e (C.nR i E e oe ho x (aHo x u) (.inl hie) L))
   ·intro L;have hSe:=(I.nR e r u).2 L;rcases Nat.lt_trichotomy (pos e) (pos i)with p|p|p
    ·exact p
    ·have:=C.inj e i r H p;subst this;exact absurd hSe Q
    ·exact absurd (C.edg.uO I.shut x hSe (C.nR e oe i E x ho hie (.inl (aHo x u)) p)) Q
  have hH:(st (pos i)).H=(st q).H:=by
   rcases Nat.le_total q (pos i)with L|L
   ·exact C.pF (pos i) L (by omega) λe r u e3 T=>by have:=(y e r u).1 T;omega
   ·exact(C.pF q L I.le λe r u e3 T=>by have:=(y e r u).2 T;omega).symm
  have hM:∀j,Mg ops ms pos K (pos i) j↔Mg ops ms pos K q j:=λj=>
   ⟨λ⟨e,r,u,e3,T⟩=>⟨e,r,(y e r e3).1 u,e3,T⟩,λ⟨e,r,u,e3,T⟩=>⟨e,r,(y e r e3).2 u,e3,T⟩⟩
  have hv:=C.view h0 F (q:=pos i) (by omega) (λj=>aa (ms.getD i 0) j) (λj _ hj=>C.lH ho hj);generalize hHv:eB (ms.getD i 0) (st (pos i)).pend (st (pos i)).H=Hv at hval;rw[<-MQ,hHv]at hv;have hv':HS base ops ms st pos B K q (λj=>aa (ms.getD i 0) j=true) Hv:=
   ⟨hv.nx.trans (by rw[hH]),λj b j1 j2 j3 j4=>hv.hit j b j1 j2 j3 λL=>j4 ((hM j).1 L),
    λc g hx=>(hv.miss c g λj j1 j2 j3 j4=>hx j j1 j2 j3 λL=>j4 ((hM j).2 L)).trans (by rw[hH])⟩
  obtain⟨p1,p2⟩:=Y hv' λj _ hj=>aDJ j hj;have hHR:=I.hr.sub p1 p2
  have hout:∀j,j<ops.size->B j≠none->¬Mg ops ms pos K q j->aa (ms.getD i 0) j=false->Hv.get (base+j)=.dead:=λj j1 j2 j3 j4=>by
   rw[hv'.miss (base+j) (F j j1 j2) λk k1 k2 k3 k4 e=>by
    have:j=k:=by omega
    subst this;rw[j4]at k2;cases k2]
   exact I.dead j j1 j2 j3
  have A:∀c,fD (c)->(Hv.get c).bG=false->Hv.get c=G.get c:=λc g hl=>by
   rcases p2 c g with e|e
   ·exact e
   ·rw[e]at hl;cases hl
  have hq':(st (pos i+1)).H=H':=by rw[hst]
  have hM':∀j,Mg ops ms pos K (pos i+1) j↔Mg ops ms pos K q j\/aa (ms.getD i 0) j=true:=λj=>by rw[C.sJ H,hM,hKi];simp
  rw[<-hpj]at hval
  let next:Act->World->Prop:=λa'' w'=>∃ι',LR ι' d n ((eO d n E.dst).f ((oQ d n (mP ops E)).f h) v) a''.tmps/\HR ι' H' w'/\Fr ι ι' Hv H' w w'/\a''.defers=M.defers
  have hwp:=XY (m:=m) (F:=J) (Q:=λ_ _ _=>False) (next:=next) (a:={M with tmps:=dy (mP ops E) M.tmps}) hf hC hF hHR hlp hval
   (λX w' ι' r1 r2 r3=>⟨ι',t6 (hlp.mono r3.le) _ r1,r2,r3,by rw[ay]⟩)
  refine⟨λf _=>hF.fn f,?_⟩;have aNG:=hwp.2;rw[tD U,Mz M E Z]at aNG;rw[tD U];refine q4g (λX w' hx=>?_) (λa'' w' hx=>hx.choose_spec.2.2.2) aNG;obtain⟨ι',x1,x2,o,_⟩:=hx;have hlr:=xcb (a:=M) o.le I.lr x1 (by simp only[E7];exact I.lr.size);have hup:=I.up
  let pb:Nat->Prop:=λj=>S j/\¬Mg ops ms pos K q j/\aa (ms.getD i 0) j=false
  obtain⟨G',g1,g2,g3⟩:=Qs H' base (λj=>open Classical in if pb j then B j else none) ops.size (λj j1 j2=>F j j1 (by intro e;simp only[e]at j2;split at j2<;>exact j2 rfl));have gin:∀j b,j<ops.size->pb j->B j=Option.some b->G'.get (base+j)=b:=λj b j1 j2 j3=>g2 j b j1 (by rw[sB j2];exact j3);have bDn:∀c,fD (c)->(∀j,j<ops.size->pb j->B j≠none->c≠base+j)->G'.get c=H'.get c:=λc g hx=>g3 c g λj j1 j2=>by grind
  have z:∀j,j<ops.size->pb j->B j≠none->∃b l,B j=Option.some b/\b.wr=true/\G.get (base+j)=b/\G'.get (base+j)=b/\ι (base+j)=Option.some l/\ι' (base+j)=Option.some l/\l.blk<w.heap.size/\Hv.get (base+j)=.dead:=λj j1 j2 j3=>by
   obtain⟨b,hbj⟩:=lOV.1 j3;obtain⟨l,hl⟩:=I.some j j1 j3 j2.1;have hGj:=I.hs.hit j b j1 j2.1 hbj j2.2.1;have aPx:b.wr=true:=by obtain⟨oj,hoj⟩:=ij j1;have hs:=C.step j oj hoj;rw[hbj]at hs;generalize V j=v1 at hs;generalize K j=k1 at hs;cases hs;assumption
   exact⟨b,l,hbj,aPx,hGj,gin j b j1 j2 hbj,hl,o.le _ _ hl,I.hr.low _ l (F j j1 j3) (by rw[hGj];exact cZ.aZ aPx) hl,hout j j1 j3 j2.2.1 j2.2.2⟩
  have split:∀c,fD (c)->(∃j,j<ops.size/\pb j/\B j≠none/\c=base+j)\/G'.get c=H'.get c:=λc g=>by grind
  have aDE:∀j,j<ops.size->pb j->B j≠none->∀c l l',fD (c)->(H'.get c).bG=false->ι (base+j)=Option.some l->ι' c=Option.some l'->l.blk≠l'.blk:=λj j1 j2 j3 c l l' g hl p s e=>by
   obtain⟨b,l1,k1,k2,k3,k4,k5,k6,k7,k8⟩:=z j j1 j2 j3;rw[k5]at p;cases p;rcases o.live c l' g hl s with h5|⟨b0,l0,c1,c2,c3,c4⟩
   ·omega
   ·have hb0:=A b0 c1 c2;have:=I.hr.inj (base+j) b0 l l0 (F j j1 j3) c1 (by rw[k3];exact k2) (by rw[<-hb0];exact c2) k5 c3 (e.trans c4.symm);subst this;rw[k8]at c2;cases c2
  have aJU:∀j,j<ops.size->B j≠none->¬Mg ops ms pos K (pos i+1) j->H'.get (base+j)=.dead:=λj j1 j2 j3=>by
   have cFa:¬Mg ops ms pos K q j:=λL=>j3 ((hM' j).2 (.inl L));have hna:aa (ms.getD i 0) j=false:=lU9.2 λL=>j3 ((hM' j).2 (.inr L));refine Classical.byContradiction λU=>?_;have hlv:(H'.get (base+j)).bG=false:=by cases hh:H'.get (base+j)<;>first|rfl|exact absurd hh U
   obtain⟨l',hl'⟩:=(x2.blk _ (F j j1 j2)).some hlv;by_cases hSj:S j
   ·grind
   ·have p:=I.free j j1 j2 hSj;have s:=o.dom (base+j) p (by rw[hl'];simp);have h3:=(hb j j1 j2).1;omega
  have aYm:HR ι' G' w':=by
   refine⟨by rw[g1];exact x2.top,λc g=>?_,λc l g p s=>?_,λc c' l l' g W p s h3 h4 h5=>?_,λc g=>x2.fresh c (by rw[<-g1];exact g),λc g W=>?_⟩
   ·rcases split c g with⟨j,j1,j2,j3,rfl⟩|e
    ·obtain⟨b,l,k1,k2,k3,k4,k5,k6,k7,k8⟩:=z j j1 j2 j3;rw[k4];have hBR:=I.hr.blk _ g;rw[k3]at hBR;refine(hBR.keep λl2 _ hl2=>?_).mono o.le;rw[k5]at hl2;cases hl2;refine o.keep l.blk k7 λb0 l0 c1 c2 c3 e=>?_;have hb0:=A b0 c1 (cZ.aZ c2);have:=I.hr.inj b0 (base+j) l0 l c1 g (by rw[<-hb0];exact c2) (by rw[k3];exact cZ.aZ k2) c3 k5 e;subst this;rw[k8]at c2;cases c2
    ·rw[e];exact x2.blk c g
   ·rcases split c g with⟨j,j1,j2,j3,rfl⟩|e
    ·obtain⟨b,l1,k1,k2,k3,k4,k5,k6,k7,k8⟩:=z j j1 j2 j3;rw[k6]at s;cases s;exact AE k7 o.size
    ·rw[e]at p;exact x2.low c l g p s
   ·rcases split c g with⟨j,j1,j2,j3,rfl⟩|e
    ·obtain⟨b,l1,k1,k2,k3,k4,k5,k6,k7,k8⟩:=z j j1 j2 j3;rw[k6]at h3;cases h3;rcases split c' W with⟨j',t1,t2,t3,rfl⟩|e'
     ·obtain⟨b',l2,m1,m2,m3,m4,m5,m6,m7,m8⟩:=z j' t1 t2 t3;rw[m6]at h4;cases h4;exact I.hr.inj _ _ l l' g W (by rw[k3];exact k2) (by rw[m3];exact cZ.aZ m2) k5 m5 h5
     ·rw[e']at s;exact absurd h5 (aDE j j1 j2 j3 c' l l' W s k5 h4)
    ·rw[e]at p;rcases split c' W with⟨j',t1,t2,t3,rfl⟩|e'
     ·obtain⟨b',l2,m1,m2,m3,m4,m5,m6,m7,m8⟩:=z j' t1 t2 t3;rw[m6]at h4;cases h4;exact absurd h5.symm (aDE j' t1 t2 t3 c l' l g (cZ.aZ p) m5 h3)
     ·rw[e']at s;exact x2.inj c c' l l' g W p s h3 h4 h5
   ·rw[g1]at g;have hnx:=o.nx;rw[bDn c W λj j1 j2 j3 e=>by have:=(hb j j1 j3).1;omega];exact x2.free c g W
  refine hK _ _ ι' ((eO d n E.dst).f h v) G' (pos i+1)
   {shut:=aEJ,le:=hp,
    nR:=λe r u=>?_,
    lr:=hlr,tv:=Pr C hn I.shut I.tv ho Q hV,hr:=aYm,
    hs:=⟨by rw[g1,hq'],λj b j1 j2 j3 j4=>?_,λc g hx=>?_⟩,
    dead:=λj j1 j2 j3=>by rw[hq'];exact aJU j j1 j2 j3,
    free:=λj j1 j2 j3=>?_,
    some:=λj j1 j2 j3=>?_,
    up:=by rw[g1];have:=o.nx;omega,fr:= ?_,ds:=by rw[ay];exact I.ds}
  ·rw[C.lt_succ H r];constructor
   ·rintro (L|L)
    ·exact .inl ((y e r u).2 ((I.nR e r u).1 L))
    ·exact .inr L
   ·rintro (L|L)
    ·exact .inl ((I.nR e r u).2 ((y e r u).1 L))
    ·exact .inr L
  ·grind
  ·grind
  ·have p:=I.free j j1 j2 λL=>j3 (.inl L);refine Classical.byContradiction λs=>?_;have h3:=o.dom (base+j) p s;have h4:=(hb j j1 j2).1;omega
  ·rcases j3 with j3|rfl
   ·obtain⟨l,hl⟩:=I.some j j1 j2 j3;exact⟨l,o.le _ _ hl⟩
   ·exact absurd hB j2
  ·have hnx:=o.nx;refine I.fr.step o.le (by rw[g1,<-p1];exact hnx) (λc p s=>?_) o.os o.tape o.output o.size (λc g hx=>o.keep c g λb l b1 b2 b3=>hx b l b1 (by rw[<-A b b1 (cZ.aZ b2)];exact b2) b3) (λc l g p s=>?_) (λc l g p s=>?_)
   ·have:=o.dom c p s;omega
   ·rcases split c g with⟨j,j1,j2,j3,rfl⟩|e
    ·grind
    ·rw[e]at p;rcases o.new c l g p s with h3|⟨b0,l0,c1,c2,c3,c4⟩
     ·exact .inl h3
     ·exact .inr ⟨b0,l0,c1,by rw[<-A b0 c1 (cZ.aZ c2)];exact c2,c3,c4⟩
   ·rcases split c g with⟨j,j1,j2,j3,rfl⟩|e
    ·grind
    ·rw[e]at p;rcases o.live c l g p s with h3|⟨b0,l0,c1,c2,c3,c4⟩
     ·exact .inl h3
     ·exact .inr ⟨b0,l0,c1,by rw[<-A b0 c1 c2];exact c2,c3,c4⟩
def ce(a:Array Bool)(N:Nat):Nat:=(List.range N).countP λj=> !a.getD j false
theorem Bl(a:Array Bool)(N:Nat):ce a (N+1)=ce a N+if a.getD N false=true then 0 else 1:=by grind [ce,uA,grind]
theorem MW(a:Array Bool)(i j:Nat)(b:i<a.size):(a.setIfInBounds i true).getD j false=(a.getD j false||decide (j=i)):=by
 by_cases e:i=j
 ·simp_all
 ·have:j≠i:=λh=>e h.symm;simp[e,this]
theorem Su(a:Array Bool)(i:Nat)(b:i<a.size)(c:a.getD i false=false):∀N,i<N->ce (a.setIfInBounds i true) N+1=ce a N
 |0,h=>by omega
 |N+1,h=>by
  rw[Bl,Bl,MW _ _ _ b];by_cases e:i=N
  ·subst e;have:∀M,M<=i->ce (a.setIfInBounds i true) M=ce a M:=λM=>by
    induction M with
    |zero=>intro _;rfl
    |succ M ih=>
     grind [Bl,MW]
   simp_all
  ·have ih:=Su a i b c N (by omega)
   grind
theorem U2(a:Array Bool):∀N,ce a N=0->∀j,j<N->a.getD j false=true
 |0,_,j,hj=>by omega
 |N+1,h,j,hj=>by
  rw[Bl]at h;by_cases e:j=N
  ·simp_all
  ·exact U2 a N (by omega) j (by omega)
theorem qz0:d∈zM E↔∃e∈E.after,Region.binds .any e=true/\e.on=d:=by
 unfold zM
 grind
def se(H:eK P O)(F:Fence.dZ J){m up:Nat}{ds:List Deferred}(C:Can P d n O base ops ms st pos V B K)(M:(st 0).pend=[])(k:(st 0).jY=[])(N:∀i,i<ops.size->B i≠none->base+i<base+up/\fD (base+i))(l:H0.nx=base)(A:∀S a w ι L G q,(∀j,j<ops.size->S j)->zn d n base up ops ms st pos V B K ι0 H0 w0 ds S a w ι L G q->D .normal a w):∀(c:Nat) (b:Array Bool) (a:Act) (w:World) (ι:Im) (L:TT AV d) (G:Hp) (q:Nat),b.size=ops.size->ce b ops.size=c -> zn d n base up ops ms st pos V B K ι0 H0 w0 ds (λj=>b.getD j false=true) a w ι L G q->wpAnyIn J m P .any ops D c b a w:=by
 have s:∀b:Array Bool,b.size=ops.size->Region.ready .any ops b=[]->∀j,j<ops.size->b.getD j false=true:=λb p h j=>by
  induction j using Nat.strongRecOn with
  |ind j ih=>
   intro E;refine Classical.byContradiction λQ=>?_;obtain⟨o,f⟩:=ij E;have:j∈Region.ready .any ops b:=mem_ready.2 ⟨by
     rw[sP,uu (by omega)]at Q ⊢;simpa using Q,o,f,λe R r=>by
    have t:=C.edg.back j o f e.on (qz0.2 ⟨e,R,r,rfl⟩);exact ih e.on t (by omega)⟩
   simp_all
 intro c
 induction c with
 |zero=>
  intro b a w ι L G q p f I;have g:=U2 b _ f;refine⟨?_,A _ a w ι L G q g I⟩;cases h:Region.ready .any ops b with
  |nil=>rfl
  |cons x xs=>
   have:x∈Region.ready .any ops b:=by rw[h];simp
   grind [mem_ready,grind]
 |succ c ih=>
  intro b a w ι L G q p z I;refine⟨λh=>A _ a w ι L G q (s b p h) I,λi T=>?_⟩;obtain⟨h1,o,f,h2⟩:=mem_ready.1 T;have u:=oT f;have v:i<b.size:=by omega
  have y:b.getD i false=false:=by grind
  refine cy H F C M k N l I f (by grind) (λj E=>?_) λU w' W X G' Y Z=>?_
  ·grind [qz0]
  ·refine ih _ U w' W X G' Y (by grind) ?_ ?_
   ·have:=Su b i v y ops.size u;omega
   ·have hS:(λj=>(b.setIfInBounds i true).getD j false=true)=(λj=>b.getD j false=true\/j=i):=by
     grind [MW]
    simp_all
def zvs(hC:eK P O)(hF:Fence.dZ J)(hm:P.follows .mixedOrders=true){m id:Nat}{H:Hp}{w:World}(Q:HR ι H w)(L:LR ι d n h M.tmps)(z:(js P d n ops).f O h H=.ok L' H')(hK:ra ι H w M d n L' H' (D .normal)):(Code.region id ops true).wpIn J m P D M w:=by
 unfold js at z;split at z
 ·cases z
 ·rename_i pl hp;simp only at z
  ·
   split at z
   ·cases z
   ·rename_i L1 H1 y jY hx;cases z;obtain⟨st,pos,V,B,K,C,s0,sN,hu⟩:=Can.of (s:=⟨h,⟨H.t,H.nx+pl.up⟩,[],[]⟩) hp hx;have F:fD (H.nx+pl.up):=vG;have u:∀i,i<ops.size->B i≠none->H.nx+i<H.nx+pl.up/\fD (H.nx+i):=λi g r=>by
     obtain⟨o,ho⟩:=ij g;have hs:=C.step i o ho;obtain⟨b,u⟩:=lOV.1 r;rw[u]at hs;generalize V i=v1 at hs;generalize K i=k1 at hs;have hal:jl o.op=true:=by cases hs;assumption
     have a:ops.toList.any (λo=>jl o.op)=true:=lIE.2 ⟨o,sW (i:=i) (by grind),hal⟩;rw[a]at hu;simp only[AN]at hu
     grind [vG]
    have hd:=Q.drawn (w.drawn+1);have hH0:HR ι ⟨H.t,H.nx+pl.up⟩ {w with drawn:=w.drawn+1}:=
     ⟨F,hd.blk,hd.low,hd.inj,λb hb'=>Q.fresh b (by grind),λb hb' aXd=>Q.free b (by grind) aXd⟩
    have hF0:Fr ι ι H ⟨H.t,H.nx+pl.up⟩ w {w with drawn:=w.drawn+1}:=
     ⟨Im.le_refl _,by simp,λb k A=>absurd k A,rfl,rfl,rfl,AF _,λ_ _ _=>rfl,λb l u k A=>.inr ⟨b,l,u,k,A,rfl⟩,λb l u k A=>.inr ⟨b,l,u,k,A,rfl⟩⟩
    have aJg:∀i,i<ops.size->B i≠none->H.get (H.nx+i)=.dead:=λi g r=>Q.free _ (by omega) (u i g r).2;refine wpIn_region_any hm (se (base:=H.nx) (up:=pl.up) (ι0:=ι) (H0:=H) (w0:=w) (ds:=M.defers) hC hF C (by rw[s0]) (by rw[s0]) u rfl ?_ ops.size (Array.replicate ops.size false) M {w with drawn:=w.drawn+1} ι h ⟨H.t,H.nx+pl.up⟩ 0 (by simp) ?_ ?_)
    ·intro S a' w' ι' LL G q f I;have hM:∀j,Mg ops pl.ms pos K ops.size j↔Mg ops pl.ms pos K q j:=λj=>
      ⟨λ⟨e,p,W,E,X⟩=>⟨e,p,(I.nR e p E).1 (f e p),E,X⟩,λ⟨e,p,W,E,X⟩=>⟨e,p,C.plt e p,E,X⟩⟩
     have hHq:=C.pF (q:=q) ops.size I.le (AF _) λe p W E X=>by have:=(I.nR e p W).1 (f e p);omega
     have hv:=C.view (by rw[s0]) (λi g r=>(u i g r).2) (q:=ops.size) (AF _) (λ_=>true) (λj Y _=>C.plt j Y);rw[<-z2j,sN]at hv;have R:(oW y H1).nx=G.nx:=by grind [hv.nx,I.hs.nx]
     have v:∀c,fD (c)->(oW y H1).get c=G.get c:=λc hc=>by
      by_cases e:∃j,j<ops.size/\B j≠none/\¬Mg ops pl.ms pos K q j/\c=H.nx+j
      ·obtain⟨j,j1,j2,j3,rfl⟩:=e;obtain⟨b,U⟩:=lOV.1 j2;rw[hv.hit j b j1 rfl U λx=>j3 ((hM j).1 x),I.hs.hit j b j1 (f j j1) U j3]
      ·grind [hv.miss,I.hs.miss]
     refine hK a' w' ι' ⟨I.lr.size,I.lr.fits,λt Z=>?_⟩ I.ds (I.hr.sub R λc hc=>.inl (v c hc)) (I.fr.congr R v);have T:=AE Z L.fit;have k:=C.locals L.fit ops.size (AF _) t T;rw[sN]at k;rw[k,BB (S':=S) _ λj Y _=>⟨λ_=>f j Y,λ_=>C.plt j Y⟩,<-I.tv t T];exact I.lr.get t Z
    ·have:∀N,ce (Array.replicate ops.size false) N=N:=λN=>by
      induction N with
      |zero=>rfl
      |succ N ih=>
       rw[Bl,ih];have:(Array.replicate ops.size false).getD N false=false:=by rw[sP,Array.getElem?_replicate];split<;>rfl
       grind
     exact this _
    ·have hgf:∀j,(Array.replicate ops.size false).getD j false=false:=λj=>by
      rw[sP,Array.getElem?_replicate];split<;>rfl
     refine{shut:=λi o ho g=>?_,le:=vy _,nR:=λe p W=>?_,lr:=L,tv:=λt Z=>?_,hr:=hH0,hs:=⟨by rw[s0],λi b k A=>?_,λc hc _=>by rw[s0]⟩,dead:=λi g r _=>?_,free:=λi g r _=>Q.fresh _ (by omega),some:=λi g r hS=>?_,up:=AF _,fr:=hF0,ds:=rfl}
     ·simp_all
     ·simp_all
     ·have k:=C.locals L.fit 0 (vy _) t Z;simp_all
     ·simp_all
     ·rw[s0];exact aJg i g r
     ·simp_all
theorem zje:∀m,tv ops n V L' F m n=(dV d n).f L'
 |0=>rfl
 |m+1=>by unfold tv;rw[sy (by omega)];exact zje m
theorem Ub(b:n<8 ^ d)(a:(js P d n ops).f O L' H0=.ok h G'):(dV d n).f h=(dV d n).f L':=by
 unfold js at a;split at a
 ·cases a
 ·rename_i pl g;simp only at a
  ·
   split at a
   ·cases a
   ·rename_i L1 H1 e j c;cases a;obtain⟨st,pos,V,B,K,C,s0,k,l⟩:=Can.of (s:=⟨L',⟨H0.t,H0.nx+pl.up⟩,[],[]⟩) g c;have i:=C.locals (dE b) ops.size (AF _) n b
    grind [zje]
end Go.Ev
end
noncomputable section
namespace Go.Ev
open Go.RowKit
variable {P:Program} {w:World} {ι:Im} {a:Act} {d n:Nat} {L:TT AV d} {H:Hp} {O:Call} {F:Fence} {m:Nat}
def MdL(lo:Nat)(ι:Im)(H:Hp)(w:World):List AV->List Deferred->List Nat->Prop
 |l,[],Ds=>l=[]/\Ds=[]
 |l,x::ds,Ds=>(∃D Ds',Ds=D::Ds'/\x={target:=.collected D,args:= #[]}/\D∉Ds'/\(lo<=D/\D<w.heap.size/\w.heap[D]? =some (.deferred (some []))/\∀b l,fD (b)->(H.get b).bG=false->ι b=some l->l.blk≠D)/\MdL lo ι H w l ds Ds') \/
   (∃g all l' A C,l=.fn g all []::l'/\x={target:=.fn (.func g) C,args:=A}/\aK ι all (A.toList++C.toList)/\MdL lo ι H w l' ds Ds)
theorem MdL.fr{lo:Nat}{m:Im}{n:Hp}{w':World}(f:Fr ι m H n w w'):∀{ds:List Deferred} {l:List AV} {a:List Nat},MdL lo ι H w l ds a->MdL lo m n w' l ds a
 | [],l,a,h=>h
 |x::ds,l,a,h=>by
  rcases h with⟨D,c,d,e,i,⟨k0,o,k2,k3⟩,j⟩|⟨g,k,p,A,C,d,e,i,j⟩
  ·refine .inl ⟨D,c,d,e,i,⟨k0,AE o f.size,?_,λb l q r s t=>?_⟩,j.fr f⟩
   ·grind [f.keep,cZ.aZ]
   ·grind [f.live,grind]
  ·exact .inr ⟨g,k,p,A,C,d,e,aK.mono f.le _ _ i,j.fr f⟩
theorem MdL.lt{lo:Nat}:∀{ds:List Deferred} {l:List AV} {b:List Nat},MdL lo ι H w l ds b->∀D∈b,D<w.heap.size
 | [],l,b,h,D,a=>by rw[h.2]at a;cases a
 |x::ds,l,b,h,D,a=>by
  rcases h with⟨m,e,d,f,i,⟨k0,j,k2,k3⟩,c⟩|⟨g,k,n,A,C,d,f,i,c⟩
  ·subst d;rcases lE4.1 a with rfl|a
   ·exact j
   ·exact c.lt D a
  ·exact c.lt D a
structure Md(pl:Bool)(lo:Nat)(ι:Im)(H:Hp)(w:World)(l:List AV)(ds:List Deferred):Prop where
 plain:pl=true->ds=[]
 low:lo<=w.heap.size
 ex:∃Ds,MdL lo ι H w l ds Ds
variable{pl:Bool}
theorem Md.nil(h:d<=w.heap.size):Md pl d ι H w [] []:=⟨λ_=>rfl,h,[],rfl,rfl⟩
def Md.fr{a:Im}{b:Hp}{w':World}{l:List AV}{ds:List Deferred}(h:Md pl n ι H w l ds)(f:Fr ι a H b w w'):Md pl n a b w' l ds:=by obtain⟨c,d,e,g⟩:=h;exact⟨c,AL d f.size,e,g.fr f⟩
def xbh:Ex->Exit
 | .normal=>.normal
 | .exit id=>.exit id
 | .ret=>.ret
 | .goto l=>.goto l
def After(pl:Bool)(lo:Nat)(ι:Im)(H:Hp)(w:World)(d n:Nat)(b:TT AV d)(a:Hp)(Q:Act->World->Prop):Prop:=
 ∀a' w' ι',LR ι' d n b a'.tmps->Md pl lo ι' a w' (dl ((dV d n).f b)) a'.defers->HR ι' a w'->Fr ι ι' H a w w'->Q a' w'
def H8{r:Rc d}{k:TT AV d->Hp->Rc d}{a:Ex}(h:mR r k=.ok a L H):(∃L1 H1,r=.ok .normal L1 H1/\k L1 H1=.ok a L H)\/(a≠ .normal/\r=.ok a L H):=by
 unfold mR at h
 grind
def QU{r:Rc d}{a:Ex}(h:A4 n r=.ok a L H):(a=.normal/\r=.ok (.exit n) L H)\/((∀i,a=.exit i->i≠n)/\r=.ok a L H):=by
 unfold A4 at h;split at h
 ·rename_i f L1 H1;cases g:Nat.beq f n with
  |true=>rw[g]at h;simp only[AN]at h;cases h;have:=zK g;subst this;exact .inl ⟨rfl,rfl⟩
  |false=>rw[g]at h;simp only[bu]at h;cases h;refine .inr ⟨λi e=>?_,rfl⟩;cases e;intro e;subst e;simp_all
 ·simp_all
def After.normal{lo:Nat}{e:Im}{H1:Hp}{w':World}{i:Hp}{Q:Act->World->Prop}(f:Fr ι e H H1 w w')(h:After pl lo ι H w d n L i Q):After pl lo e H1 w' d n L i Q:=
 λa b c j k l m=>h a b c j k l (f.trans m)
def eJ(P:Program)(O:Call)(d n m:Nat)(c:Code):Prop:=
 ∀{F:Fence},Fence.dZ F->(F.round=none\/lY c=true)->∀{pl:Bool} {lo:Nat} {ι:Im} {w:World} {a:Act} {L:TT AV d} {H:Hp},HR ι H w->LR ι d n L a.tmps->(pl=true->lY c=true)->Md pl lo ι H w (dl ((dV d n).f L)) a.defers ->
  ∀{ex:Ex} {L':TT AV d} {H':Hp},(bj P d n c).f O L H=.ok ex L' H'->∀{Q:Exit->Act->World->Prop},After pl lo ι H w d n L' H' (Q (xbh ex))->c.wpIn F m P Q a w
variable{D h:Code}
def zvy(s:eJ P O d n m h)(C:eJ P O d n m D):eJ P O d n m (.seq h D):=by
 intro F p v pl lo ι w a L H z x f A y I J E Q B;have b:F.round=none\/lY h=true:=v.imp id λx=>by simp only[lY,sA]at x;exact x.1
 have l:F.round=none\/lY D=true:=v.imp id λx=>by simp only[lY,sA]at x;exact x.2
 have c:pl=true->lY h=true:=λe=>by have:=f e;simp only[lY,sA]at this;exact this.1
 have o:pl=true->lY D=true:=λe=>by have:=f e;simp only[lY,sA]at this;exact this.2
 refine wpIn_seq ?_;rcases H8 E with⟨L1,H1,q,G⟩|⟨r,q⟩
 ·exact s p b z x c A q λt w' u g i j k=>C p l j g o i G (B.normal k)
 ·refine s p b z x c A q λt w' u g i j k=>?_;have:=B t w' u g i j k;cases y<;>first|exact absurd rfl r|exact this
variable{E:Operand}
def znu(t:eJ P O d n m h)(u:eJ P O d n m D):eJ P O d n m (.cond E h D):=by
 intro F o p pl lo ι w a L H q x g r v z A f Q s;have i:F.round=none\/lY h=true:=p.imp id λx=>by simp only[lY,sA]at x;exact x.1
 have j:F.round=none\/lY D=true:=p.imp id λx=>by simp only[lY,sA]at x;exact x.2
 have k:pl=true->lY h=true:=λe=>by have:=g e;simp only[lY,sA]at this;exact this.1
 have l:pl=true->lY D=true:=λe=>by have:=g e;simp only[lY,sA]at this;exact this.2
 have b:=gH x E;change cf ((aM d n E).f L) _ _=_ at f;unfold cf at f;split at f
 ·rename_i e;rw[e]at b;simp only[aQ]at b;exact wpIn_cond_true b (t o i q x k r f s)
 ·rename_i e;rw[e]at b;simp only[aQ]at b;exact wpIn_cond_false b (u o j q x l r f s)
 ·cases f
def zcp{id:Nat}(p:eJ P O d n m h):eJ P O d n m (.block id h):=by
 intro F q r pl lo ι w a L H s x b t v z A y Q u;refine wpIn_block ?_;rcases QU y with⟨rfl,l⟩|⟨o,l⟩
 ·refine p q r s x b t l λc w' e f g j k=>?_;show if id=id then _ else _
  rw[sB rfl];exact u c w' e f g j k
 ·refine p q r s x b t l λc w' e f g j k=>?_;have:=u c w' e f g j k;cases v with
  |exit i=>show if i=id then _ else _;rw[sy (o i rfl)];exact this
  |normal=>exact this
  |ret=>exact this
  |goto=>exact this
def znt(o:eJ P O d n m h):eJ P O d n m (.loop h):=by
 intro F r s pl lo ι w a L H t x b u y A B c Q v;change py _ bT L H=_ at c;refine wpIn_loop_rounds bT ?_;revert c;generalize bT=k;intro c
 induction k generalizing ι w a L H with
 |zero=>cases c
 |succ k ih=>
  rcases H8 c with⟨L1,H1,j,z⟩|⟨l,j⟩
  ·exact o r s t x b u j λp w' q e f g i=>ih g e f (v.normal i) z
  ·refine o r s t x b u j λp w' q e f g i=>?_;have:=v p w' q e f g i;cases y<;>first|exact absurd rfl l|exact this
def zcn(o:eJ P O d n m h)(p:∀L H b g j,(bj P d n h).f O L H=.ok b g j->∀l,b≠ .goto l):eJ P O d n m (.scope h):=by
 intro F z c pl lo ι w a L H A x f B b g j k Q C;have c:F.round=none:=c.resolve_right (by simp[lY]);obtain⟨r,rfl⟩:=z.eq;have:r=none:=c;subst this;have D:({Fence.wide with round:=none}:Fence)=Fence.wide:=rfl;refine wpIn_wide.2 (wp_scope_straight ((wpIn_wide (n:=m)).1 ?_));refine o Fence.aAZ (.inl rfl) A x (λe=>by have:=f e;simp[lY]at this) B k λq w' s t u v y=>?_;have:=C q w' s t u v y;cases b with
 |goto l=>exact absurd rfl (p _ _ _ _ _ k l)
 |exit i=>exact this
 |normal=>exact this
 |ret=>exact this
def zcl:∀(c:Code) {L:TT AV d} {H:Hp} {g:Ex} {i:TT AV d} {j:Hp},(bj P d n c).f O L H=.ok g i j->∀l,g≠ .goto l:=by
 intro c
 induction c with
 |skip=>intro L H g i j h l;cases h;exact λe=>by cases e
 |label=>intro L H g i j h l;cases h;exact λe=>by cases e
 |region id ops draw=>
  intro L H g i j h l;cases draw with
  |false=>
   change qH _=_ at h;unfold qH at h
   grind
  |true=>
   change qH _=_ at h
   grind [qH]
 |seq a b iha ihb=>
  intro L H g i j h l;rcases H8 h with⟨L1,H1,m,o⟩|⟨_,m⟩
  ·grind
  ·grind
 |cond x a b iha ihb=>
  intro L H g i j h l;change cf _ _ _=_ at h;unfold cf at h
  grind
 |block id b ih=>
  intro L H g i j h l;rcases QU h with⟨rfl,_⟩|⟨_,m⟩
  ·simp
  ·exact ih m l
 |loop b ih=>
  intro L H g i j h l;change py _ bT L H=_ at h;revert h;generalize bT=k;intro h
  induction k generalizing L H with
  |zero=>cases h
  |succ k ihk=>
   rcases H8 h with⟨L1,H1,m,o⟩|⟨_,m⟩
   ·exact ihk o
   ·exact ih m l
 |scope b ih=>intro L H g i j h l;exact ih h l
 |exit id=>intro L H g i j h l;cases h;exact λe=>by cases e
 |goto=>intro L H g i j h l;cases h
 |ret=>intro L H g i j h l;cases h;exact λe=>by cases e
 |rangeFunc f ps assign body _ _=>
  intro L H g i j h l;unfold bj at h;split at h
  ·cases h
  ·simp only at h
   ·
    unfold endLoop at h
    grind
 |refuse=>intro L H g i j h l;cases h
theorem HR.alloc(h:HR ι H w)(o:Obj):HR ι H (w.alloc o)/\Fr ι ι H H w (w.alloc o):=by
 have d:∀c,c<w.heap.size->(w.alloc o).heap[c]? =w.heap[c]? :=λc g=>Below.heap_alloc w o c g;refine⟨⟨h.top,λb a=>(h.blk b a).keep λl i j=>d _ (h.low b l a i j),λb l a e f=>by have:=h.low b l a e f;simp;omega,h.inj,h.fresh,h.free⟩,
  ⟨Im.le_refl _,AF _,λb e f=>absurd e f,rfl,rfl,rfl,by simp,λc g _=>d c g,λb l a e f=>.inr ⟨b,l,a,e,f,rfl⟩,λb l a e f=>.inr ⟨b,l,a,e,f,rfl⟩⟩⟩
def HR.xS(h:HR ι H w){l:cv}(d:ι n=some l)(a:(H.get n).wr=true)(k:cZ)(o:Obj)(e:BR ι (w.putObj l.blk o) n k):HR ι (H.put n k) (w.putObj l.blk o)/\Fr ι ι H (H.put n k) w (w.putObj l.blk o):=
 h.put (h.lt d) a d k rfl rfl rfl (by simp) (λc f=>World.putObj_heap_other f) e
set_option maxHeartbeats 1000000 in
def zco{ps:Array Tmp}{assign body:Code}(hC:eK P O):eJ P O d n m (.rangeFunc E ps assign body):=by
 intro F hF hr pl lo ι w a L H hH h hpl hM ex L' H' r Q hQ;have X:F.round=none:=hr.resolve_right (by simp[lY]);have Y:pl=false:=by grind [lY]
 subst Y;unfold bj at r;split at r
 ·cases r
 ·rename_i gf _ hg y;simp only at r
  ·
   have D:fD (H.nx):=vG;simp only[sA]at y;have s:=gH h E;rw[hg]at s;simp only at s
   obtain⟨hA,fA⟩:=hH.alloc (.deferred (some []));refine wpIn_rangeFunc λfn _=>?_
   let lp:Loop:={state:=.ready,pending:=none,fn:=fn,tmps:=a.tmps,params:=ps,assign:=assign,body:=body,defers:=w.heap.size}
   let loc:cv:=⟨w.heap.size+1,0,0,0⟩
   have g:=hA.fresh H.nx (AF _);obtain⟨hB,fB⟩:=hA.push (w':=(w.alloc (.deferred (some []))).alloc (.loop lp)) D loc (.loop true none d n L ps.toList assign body) rfl rfl rfl (by simp) (λc hc=>Below.heap_alloc _ _ c hc) (by simp[loc])
    ⟨loc,lp,Im.dH ..,by have:=World.alloc_heap_new (w.alloc (.deferred (some []))) (.loop lp);simpa [loc] using this,rfl,rfl,rfl,rfl,rfl,h.mono (Im.jS loc g),y.1,y.2⟩
   have S:=fA.trans fB;have Z:Md false lo (ι.set H.nx loc) (aH H (.loop true none d n L ps.toList assign body)) ((w.alloc (.deferred (some []))).alloc (.loop lp)) (dl ((dV d n).f L)) ({target:=.collected w.heap.size,args:= #[]}::a.defers):=by
    obtain⟨Ds,m1⟩:=hM.ex;have m2:=m1.fr S;have G:=hM.low;refine⟨λe=>(by cases e),AL G S.size,w.heap.size::Ds,.inl ⟨w.heap.size,Ds,rfl,rfl,λU=>absurd (m1.lt _ U) (dC _),⟨G,by simp;omega,?_,λb l W hl hi e=>?_⟩,m2⟩⟩
    ·grind [Below.heap_alloc,World.alloc_heap_new]
    ·have hgp:(aH H (.loop true none d n L ps.toList assign body)).get b=if b=H.nx then(.loop true none d n L ps.toList assign body)else H.get b:=by exact Mem.get_put _ _ _ _
     by_cases e':b=H.nx
     ·grind [Im.dH]
     ·rw[Im.fI _ _ e']at hi;rw[hgp,sy e']at hl;have:=hH.low b l W hl hi;omega
   unfold endLoop at r;split at r
   ·cases r
   ·rename_i v H2 j;unfold ma at j;split at j
    ·rename_i f first cap hgL
     rw[hgL]at s;obtain⟨A,Cc,r1,r2,r3⟩:=s;have I:ι.le (ι.set H.nx loc):=Im.jS loc g;have hyv:aQ (ι.set H.nx loc) (.yield H.nx) (.func (.yield (w.heap.size+1)) #[] #[]):=by simp only[aQ];exact⟨loc,Im.dH ..,rfl⟩
     obtain⟨c1,c2⟩:=hC.fn _ _ _ _ _ j (ι.set H.nx loc) _ (A++[.func (.yield (w.heap.size+1)) #[] #[]]++Cc) hB
      (((aK.mono I _ _ r1).append (aK.singleton hyv)).append (aK.mono I _ _ r2))
     have t:(Instr.enterLoop fn a.tmps ps assign body F.round).run P w=.ok (w.heap.size+1,[{target:=.collected w.heap.size,args:= #[]}]) ((w.alloc (.deferred (some []))).alloc (.loop lp)):=by rw[X];exact run_enterLoop_outer fn a.tmps ps assign body
     refine⟨w.heap.size+1,[{target:=.collected w.heap.size,args:= #[]}],(w.alloc (.deferred (some []))).alloc (.loop lp),{target:=.fn (.func f) Cc.toArray,args:=A.toArray++ #[Value.func (.yield (w.heap.size+1)) #[] #[]]},(w.alloc (.deferred (some []))).alloc (.loop lp),f,(A++[Value.func (.yield (w.heap.size+1)) #[] #[]]++Cc).toArray,(w.alloc (.deferred (some []))).alloc (.loop lp),t,?_,λf' _=>hF.fn f',?_,?_,?_⟩
     ·grind [resolve,Deferred.ofValue,Sem.run_pure,Act.eval]
     ·grind [invoke,grind]
     ·simp[hF.depth]
     ·have aJT:=hF.calls (c2 (m-1));refine CallsIn.mono aJT ?_;intro e w' q;cases e with
      |panicked=>exact q.elim
      |outgrown=>exact q.elim
      |returned V=>
       obtain⟨ι',q1,q2,q3⟩:=q;have x:ι' H.nx=some loc:=q3.le _ _ (Im.dH ..);have bDC:=Z.fr q3;have fin:∀{p:Bool} {pending:Option Code} {T n':Nat} {L2:TT AV T} {z:List Tmp} {B C:Code},H2.get H.nx=.loop p pending T n' L2 z B C->(p=true\/pending.isSome=true) ->
         ∃u,(Instr.endLoop (w.heap.size+1)).run P w'=.ok pending u/\∀K:Act->World->Prop,After false lo ι H w d n L (H2.put H.nx .dead) K->K {a with defers:=[{target:=.collected w.heap.size,args:= #[]}]++a.defers} u:=by
        intro p pending T n' L2 z B C i hst;have J:=q2.blk H.nx D;rw[i]at J;obtain⟨l2,M,b1,b2,b3,b4,_⟩:=J;rw[x]at b1;cases b1;have hne:M.state≠ .busy:=by grind
        refine⟨_,by rw[<-b4];exact run_endLoop b2 hne,λK hK=>?_⟩;obtain⟨z1,z2⟩:=q2.xS (k:=.dead) (o:=.loop {M with state:=.exhausted}) x (by rw[i];rfl) trivial;exact hK _ _ ι' (h.mono (Im.le_trans S.le q3.le)) (bDC.fr z2) z1 ((S.trans q3).trans z2)
       split at r
       ·rename_i i;cases r;obtain⟨u,N,R⟩:=fin i (.inl rfl);exact⟨_,u,N,R _ hQ⟩
       ·rename_i i;cases r;obtain⟨u,N,R⟩:=fin i (.inr rfl);exact⟨_,u,N,wpIn_ret (R _ hQ)⟩
       ·rename_i i;cases r;obtain⟨u,N,R⟩:=fin i (.inr rfl);exact⟨_,u,N,wpIn_exit (R _ hQ)⟩
       ·cases r
    ·cases j
def TR(i:n<8 ^ d){ops:Array Oper}{o:Oper}{g:TT AV d}{h:Hp}(c:(th P d n ops o).f O L H=.ok g h):(dV d n).f g=(dV d n).f L:=by
 have b:∀{a:TT AV d->AV->TT AV d} (_:eO d n o.dst=⟨a⟩) (v:AV),(dV d n).f (a L v)=(dV d n).f L:=λf v=>by have:=BG (v:=v) (dE i) (L:=L) i o.dst;simp_all
 have k:∀{a:TT AV d->AV->TT AV d} (_:eO d n o.dst=⟨a⟩) {r:R0},sk a L H r=.ok g h->(dV d n).f g=(dV d n).f L:=λf r e=>by
  unfold sk at e;split at e
  ·cases e
  ·cases e;exact b f _
  ·cases e;exact b f _
 have j:∀{a:TT AV d->AV->TT AV d} (_:eO d n o.dst=⟨a⟩) {r:R1},sj a L r=.ok g h->(dV d n).f g=(dV d n).f L:=λf r e=>by
  unfold sj at e;split at e
  ·cases e
  ·cases e;exact b f _
 unfold th at c;split at c
 ·grind
 ·grind
 ·rename_i f;simp only[mV]at c;split at c
  ·grind
  ·cases c;exact b f _
  ·cases c
 ·rename_i f;simp only[mV]at c;split at c
  ·grind
  ·cases c;exact b f _
  ·cases c
theorem Lc(z:eK P O)(s:Fence.dZ F){ops:Array Oper}{Q:Exit->Act->World->Prop}{pl:Bool}{lo:Nat}:∀(l:List Oper),(F.round=none\/l.any tH=false)->(pl=true->l.any tH=false)->∀{ι:Im} {w:World} {a:Act} {L:TT AV d} {H:Hp},HR ι H w->LR ι d n L a.tmps->Md pl lo ι H w (dl ((dV d n).f L)) a.defers -> ∀{t:TT AV d} {u:Hp},(vP P d n ops l).f O L H=.ok t u->After pl lo ι H w d n t u (Q .normal)->wpListIn F m P ops Q l a w
 | [],_,_,ι,w,a,L,H,hH,h,hM,t,u,he,hK=>by cases he;exact hK _ _ ι h hM hH (Fr.refl ..)
 |o::l,hr,hp,ι,w,a,L,H,hH,h,hM,t,u,he,hK=>by
  have q:F.round=none\/l.any tH=false:=hr.imp id λe=>by grind
  have r:pl=true->l.any tH=false:=λe=>by grind
  simp only[vP,IK]at he;split at he
  ·cases he
  ·rename_i L1 H1 b;unfold jn at b;split at b
   ·have B:=TR h.fits b;have:=ztp (m:=m) (Q:=Q) (K:=wpListIn F m P ops Q l) z s hH h b (λa' w' ι' W X Y R=>
     Lc z s l q r Y W (by rw[B,X];exact hM.fr R) he (hK.normal R))
    trivial
   ·rename_i c y;unfold va at y;split at y
    ·rename_i x args p ho hg;have D:tH o=true:=by grind [tH]
     have E:F.round=none:=hr.resolve_right (by simp[D]);have G:pl=false:=by grind
     subst G;cases y;have T:=gH h x;have Z:=kz h args.toList;simp only at b;have g:Region.wanted o (yielded ops a.tmps)=true:=by simp[Region.wanted,hg]
     simp only[wpListIn,g,ai];refine⟨λf _=>s.fn f,?_⟩;rw[E,Oper.semAt_none];unfold Qp at b;split at b
     ·rename_i f first k M
      simp only[Rs.ok.injEq]at b;obtain⟨V,e2⟩:=b;subst e2;rw[M]at T;obtain⟨A,C,g1,g2,g3⟩:=T;have j:args.map a.eval=(args.toList.map a.eval).toArray:=by grind
      have I:(execOp a.eval o).run P w=.ok (.defer {target:=.fn (.func f) C.toArray,args:=A.toArray++(args.toList.map a.eval).toArray}) w:=by simp[execOp,ho,resolve,g3,Deferred.ofValue,j]
      rw[I];have J:LR ι d n ((ak d n).f L (.aX (.fn f (first++(wC d n args.toList).f L++k) []::dl ((dV d n).f L)))) a.tmps:=by refine⟨h.size,h.fits,λi S=>?_⟩;rw[je _ _ _ _ _ (vk S h.fits) h.fits,sy (by omega)];exact h.get i S
      refine Lc z s l q r hH (L:=L1) ?_ ?_ he hK
      ·rw[<-V];exact t6 (a:={a with defers:=_::a.defers}) J o.dst (by simp only[aQ];rfl)
      ·rw[ay,<-V];have U:=BG (v:=.undef) (dE h.fits) (L:=(ak d n).f L (.aX (.fn f (first++(wC d n args.toList).f L++k) []::dl ((dV d n).f L)))) h.fits o.dst;rw[sy (by omega)]at U;rw[U,je _ _ _ _ _ h.fits h.fits,sB rfl];obtain⟨_,N,Ds,hD⟩:=hM;refine⟨λe=>(by cases e),N,Ds,.inr ⟨f,first++(wC d n args.toList).f L++k,dl ((dV d n).f L),_,_,rfl,rfl,?_,hD⟩⟩;simpa using (g1.append Z).append g2
     ·cases b
    ·cases y
def Iy(u:eK P O)(y:P.follows .mixedOrders=true):∀c:Code,eJ P O d n m c:=by
 intro c
 induction c with
 |skip=>intro F p t pl lo ι w a L H k h i l q r s g Q o;cases g;exact wpIn_skip (o a w ι h l k (Fr.refl ..))
 |label=>intro F p t pl lo ι w a L H k h i l q r s g Q o;cases g;exact wpIn_label (o a w ι h l k (Fr.refl ..))
 |region id ops draw=>
  intro F p t pl lo ι w a L H k h i l q r s g Q o;cases draw with
  |false=>
   change qH _=_ at g;unfold qH at g;split at g
   ·cases g
   ·rename_i L1 H1 j;cases g;exact wpIn_region_list (Lc u p ops.toList (t.imp (λe=>e) λe=>by simpa [lY] using e) (λe=>by have:=i e;simpa [lY] using this) k h l j o)
  |true=>
   change qH _=_ at g;unfold qH at g;split at g
   ·cases g
   ·rename_i L1 H1 j;cases g;exact zvs u p y k h j λz w' A B C D v=>o z w' A B (by rw[C,Ub h.fits j];exact l.fr v) D v
 |seq a b iha ihb=>exact zvy iha ihb
 |cond x a b iha ihb=>exact znu iha ihb
 |block id b ih=>exact zcp ih
 |loop b ih=>exact znt ih
 |scope b ih=>exact zcn ih λL H q r s g=>zcl b g
 |exit id=>intro F p t pl lo ι w a L H k h i l q r s g Q o;cases g;exact wpIn_exit (o a w ι h l k (Fr.refl ..))
 |goto=>intro F p t pl lo ι w a L H k h i l q r s g Q o;cases g
 |ret=>intro F p t pl lo ι w a L H k h i l q r s g Q o;cases g;exact wpIn_ret (o a w ι h l k (Fr.refl ..))
 |rangeFunc f ps assign body _ _=>exact zco u
 |refuse=>intro F p t pl lo ι w a L H k h i l q r s g Q o;cases g
end Go.Ev
end
noncomputable section
namespace Go.Ev
open Go.RowKit
variable {P:Program} {w:World} {ι:Im} {a:Act} {d n:Nat} {L:TT AV d} {H:Hp} {O:Call} {m:Nat}
def O5(tmps:Array Value):ResultVar->Sem Value
 | .tmp t=>pure (tmps.getD t Go.undef)
 | .cell a t=>do loadVar t (<-asAddr (tmps.getD a Go.undef))
theorem Ai(fn:Func)(tmps:Array Value):results fn tmps=(do
  let vs<-fn.results.mapM (O5 tmps)
  pure (if h:vs.size=1 then vs[0]else .tuple vs)):=by
 rfl
variable{D E:AV}
def zl4{X:Value}(e:aQ ι E X){t:TypeId}(f:vK P t=some false)(a:HR ι H w)(h:aR H E=.val D):∃V,(do loadVar t (<-asAddr X):Sem Value).run P w=.ok V w/\aQ ι D V:=by
 unfold aR at h;split at h
 ·rename_i b i;obtain⟨l,c,g⟩:=e;obtain⟨m,V,d,j,k,_⟩:=US (a.blk b (a.lt c)) h;rw[c]at d;cases d;exact⟨V,by simp[g,asAddr,loadVar,oX f,j],k⟩
 ·cases h
def zl3{X:Value}(m:aQ ι E X){t:TypeId}(n:vK P t=some true){k:Nat}(o:jO P t=some k)(e:HR ι H w)(h:bW k H E=.val D):∃V,(do loadVar t (<-asAddr X):Sem Value).run P w=.ok V w/\aQ ι D V:=by
 unfold bW at h;split at h
 ·rename_i b i;obtain⟨l,p,q⟩:=m;cases d:eY (H.get b) i k with
  |none=>rw[d]at h;cases h
  |some cs=>
   rw[d]at h;cases h;obtain⟨a,r⟩:=Bj (e.blk b (e.lt p)) d;have c:∀vs:List Value,vs.length=k->(∀(j:Nat) (D:Value),vs[j]? =some D->w.cell? ⟨l.blk,l.base+i+j,none⟩=some D)->(do loadVar t (<-asAddr X):Sem Value).run P w=.ok (.agg vs.toArray) w:=λvs f g=>by have:=bi P w l.blk (l.base+i) vs g;rw[f]at this;simp[q,asAddr,loadVar,oX n,rE o,this]
   rcases r with rfl|⟨loc,vs,f,g,s,u,y⟩
   ·have:cs=[]:=lE5.1 a;subst this;exact⟨_,c [] rfl (by simp),by simp only[aQ];exact⟨[],by simp[aK],rfl,by simp⟩⟩
   ·grind [aQ]
 ·cases h
def zkl(h:LR ι d n L a.tmps)(l:HR ι H w)(x:ResultVar)(c:(vd P d n x).f L H=some D):∃V,(O5 a.tmps x).run P w=.ok V w/\aQ ι D V:=by
 cases x with
 |tmp t=>have:=gH h (.tmp t);cases c;exact⟨_,rfl,this⟩
 |cell p t=>
  have f:=gH h (.tmp p);simp only[vd]at c;generalize m:aM d n (.tmp p)=g at c f;cases e:vK P t with
  |none=>rw[e]at c;cases c
  |some b=>
   cases j:jO P t with
   |none=>rw[e,j]at c;cases b<;>cases c
   |some k=>
    rw[e,j]at c;cases b with
    |true=>
     simp only at c;split at c
     ·rename_i u i;cases c;exact zl3 f e j l i
     ·cases c
    |false=>
     simp only at c;split at c
     ·rename_i u i;cases c;exact zl4 f e l i
     ·cases c
theorem RM(h:LR ι d n L a.tmps)(c:HR ι H w):∀(xs:List ResultVar) {l:List AV},(xe P d n xs).f L H=some l->∃vs,(xs.mapM (O5 a.tmps)).run P w=.ok vs w/\aK ι l vs
 | [],l,he=>by cases he;exact⟨[],rfl,by simp[aK]⟩
 |x::xs,l,he=>by
  have b:(match(vd P d n x).f L H,(xe P d n xs).f L H with|some v,some l=>some (v::l)|_,_=>none)=some l:=he;split at b
  ·rename_i v j e f;cases b;obtain⟨V,k,g⟩:=zkl h c x e;obtain⟨vs,m,i⟩:=RM h c xs f;refine⟨V::vs,?_,by simp only[aK];exact⟨V,vs,rfl,g,i⟩⟩;simp_all
  ·cases b
def TW(h:LR ι d n L a.tmps)(f:HR ι H w)(fn:Func)(b:(ey P d n fn.results.toList).f L H=some D):∃V,(results fn a.tmps).run P w=.ok V w/\aQ ι D V:=by
 rw[Ai,Array.mapM_eq_mapM_toList];unfold ey at b;split at b
 ·rename_i x q;obtain⟨V,r,s⟩:=zkl h f x b;simp_all
 ·rename_i k;simp only at b;split at b
  ·rename_i l c;cases b;obtain⟨vs,t,i⟩:=RM h f fn.results.toList c;refine⟨.tuple vs.toArray,?_,by simp only[aQ];exact⟨vs,i,rfl⟩⟩;have g:¬vs.toArray.size=1:=by
    have m:=i.length;have j:∀(xs:List ResultVar) (l:List AV),(xe P d n xs).f L H=some l->l.length=xs.length:=by
     intro xs
     induction xs with
     |nil=>intro l c;cases c;rfl
     |cons x xs ih=>
      grind [vd,xe]
    have o:=j _ _ c;intro e;simp at e;have p:fn.results.toList.length=1:=by omega
    grind [List.length_eq_one_iff]
   simp_all
  ·cases b
theorem MdL.putObj{D:Nat}{o:Obj}:∀{ds:List Deferred} {l:List AV} {a:List Nat},MdL n ι H w l ds a->D∉a->MdL n ι H (w.putObj D o) l ds a
 | [],l,a,h,_=>h
 |x::ds,l,a,h,hD=>by
  rcases h with⟨j,b,c,d,e,⟨k0,k,k2,k3⟩,f⟩|⟨g,i,m,A,C,c,d,e,f⟩
  ·subst c;simp only[lE4,not_or]at hD;exact .inl ⟨j,b,rfl,d,e,⟨k0,by simpa using k,by rw[World.putObj_heap_other (Ne.symm hD.1)];exact k2,k3⟩,f.putObj hD.2⟩
  ·exact .inr ⟨g,i,m,A,C,c,d,e,f.putObj hD⟩
theorem Nb(t:eK P O){k:Nat}{fn:Func}{w0:World}{H0 q:Hp}{tmps:Array Value}{v:AV}(f:(ey P d n fn.results.toList).f L q=some v):∀(ds:List Deferred) (l:List AV) (r:List Nat) (i:Im) (H:Hp) (w':World),MdL w0.heap.size i H w' l ds r->LR i d n L tmps->HR i H w'->Fr ι i H0 H w0 w'->zh O l H=some q -> LeavesInM Fence.wide k P fn tmps (bP ι H0 w0 v q) ds .returning w'
 | [],l,r,i,H,w',hM,hL,hH,hf,hr=>by rw[hM.1]at hr;cases hr;obtain⟨V,p,j⟩:=TW (a:={tmps:=tmps,defers:=[]}) hL hH fn f;exact⟨V,p,i,j,hH,hf⟩
 |x::ds,l,r,i,H,w',hM,hL,hH,hf,hr=>by
  rcases hM with⟨D,w,p,j,y,⟨W,X,R,S⟩,z⟩|⟨g,B,G,A,C,p,j,y,z⟩
  ·subst j;refine⟨by simp,.inl ⟨D,w'.putObj D (.deferred none),rfl,run_takeDeferred R,Nb t f ds l w i H _ (z.putObj y) hL ?_ ?_ hr⟩⟩
   ·exact⟨hH.top,λb s=>(hH.blk b s).keep λl J K=>World.putObj_heap_other (S b l s J K),λb l s p j=>by have:=hH.low b l s p j;simpa using this,hH.inj,hH.fresh,hH.free⟩
   ·exact⟨hf.le,hf.nx,hf.dom,hf.os,hf.tape,hf.output,by simpa using hf.size,λc M N=>by rw[World.putObj_heap_other (by omega)];exact hf.keep c M N,hf.new,hf.live⟩
  ·subst p;subst j;have m:(match O (.d g) B H with| .ok _ H'=>zh O G H'| .bad=>none)=some q:=hr;split at m
   ·rename_i Y H1 o;obtain⟨I,T⟩:=t.df _ _ _ _ _ o i w' _ hH y;have h:(A.toList++C.toList).toArray=A++C:=by simp
    rw[h]at I;refine⟨by simp,.inr ⟨λe=>by simp[Fence.wide]at e,.func g,C,g,(A.toList++C.toList).toArray,rfl,?_,λ_ _=>trivial,(T _).mono λe U u Q=>?_⟩⟩
    ·rw[h];simpa [invoke] using I
    ·obtain⟨rfl,E⟩:=Q;cases e with
     |returned V=>obtain⟨F,q1,q2,q3⟩:=E;exact Nb t f ds G r F H1 u (z.fr q3) (hL.mono q3.le) q2 (hf.trans q3) m
     |panicked=>exact E.elim
     |outgrown=>exact E.elim
   ·cases m
variable{h:List AV}
theorem LY(b:h.length<=d)(a:d+1<=262144):dl ((dV (gY (d+1)) d).f (qN h 0 (same .undef _)))=[]:=by have c:=Yw (d+1) a;rw[oS h 0 _ d (by omega) (by omega),sy (by omega),wR];rfl
def LR.start{args:List AV}{a:List Value}(b:aK ι args a){k:Nat}(d:args.length<=k)(c:k+1<=262144):LR ι (gY (k+1)) k (qN args 0 (same .undef _)) (a.toArray++Array.replicate (k-a.toArray.size) Go.undef):=by
 have f:=b.length;have g:=Yw (k+1) c;refine⟨by simp;omega,by omega,λi e=>?_⟩;rw[oS args 0 _ i (by omega) (by omega)];by_cases h:i<args.length
 ·obtain⟨v,j,l⟩:=b.get i args[i] (j0 h);have:(a.toArray++Array.replicate (k-a.toArray.size) Go.undef).getD i Go.undef=v:=by
   simp_all
  simp_all
 ·rw[sy (by omega),wR];have:(a.toArray++Array.replicate (k-a.toArray.size) Go.undef).getD i Go.undef=Go.undef:=by
   simp_all
  trivial
structure Vw(P:Program)(O:Call)(f:FuncId)(args:List AV)(H:Hp)(v:AV)(H':Hp) where
 fn:Func
 c:Code
 hfn:P.funcs[f]? =some fn
 hname:¬fn.name = "runtime.NumGoroutine"
 hbody:fn.body=some c
 hb1:args.length<=fn.ntmps
 hb2:fn.ntmps+1<=262144
 ex:Ex
 L':TT AV (gY (fn.ntmps+1))
 H1:Hp
 run:(bj P (gY (fn.ntmps+1)) fn.ntmps c).f O (qN args 0 (same .undef _)) H=.ok ex L' H1
 hex:ex=.normal\/ex=.ret
 dfr:zh O (dl ((dV (gY (fn.ntmps+1)) fn.ntmps).f L')) H1=some H'
 res:(ey P (gY (fn.ntmps+1)) fn.ntmps fn.results.toList).f L' H'=some v
variable{I:FuncId}
theorem Yk{j:Hp}(a:(aI P I).f O h H=.ok D j):Nonempty (Vw P O I h H D j):=by
 unfold aI at a;split at a
 ·cases a
 ·rename_i fn l;split at a
  ·cases a
  ·rename_i d;split at a
   ·cases a
   ·rename_i c g;simp only at a;cases i:(Nat.ble h.length fn.ntmps&&Nat.ble (fn.ntmps+1) 262144)with
    |false=>rw[i]at a;cases a
    |true=>
     rw[i]at a;simp only[sA]at i;have m:∀{args:Ex} {k:TT AV (gY (fn.ntmps+1))} {H1:Hp},(bj P (gY (fn.ntmps+1)) fn.ntmps c).f O (qN h 0 (same .undef _)) H=.ok args k H1->(args=.normal\/args=.ret) ->
       kH fn.ntmps O (ey P (gY (fn.ntmps+1)) fn.ntmps fn.results.toList).f k H1=.ok D j->Nonempty (Vw P O I h H D j):=λ{args k H1} n o b=>by
      unfold kH at b;split at b
      ·rename_i r p;unfold dJ at b;split at b
       ·rename_i u q;cases b;exact⟨⟨fn,c,l,λe=>d (by rw[e];rfl),g,eQ i.1,eQ i.2,args,k,H1,n,o,p,q⟩⟩
       ·cases b
      ·cases b
     unfold Dv at a
     grind
variable{F:List Value}
theorem z1l(c:eK P O)(args:P.follows .mixedOrders=true){d:Hp}(i:(aI P I).f O h H=.ok D d)(j:HR ι H w)(l:aK ι h F):(callFunc I F.toArray).run P w=.ok (.enter I F.toArray) w/\∀m,CallsIn Fence.wide m P I F.toArray w (bP ι H w D d):=by
 obtain⟨K⟩:=Yk i;refine⟨by simp[callFunc,K.hfn,K.hname,K.hbody],λm=>?_⟩;have b:=LR.start l K.hb1 K.hb2;refine callsIn_of_wp_marks K.hfn K.hbody trivial ?_;refine Iy (m:=m) c args K.c Fence.aAZ (.inl rfl) (pl:=false) (lo:=w.heap.size) j b (λe=>by cases e) (by rw[LY K.hb1 K.hb2];exact Md.nil (AF _)) K.run λg w' n o p q r=>?_;obtain⟨_,_,s,t⟩:=p;have:=Nb (k:=m) (fn:=K.fn) (tmps:=g.tmps) (v:=D) c K.res g.defers _ s n K.H1 w' t o q r K.dfr;rcases K.hex with e|e
 ·rw[e];exact this
 ·rw[e];exact this
theorem z1m(y:eK P O)(z:P.follows .mixedOrders=true){j:Hp}(A:(aI P I).f O h H=.ok D j)(k:Cq P I=true)(B:HR ι H w)(C:aK ι h F):(callFunc I F.toArray).run P w=.ok (.enter I F.toArray) w/\∀m,CallsDIn Fence.wide m P I F.toArray .returning w (λe v w'=>v=.returning/\bP ι H w D j e w'):=by
 obtain⟨⟨fn,c,b,d,a,g,args,M,N,H1,r,s,i,t⟩⟩:=Yk A;refine⟨by simp[callFunc,b,d,a],λm=>?_⟩;have o:=LR.start C g args;have p:lY c=true:=by unfold Cq at k;rw[b]at k;simp only[a]at k;exact k
 refine callsDIn_of_wp (R:=bP ι H w D j) b a trivial ?_;refine Iy (m:=m) y z c Fence.aAZ (.inl rfl) (pl:=true) (lo:=w.heap.size) B o (λ_=>p) (by rw[LY g args];exact Md.nil (AF _)) r λE w' l G f u J=>?_;obtain⟨n,_,Q,x⟩:=f;have n:=n rfl;rw[n]at x;rw[x.1]at i;have q:H1=j:=Option.some.inj i;subst q;obtain⟨V,K,L⟩:=TW G u fn t;have:bodyPost P fn (bP ι H w D H1) .normal E w':=⟨n,V,K,l,L,u,J⟩;rcases s with rfl|rfl
 ·exact this
 ·exact this
theorem UK:∀(ps:List Tmp) (args:List AV) (a:List Value) {L:TT AV d} {tmps:Array Value},LR ι d n L tmps->aK ι args a->ps.length=args.length->(∀p∈ps,p<n) -> LR ι d n (ie L ps args) ((ps.zip a).foldl (λtmps x=>tmps.setIfInBounds x.1 x.2) tmps)
 | [],args,a,L,tmps,h,ha,hl,_=>by trivial
 |p::ps,[],a,L,tmps,h,ha,hl,_=>by simp at hl
 |p::ps,x::args,a,L,tmps,h,ha,hl,hp=>by obtain⟨X,R,rfl,c,e⟩:=ha;exact UK ps args R (h.set (hp p (by simp)) c) e (by grind) λq b=>hp q (by simp[b])
theorem S1(a:n<8 ^ d):∀(ps:List Tmp) (args:List AV) {L:TT AV d},(∀p∈ps,p<n)->(dV d n).f (ie L ps args)=(dV d n).f L
 | [],args,L,_=>by unfold ie;rfl
 |p::ps,[],L,_=>by unfold ie;rfl
 |p::ps,x::args,L,h=>by unfold ie;have b:=h p (by simp);rw[S1 a ps args λq c=>h q (by simp[c]),je _ _ _ _ _ a (vk b a),sy (λe=>absurd (e▸b) (dC _))]
def LR.slot{L:TT AV d}{tmps:Array Value}(h:LR ι d n L tmps)(v:AV):LR ι d n ((ak d n).f L v) tmps:=by refine⟨h.size,h.fits,λi a=>?_⟩;rw[je _ _ _ _ _ (vk a h.fits) h.fits,sy (by omega)];exact h.get i a
theorem zi4(hC:eK P O)(hm:P.follows .mixedOrders=true){b:Nat}{H':Hp}(g:jh P O b h H=.ok D H'){loc:cv}(X:HR ι H w)(ha:aK ι h F)(i:ι b=some loc):∃f tmps c args,(Instr.yield loc.blk F.toArray).run P w=.ok (.round loc.blk f tmps c args) w/\∀m,RoundIn Fence.wide m P loc.blk f tmps c args w (bP ι H w D H'):=by
 have q:=X.lt i;unfold jh at g;split at g
 ·rename_i d n L ps c args M;cases C:(Nat.beq ps.length h.length&&ps.all (λp=>Nat.blt p n))with
  |false=>rw[C]at g;cases g
  |true=>
   rw[C]at g;simp only[sA,lEN]at C;have hb1:=AK C.1;have v:=X.blk b q;rw[M]at v;obtain⟨l,U,b1,b2,b3,b4,b5,b6,b7,V,b9,N⟩:=v;rw[i]at b1;cases b1;have hy:=run_yield (P:=P) (args:=F.toArray) b2 (by
    have:=ha.length;have:U.params.size=ps.length:=by grind
    simp;omega)
   refine⟨_,_,_,_,hy,λm=>?_⟩;have hLR:=UK ps h F (V.slot .undef) ha hb1 (λp Y=>yS (C.2 p Y));have hsl:dl ((dV d n).f (ie ((ak d n).f L .undef) ps h))=[]:=by rw[S1 V.fits ps h λp Y=>yS (C.2 p Y),je _ _ _ _ _ V.fits V.fits,sB rfl];rfl
   have htm:(U.params.zip F.toArray).foldl (λtmps (t,a)=>tmps.setIfInBounds t a) U.tmps=(ps.zip F).foldl (λtmps x=>tmps.setIfInBounds x.1 x.2) U.tmps:=by rw[<-b5,<-Array.foldl_toList];simp
   rw[htm,b6,b7];split at g
   ·rename_i L1 H1 h1;split at g
    ·rename_i d' n' L' ps' xP u y;refine roundIn_of_wpIn (F:=Fence.wide) trivial ?_;refine Iy (m:=m) hC hm c (Fence.pJ _) (.inr b9) (pl:=true) (lo:=0) X hLR (λ_=>b9) (by rw[hsl];exact Md.nil (vy _)) h1 λa1 w1 ι1 r1 r2 Z r4=>?_;have E:=r4.le _ _ i;have G:=Z.blk b q;rw[y]at G;obtain⟨l1,Q,c1,c2,c3,c4,c5,c6,c7,c8,c9,c10⟩:=G;rw[E]at c1;cases c1;refine⟨_,run_beginRound c2 (by rw[c3];rfl),?_⟩;have I:loc.blk<w1.heap.size:=Z.low b loc q (by rw[y];rfl) E;obtain⟨z1,z2⟩:=Z.xS (k:=.loop false none d' n' L' ps' xP u) (o:=.loop {Q with state:=.busy}) E (by rw[y];rfl)
      ⟨loc,{Q with state:=.busy},E,World.putObj_heap_same I,rfl,c4,c5,c6,c7,c8,c9,c10⟩
     unfold bc at g;split at g
     ·cases g
     ·rename_i e L2 H2 h2;split at g
      ·cases g
      ·rename_i j W;split at g
       ·rename_i d2 n2 L3 R S T z;cases g;refine Iy (m:=m) hC hm args (Fence.pJ _) (.inr N) (pl:=true) (lo:=0) z1 (r1.mono z2.le) (λ_=>N) (r2.fr z2) h2 λa2 w2 ι2 s1 s2 s3 s4=>?_;have s:=s4.le _ _ E;have J:=s3.blk b q;rw[z]at J;obtain⟨l2,A,g1,g2,g3,g4,g5,g6,g7,g8,g9,g10⟩:=J;rw[s]at g1;cases g1;have K:loc.blk<w2.heap.size:=s3.low b loc q (by rw[z];rfl) s;obtain⟨y1,y2⟩:=s3.xS (k:=.loop j.isNone j d2 n2 L3 R S T) (o:=.loop {A with state:=if j.isNone then .ready else .done,pending:=j}) s (by rw[z];rfl)
         ⟨loc,{A with state:=if j.isNone then .ready else .done,pending:=j},s,World.putObj_heap_same K,by cases j<;>rfl,rfl,g5,g6,g7,g8,g9,g10⟩
        have hR:bP ι H w (.bool j.isNone) (H2.put b (.loop j.isNone j d2 n2 L3 R S T)) (.returned (.bool j.isNone)) (w2.putObj loc.blk (.loop {A with state:=if j.isNone then .ready else .done,pending:=j})):=
         ⟨ι2,by simp only[aQ],y1,((r4.trans z2).trans s4).trans y2⟩
        have r:=run_endRound (P:=P) j g2;cases e with
        |normal=>cases W;exact⟨_,_,r,hR⟩
        |ret=>cases W;exact⟨_,_,r,hR⟩
        |exit id=>cases W;exact⟨_,_,r,hR⟩
        |goto l=>cases W
       ·cases g
    ·cases g
   ·cases g
 ·cases g
end Go.Ev
end
noncomputable section
namespace Go.Ev
open Go.RowKit Go.WideShapes Go.ChangeShapes
variable {P:Program} {w:World}
def Ft(n b:Nat):Hp.get ⟨Hp.empty.t,n⟩ b=.dead:=by
 show(bif Nat.blt b 2097152 then(dV HD b).f (same cZ.dead HD)else cZ.dead)=cZ.dead;cases Nat.blt b 2097152 with
 |true=>exact wR _ _ b
 |false=>rfl
theorem HR.empty:HR (λ_=>none) Hp.empty w:=by have a:∀b,Hp.empty.get b=.dead:=λb=>Ft 0 b;exact⟨vG,λb _=>by rw[a];trivial,λb l _ _ h=>(by cases h),λb c l m _ _ _ _ h=>(by cases h),λ_ _=>rfl,λb _ _=>a b⟩
noncomputable section
variable {Hd:Type} {enc:TypeId×Value->Hd}
def zb0{f:Func}{s:ChangeSpec}{c k d l:Bool}{W o:World}{args:Array Value}{v:Value}{ds q:List (DataW Hd)}{a pa pv:List MemPlace}(y:DataW.Whole enc P f.params.toList s.vars c W args.toList ds q a)(h:∀(b:Nat) (sp:Nat->Bool) (D:Bool),DataW.TrodAll enc P o b sp D f.resultTypes.toList (v.resultList f.resultTypes.size) (s.fn Hd (ds++q)).results [])(e:∀sp:Nat->Bool,(∀p∈a,sp p.block=true)->DataW.TrodAll enc P o 0 sp true f.params.toList args.toList (s.fn Hd (ds++q)).args pa)(g:∀sp:Nat->Bool,(∀p∈a,sp p.block=true)->DataW.TrodVars enc P o sp s.vars (s.fn Hd (ds++q)).vars pv)(z:a=pa++pv)(B:Below W.heap.size W o)(A:∀(j:Nat) (t:TypeId) (r:Value),f.resultTypes[j]? =some t->(v.resultList f.resultTypes.size)[j]? =some r->Value.okWide P o .any 0 t r):s.post enc P f c k d l W args v o:=by
 subst z;have w:=y.lt;have i:∀p∈pa++pv,decide (p.block<W.heap.size)=true:=λp m=>j7 (w p m);refine⟨ds,q,pa++pv,[],pa,pv,y,h _ _ _,e (λb=>decide (b<W.heap.size)) i,g (λb=>decide (b<W.heap.size)) i,World.keptBut_mono (λp m=>⟨m,.inr (lAJ.1 m)⟩) (B.frame (· ∈ pa++pv)),λ_=>?_⟩;obtain⟨_,_,_,_,_,n,C⟩:=y;refine⟨A,_,_,([]++pa)++pv,⟨[]++pa,pv,trodAll_append (e _ λ_ _=>rfl) (h _ _ _),g _ λ_ _=>rfl,rfl,λb u m=>?_,λE=>?_⟩,λp m _=>?_⟩
 ·have x:MemPlace.cell b u∈pa++pv:=by simpa using m
  rw[B.frozen (w _ x)];exact n b u x
 ·simp_all
 ·grind
end
end Go.Ev
end
noncomputable section
namespace Go.Ev
def zZ(P:Program)(f:FuncId):Fd:=aI P f
theorem Li(P:Program)(f:FuncId):zZ P f=aI P f:=rfl
def El(P:Program)(O:Call):=jh P O
theorem Uk(P:Program)(O:Call):El P O=jh P O:=rfl
abbrev cj:=FuncId->List AV->Hp->Option R1
def gZ(P:Program)(ext:cj)(n:Nat):Call:=
 Nat.rec (motive:=λ_=>Call) (λ_ _ _=>.bad) (λ_ a c args H=>@Cl.rec (λ_=>R1) (λf=>@Option.rec R1 (λ_=>R1) ((zZ P f).f a args H) (λr=>r) (ext f args H)) (λl=>El P a l args H) (λf=>@Bool.rec (λ_=>R1) .bad ((zZ P f).f a args H) (Cq P f)) c) n
def zD:cj:=λ_ _ _=>none
end Go.Ev
end
noncomputable section
namespace Go.Ev
open Go.RowKit
variable {P:Program} {w:World} {ι:Im} {H:Hp}
structure xM(P:Program)(ext:cj):Prop where
 fn:∀f args H r,ext f args H=some r->∀v H',r=.ok v H'->∀ι w bE,HR ι H w->aK ι args bE ->
  (callFunc f bE.toArray).run P w=.ok (.enter f bE.toArray) w/\∀m,CallsIn Fence.wide m P f bE.toArray w (bP ι H w v H')
def M5:xM P zD:=⟨λ_ _ _ _ h=>by cases h⟩
theorem w6(m:P.follows .mixedOrders=true){ext:cj}(j:xM P ext):∀k,eK P (gZ P ext k)
 |0=>⟨(λf args H v a h=>by cases h),(λb args H v a h=>by cases h),(λb args H v a h=>by cases h)⟩
 |k+1=>by
  have ih:=w6 m j k;refine⟨λf args H v a h ι w d e g=>?_,λb args H v a h ι w d loc e g n=>?_,λf args H v a h ι w d e g=>?_⟩
  ·have c:@Option.rec R1 (λ_=>R1) ((zZ P f).f (gZ P ext k) args H) (λr=>r) (ext f args H)=.ok v a:=h;cases i:ext f args H with
   |none=>
    rw[i]at c
    grind [Li,z1l]
   |some r=>rw[i]at c;exact j.fn f args H r i v a c ι w d e g
  ·have c:El P (gZ P ext k) b args H=.ok v a:=h;rw[Uk]at c
   grind [zi4]
  ·have c:@Bool.rec (λ_=>R1) .bad ((zZ P f).f (gZ P ext k) args H) (Cq P f)=.ok v a:=h;cases l:Cq P f with
   |false=>rw[l]at c;cases c
   |true=>
    rw[l]at c
    grind [Li,z1m]
def HR.of_below(h:HR ι H w){w':World}(a:Below w.heap.size w w'):HR ι H w'/\Fr ι ι H H w w':=by
 have e:∀c,c<w.heap.size->w'.heap[c]? =w.heap[c]? :=a.block;refine⟨⟨h.top,λb d=>(h.blk b d).keep λl i j=>e _ (h.low b l d i j),λb l d f g=>AE (h.low b l d f g) a.size,h.inj,h.fresh,h.free⟩,
  ⟨Im.le_refl _,AF _,λb f g=>absurd f g,a.os,a.tape,a.output,a.size,λc k _=>e c k,λb l a f g=>.inr ⟨b,l,a,f,g,rfl⟩,λb l a f g=>.inr ⟨b,l,a,f,g,rfl⟩⟩⟩
def I1(P:Program)(f:FuncId):Prop:=∀w,Calls P f #[] w λe w'=>e=.returned (.bool true)/\Below w.heap.size w w'
def lz(P:Program)(f:FuncId):Bool:=
 match P.funcs[f]? with
 |some fn=>fn.body.isSome&& !(fn.name == "runtime.NumGoroutine")
 |none=>false
def Em(tbl:List FuncId):cj:=λf args H=>
 match args with
 | []=>bif tbl.any (Nat.beq f)then some (.ok (.bool true) H)else none
 |_=>none
def zi5{tbl:List FuncId}(h:∀f∈tbl,I1 P f)(hb:tbl.all (lz P)=true):xM P (Em tbl):=by
 refine⟨λf args H r he v H' hr ι w bE hH ha=>?_⟩;unfold Em at he;split at he
 ·cases hc:tbl.any (Nat.beq f)with
  |false=>rw[hc]at he;cases he
  |true=>
   rw[hc]at he;simp only[AN,AH]at he;subst he;cases hr;subst ha;obtain⟨g,hg,e⟩:=lIE.1 hc;have e:=AK e;subst e;have hbf:=lEN.1 hb f hg;unfold lz at hbf;split at hbf
   ·rename_i fn hfn;simp only[sA,dh]at hbf;refine⟨?_,λm=>callsIn_wide.2 ((h f hg w).mono λe w' hp=>?_)⟩
    ·obtain⟨c,hc'⟩:=lOX.1 hbf.1
     have hname':¬fn.name = "runtime.NumGoroutine" :=λe=>by grind
     simp[callFunc,hfn,hname',hc']
    ·obtain⟨rfl,hw⟩:=hp;obtain⟨k1,k2⟩:=hH.of_below hw;exact⟨ι,by simp only[aQ],k1,k2⟩
   ·cases hbf
 ·cases he
def zbb(c:P.follows .mixedOrders=true){ext:cj}(d:xM P ext){k:Nat}{f:FuncId}(h:z6 (gZ P ext k (.f f) [] Hp.empty)=true):I1 P f:=by
 intro w;unfold z6 at h;split at h
 ·rename_i b m g;subst h;have:=((w6 c d k).fn _ _ _ _ _ g (λ_=>none) w [] HR.empty (by simp[aK])).2 0;refine(callsIn_wide.1 this).mono λe w' a=>?_;cases e with
  |returned V=>obtain⟨n,i,o,j⟩:=a;exact⟨by rw[i],j.below _ (AF _) λb l _ _ h=>by cases h⟩
  |panicked=>exact a.elim
  |outgrown=>exact a.elim
 ·cases h
end Go.Ev
end
noncomputable section
namespace Go.Di
open Go.Ev
variable {d:Nat}
def G(L:TT AV d)(i:Nat):AV:=(dV d i).f L
abbrev Kt(d:Nat):=Ex->TT AV d->Hp->R1
def fin(r:Rc d)(K:Kt d):R1:=match r with| .bad=>.bad| .ok e L H=>K e L H
def qD(r:Rs d)(k:TT AV d->Hp->R1):R1:=match r with| .bad=>.bad| .ok L H=>k L H
def I9(r:Rx d)(k:TT AV d->Hp->List Pd->List Wt->R1):R1:=match r with| .bad=>.bad| .ok L H p w=>k L H p w
def nrm(r:R0)(H:Hp):Option (AV×Hp):=match r with| .bad=>none| .val v=>some (v,H)| .new v b=>some (v,aH H b)
def vq(r:R0)(H:Hp)(k:AV->Hp->R1):R1:=match nrm r H with|none=>.bad|some p=>k p.1 p.2
def ve(r:R1)(k:AV->Hp->R1):R1:=match r with| .bad=>.bad| .ok v H=>k v H
def Ag(w:Option Bool)(r:R0)(H:Hp)(k:AV->Hp->R1):R1:=match w with|some true=>vq r H k|some false=>k .undef H|none=>.bad
def Ax(w:Option Bool)(r:R1)(H:Hp)(k:AV->Hp->R1):R1:=match w with|some true=>ve r k|some false=>k .undef H|none=>.bad
def bI(want:Bool)(v:AV):Option Bool:=match v with| .bool b=>some (b==want)| .undef=>some false|_=>none
def cd(x:AV)(a b:R1):R1:=match x with| .bool true=>a| .bool false=>b|_=>.bad
def sn(lk al:Bool)(i A nm:Nat)(H:Hp)(p:List Pd)(w:List Wt)(f:Hp->R0)(g:Option Bool)(k:AV->Hp->List Pd->List Wt->R1):R1:=
 match g with
 |none=>.bad
 |some false=>k .undef H p w
 |some true=>match f (eB A p H)with
  | .bad=>.bad
  | .val v=>k v H p (bif lk then⟨i,A,f,v⟩::w else w)
  | .new v b=>bif al&&b.wr then k v H (⟨i,nm,b⟩::p) w else .bad
def si(A:Nat)(H:Hp)(p:List Pd)(w:List Wt)(r:R1)(g:Option Bool)(k:AV->Hp->List Pd->List Wt->R1):R1:=
 match g with
 |none=>.bad
 |some false=>k .undef H p w
 |some true=>match r with
  | .bad=>.bad
  | .ok v H'=>bif eR (sK A p) H' (sS A w)then k v H' (sK A p) (sS A w)else .bad
def vl(r:R0)(k:AV->R1):R1:=match r with| .bad=>.bad| .val v=>k v| .new _ _=>.bad
def vm(w:Option Bool)(r:R0)(k:AV->R1):R1:=match w with|some true=>vl r k|some false=>k .undef|none=>.bad
def vg:Option Bool->R0->Hp->(AV->Hp->R1)->R1:=Classical.choose (⟨Ag,rfl⟩:∃f,f=Ag)
theorem IF:vg=Ag:=sZ (⟨Ag,rfl⟩:∃f,f=Ag)
def mL:Option Bool->R1->Hp->(AV->Hp->R1)->R1:=Classical.choose (⟨Ax,rfl⟩:∃f,f=Ax)
theorem DG:mL=Ax:=sZ (⟨Ax,rfl⟩:∃f,f=Ax)
def iw:Option Bool->R0->(AV->R1)->R1:=Classical.choose (⟨vm,rfl⟩:∃f,f=vm)
theorem EE:iw=vm:=sZ (⟨vm,rfl⟩:∃f,f=vm)
def dq:Bool->Bool->Nat->Nat->Nat->Hp->List Pd->List Wt->(Hp->R0)->Option Bool->(AV->Hp->List Pd->List Wt->R1)->R1:=Classical.choose (⟨sn,rfl⟩:∃f,f=sn)
theorem IR:dq=sn:=sZ (⟨sn,rfl⟩:∃f,f=sn)
def de:Nat->Hp->List Pd->List Wt->R1->Option Bool->(AV->Hp->List Pd->List Wt->R1)->R1:=Classical.choose (⟨si,rfl⟩:∃f,f=si)
theorem IU:de=si:=sZ (⟨si,rfl⟩:∃f,f=si)
def Yp(a:TT AV d->AV->TT AV d)(L:TT AV d)(H:Hp)(r:R0)(k:TT AV d->Hp->R1):qD (sk a L H r) k=vq r H λv H=>k (a L v) H:=by cases r<;>rfl
def Yq(a:TT AV d->AV->TT AV d)(L:TT AV d)(r:R1)(k:TT AV d->Hp->R1):qD (sj a L r) k=ve r λv H=>k (a L v) H:=by cases r<;>rfl
structure qB(d:Nat) where f:Ev.Call->TT AV d->Hp->(TT AV d->Hp->R1)->R1
def PQ(P:Program)(d n:Nat)(ops:Array Oper)(o:Oper):qB d:=
 match lZ P d n o,o.guard,yE d n ops o,eO d n o.dst with
 | .q _ f,none,_,⟨put⟩=>⟨λ_ L H k=>vq (f H.nx L H) H λv H=>k (put L v) H⟩
 | .e f,none,_,⟨put⟩=>⟨λO L H k=>ve (f O L H) λv H=>k (put L v) H⟩
 | .q _ f,some _,⟨w⟩,⟨put⟩=>⟨λ_ L H k=>vg (w L) (f H.nx L H) H λv H=>k (put L v) H⟩
 | .e f,some _,⟨w⟩,⟨put⟩=>⟨λO L H k=>mL (w L) (f O L H) H λv H=>k (put L v) H⟩
theorem O2(P:Program)(d n:Nat)(ops:Array Oper)(o:Oper)(O:Ev.Call)(L:TT AV d)(H:Hp)(k:TT AV d->Hp->R1):qD ((th P d n ops o).f O L H) k=(PQ P d n ops o).f O L H k:=by
 unfold th PQ;generalize lZ P d n o=x;generalize o.guard=g;generalize yE d n ops o=w;generalize eO d n o.dst=p;obtain⟨w⟩:=w;cases x with
 |q l f=>cases g with
  |none=>exact Yp ..
  |some j=>
   show qD (mV (w L) _ _) k=vg (w L) _ H _;rw[IF];cases h:w L with
   |none=>rfl
   |some b=>cases b with
    |true=>exact Yp ..
    |false=>rfl
 |e f=>cases g with
  |none=>exact Yq ..
  |some j=>
   show qD (mV (w L) _ _) k=mL (w L) _ H _;rw[DG];cases h:w L with
   |none=>rfl
   |some b=>cases b with
    |true=>exact Yq ..
    |false=>rfl
def EG(P:Program)(d n:Nat)(ops:Array Oper)(o:Oper):qB d:=
 match va o with
 |none=>PQ P d n ops o
 |some _=>match jn P d n ops o with|⟨g⟩=>⟨λO L H k=>qD (g O L H) k⟩
theorem zj0(P:Program)(d n:Nat)(ops:Array Oper)(o:Oper)(O:Ev.Call)(L:TT AV d)(H:Hp)(k:TT AV d->Hp->R1):qD ((jn P d n ops o).f O L H) k=(EG P d n ops o).f O L H k:=by
 unfold EG;cases h:va o with
 |none=>simp only;rw[<-O2];unfold jn;rw[h]
 |some c=>rfl
def DH(P:Program)(d n:Nat)(ops:Array Oper):List Oper->qB d
 | []=>⟨λ_ L H k=>k L H⟩
 |o::r=>match EG P d n ops o,DH P d n ops r with|⟨g⟩,⟨h⟩=>⟨λO L H k=>g O L H λL H=>h O L H k⟩
theorem zlg(P:Program)(d n:Nat)(ops:Array Oper)(O:Ev.Call):∀(l:List Oper) (L:TT AV d) (H:Hp) (k:TT AV d->Hp->R1), qD ((vP P d n ops l).f O L H) k=(DH P d n ops l).f O L H k
 | [],_,_,_=>rfl
 |o::r,L,H,k=>by
  show qD (IK ((jn P d n ops o).f O L H) ((vP P d n ops r).f O)) k=(EG P d n ops o).f O L H λL H=>(DH P d n ops r).f O L H k;rw[<-zj0];cases (jn P d n ops o).f O L H with
  |bad=>rfl
  |ok L H=>exact zlg P d n ops O r L H k
structure PM(d:Nat) where f:Ev.Call->Nat->TT AV d->Hp->List Pd->List Wt->(TT AV d->Hp->List Pd->List Wt->R1)->R1
def Aa(P:Program)(d n:Nat)(ops:Array Oper)(i A:Nat)(o:Oper):PM d:=
 match lZ P d n o,oQ d n (mP ops o),yE d n ops o,eO d n o.dst with
 | .q lk f,⟨pj⟩,⟨w⟩,⟨put⟩=>⟨λ_ base L H p ws k=>dq lk (jl o.op&& !lk) i A (base+i) H p ws (f (base+i) (pj L)) (w (pj L)) λv H p ws=>k (put L v) H p ws⟩
 | .e f,⟨pj⟩,⟨w⟩,⟨put⟩=>⟨λO _ L H p ws k=>de A H p ws (f O (pj L) (eB A p H)) (w (pj L)) λv H p ws=>k (put L v) H p ws⟩
theorem zjx(P:Program)(d n:Nat)(ops:Array Oper)(i A:Nat)(o:Oper)(O:Ev.Call)(base:Nat)(L:TT AV d)(H:Hp)(p:List Pd)(ws:List Wt)(k:TT AV d->Hp->List Pd->List Wt->R1):I9 ((pp P d n ops i A o).f O base L H p ws) k=(Aa P d n ops i A o).f O base L H p ws k:=by
 unfold pp Aa;generalize lZ P d n o=x;generalize oQ d n (mP ops o)=j;generalize yE d n ops o=w;generalize eO d n o.dst=pt;obtain⟨w⟩:=w;obtain⟨j⟩:=j;cases x with
 |q lk f=>
  dsimp only;rw[IR];unfold qX sn;cases w (j L)with
  |none=>rfl
  |some b=>cases b with
   |false=>rfl
   |true=>
    cases f (base+i) (j L) (eB A p H)with
    |bad=>rfl
    |val v=>rfl
    |new v b=>simp only;cases (jl o.op&& !lk&&b.wr)<;>rfl
 |e f=>
  dsimp only;rw[IU];unfold eX si;cases w (j L)with
  |none=>rfl
  |some b=>cases b with
   |false=>rfl
   |true=>
    cases f O (j L) (eB A p H)with
    |bad=>rfl
    |ok v H'=>simp only;cases eR (sK A p) H' (sS A ws)<;>rfl
def jp(P:Program)(d n:Nat)(ops:Array Oper)(ms:List Nat):List Nat->PM d
 | []=>⟨λ_ _ L H p w k=>k L H p w⟩
 |i::r=>match ops[i]? with
  |some o=>match Aa P d n ops i (ms.getD i 0) o,jp P d n ops ms r with|⟨g⟩,⟨h⟩=>⟨λO base L H p w k=>g O base L H p w λL H p w=>h O base L H p w k⟩
  |none=>⟨λ_ _ _ _ _ _ _=>.bad⟩
theorem Ss(P:Program)(d n:Nat)(ops:Array Oper)(ms:List Nat)(O:Ev.Call)(base:Nat):∀(l:List Nat) (L:TT AV d) (H:Hp) (p:List Pd) (w:List Wt) (k:TT AV d->Hp->List Pd->List Wt->R1), I9 ((vW P d n ops ms l).f O base L H p w) k=(jp P d n ops ms l).f O base L H p w k
 | [],_,_,_,_,_=>rfl
 |i::r,L,H,p,w,k=>by
  unfold vW jp;cases ops[i]? with
  |none=>rfl
  |some o=>
   show I9 (NA ((pp P d n ops i (ms.getD i 0) o).f O base L H p w) ((vW P d n ops ms r).f O base)) k=(Aa P d n ops i (ms.getD i 0) o).f O base L H p w λL H p w=>(jp P d n ops ms r).f O base L H p w k;rw[<-zjx];cases (pp P d n ops i (ms.getD i 0) o).f O base L H p w with
   |bad=>rfl
   |ok L H p w=>exact Ss P d n ops ms O base r L H p w k
def Ny(P:Program)(d n:Nat)(ops:Array Oper):qB d:=
 match tp P d n ops with
 |none=>⟨λ_ _ _ _=>.bad⟩
 |some pl=>match jp P d n ops pl.ms pl.ord with
  |⟨g⟩=>⟨λO L H k=>g O H.nx L ⟨H.t,H.nx+pl.up⟩ [] [] λL H p _=>k L (oW p H)⟩
theorem zvu(P:Program)(d n:Nat)(ops:Array Oper)(O:Ev.Call)(L:TT AV d)(H:Hp)(k:TT AV d->Hp->R1):qD ((js P d n ops).f O L H) k=(Ny P d n ops).f O L H k:=by
 unfold js Ny;cases tp P d n ops with
 |none=>rfl
 |some pl=>show qD (match(vW P d n ops pl.ms pl.ord).f O H.nx L ⟨H.t,H.nx+pl.up⟩ [] []with| .bad=>.bad| .ok L' H' pend _=>.ok L' (oW pend H')) k=(jp P d n ops pl.ms pl.ord).f O H.nx L ⟨H.t,H.nx+pl.up⟩ [] [] λL H p _=>k L (oW p H);rw[<-Ss];cases (vW P d n ops pl.ms pl.ord).f O H.nx L ⟨H.t,H.nx+pl.up⟩ [] []<;>rfl
def EQ(P:Program)(d n:Nat)(ops:Array Oper)(i:Nat):Bool:=match ops[i]? with|some o=> !mZ (lZ P d n o)&& !jl o.op|none=>false
def Nu(P:Program)(d n:Nat)(ops:Array Oper)(i:Nat)(o:Oper):qB d:=
 match lZ P d n o,oQ d n (mP ops o),o.guard,yE d n ops o,eO d n o.dst with
 | .q _ f,⟨pj⟩,none,_,⟨put⟩=>⟨λ_ L H k=>vl (f (H.nx+i) (pj L) H) λv=>k (put L v) H⟩
 | .q _ f,⟨pj⟩,some _,⟨w⟩,⟨put⟩=>⟨λ_ L H k=>iw (w (pj L)) (f (H.nx+i) (pj L) H) λv=>k (put L v) H⟩
 | .e _,_,_,_,_=>⟨λ_ _ _ _=>.bad⟩
def tr(P:Program)(d n:Nat)(ops:Array Oper):List Nat->qB d
 | []=>⟨λ_ L H k=>k L H⟩
 |i::r=>match ops[i]? with
  |some o=>match Nu P d n ops i o,tr P d n ops r with|⟨g⟩,⟨h⟩=>⟨λO L H k=>g O L H λL H=>h O L H k⟩
  |none=>⟨λ_ _ _ _=>.bad⟩
def zy3(lk:Bool)(i A nm:Nat)(H:Hp)(w:List Wt)(f:Hp->R0)(g:Option Bool)(k:AV->Hp->List Pd->List Wt->R1)(a:AV->R1)(h:∀v w,k v H [] w=a v):dq lk false i A nm H [] w f g k=iw g (f H) a:=by
 rw[IR,EE];unfold sn vm;cases g with
 |none=>rfl
 |some b=>cases b with
  |false=>exact h _ _
  |true=>
   show(match f H with| .bad=>R1.bad| .val v=>_| .new v b=>_)=vl (f H) a;cases f H with
   |bad=>rfl
   |val v=>exact h _ _
   |new v b=>rfl
theorem M2(P:Program)(d n:Nat)(ops:Array Oper)(ms:List Nat)(O:Ev.Call)(H:Hp):∀(l:List Nat),l.all (EQ P d n ops)=true->∀(L:TT AV d) (w:List Wt) (k:TT AV d->Hp->R1), (jp P d n ops ms l).f O H.nx L H [] w (λL H p _=>k L (oW p H))=(tr P d n ops l).f O L H k
 | [],_,_,_,_=>rfl
 |i::r,hl,L,w,k=>by
  rw[lq,sA]at hl;have a:=hl.1;unfold EQ at a;unfold jp tr;cases u:ops[i]? with
  |none=>simp[u]at a
  |some o=>
   rw[u]at a;simp only[sA,dh]at a;show(Aa P d n ops i (ms.getD i 0) o).f O H.nx L H [] w (λL x p w=>(jp P d n ops ms r).f O H.nx L x p w (λL H p _=>k L (oW p H)))=(Nu P d n ops i o).f O L H λL H=>(tr P d n ops r).f O L H k;unfold Aa Nu;have c:=a.2;have s:=a.1;have t:o.guard=none->(yE d n ops o).f=λ_=>some true:=λm=>by grind [yE]
   generalize yE d n ops o=g at t;generalize lZ P d n o=x2 at s;generalize oQ d n (mP ops o)=h;generalize eO d n o.dst=b;obtain⟨g⟩:=g;obtain⟨h⟩:=h;obtain⟨b⟩:=b;cases x2 with
   |e f=>cases s
   |q lk f=>
    cases m:o.guard with
    |none=>have e:=t m;subst e;rw[c];refine(zy3 lk i _ _ H w _ (some true) _ (λv=>(tr P d n ops r).f O (b L v) H k) λv w=>?_).trans (by rw[EE];rfl);exact M2 P d n ops ms O H r hl.2 (b L v) w k
    |some j=>rw[c];exact zy3 lk i _ _ H w _ (g (h L)) _ (λv=>(tr P d n ops r).f O (b L v) H k) λv w=>M2 P d n ops ms O H r hl.2 (b L v) w k
def Nw(P:Program)(d n:Nat)(ops:Array Oper):qB d:=
 match tp P d n ops with
 |none=>⟨λ_ _ _ _=>.bad⟩
 |some pl=>match pl.ord.all (EQ P d n ops)&&Nat.beq pl.up 0,tr P d n ops pl.ord,jp P d n ops pl.ms pl.ord with
  |true,⟨g⟩,_=>⟨g⟩
  |false,_,⟨g⟩=>⟨λO L H k=>g O H.nx L ⟨H.t,H.nx+pl.up⟩ [] [] λL H p _=>k L (oW p H)⟩
def zvt(P:Program)(d n:Nat)(ops:Array Oper)(O:Ev.Call)(L:TT AV d)(H:Hp)(k:TT AV d->Hp->R1):qD ((js P d n ops).f O L H) k=(Nw P d n ops).f O L H k:=by
 rw[zvu];unfold Ny Nw;cases tp P d n ops with
 |none=>rfl
 |some pl=>
  dsimp only;cases a:(pl.ord.all (EQ P d n ops)&&Nat.beq pl.up 0)with
  |false=>rfl
  |true=>rw[sA]at a;have b:=AK a.2;rw[b];exact M2 P d n ops pl.ms O H pl.ord a.1 L [] k
def mz(b:TT AV d->Hp->R1)(K:Kt d):Kt d:=λe L H=>match e with| .normal=>b L H|e=>K e L H
def rP(id:Nat)(K:Kt d):Kt d:=λe L H=>match e with| .exit i=>bif Nat.beq i id then K .normal L H else K (.exit i) L H|e=>K e L H
structure DnC(d:Nat) where f:Ev.Call->TT AV d->Hp->Kt d->R1
def pK(P:Program)(d n:Nat):Code->DnC d
 | .skip| .label _=>⟨λ_ L H K=>K .normal L H⟩
 | .region _ ops false=>match DH P d n ops ops.toList with|⟨g⟩=>⟨λO L H K=>g O L H (K .normal)⟩
 | .region _ ops true=>match Nw P d n ops with|⟨g⟩=>⟨λO L H K=>g O L H (K .normal)⟩
 | .seq a b=>match pK P d n a,pK P d n b with|⟨f⟩,⟨g⟩=>⟨λO L H K=>f O L H (mz (λL H=>g O L H K) K)⟩
 | .cond x a b=>match aM d n x,pK P d n a,pK P d n b with|⟨g⟩,⟨f⟩,⟨h⟩=>⟨λO L H K=>cd (g L) (f O L H K) (h O L H K)⟩
 | .block id b=>match pK P d n b with|⟨f⟩=>⟨λO L H K=>f O L H (rP id K)⟩
 | .scope b=>pK P d n b
 | .exit id=>⟨λ_ L H K=>K (.exit id) L H⟩
 | .ret=>⟨λ_ L H K=>K .ret L H⟩
 |c=>match bj P d n c with|⟨g⟩=>⟨λO L H K=>fin (g O L H) K⟩
def Yo(r:Rs d)(K:Kt d):fin (qH r) K=qD r (K .normal):=by cases r<;>rfl
theorem Lm(r:Rc d)(k:TT AV d->Hp->Rc d)(K:Kt d):fin (mR r k) K=fin r (mz (λL H=>fin (k L H) K) K):=by
 cases r with
 |bad=>rfl
 |ok e L H=>cases e<;>rfl
def QH(id:Nat)(r:Rc d)(K:Kt d):fin (A4 id r) K=fin r (rP id K):=by
 cases r with
 |bad=>rfl
 |ok e L H=>
  cases e with
  |exit i=>show fin (bif Nat.beq i id then _ else _) K=bif Nat.beq i id then _ else _;cases Nat.beq i id<;>rfl
  |_=>rfl
theorem oC(P:Program)(d n:Nat)(O:Ev.Call):∀(c:Code) (L:TT AV d) (H:Hp) (K:Kt d),fin ((bj P d n c).f O L H) K=(pK P d n c).f O L H K
 | .skip,_,_,_| .label _,_,_,_| .exit _,_,_,_| .ret,_,_,_| .goto _,_,_,_| .loop _,_,_,_| .rangeFunc ..,_,_,_| .refuse _,_,_,_=>rfl
 | .region _ ops false,L,H,K=>(Yo ..).trans (zlg ..)
 | .region _ ops true,L,H,K=>(Yo ..).trans (zvt ..)
 | .seq a b,L,H,K=>by refine(Lm ((bj P d n a).f O L H) ((bj P d n b).f O) K).trans ?_;rw[oC P d n O a];show(pK P d n a).f O L H (mz (λL H=>fin ((bj P d n b).f O L H) K) K)=(pK P d n a).f O L H (mz (λL H=>(pK P d n b).f O L H K) K);congr 2;funext L H;exact oC P d n O b L H K
 | .cond x a b,L,H,K=>by
  show fin (cf ((aM d n x).f L) ((bj P d n a).f O L H) ((bj P d n b).f O L H)) K=cd ((aM d n x).f L) ((pK P d n a).f O L H K) ((pK P d n b).f O L H K);rw[<-oC P d n O a,<-oC P d n O b];generalize (aM d n x).f L=v;cases v with
  |bool q=>cases q<;>rfl
  |_=>rfl
 | .block id b,L,H,K=>(QH ..).trans (oC P d n O b L H (rP id K))
 | .scope b,L,H,K=>oC P d n O b L H K
def Lk(P:Program)(d n:Nat)(O:Ev.Call)(c:Code)(K:Kt d)(D:TT AV d->Hp->R1):Prop:=∀L H,fin ((bj P d n c).f O L H) K=D L H
variable {P:Program} {n:Nat} {O:Ev.Call} {K:Kt d}
variable{D:TT AV d->Hp->R1}{h:Code}
def q0(c:∀L H,(pK P d n h).f O L H K=D L H):Lk P d n O h K D:=λL H=>(oC P d n O h L H K).trans (c L H)
variable{E:TT AV d->Hp->R1}{F:Code}
def mB(c:Lk P d n O F K E)(e:Lk P d n O h (mz E K) D):Lk P d n O (.seq h F) K D:=λL H=>by refine(Lm ((bj P d n h).f O L H) ((bj P d n F).f O) K).trans ?_;rw[show(λL H=>fin ((bj P d n F).f O L H) K)=E from funext λL=>funext λH=>c L H];exact e L H
def r8{id:Nat}(b:Lk P d n O h (rP id K) D):Lk P d n O (.block id h) K D:=λL H=>(QH ..).trans (b L H)
def kB(b:Lk P d n O h K D):Lk P d n O (.scope h) K D:=b
def pB{x:Operand}(c:Lk P d n O h K D)(e:Lk P d n O F K E):Lk P d n O (.cond x h F) K (λL H=>cd ((aM d n x).f L) (D L H) (E L H)):=λL H=>by
 show fin (cf ((aM d n x).f L) ((bj P d n h).f O L H) ((bj P d n F).f O L H)) K=cd ((aM d n x).f L) (D L H) (E L H);rw[<-c L H,<-e L H];generalize (aM d n x).f L=v;cases v with
 |bool q=>cases q<;>rfl
 |_=>rfl
def bZ:Nat:=Classical.choose (⟨bT,rfl⟩:∃n,n=bT)
theorem dD:bZ=bT:=sZ (⟨bT,rfl⟩:∃n,n=bT)
def pT{D:Nat->TT AV d->Hp->R1}(c:∀k,Lk P d n O h (mz (D k) K) (D (k+1)))(e:∀L H,D 0 L H=.bad:=by intros;kernel_rfl):Lk P d n O (.loop h) K (D bZ):=by
 have a:∀k L H,fin (py ((bj P d n h).f O) k L H) K=D k L H:=by
  intro k
  induction k with
  |zero=>intro L H;exact(e L H).symm
  |succ k ih=>intro L H;show fin (mR ((bj P d n h).f O L H) (py ((bj P d n h).f O) k)) K=_;rw[Lm,show(λL H=>fin (py ((bj P d n h).f O) k L H) K)=D k from funext λL=>funext λH=>ih L H];exact c k L H
 rw[dD];exact λL H=>a bT L H
def qS{c:Code}(h:Lk P d n O c K D)(e:∀L H,D L H=E L H:=by intros;kernel_rfl):Lk P d n O c K E:=λL H=>(h L H).trans (e L H)
def Jh(n:Nat)(O:Ev.Call)(res:TT AV d->Hp->Option AV):Kt d:=λe L H=>match e with| .normal=>kH n O res L H| .ret=>kH n O res L H|_=>.bad
def z0k(n:Nat)(O:Ev.Call)(a:TT AV d->Hp->Option AV)(r:Rc d):Dv n O a r=fin r (Jh n O a):=by
 cases r with
 |bad=>rfl
 |ok e L H=>cases e<;>rfl
def bh(f:Func):Code:=match f.body with|some c=>c|none=>.skip
def zve{f:FuncId}{F:Func}(hf:P.funcs[f]? =some F)(hn:(F.name == "runtime.NumGoroutine")=false) (hb:F.body.isSome=true) {args:List AV} (ha:(Nat.ble args.length F.ntmps&&Nat.ble (F.ntmps+1) 262144)=true)
  {D:TT AV (gY (F.ntmps+1))->Hp->R1} (h:Lk P (gY (F.ntmps+1)) F.ntmps O (bh F) (Jh F.ntmps O (ey P (gY (F.ntmps+1)) F.ntmps F.results.toList).f) D) (H:Hp) :
  (aI P f).f O args H=D (qN args 0 (same .undef _)) H:=by
 unfold aI;rw[hf];simp only[hn,tq,pz];unfold bh at h;cases hc:F.body with
 |none=>rw[hc]at hb;cases hb
 |some c=>rw[hc]at h;show(bif Nat.ble args.length F.ntmps&&Nat.ble (F.ntmps+1) 262144 then Dv F.ntmps O _ _ else .bad)=_;rw[ha,<-h _ H];exact z0k ..
end Go.Di
namespace Go.Di
open Go.Ev
variable {d n:Nat} {P:Program} {O:Ev.Call}
def dF:Code->Bool
 | .region _ ops _=> !(ops.toList.any tH)
 | .seq a b=>dF a&&dF b
 | .cond _ a b=>dF a&&dF b
 | .block _ b=>dF b
 | .loop b=>dF b
 | .scope b=>dF b
 | .rangeFunc .. =>true
 |_=>true
theorem znj{o:Oper}(h:tH o=false):va o=none:=by grind [tH,va]
theorem U1(f:n<8 ^ d){ops:Array Oper}:∀(l:List Oper),l.any tH=false->∀{L:TT AV d} {H:Hp} {a:TT AV d} {c:Hp},(vP P d n ops l).f O L H=.ok a c->(dV d n).f a=(dV d n).f L
 | [],_,L,H,a,c,h=>by cases h;rfl
 |o::r,hl,L,H,a,c,h=>by
  rw[List.any_cons,AU]at hl;have e:IK ((jn P d n ops o).f O L H) ((vP P d n ops r).f O)=.ok a c:=h;cases b:(jn P d n ops o).f O L H with
  |bad=>rw[b]at e;cases e
  |ok L1 H1=>rw[b]at e;unfold jn at b;rw[znj hl.1]at b;exact(U1 f r hl.2 e).trans (TR f b)
theorem ow(p:n<8 ^ d):∀(c:Code),dF c=true->∀{L:TT AV d} {H:Hp} {e:Ex} {l:TT AV d} {o:Hp},(bj P d n c).f O L H=.ok e l o->(dV d n).f l=(dV d n).f L
 | .skip,_,_,_,_,_,_,h| .label _,_,_,_,_,_,_,h| .exit _,_,_,_,_,_,_,h| .ret,_,_,_,_,_,_,h=>by cases h;rfl
 | .goto _,_,_,_,_,_,_,h| .refuse _,_,_,_,_,_,_,h=>by cases h
 | .rangeFunc f ps sa bd,_,L,H,e,l,o,h=>by
  rw[bj]at h;split at h
  ·cases h
  ·rename_i g _ _;have h:endLoop H.nx (ma O (g L) [.yield H.nx] (aH H (.loop true none d n L ps.toList sa bd))) L=.ok e l o:=h;unfold endLoop at h
   grind
 | .region _ ops false,hc,L,H,e,l,o,h=>by
  have j:qH ((vP P d n ops ops.toList).f O L H)=.ok e l o:=h;cases m:(vP P d n ops ops.toList).f O L H with
  |bad=>rw[m]at j;cases j
  |ok L1 H1=>rw[m]at j;cases j;exact U1 p _ (by simpa [dF] using hc) m
 | .region _ ops true,_,L,H,e,l,o,h=>by
  have j:qH ((js P d n ops).f O L H)=.ok e l o:=h;cases m:(js P d n ops).f O L H with
  |bad=>rw[m]at j;cases j
  |ok L1 H1=>rw[m]at j;cases j;exact Ub p m
 | .seq a b,hc,L,H,e,l,o,h=>by
  simp only[dF,sA]at hc;have j:mR ((bj P d n a).f O L H) ((bj P d n b).f O)=.ok e l o:=h;cases m:(bj P d n a).f O L H with
  |bad=>rw[m]at j;cases j
  |ok e1 L1 H1=>
   rw[m]at j;have g1:=ow p a hc.1 m;cases e1 with
   |normal=>exact(ow p b hc.2 j).trans g1
   |exit i=>cases j;exact g1
   |goto i=>cases j;exact g1
   |ret=>cases j;exact g1
 | .cond x a b,hc,L,H,e,l,o,h=>by
  simp only[dF,sA]at hc;have j:cf ((aM d n x).f L) ((bj P d n a).f O L H) ((bj P d n b).f O L H)=.ok e l o:=h;unfold cf at j;split at j
  ·exact ow p a hc.1 j
  ·exact ow p b hc.2 j
  ·cases j
 | .block id b,hc,L,H,e,l,o,h=>by
  have j:A4 id ((bj P d n b).f O L H)=.ok e l o:=h;cases m:(bj P d n b).f O L H with
  |bad=>rw[m]at j;cases j
  |ok e1 L1 H1=>
   rw[m]at j;have g1:=ow p b hc m;cases e1 with
   |exit i=>
    have r:(bif Nat.beq i id then Rc.ok .normal L1 H1 else Rc.ok (.exit i) L1 H1)=.ok e l o:=j;cases s:Nat.beq i id with
    |true=>rw[s]at r;cases r;exact g1
    |false=>rw[s]at r;cases r;exact g1
   |normal=>cases j;exact g1
   |goto i=>cases j;exact g1
   |ret=>cases j;exact g1
 | .loop b,hc,L,H,e,l,o,h=>by
  have q:∀(k:Nat) {L:TT AV d} {H:Hp},py ((bj P d n b).f O) k L H=.ok e l o->(dV d n).f l=(dV d n).f L:=by
   intro k
   induction k with
   |zero=>intro L H h;cases h
   |succ k ih=>
    intro L H h;have j:mR ((bj P d n b).f O L H) (py ((bj P d n b).f O) k)=.ok e l o:=h;cases m:(bj P d n b).f O L H with
    |bad=>rw[m]at j;cases j
    |ok e1 L1 H1=>
     rw[m]at j;have g1:=ow p b hc m;cases e1 with
     |normal=>exact(ih j).trans g1
     |exit i=>cases j;exact g1
     |goto i=>cases j;exact g1
     |ret=>cases j;exact g1
  exact q bT h
 | .scope b,hc,L,H,e,l,o,h=>ow p b hc h
def vn(res:TT AV d->Hp->Option AV):Kt d:=λe L H=>match e with| .normal=>dJ (res L H) H| .ret=>dJ (res L H) H|_=>.bad
def mA{c:Code}{K:Kt d}:Lk P d n O c K (λL H=>(pK P d n c).f O L H K):=λL H=>oC P d n O c L H K
def qqk{f:FuncId}{F:Func}(hf:P.funcs[f]? =some F)(hn:(F.name == "runtime.NumGoroutine")=false) (hb:F.body.isSome=true) (hd:dF (bh F)=true) {args:List AV} (ha:(Nat.ble args.length F.ntmps&&Nat.ble (F.ntmps+1) 262144)=true)
  {D:TT AV (gY (F.ntmps+1))->Hp->R1} (h:Lk P (gY (F.ntmps+1)) F.ntmps O (bh F) (vn (ey P (gY (F.ntmps+1)) F.ntmps F.results.toList).f) D) (H:Hp) :
  (aI P f).f O args H=D (qN args 0 (same .undef _)) H:=by
 refine(zve hf hn hb ha (D:=λL H=>fin ((bj P (gY (F.ntmps+1)) F.ntmps (bh F)).f O L H) (Jh F.ntmps O (ey P (gY (F.ntmps+1)) F.ntmps F.results.toList).f)) (λ_ _=>rfl) H).trans ?_;rw[<-h];cases h1:(bj P (gY (F.ntmps+1)) F.ntmps (bh F)).f O (qN args 0 (same .undef _)) H with
 |bad=>rfl
 |ok e L' H'=>
  have hs:=ow (AE (qh _) (gj _)) (bh F) hd h1;simp only[sA,Nat.ble_eq]at ha;have h0:=LY ha.1 ha.2;have hout:kH F.ntmps O (ey P (gY (F.ntmps+1)) F.ntmps F.results.toList).f L' H'=dJ ((ey P (gY (F.ntmps+1)) F.ntmps F.results.toList).f L' H') H':=by unfold kH;rw[hs,h0];rfl
  cases e with
  |normal=>exact hout
  |ret=>exact hout
  |exit i=>rfl
  |goto i=>rfl
end Go.Di
end
noncomputable section
namespace Go.Di
open Go.Ev
def dz(up:Nat)(H:Hp)(k:Nat->Hp->R1):R1:=k H.nx ⟨H.t,H.nx+up⟩
def zG(p:List Pd)(H:Hp)(k:Hp->R1):R1:=k (oW p H)
def rV(r:R0):Option AV:=match r with| .val v=>some v|_=>none
def dU(a:Option AV)(b:Option (List AV)):Option (List AV):=match a,b with|some v,some l=>some (v::l)|_,_=>none
def dY(a:Option (List AV)):Option AV:=match a with|some l=>some (.aX l)|none=>none
def pA(k:Nat):P1:=⟨λcs a=>some (.agg ((cs.drop a).take k))⟩
def p1:P1:=⟨λcs a=>cs[a]?⟩
def aW(x:AV):R0:=match x with| .ptr b o=>.val (.ptr b o)| .fn a b c=>.val (.fn a b c)| .yield l=>.val (.yield l)|_=>.bad
def aT(i:Nat)(x:AV):R0:=match x with| .aX l=>(match l[i]? with|some v=>.val v|none=>.bad)|_=>.bad
end Go.Di
end
noncomputable section
namespace Go.Ev
open Go.RowKit Go.Sort
variable {P:Program} {w:World} {ι:Im} {H:Hp}
def uU:List AV->Option (List Int)
 | []=>some []
 | .int .i64 z::l=>match uU l with|some r=>some (z::r)|none=>none
 |_::_=>none
def fH(zs:List Int):List Int:=zs.mergeSort λx y=>decide (x<=y)
def px(H:Hp)(b o n:Nat):Option R1:=
 match eY (H.get b) o n with
 |some l=>match uU l with
  |some zs=>match storeAt H b o ((fH zs).map λz=>.int .i64 z) (.aX [])with
   | .ok v H'=>bif Nat.blt n 4611686018427387904 then some (.ok v H')else none
   | .bad=>none
  |none=>none
 |none=>none
def HZ(f:FuncId)(e:cj):cj:=λg args H=>
 bif Nat.beq g f then(match args with
 | [.sl b o n _ _]=>px H b o n
 | [.aA]=>some (.ok (.aX []) H)
 |_=>none)else e g args H
theorem TC:∀{l:List AV} {zs:List Int},uU l=some zs->l=zs.map λz=>.int .i64 z
 | [],zs,h=>by cases h;rfl
 | .int .i64 z::l,zs,h=>by
  unfold uU at h;split at h
  ·rename_i r a;cases h;rw[TC a];rfl
  ·cases h
 | .int .i8 _::_,_,h| .int .i16 _::_,_,h| .int .i32 _::_,_,h| .int .u8 _::_,_,h| .int .u16 _::_,_,h| .int .u32 _::_,_,h| .int .u64 _::_,_,h=>by cases h
 | .undef::_,_,h| .lit _::_,_,h| .bool _::_,_,h| .str _ _::_,_,h| .ptr _ _::_,_,h| .bQ::_,_,h| .sl _ _ _ _ _::_,_,h| .aA::_,_,h| .sle::_,_,h| .map _::_,_,h| .bU::_,_,h| .fn _ _ _::_,_,h| .yield _::_,_,h| .iV::_,_,h| .iface _ _::_,_,h| .pV::_,_,h| .agg _::_,_,h| .aX _::_,_,h=>by cases h
def qT(P:Program)(f:FuncId):Prop:=∀(blk off cap:Nat) (zs:List Int) (w:World),Holds (Value.int .i64) w blk off zs.toArray->blk<w.heap.size->zs.length<4611686018427387904 ->
 Calls P f #[.slice (some ⟨blk,off,none⟩) zs.length cap] w λe w'=>e=.returned (.tuple #[])/\∃n os,w'=Go.Sort.grow (putRow (Value.int .i64) (Sort.ahead w n) blk off (fH zs).toArray) os
theorem UH(zs:List Int):(fH zs).length=zs.length:=zy _
variable{D E F I h:Nat}
def Ia{α:Type}[Inhabited α](enc:α->Value){c:TT AV D}{loc:cv}(q:HR ι H w)(x:H.get h=.cells D E c false F)(p:ι h=some loc){r d:Array α}(s:Holds enc w loc.blk (loc.base+I) r)(t:d.size=r.size){l:List AV}(B:l.length=d.size)(C:I+d.size<=E)(g:∀j,j<d.size->aQ ι (l.getD j .undef) (enc d[j]!)/\(enc d[j]!).oneCell=true)(k:Nat)(u:Array Obj):HR ι (H.put h (.cells D E (qN l I c) false F)) (Go.Sort.grow (putRow enc (Sort.ahead w k) loc.blk (loc.base+I) d) u)/\Fr ι ι H (H.put h (.cells D E (qN l I c) false F)) w (Go.Sort.grow (putRow enc (Sort.ahead w k) loc.blk (loc.base+I) d) u):=by
 have b:=q.lt p;have y:=q.blk h b;rw[x]at y;obtain⟨R,z,A,J,K⟩:=y;rw[p]at z;cases z;have i:HR ι (H.put h (.cells D E (qN l I c) false F)) (putRow enc (Sort.ahead w k) loc.blk (loc.base+I) d)/\Fr ι ι H (H.put h (.cells D E (qN l I c) false F)) w (putRow enc (Sort.ahead w k) loc.blk (loc.base+I) d):=by
  refine q.put b (by rw[x];rfl) p _ rfl rfl rfl (by rw[size_putRow];rfl) (λa e=>?_) ?_
  ·show(w.heap.modify loc.blk _)[a]? =_
   grind
  ·refine⟨loc,p,A,λj v=>?_,λ_ j v=>?_⟩
   ·have G:=A.1;rw[oS _ _ _ _ (by omega) (by omega),B];obtain⟨V,L,M,N,c4⟩:=J j v;by_cases n:I<=j/\j<I+d.size
    ·rw[sB n];obtain⟨O,P⟩:=g (j-I) (by omega);refine⟨enc d[j-I]!,?_,O,P,λ_=>?_⟩
     ·have Q:=cell?_putRow enc (Sort.ahead w k) loc.blk (loc.base+I) r d s t (j-I) (by omega)
      grind
     ·simp_all
    ·rw[sy n];refine⟨V,?_,M,N,λ_=>?_⟩
     ·rw[cell?_putRow_other _ _ _ _ _ _ (.inr (by grind))];exact L
     ·simp_all
   ·have o:=K rfl j v;rw[frozen?_putRow,cell?_putRow_other _ _ _ _ _ _ (.inr (by grind))];exact o
 obtain⟨g1,g2⟩:=i;have m:Below (putRow enc (Sort.ahead w k) loc.blk (loc.base+I) d).heap.size (putRow enc (Sort.ahead w k) loc.blk (loc.base+I) d) (Go.Sort.grow (putRow enc (Sort.ahead w k) loc.blk (loc.base+I) d) u):=⟨rfl,rfl,rfl,by rw[Go.Sort.size_grow];omega,λc f=>Go.Sort.heap_grow_old _ _ f⟩;obtain⟨g3,g4⟩:=g1.of_below m
 grind [g2.trans]
variable{N:List AV}
def Ba{b:cZ}(o:eY b h D=some N):∃e d c f g,b=.cells e d c f g/\h+D<=d/\N.length=D/\∀j,j<D->N[j]? =some ((dV e (h+j)).f c):=by
 cases b with
 |cells e d c f g=>
  have o:(bif Nat.ble (h+D) d then some (xI c D h)else none)=some N:=o;cases a:Nat.ble (h+D) d with
  |false=>rw[a]at o;cases o
  |true=>rw[a]at o;simp only[AN,AH]at o;subst o;exact⟨e,d,c,f,g,rfl,pX a,Fi c D h,zkt c D h⟩
 |_=>cases o
variable{O:Bool}{R:AV}
def E1{g:AV}{i:Hp}{c:TT AV E}(k:H.get h=.cells E F c O I)(b:storeAt H h D N R=.ok g i):O=false/\g=R/\i=H.put h (.cells E F (qN N D c) false I)/\D+N.length<=F:=by
 unfold storeAt dt at b;rw[k]at b;cases O with
 |true=>cases b
 |false=>
  dsimp only at b;cases a:Nat.ble (D+N.length) F with
  |false=>rw[a]at b;cases b
  |true=>rw[a]at b;cases b;exact⟨rfl,rfl,rfl,pX a⟩
variable{W:FuncId}
theorem ztu(J:qT P W){C:Hp}(b:px H h D E=some (.ok R C)){o:List Value}(s:HR ι H w)(K:aK ι [.sl h D E F O] o):Calls P W o.toArray w (bP ι H w R C):=by
 obtain⟨V,r,rfl,⟨N,loc,t,rfl⟩,rfl⟩:=K;unfold px at b;split at b
 ·rename_i l x;split at b
  ·rename_i zs Q;have M:=TC Q;split at b
   ·rename_i X Y B;cases i:Nat.blt E 4611686018427387904 with
    |false=>rw[i]at b;cases b
    |true=>
     rw[i]at b;cases b;have i:=pX i;obtain⟨v,Z,c,ro,zz,u,S,T,m⟩:=Ba x;obtain⟨rfl,rfl,rfl,_⟩:=E1 u B;have p:=s.lt t;have n:=s.blk h p;rw[u]at n;obtain⟨l',G,b2,U,b4⟩:=n;rw[t]at G;cases G;have y:zs.length=E:=by grind
     subst y;have g:∀j,j<zs.length->(dV v (D+j)).f c=.int .i64 zs[j]! :=λj a=>by grind
     have q:Holds (Value.int .i64) w loc.blk (loc.base+D) zs.toArray:=λj a=>by
      have a:j<zs.length:=by grind
      obtain⟨V,c1,I,c3,c4⟩:=U (D+j) (by omega);rw[g j a]at I;subst I
      grind
     have A:loc.blk<w.heap.size:=s.low h loc p (by rw[u];rfl) t;refine(J loc.blk (loc.base+D) (if O then F else F+loc.ext) zs w q A i).mono λe w' L=>?_;obtain⟨rfl,k,f,rfl⟩:=L;obtain⟨g1,g2⟩:=Ia (Value.int .i64) s u t q (d:=(fH zs).toArray) (l:=(fH zs).map λz=>.int .i64 z) (by simp[UH]) (by simp) (by grind) (λj a=>by
      have a:j<(fH zs).length:=by grind
      refine⟨?_,rfl⟩;rw[vt,AS,j0 a];simp[a,aQ]) k f
     exact⟨ι,by simp only[aQ,aK];exact⟨[],rfl,rfl⟩,g1,g2⟩
   ·cases b
  ·cases b
 ·cases b
def zoe(P:Program)(f:FuncId):Prop:=∀w,Calls P f #[.slice none 0 0] w λe w'=>e=.returned (.tuple #[])/\Below w.heap.size w w'
def Pf:R1->Bool
 | .ok (.aX []) _=>true
 | .ok _ _=>false
 | .bad=>false
variable{M:cj}
def qre(d:P.follows .mixedOrders=true)(g:xM P M)(k:Pf (gZ P M h (.f W) [.aA] Hp.empty)=true):zoe P W:=by
 intro w;unfold Pf at k;split at k
 ·rename_i m i;have:=((w6 d g h).fn _ _ _ _ _ i (λ_=>none) w [.slice none 0 0] HR.empty (by simp[aK,aQ])).2 0;refine(callsIn_wide.1 this).mono λe w' a=>?_;cases e with
  |returned V=>obtain⟨n,c,o,j⟩:=a;obtain⟨r,rfl,c⟩:=c;exact⟨by simp[c],j.below _ (AF _) λb l _ _ k=>by cases k⟩
  |panicked=>exact a.elim
  |outgrown=>exact a.elim
 ·cases k
 ·cases k
def A8{f:FuncId}(hb:lz P f=true)(A:Array Value):(callFunc f A).run P w=.ok (.enter f A) w:=by
 unfold lz at hb;split at hb
 ·rename_i fn hfn;simp only[sA,dh]at hb;obtain⟨c,hc'⟩:=lOX.1 hb.1
  have hname':¬fn.name = "runtime.NumGoroutine" :=λe=>by grind
  simp[callFunc,hfn,hname',hc']
 ·cases hb
def zbn(i:xM P M)(s:qT P W)(j:zoe P W)(k:lz P W=true):xM P (HZ W M):=by
 refine⟨λg args H r a v l c ι w n d h=>?_⟩;unfold HZ at a;cases b:Nat.beq g W with
 |false=>rw[b]at a;exact i.fn g _ H r a v l c ι w n d h
 |true=>
  rw[b]at a;obtain rfl:=AK b;refine⟨A8 k _,λm=>callsIn_wide.2 ?_⟩;split at a
  ·grind [ztu]
  ·cases a;cases c;obtain⟨V,r,rfl,rfl,rfl⟩:=h;refine(j w).mono λM w' o=>?_;obtain⟨rfl,p⟩:=o;obtain⟨q,k2⟩:=d.of_below p;exact⟨ι,by simp[aQ,aK],q,k2⟩
  ·cases a
structure Eg where
 (f t:Int)
 s:Bool
 deriving Inhabited
def gS(e:Eg):List AV:=[.int .i64 e.f,.int .i64 e.t,.bool e.s]
def egU(e:Eg):List Value:=[.int .i64 e.f,.int .i64 e.t,.bool e.s]
def qqq:List AV->Option (List Eg)
 | []=>some []
 | .int .i64 f:: .int .i64 t:: .bool s::l=>match qqq l with|some r=>some (⟨f,t,s⟩::r)|none=>none
 |_=>none
def cI(a b:Int):Int:=if a<b then -1 else if b<a then 1 else 0
def or3(a b c:Int):Int:=if a=0 then if b=0 then c else b else a
def sgB(s:Bool):Int:=if s then 1 else 0
def kK(x y:Eg):Int:=or3 (cI x.f y.f) (cI x.t y.t) (cI (sgB x.s) (sgB y.s))
def ph(l:List Eg):List Eg:=l.mergeSort λx y=> !decide (kK y x<0)
def zbo(l:List Eg):(ph l).length=l.length:=zy _
def znc:∀{l:List AV} {es:List Eg},qqq l=some es->l=es.flatMap gS:=by
 intro l
 induction l using qqq.induct with
 |case1=>intro es h;unfold qqq at h;cases h;rfl
 |case2 f t s l r h1 ih=>intro es h;unfold qqq at h;rw[h1]at h;cases h;rw[ih h1];rfl
 |case3 f t s l h1 _=>
  grind [qqq]
 |case4 l h1 h2=>
  grind [qqq]
theorem zm9(es:List Eg):(es.flatMap gS).length=es.length*3:=by
 induction es with
 |nil=>rfl
 |cons a l ih=>rw[DM,nj,ih,nk];show 3+_=_;omega
theorem Pm:∀(es:List Eg) (t:Nat) (h:t<es.length*3),(es.flatMap gS)[t]? =(gS (es[t / 3]'(by omega)))[t%3]?
 | [],t,h=>by simp at h
 |a::l,t,h=>by
  rw[DM];by_cases b:t<3
  ·rw[sX (by show t<3;exact b)]
   grind
  ·rw[AM (by show 3<=t;omega)];show(l.flatMap gS)[t-3]? =_;rw[nk]at h;rw[Pm l (t-3) (by omega)]
   grind
variable{V:Value}
theorem zyo(e:Eg)(a:h<3):aQ ι ((gS e).getD h .undef) V↔V=(egU e)[h]!:=by
 match h,a with
 |0,_|1,_|2,_=>simp only[gS,egU];exact Iff.rfl
def z1u(e:Eg)(a:h<3):((egU e)[h]!).oneCell=true:=by
 match h,a with
 |0,_|1,_|2,_=>rfl
def C2(H:Hp)(b o n:Nat):Option R1:=
 match eY (H.get b) o (n*3)with
 |some l=>match qqq l with
  |some es=>match storeAt H b o ((ph es).flatMap gS) (.aX [])with
   | .ok v H'=>bif Nat.blt n 4611686018427387904 then some (.ok v H')else none
   | .bad=>none
  |none=>none
 |none=>none
def oO(P:Program)(f a:FuncId):Prop:=∀(d:Array Eg) (blk off cap:Nat) (w:World),Go.Sort.HoldsK egU 3 w blk off d->blk<w.heap.size->d.size<4611686018427387904 ->
 Calls P f #[.slice (some ⟨blk,off,none⟩) d.size cap,.func (.func a) #[] #[]] w λe w'=>e=.returned (.tuple #[])/\∃n os,w'=Go.Proofs.sortWorldK egU 3 w blk off n (ph d.toList).toArray os
def xA(P:Program)(f:FuncId):Prop:=∀p cap fv w,Calls P f #[.slice p 0 cap,fv] w λe w'=>e=.returned (.tuple #[])/\w'=w
def xG(f fc:FuncId)(e:cj):cj:=λg args H=>
 bif Nat.beq g f then(match args with
 | [.sl b o n _ _,.fn c [] []]=>bif Nat.beq c fc then C2 H b o n else none
 | [.aA,.fn c [] []]=>bif Nat.beq c fc then some (.ok (.aX []) H)else none
 |_=>none)else e g args H
variable{J:FuncId}
theorem zkb(M:oO P W J){I:Hp}(b:C2 H h D E=some (.ok R I)){G:List Value}(y:HR ι H w)(N:aK ι [.sl h D E F O,.fn J [] []] G):Calls P W G.toArray w (bP ι H w R I):=by
 obtain⟨V,r,rfl,⟨T,loc,A,rfl⟩,V2,r2,rfl,⟨_,_,rfl,rfl,rfl⟩,rfl⟩:=N;unfold C2 at b;split at b
 ·rename_i l U;split at b
  ·rename_i es f;have C:=znc f;split at b
   ·rename_i v' H2 m;cases z:Nat.blt E 4611686018427387904 with
    |false=>rw[z]at b;cases b
    |true=>
     rw[z]at b;cases b;have z:=pX z;obtain⟨X,nn,c,ro,zz,B,Y,Z,u⟩:=Ba U;obtain⟨rfl,rfl,rfl,_⟩:=E1 B m;have p:=y.lt A;have K:=y.blk h p;rw[B]at K;obtain⟨l',L,b2,b3,b4⟩:=K;rw[A]at L;cases L;have o:es.length=E:=by grind [zm9]
     subst o;have Q:∀(d:List Eg) (t:Nat),t<d.length*3->(Go.Sort.flatK egU 3 d.toArray)[t]! =(egU (d[t / 3]!))[t%3]! :=λd t ht=>by rw[Go.Sort.get_flatK egU 3 d.toArray t (by grind)];simp
     have q:Go.Sort.HoldsK egU 3 w loc.blk (loc.base+D) es.toArray:=λj a=>by
      have a:j<es.length*3:=by simpa using a
      obtain⟨V,c1,c2,c3,c4⟩:=b3 (D+j) (by omega);have v:=u j a;have S:=Pm es j a;rw[<-C,v]at S;have g:j%3<3:=ah _ (by omega);have h3:(dV X (D+j)).f c=(gS (es[j / 3]'(by omega))).getD (j%3) .undef:=by grind
      grind [zyo,grind]
     have n:loc.blk<w.heap.size:=y.low h loc p (by rw[B];rfl) A;have i:=M es.toArray loc.blk (loc.base+D) (if O then F else F+loc.ext) w q n (by grind);refine i.mono λe w' x=>?_;obtain⟨rfl,k,os,rfl⟩:=x;have s:=zbo es;obtain⟨g1,g2⟩:=Ia (α:=Value) id y B A q (d:=Go.Sort.flatK egU 3 (ph es).toArray) (l:=(ph es).flatMap gS) (by simp[s]) (by rw[zm9];simp) (by simp[s];omega) (λj a=>by
      have a:j<(ph es).length*3:=by simpa using a
      have g:j%3<3:=ah _ (by omega);rw[Q _ j a,getElem!_pos (ph es) (j / 3) (by omega)];refine⟨?_,z1u _ g⟩;rw[vt,Pm _ j a,<-vt];exact(zyo _ g).2 rfl) k os
     exact⟨ι,by simp only[aQ,aK];exact⟨[],rfl,rfl⟩,g1,g2⟩
   ·cases b
  ·cases b
 ·cases b
def q4v(m:xM P M)(t:oO P W J)(n:xA P W)(o:lz P W=true):xM P (xG W J M):=by
 refine⟨λg args H r a v p h ι w q i j=>?_⟩;unfold xG at a;cases d:Nat.beq g W with
 |false=>rw[d]at a;exact m.fn g _ H r a v p h ι w q i j
 |true=>
  rw[d]at a;obtain rfl:=AK d;refine⟨A8 o _,λk=>callsIn_wide.2 ?_⟩;split at a
  ·grind [Nat.beq,AK,zkb]
  ·rename_i c;cases l:Nat.beq c J with
   |false=>rw[l]at a;cases a
   |true=>rw[l]at a;cases a;cases h;obtain⟨V,r,rfl,rfl,V2,u,rfl,⟨_,_,rfl,rfl,rfl⟩,rfl⟩:=j;exact(n none 0 _ w).mono λM w' s=>by obtain⟨rfl,rfl⟩:=s;exact⟨ι,by simp[aQ,aK],i,Fr.refl _ _ _⟩
  ·cases a
def Jg(P:Program)(f:FuncId)(s:Nat×Nat):Prop:=∀(V:Value) (ι:Im) (w:World),aQ ι (.str s.1 s.2) V->Calls P f #[V] w λe w'=>e=.returned (.bool true)/\Below w.heap.size w w'
def HV(fs:List FuncId)(ns:List (Nat×Nat))(e:cj):cj:=λg args H=>
 bif fs.any (Nat.beq g)then(match args with
 | [.str n a]=>bif ns.any (λs=>Nat.beq n s.1&&Nat.beq a s.2)then some (.ok (.bool true) H)else none
 |_=>none)else e g args H
def zbc(x:xM P M){i:List FuncId}{m:List (Nat×Nat)}(h:∀f∈i,∀s∈m,Jg P f s)(y:i.all (lz P)=true):xM P (HV i m M):=by
 refine⟨λg args H r b v z q ι w A t u=>?_⟩;unfold HV at b;cases j:i.any (Nat.beq g)with
 |false=>rw[j]at b;exact x.fn g _ H r b v z q ι w A t u
 |true=>
  rw[j]at b;rw[lIE]at j;obtain⟨I,d,o⟩:=j;obtain rfl:=AK o;refine⟨A8 (lEN.1 y _ d) _,λk=>callsIn_wide.2 ?_⟩;split at b
  ·rename_i n a;cases l:m.any (λs=>Nat.beq n s.1&&Nat.beq a s.2)with
   |false=>rw[l]at b;cases b
   |true=>rw[l]at b;cases b;cases q;rw[lIE]at l;obtain⟨s,p,c⟩:=l;rw[sA]at c;have C:=AK c.1;have D:=AK c.2;subst C D;obtain⟨V,r,rfl,E,rfl⟩:=u;refine(h g d s p V ι w E).mono λM w' B=>?_;obtain⟨rfl,F⟩:=B;obtain⟨G,k2⟩:=t.of_below F;exact⟨ι,by simp[aQ],G,k2⟩
  ·cases b
def q4f(c:P.follows .mixedOrders=true)(d:xM P M){s:Nat×Nat}(k:z6 (gZ P M h (.f W) [.str s.1 s.2] Hp.empty)=true):Jg P W s:=by
 intro V ι w g;unfold z6 at k;split at k
 ·rename_i b n i;subst k;have:=((w6 c d h).fn _ _ _ _ _ i (λ_=>none) w [V] HR.empty (by simp only[aK];exact⟨V,[],rfl,by simpa only[aQ] using g,rfl⟩)).2 0;refine(callsIn_wide.1 this).mono λe w' a=>?_;cases e with
  |returned V=>obtain⟨o,j,p,m⟩:=a;exact⟨by rw[j],m.below _ (AF _) λb l _ _ k=>by cases k⟩
  |panicked=>exact a.elim
  |outgrown=>exact a.elim
 ·cases k
def ck(H:Hp):AV->Option Int
 | .sl b o n _ _=>bif Nat.blt 0 n then(match cB (H.get b) o with| .val (.int .i64 z)=>some z|_=>none)else none
 |_=>none
def uV(H:Hp):List AV->Option (List Int)
 | []=>some []
 |v::l=>match ck H v,uV H l with|some z,some r=>some (z::r)|_,_=>none
def u9(zs:List Int)(i j:Fin zs.length):Bool:=decide (zs[i]-zs[j]<0)
def eD(zs:List Int)(h:0<zs.length):Array (Fin zs.length):=
 letI:Inhabited (Fin zs.length):=⟨⟨0,h⟩⟩
 pdq (u9 zs) (Array.finRange zs.length) 0 (Array.finRange zs.length).size (Go.Lib.bitLen (Array.finRange zs.length).size) true true
structure Jc(zs:List Int):Prop where
 pos:0<zs.length
 len:zs.length<4611686018427387904
 rng:∀z∈zs,0<=z/\z<4611686018427387904
open Classical in
def uJ(H:Hp)(b o n:Nat):Option R1:=
 match eY (H.get b) o n with
 |some l=>match uV (H.put b .dead) l with
  |some zs=>if h:Jc zs then(match storeAt H b o ((eD zs h.pos).toList.map λi:Fin zs.length=>l.getD i.1 .undef) (.aX [])with
   | .ok v H'=>bif Nat.beq (eD zs h.pos).size zs.length then some (.ok v H')else none
   | .bad=>none)else none
  |none=>none
 |none=>none
def Gv(f fc:FuncId)(e:cj):cj:=λg args H=>
 bif Nat.beq g f then(match args with
 | [.sl b o n _ _,.fn c [] []]=>bif Nat.beq c fc then(bif Nat.beq n 0 then some (.ok (.aX []) H)else uJ H b o n)else none
 | [.aA,.fn c [] []]=>bif Nat.beq c fc then some (.ok (.aX []) H)else none
 |_=>none)else e g args H
def qL(P:Program)(f:FuncId):Prop:=∀p cap fv w,Calls P f #[.slice p 0 cap,fv] w λe w'=>e=.returned (.tuple #[])/\w'=w
def SZ(b:qL P W){p:Option Addr}(c:HR ι H w):Calls P W #[.slice p 0 h,V] w (bP ι H w (.aX []) H):=
 (b p h V w).mono λe w' d=>by obtain⟨rfl,rfl⟩:=d;exact⟨ι,by simp[aQ,aK],c,Fr.refl _ _ _⟩
def o7(P:Program)(f a:FuncId):Prop:=∀(zs:List Int) (h:Jc zs) (enc:Fin zs.length->Value) (blk off cap:Nat) (w:World),
 letI:Inhabited (Fin zs.length):=⟨⟨0,h.pos⟩⟩
 (∀i:Fin zs.length,∃ba oa na ca,enc i=.slice (some ⟨ba,oa,none⟩) na ca/\0<na/\ba≠blk/\ba<w.heap.size/\w.cell? ⟨ba,oa,none⟩=some (.int .i64 zs[i])) ->
 Holds enc w blk off (Array.finRange zs.length)->blk<w.heap.size ->
 Calls P f #[.slice (some ⟨blk,off,none⟩) zs.length cap,.func (.func a) #[] #[]] w λe w'=>e=.returned (.tuple #[])/\∃n os,w'=Go.Sort.grow (putRow enc (Sort.ahead w n) blk off (eD zs h.pos)) os
theorem TD:∀{l:List AV} {zs:List Int},uV H l=some zs->l.length=zs.length/\∀i (h:i<l.length) (a:i<zs.length),ck H l[i]=some zs[i]
 | [],zs,h=>by cases h;exact⟨rfl,λi h=>absurd h (ui _)⟩
 |v::l,zs,h=>by
  unfold uV at h;split at h
  ·rename_i z r b c;cases h;obtain⟨d,e⟩:=TD c;refine⟨by simp[d],λi h a=>?_⟩;cases i with
   |zero=>exact b
   |succ i=>exact e i (by simpa using h) (by simpa using a)
  ·cases h
def zmk{z:Int}(h:ck H R=some z):∃b o n m x,R=.sl b o n m x/\0<n/\cB (H.get b) o=.val (.int .i64 z):=by
 unfold ck at h;split at h
 ·rename_i b o n m x;cases a:Nat.blt 0 n with
  |false=>rw[a]at h;cases h
  |true=>
   rw[a]at h;simp only[AN]at h;split at h
   ·rename_i d c;cases h;exact⟨_,_,_,_,_,rfl,pX a,c⟩
   ·cases h
 ·cases h
variable{Y:List Value}
def zj9(hf:o7 P J W){X:Hp}(b:uJ H h D E=some (.ok R X))(u:HR ι H w)(Z:aK ι [.sl h D E F O,.fn W [] []] Y):Calls P J Y.toArray w (bP ι H w R X):=by
 simp only[aK,aQ]at Z;obtain⟨V,r,rfl,⟨hnm,loc,n,rfl⟩,V2,r2,rfl,⟨_,_,rfl,rfl,rfl⟩,rfl⟩:=Z;unfold uJ at b;split at b
 ·rename_i l hl;split at b
  ·rename_i zs hz;split at b
   ·rename_i g;split at b
    ·rename_i v' H2 v;cases p:Nat.beq (eD zs g.pos).size zs.length with
     |false=>rw[p]at b;cases b
     |true=>
      rw[p]at b;cases b;have p:=AK p;obtain⟨dd,nn,c,ro,zz,m,hle,hll,G⟩:=Ba hl;obtain⟨rfl,rfl,rfl,_⟩:=E1 m v;obtain⟨hlz,hh⟩:=TD hz
      letI:Inhabited (Fin zs.length):=⟨⟨0,g.pos⟩⟩
      have A:=u.lt n;have hB:=u.blk h A;rw[m]at hB;obtain⟨l',b1,b2,b3,b4⟩:=hB;rw[n]at b1;cases b1;have hn:E=zs.length:=by omega
      subst hn;have N:loc.blk<w.heap.size:=u.low h loc A (by rw[m];rfl) n;have hV:∀i:Fin zs.length,∃V,w.cell? ⟨loc.blk,loc.base+D+i,none⟩=some V/\aQ ι (l.getD i .undef) V/\V.oneCell=true/\w.frozen? ⟨loc.blk,loc.base+D+i,none⟩=false:=λi=>by obtain⟨V,c1,c2,c3,c4⟩:=b3 (D+i) (by have:=i.2;omega);rw[<-af]at c1 c4;refine⟨V,c1,?_,c3,c4 rfl⟩;rw[vt,G i i.2];exact c2
      let enc:Fin zs.length->Value:=λi=>Classical.choose (hV i)
      have q:∀i:Fin zs.length,w.cell? ⟨loc.blk,loc.base+D+i,none⟩=some (enc i)/\aQ ι (l.getD i .undef) (enc i)/\(enc i).oneCell=true/\w.frozen? ⟨loc.blk,loc.base+D+i,none⟩=false:=λi=>sZ (hV i);have x:∀j (b:j<(Array.finRange zs.length).size),((Array.finRange zs.length)[j]! :Fin zs.length)=⟨j,by simpa using b⟩:=λj b=>by rw[getElem!_pos _ j b];simp
      have B:Holds enc w loc.blk (loc.base+D) (Array.finRange zs.length):=λj z=>by obtain⟨S,_,_,e4⟩:=q ⟨j,by simpa using z⟩;rw[x j z];exact⟨S,e4⟩
      have Q:∀i:Fin zs.length,∃K oa na ca,enc i=.slice (some ⟨K,oa,none⟩) na ca/\0<na/\K≠loc.blk/\K<w.heap.size/\w.cell? ⟨K,oa,none⟩=some (.int .i64 zs[i]):=λi=>by
       have hi:=i.2;obtain⟨I,f,ni,mi,xi,S,L,a⟩:=zmk (hh i (by omega) i.2);obtain⟨_,y,_,_⟩:=q i;rw[vt,j0 (by omega)]at y;have y:aQ ι (l[(i:Nat)]'(by omega)) (enc i):=y;rw[S]at y;simp only[aQ]at y;obtain⟨_,M,T,k2⟩:=y;have C:I≠h:=λe=>by subst e;rw[Hp.get_put _ _ _ _ vG vG,sB rfl]at a;cases a
       rw[Hp.get_put _ _ _ _ vG vG,sy C]at a;have o:=u.blk I vG;cases t:H.get I with
       |cells di ni' ci ri zi=>
        rw[t]at a o;have a:(bif Nat.blt f ni' then R0.val ((dV di f).f ci)else .bad)=.val (.int .i64 zs[i]):=a;cases s:Nat.blt f ni' with
        |false=>rw[s]at a;cases a
        |true=>rw[s]at a;simp only[AN,R0.val.injEq]at a;have s:=pX s;obtain⟨li',q1,q2,q3,_⟩:=o;rw[T]at q1;cases q1;obtain⟨Vi,p1,U,_,_⟩:=q3 f s;rw[a]at U;simp only[aQ]at U;subst U;exact⟨M.blk,M.base+f,ni,_,k2,L,λe=>C (u.inj h I loc M vG vG (by rw[m];rfl) (by rw[t];rfl) n T e.symm).symm,u.low I M vG (by rw[t];rfl) T,p1⟩
       |_=>rw[t]at a;cases a
      refine(hf zs g enc loc.blk (loc.base+D) (if O then F else F+loc.ext) w Q B N).mono λe w' hp=>?_;obtain⟨rfl,k,os,rfl⟩:=hp;obtain⟨g1,g2⟩:=Ia enc u m n B (d:=eD zs g.pos) (l:=(eD zs g.pos).toList.map λi:Fin zs.length=>l.getD i.1 .undef) (by rw[p];simp) (by simp) (by omega) (λj z=>by obtain⟨_,L,a,_⟩:=q (eD zs g.pos)[j]!;refine⟨?_,a⟩;rw[getElem!_pos _ j z]at L ⊢;rw[vt (l:=(eD zs g.pos).toList.map _),AS,j0 (by simpa using z)];exact L) k os;exact⟨ι,by simp only[aQ,aK];exact⟨[],rfl,rfl⟩,g1,g2⟩
    ·cases b
   ·cases b
  ·cases b
 ·cases b
def q4t(u:xM P M)(y:o7 P W J)(s:qL P W)(t:lz P W=true):xM P (Gv W J M):=by
 refine⟨λg args H r a v z l ι w A j d=>?_⟩;unfold Gv at a;cases p:Nat.beq g W with
 |false=>rw[p]at a;exact u.fn g _ H r a v z l ι w A j d
 |true=>
  rw[p]at a;obtain rfl:=AK p;refine⟨A8 t _,λk=>callsIn_wide.2 ?_⟩;simp only[AN]at a;split at a
  ·rename_i b o n m x c;cases h:Nat.beq c J with
   |false=>rw[h]at a;cases a
   |true=>
    rw[h]at a;obtain rfl:=AK h;subst l;cases q:Nat.beq n 0 with
    |false=>rw[q]at a;exact zj9 y a j d
    |true=>rw[q]at a;cases a;obtain rfl:=AK q;simp only[aK,aQ]at d;obtain⟨V,r,rfl,⟨B,loc,t,rfl⟩,V2,C,rfl,⟨_,_,rfl,rfl,rfl⟩,rfl⟩:=d;exact SZ s j
  ·rename_i c;cases h:Nat.beq c J with
   |false=>rw[h]at a;cases a
   |true=>rw[h]at a;cases a;cases l;simp only[aK,aQ]at d;obtain⟨V,r,rfl,rfl,V2,C,rfl,⟨_,_,rfl,rfl,rfl⟩,rfl⟩:=d;exact SZ s j
  ·cases a
abbrev B3:=(ByteArray×ByteArray)×ByteArray
abbrev Tb:=B3×B3
def Az(s:ByteArray):AV:=.str s.data.toList.length (kU s.data.toList)
def Qn(e:B3):List AV:=[Az e.1.1,Az e.1.2,Az e.2]
def yU(e:Tb):List AV:=Qn e.1++Qn e.2
def b3U(e:B3):List Value:=[.string e.1.1,.string e.1.2,.string e.2]
def eW(e:Tb):List Value:=b3U e.1++b3U e.2
theorem xt{s t:ByteArray}(h:Az s=Az t):s=t:=by
 injection h with h1 h2;have:=bS h1 h2;cases s;cases t
 grind [Array.toList_inj]
theorem zjn:∀{l m:List Tb},l.flatMap yU=m.flatMap yU->l=m
 | [],[],_=>rfl
 | [],_::_,h=>by cases h
 |_::_,[],h=>by cases h
 |a::l,b::m,h=>by rw[DM,DM]at h;obtain⟨c,h⟩:=List.append_inj h rfl;injection c with h1 c;injection c with h2 c;injection c with h3 c;injection c with h4 c;injection c with h5 c;injection c with h6 _;rw[zjn h,show a=b from Prod.ext (Prod.ext (Prod.ext (xt h1) (xt h2)) (xt h3)) (Prod.ext (Prod.ext (xt h4) (xt h5)) (xt h6))]
open Classical in
def zf(l:List AV):Option (List Tb):=if h:∃es:List Tb,l=es.flatMap yU then some h.choose else none
def Dc{es:List Tb}(h:zf N=some es):N=es.flatMap yU:=by
 unfold zf at h;split at h
 ·rename_i a;injection h with h;rw[<-h];exact a.choose_spec
 ·cases h
theorem ztm(es:List Tb):zf (es.flatMap yU)=some es:=by have a:∃b:List Tb,es.flatMap yU=b.flatMap yU:=⟨es,rfl⟩;unfold zf;rw[dif_pos a];exact congrArg some (zjn a.choose_spec).symm
structure aCM{α:Type}(c:α->α->Int):Prop where
 z:∀{x y},c x y=0↔x=y
 n:∀{x y},c x y<0↔0<c y x
 t:∀{x y w},c x y<0->c y w<0->c x w<0
def uT(x y:Int):Int:=if x=0 then y else x
def rG{α β:Type}(c:α->α->Int)(d:β->β->Int)(x y:α×β):Int:=uT (c x.1 y.1) (d x.2 y.2)
def aCM.lex{α β:Type}{c:α->α->Int}{d:β->β->Int}(h:aCM c)(g:aCM d):aCM (rG c d):=by
 have z:∀x y,c x y=0↔c y x=0:=λx y=>by rw[h.z,h.z];exact eq_comm
 refine⟨λ{x y}=>?_,λ{x y}=>?_,λ{x y w}=>?_⟩
 ·unfold rG uT;obtain⟨x,u⟩:=x;obtain⟨y,v⟩:=y;rw[Prod.mk.injEq,<-h.z,<-g.z];split<;>simp_all
 ·have e:=z x.1 y.1;have:=h.n (x:=x.1) (y:=y.1);have:=g.n (x:=x.2) (y:=y.2);unfold rG uT;split<;>split<;>omega
 ·obtain⟨x,u⟩:=x;obtain⟨y,v⟩:=y;obtain⟨w,s⟩:=w;have e:∀p,c p p=0:=λ_=>h.z.2 rfl;show(if c x y=0 then d u v else c x y)<0->(if c y w=0 then d v s else c y w)<0->(if c x w=0 then d u s else c x w)<0;by_cases b:x=y
  ·subst b;rw[sB (e x)];by_cases a:x=w
   ·subst a;rw[sB (e x),sB (e x)];exact g.t
   ·rw[sy λk=>a (h.z.1 k),sy λk=>a (h.z.1 k)];exact λ_ k=>k
  ·rw[sy λk=>b (h.z.1 k)];by_cases a:y=w
   ·subst a;rw[sy λk=>b (h.z.1 k),sB (e y)];exact λk _=>k
   ·rw[sy λk=>a (h.z.1 k)];intro p q;have r:=h.t p q;rw[sy λk=>by rw[k]at r;cases r];exact r
theorem Ya:∀(x y:List UInt8),Op.bytesLess x y=decide (x<y)
 | [],[]=>by simp[Op.bytesLess]
 |_::_,[]=>by simp[Op.bytesLess]
 | [],_::_=>by simp[Op.bytesLess]
 |a::x,b::y=>by rw[Op.bytesLess,Ya x y];simp only[List.cons_lt_cons_iff];by_cases c:a<b<;>by_cases d:a=b<;>by_cases e:x<y<;>simp[c,d,e]
def lN(s t:ByteArray):Int:=Lib.compareBytes s.data.toList t.data.toList
def qxa:aCM lN:=by
 have e:∀s t:ByteArray,s.data.toList=t.data.toList->s=t:=λs t h=>by cases s;cases t;simp only at h;rw[Array.toList_inj.1 h]
 have a:∀s t:ByteArray,(s.data.toList<t.data.toList/\lN s t= -1)\/(s=t/\lN s t=0)\/(t.data.toList<s.data.toList/\lN s t=1):=λs t=>by
  unfold lN;rw[LC,Ya];by_cases h:s.data.toList<t.data.toList
  ·rw[j7 h];exact .inl ⟨h,rfl⟩
  ·rw[sT h];by_cases k:s.data.toList=t.data.toList
   ·rw[j7 k];exact .inr (.inl ⟨e s t k,rfl⟩)
   ·rw[sT k];exact .inr (.inr ⟨Classical.byContradiction λw=>k (List.le_antisymm w h),rfl⟩)
 have c:∀{x y:List UInt8},x<y->y<x->False:=λh k=>List.lt_irrefl _ (List.lt_trans h k);refine⟨λ{x y}=>?_,λ{x y}=>?_,λ{x y w}=>?_⟩
 ·rcases a x y with⟨h,k⟩|⟨h,k⟩|⟨h,k⟩
  ·exact⟨λq=>by omega,λq=>absurd h (by rw[q];exact List.lt_irrefl _)⟩
  ·exact⟨λ_=>h,λ_=>k⟩
  ·exact⟨λq=>by omega,λq=>absurd h (by rw[q];exact List.lt_irrefl _)⟩
 ·rcases a x y with⟨h,k⟩|⟨h,k⟩|⟨h,k⟩<;>rcases a y x with⟨b,d⟩|⟨b,d⟩|⟨b,d⟩
  all_goals first|omega|(exfalso;first|exact c h b|exact List.lt_irrefl _ (h▸b)|exact List.lt_irrefl _ (b▸h))
 ·rcases a x y with⟨h,k⟩|⟨h,k⟩|⟨h,k⟩<;>rcases a y w with⟨b,d⟩|⟨b,d⟩|⟨b,d⟩<;>rcases a x w with⟨f,k2⟩|⟨f,k2⟩|⟨f,k2⟩
  all_goals first|omega|(intros;exfalso;first|exact c (List.lt_trans h b) f|exact c h (List.lt_trans b (f▸List.lt_trans h b))|(subst f;exact c h b))
def zB:Tb->Tb->Int:=rG (rG (rG lN lN) lN) (rG (rG lN lN) lN)
theorem qcj:aCM zB:=have h:=(qxa.lex qxa).lex qxa;h.lex h
def eC(l:List Tb):List Tb:=l.mergeSort λx y=> !decide (zB y x<0)
theorem LM(l:List Tb):(eC l).length=l.length:=zy _
theorem BC(es:List Tb):(es.flatMap yU).length=es.length*6:=by
 induction es with
 |nil=>rfl
 |cons a l ih=>rw[DM,nj,ih,nk];show 6+_=_;omega
theorem K5:∀(es:List Tb) (t:Nat) (h:t<es.length*6),(es.flatMap yU)[t]? =(yU (es[t / 6]'(by omega)))[t%6]?
 | [],t,h=>by simp at h
 |a::l,t,h=>by
  rw[DM];by_cases d:t<6
  ·rw[sX (by show t<6;exact d)];have b:t / 6=0:=by omega
   have c:t%6=t:=by omega
   simp only[b,c,List.getElem_cons_zero]
  ·rw[AM (by show 6<=t;omega)];show(l.flatMap yU)[t-6]? =_;rw[nk]at h;rw[K5 l (t-6) (by omega)];have b:t / 6=(t-6) / 6+1:=by omega
   have c:t%6=(t-6)%6:=by omega
   simp only[b,c,zx]
theorem zyn(e:Tb)(b:h<6):aQ ι ((yU e).getD h .undef) V↔V=(eW e)[h]!:=by
 have a:∀s:ByteArray,aQ ι (.str s.data.toList.length (kU s.data.toList)) V↔V=.string s:=λs=>by
  simp only[aQ];constructor
  ·rintro ⟨c,rfl,d,f⟩;have:=bS d f;cases s;cases c;simp only at this;rw[Array.toList_inj.1 this]
  ·rintro rfl;exact⟨s,rfl,rfl,rfl⟩
 match h,b with
 |0,_=>exact a e.1.1.1
 |1,_=>exact a e.1.1.2
 |2,_=>exact a e.1.2
 |3,_=>exact a e.2.1.1
 |4,_=>exact a e.2.1.2
 |5,_=>exact a e.2.2
def z0b(e:Tb)(a:h<6):((eW e)[h]!).oneCell=true:=by
 match h,a with
 |0,_|1,_|2,_|3,_|4,_|5,_=>rfl
def C1(H:Hp)(b o n:Nat):Option R1:=
 match eY (H.get b) o (n*6)with
 |some l=>match zf l with
  |some es=>match storeAt H b o ((eC es).flatMap yU) (.aX [])with
   | .ok v H'=>bif Nat.blt n 4611686018427387904 then some (.ok v H')else none
   | .bad=>none
  |none=>none
 |none=>none
def oU(P:Program)(f a:FuncId):Prop:=∀(d:Array Tb) (blk off cap:Nat) (w:World),Go.Sort.HoldsK eW 6 w blk off d->blk<w.heap.size->d.size<4611686018427387904 ->
 Calls P f #[.slice (some ⟨blk,off,none⟩) d.size cap,.func (.func a) #[] #[]] w λe w'=>e=.returned (.tuple #[])/\∃n os,w'=Go.Proofs.sortWorldK eW 6 w blk off n (eC d.toList).toArray os
def wZ(P:Program)(f:FuncId):Prop:=∀p cap fv w,Calls P f #[.slice p 0 cap,fv] w λe w'=>e=.returned (.tuple #[])/\w'=w
def xz(f fc:FuncId)(e:cj):cj:=λg args H=>
 bif Nat.beq g f then(match args with
 | [.sl b o n _ _,.fn c [] []]=>bif Nat.beq c fc then C1 H b o n else none
 | [.aA,.fn c [] []]=>bif Nat.beq c fc then some (.ok (.aX []) H)else none
 |_=>none)else e g args H
def zj8(T:oU P W J){I:Hp}(b:C1 H h D E=some (.ok R I))(z:HR ι H w)(L:aK ι [.sl h D E F O,.fn J [] []] Y):Calls P W Y.toArray w (bP ι H w R I):=by
 simp only[aK,aQ]at L;obtain⟨V,r,rfl,⟨Z,loc,B,rfl⟩,V2,r2,rfl,⟨_,_,rfl,rfl,rfl⟩,rfl⟩:=L;unfold C1 at b;split at b
 ·rename_i l hl;split at b
  ·rename_i es hz;have p:=Dc hz;split at b
   ·rename_i v' H2 m;cases A:Nat.blt E 4611686018427387904 with
    |false=>rw[A]at b;cases b
    |true=>
     rw[A]at b;cases b;have A:=pX A;obtain⟨dd,nn,c,ro,zz,C,hle,G,y⟩:=Ba hl;obtain⟨rfl,rfl,rfl,_⟩:=E1 C m;have q:=z.lt B;have M:=z.blk h q;rw[C]at M;obtain⟨l',Q,b2,b3,b4⟩:=M;rw[B]at Q;cases Q;have o:es.length=E:=by rw[p,BC]at G;omega
     subst o;have N:∀(d:List Tb) (t:Nat),t<d.length*6->(Go.Sort.flatK eW 6 d.toArray)[t]! =(eW (d[t / 6]!))[t%6]! :=λd t U=>by rw[Go.Sort.get_flatK eW 6 d.toArray t (by simpa using U)];simp
     have s:Go.Sort.HoldsK eW 6 w loc.blk (loc.base+D) es.toArray:=λj a=>by
      have a:j<es.length*6:=by simpa using a
      obtain⟨V,v,S,c3,c4⟩:=b3 (D+j) (by omega);have X:=y j a;have x:=K5 es j a;rw[<-p,X]at x;have g:j%6<6:=ah _ (by omega);have K:(dV dd (D+j)).f c=(yU (es[j / 6]'(by omega))).getD (j%6) .undef:=by rw[vt,<-x];rfl
      rw[K,zyn _ g]at S;subst S;rw[<-af]at v c4;refine⟨?_,c4 rfl⟩;rw[v];show some _=some (Go.Sort.flatK eW 6 es.toArray)[j]!;rw[N es j a,getElem!_pos es (j / 6) (by omega)]
     have n:loc.blk<w.heap.size:=z.low h loc q (by rw[C];rfl) B;have i:=T es.toArray loc.blk (loc.base+D) (if O then F else F+loc.ext) w s n (by rw[List.size_toArray];omega);refine i.mono λe w' f=>?_;obtain⟨rfl,k,os,rfl⟩:=f;have u:=LM es;obtain⟨g1,g2⟩:=Ia (α:=Value) id z C B s (d:=Go.Sort.flatK eW 6 (eC es).toArray) (l:=(eC es).flatMap yU) (by simp[u]) (by rw[BC];simp) (by simp[u];omega) (λj a=>by
      have a:j<(eC es).length*6:=by simpa using a
      have g:j%6<6:=ah _ (by omega);rw[N _ j a,getElem!_pos (eC es) (j / 6) (by omega)];refine⟨?_,z0b _ g⟩;rw[vt,K5 _ j a,<-vt];exact(zyn _ g).2 rfl) k os
     exact⟨ι,by simp only[aQ,aK];exact⟨[],rfl,rfl⟩,g1,g2⟩
   ·cases b
  ·cases b
 ·cases b
def q4q(q:xM P M)(s:oU P W J)(t:wZ P W)(u:lz P W=true):xM P (xz W J M):=by
 refine⟨λg args H r a v y j ι w z l i=>?_⟩;unfold xz at a;cases p:Nat.beq g W with
 |false=>rw[p]at a;exact q.fn g _ H r a v y j ι w z l i
 |true=>
  rw[p]at a;obtain rfl:=AK p;refine⟨A8 u _,λk=>callsIn_wide.2 ?_⟩;simp only[AN]at a;split at a
  ·rename_i b o n m x c;cases d:Nat.beq c J with
   |false=>rw[d]at a;cases a
   |true=>rw[d]at a;obtain rfl:=AK d;subst j;exact zj8 s a l i
  ·rename_i c;cases d:Nat.beq c J with
   |false=>rw[d]at a;cases a
   |true=>rw[d]at a;cases a;cases j;simp only[aK,aQ]at i;obtain⟨V,r,rfl,rfl,V2,B,rfl,⟨_,_,rfl,rfl,rfl⟩,rfl⟩:=i;exact(t none 0 _ w).mono λM w' A=>by obtain⟨rfl,rfl⟩:=A;exact⟨ι,by simp[aQ,aK],l,Fr.refl _ _ _⟩
  ·cases a
def zbm(l:List Tb):(eC l).Perm l/\(eC l).Pairwise λx y=>¬zB y x<0:=by
 have d:∀x y:Tb,(!decide (zB y x<0))=true↔¬zB y x<0:=λx y=>by rw[dh,oq]
 refine⟨List.mergeSort_perm _ _,(List.pairwise_mergeSort (λa b c g f=>?_) (λa b=>?_) l).imp λh=>(d _ _).1 h⟩
 ·rw[d]at g f ⊢;intro h;by_cases k:zB a b<0
  ·exact f (qcj.t h k)
  ·have e:=qcj.n (x:=a) (y:=b);have i:=qcj.n (x:=b) (y:=a);have:a=b:=qcj.z.1 (by omega);subst this;exact f h
 ·rw[ny,d,d];have:=qcj.n (x:=a) (y:=b);omega
end Go.Ev
end
noncomputable section
namespace Go.Ev
open Go.RowKit
variable {P:Program} {w:World} {ι:Im} {H:Hp}
def Lo{d a:Nat}(c:TT AV d)(b:TT AV a)(k:Nat):Nat->Bool:=
 Nat.rec (motive:=λ_=>Nat->Bool) (λ_=>true) (λ_ e o=>@Bool.rec (λ_=>Bool) false (e (Nat.succ o)) (lV 64 ((dV d o).f c) ((dV a o).f b))) k
def Ix:List eT->List eT->Bool
 | [],[]=>true
 |x::l,y::m=>lV 64 x.key y.key&&lV 64 x.val y.val&&Nat.beq x.born y.born&&Ix l m
 |_,_=>false
def IQ(x y:cZ):Bool:=
 match x,y with
 | .cells _ n c ro z,.cells d' n' c' ro' z'=>Nat.beq n n'&&Nat.ble n (8 ^ d')&&(ro==ro')&&Nat.beq z z'&&Lo c c' n 0
 | .map es k,.map es' k'=>Nat.beq k k'&&Ix es es'
 |_,_=>false
variable{D:Nat}
theorem Ua{b:Nat}{c:TT AV D}{a:TT AV b}:∀(k o:Nat),Lo c a k o=true->∀i,i<k->(dV D (o+i)).f c=(dV b (o+i)).f a
 |0,o,_,i,hi=>by omega
 |k+1,o,h,i,hi=>by
  have e:@Bool.rec (λ_=>Bool) false (Lo c a k (o+1)) (lV 64 ((dV D o).f c) ((dV b o).f a))=true:=h;cases f:lV 64 ((dV D o).f c) ((dV b o).f a)with
  |false=>rw[f]at e;cases e
  |true=>
   rw[f]at e;cases i with
   |zero=>exact(tB 64).1 _ _ f
   |succ i=>
    have:=Ua k (o+1) e i (by omega)
    grind
theorem QJ:∀(l m:List eT),Ix l m=true->l=m
 | [],[],_=>rfl
 | [],_::_,h=>by cases h
 |_::_,[],h=>by cases h
 |x::l,y::m,h=>by simp only[Ix,sA]at h;obtain⟨⟨⟨d,e⟩,f⟩,g⟩:=h;obtain⟨i,j,xb⟩:=x;obtain⟨k,n,o⟩:=y;have a:=(tB 64).1 _ _ d;have b:=(tB 64).1 _ _ e;have c:=AK f;simp only at a b c;rw[a,b,c,QJ l m g]
structure Alike(x y:cZ):Prop where
 br:∀(ι:Im) (w:World) (b:Nat),BR ι w b x->BR ι w b y
 dead:x.bG=y.bG
 wr:x.wr=y.wr
theorem Alike.refl(x:cZ):Alike x x:=⟨λ_ _ _ h=>h,rfl,rfl⟩
variable{h:cZ}
theorem Ti{y:cZ}(x:IQ h y=true):Alike h y:=by
 unfold IQ at x;split at x
 ·rename_i d n c v z A B C m D;simp only[sA,beq_iff_eq]at x;obtain⟨⟨⟨⟨a,e⟩,o⟩,f⟩,p⟩:=x;have a:=AK a;have e:=eQ e;have f:=AK f;subst a;subst o;subst f;refine⟨λι w b j=>?_,rfl,rfl⟩;obtain⟨l,q,r,s,t⟩:=j;refine⟨l,q,⟨e,r.2⟩,λi g=>?_,t⟩;obtain⟨V,E,F,G⟩:=s i g;have:=Ua n 0 p i g
  grind
 ·rename_i es k u H;simp only[sA]at x
  grind [AK,QJ,Alike.refl]
 ·cases x
structure qu(Hv G:Hp):Prop where
 nx:Hv.nx=G.nx
 get:∀c,fD (c)->Hv.get c=.dead\/Alike (G.get c) (Hv.get c)
variable{G':Hp}
theorem HR.part(h:HR ι G' w)(p:qu H G'):HR ι H w:=by
 have a:∀c,fD (c)->(H.get c).bG=false->Alike (G'.get c) (H.get c):=λc j o=>by
  rcases p.get c j with e|e
  ·rw[e]at o;cases o
  ·exact e
 refine⟨by rw[p.nx];exact h.top,λb d=>?_,λb l d g k=>?_,λb c l m d j g k q r s=>?_,λb d=>h.fresh b (by grind [p.nx]),λb d i=>?_⟩
 ·rcases p.get b d with e|e
  ·rw[e];trivial
  ·grind [e.br,h.blk]
 ·exact h.low b l d (by rw[(a b d g).dead];exact g) k
 ·exact h.inj b c l m d j (by rw[(a b d (cZ.aZ g)).wr];exact g) (by rw[(a c j k).dead];exact k) q r s
 ·rcases p.get b i with e|e
  ·exact e
  ·have:=h.free b (by grind [p.nx]) i;have n:=e.dead;rw[this]at n;cases t:H.get b<;>first|rfl|(rw[t]at n;cases n)
def HR.frame{B:Im}{o G H1:Hp}{w':World}(h:HR ι G w)(p:qu o G)(C:HR B H1 w')(f:Fr ι B o H1 w w')(N:G'.nx=H1.nx)(V:∀c,fD (c)->(o.get c).bG=true->c<G.nx->G'.get c=G.get c)(v:∀c,fD (c)->((o.get c).bG=false\/G.nx<=c)->G'.get c=.dead\/Alike (H1.get c) (G'.get c)):HR B G' w'/\Fr ι B G G' w w':=by
 have H:∀c,fD (c)->(o.get c).bG=false->Alike (G.get c) (o.get c):=λc d g=>by
  rcases p.get c d with e|e
  ·rw[e]at g;cases g
  ·exact e
 have split:∀c,fD (c)->(G'.get c).bG=false->(G'.get c=G.get c/\(o.get c).bG=true/\c<G.nx)\/Alike (H1.get c) (G'.get c):=λc d g=>by
  cases q:(o.get c).bG with
  |true=>
   by_cases T:c<G.nx
   ·grind
   ·rcases v c d (.inr (uz T))with e|e
    ·rw[e]at g;cases g
    ·exact .inr e
  |false=>
   rcases v c d (.inl q)with e|e
   ·rw[e]at g;cases g
   ·exact .inr e
 have I:∀b,fD (b)->(o.get b).wr=true->(G.get b).wr=true:=λb n j=>by rw[(H b n (cZ.aZ j)).wr];exact j
 have O:∀b,fD (b)->(o.get b).bG=false->(G.get b).bG=false:=λb n g=>by rw[(H b n g).dead];exact g
 have E:∀c,fD (c)->(G.get c).bG=false->∃l,ι c=some l:=λc d g=>(h.blk c d).some g
 have P:∀c l,fD (c)->(G.get c).bG=false->(o.get c).bG=true->ι c=some l->∀b m,fD (b)->(H1.get b).wr=true->B b=some m->m.blk≠l.blk:=λc l d x y i b m n j r e=>by
  rcases f.new b m n j r with J|⟨z,t,A,K,L,c4⟩
  ·have:=h.low c l d x i;omega
  ·have:=h.inj z c t l A d (I z A K) x L i (c4.trans e)
   grind [cZ.aZ]
 have Q:∀c l,fD (c)->(G.get c).wr=true->(o.get c).bG=true->ι c=some l->∀b m,fD (b)->(H1.get b).bG=false->B b=some m->m.blk≠l.blk:=λc l d x y i b m n j r e=>by
  rcases f.live b m n j r with J|⟨z,t,A,K,L,c4⟩
  ·have:=h.low c l d (cZ.aZ x) i;omega
  ·have:=h.inj c z l t d A x (O z A K) i L (e.symm.trans c4.symm)
   grind
 have R:∀c l,fD (c)->(G.get c).bG=false->(o.get c).bG=true->ι c=some l->w'.heap[l.blk]? =w.heap[l.blk]? :=λc l d x y i=>
  f.keep l.blk (h.low c l d x i) λb m n j r e=>by grind [h.inj,cZ.aZ]
 refine⟨⟨by rw[N];exact C.top,λc d=>?_,λc l d g i=>?_,λb c l m n d j g i r e=>?_,λc d=>C.fresh c (by grind),λc d F=>?_⟩,
  ⟨f.le,by rw[N,<-p.nx];exact f.nx,λb D s=>by rw[<-p.nx];exact f.dom b D s,f.os,f.tape,f.output,f.size,λc d W=>f.keep c d λb l n j i=>W b l n (I b n j) i,λc l d j i=>?_,λc l d g i=>?_⟩⟩
 ·cases q:(G'.get c).bG with
  |true=>cases U:G'.get c<;>first|trivial|(rw[U]at q;cases q)
  |false=>
   rcases split c d q with⟨e,y,_⟩|e
   ·rw[e];rw[e]at q;exact((h.blk c d).keep λl _ g=>R c l d q y g).mono f.le
   ·grind [e.br,C.blk]
 ·rcases split c d g with⟨e,y,_⟩|e
  ·rw[e]at g;obtain⟨t,k⟩:=E c d g;rw[f.le _ _ k]at i;cases i
   grind [AE,h.low,f.size]
  ·grind [C.low,e.dead]
 ·rcases split b n (cZ.aZ j)with⟨D,hv1,_⟩|D
  ·rw[D]at j;obtain⟨t,k⟩:=E b n (cZ.aZ j);rw[f.le _ _ k]at i;cases i;rcases split c d g with⟨s,M,_⟩|s
   ·rw[s]at g;obtain⟨m0,u⟩:=E c d g;rw[f.le _ _ u]at r;cases r
    grind [h.inj]
   ·exact absurd e.symm (Q b l n j hv1 k c m d (by grind [s.dead]) r)
  ·rcases split c d g with⟨s,M,_⟩|s
   ·rw[s]at g;obtain⟨m0,u⟩:=E c d g;rw[f.le _ _ u]at r;cases r;exact absurd e (P c m d g M u b l n (by grind [D.wr]) i)
   ·grind [C.inj,D.wr,s.dead]
 ·have S:G.nx<=c:=by have:=f.nx;rw[N]at d;rw[p.nx]at this;omega
  rcases v c F (.inr S)with e|e
  ·exact e
  ·have X:=C.free c (by grind) F;have q:=e.dead;rw[X]at q;cases U:G'.get c<;>first|rfl|(rw[U]at q;cases q)
 ·rcases split c d (cZ.aZ j)with⟨e,y,_⟩|e
  ·rw[e]at j;obtain⟨t,k⟩:=E c d (cZ.aZ j);rw[f.le _ _ k]at i;cases i
   grind
  ·rcases f.new c l d (by grind [e.wr]) i with J|⟨z,t,A,K,L,c4⟩
   ·exact .inl J
   ·grind
 ·rcases split c d g with⟨e,y,_⟩|e
  ·rw[e]at g;obtain⟨t,k⟩:=E c d g;rw[f.le _ _ k]at i;cases i
   grind
  ·rcases f.live c l d (by grind [e.dead]) i with J|⟨z,t,A,K,L,c4⟩
   ·exact .inl J
   ·grind
structure Pb where
 b:Nat
 k:cZ
def ii(l:List Pb)(H:Hp):Hp:=
 List.rec (motive:=λ_=>Hp) H (λp _ a=>a.put p.b p.k) l
def fR(c:Nat):List Pb->Option cZ
 | []=>none
 |p::l=>bif Nat.beq p.b c then some p.k else fR c l
theorem Mo(H:Hp):∀l,(ii l H).nx=H.nx
 | []=>rfl
 |_::l=>Mo H l
theorem LV{H:Hp}{c:Nat}(a:fD (c)):∀l:List Pb,(∀p∈l,fD (p.b))->(ii l H).get c=match fR c l with|some k=>k|none=>H.get c
 | [],_=>rfl
 |p::l,h=>by
  have ih:=LV (H:=H) a l λq b=>h q (by simp[b]);show((ii l H).put p.b p.k).get c=_;rw[Hp.get_put _ _ _ _ (h p (by simp)) a];unfold fR;by_cases e:c=p.b
  ·subst e;rw[sB rfl,uo];rfl
  ·rw[sy e,ih];have:Nat.beq p.b c=false:=by
    cases d:Nat.beq p.b c with
    |false=>rfl
    |true=>exact absurd (AK d).symm e
   grind
theorem ww:∀{l:List Pb},fR D l=some h->⟨D,h⟩∈l
 | [],k=>by cases k
 |p::l,k=>by
  unfold fR at k;cases a:Nat.beq p.b D with
  |true=>rw[a]at k;have e:=AK a;subst e;cases k;simp
  |false=>rw[a]at k;exact DQ _ (ww k)
theorem L7{c:Nat}:∀{l:List Pb},(∃p∈l,p.b=c)->∃k,fR c l=some k
 | [],h=>by grind
 |p::l,h=>by
  unfold fR;cases a:Nat.beq p.b c with
  |true=>exact⟨p.k,rfl⟩
  |false=>
   refine L7 ?_
   grind [lE4,uo]
structure Kn where
 f:FuncId
 args:List AV
 nx:Nat
 pre:List Pb
 v:AV
 nx':Nat
 post:List Pb
def Kn.hp(e:Kn):Hp:=ii e.pre ⟨Hp.empty.t,e.nx⟩
def Lh:cZ->Bool
 | .dead=>true
 |_=>false
def Vn:cZ->Bool
 | .cells .. | .map .. =>true
 |_=>false
def Kn.wf(e:Kn):Bool:=
 e.pre.all (λp=>Nat.blt p.b e.nx&&Vn p.k&&e.post.any (λq=>Nat.beq q.b p.b)) &&
 e.post.all (λq=>Nat.blt q.b e.nx'&&(Nat.ble e.nx q.b||e.pre.any (λp=>Nat.beq p.b q.b)))
def bv(P:Program)(ext:cj)(k:Nat)(e:Kn):Bool:=
 match gZ P ext k (.f e.f) e.args e.hp with
 | .ok v H1=>lV 64 v e.v&&Nat.beq H1.nx e.nx'&&e.post.all (λp=>Lh p.k||IQ (H1.get p.b) p.k)
 | .bad=>false
def xcc(e:Kn)(ι:Im)(w:World):Ending->World->Prop
 | .returned V,w'=>∃ι' H1,aQ ι' e.v V/\HR ι' H1 w'/\Fr ι ι' e.hp H1 w w'/\H1.nx=e.nx'/\∀p∈e.post,Lh p.k=true\/Alike (H1.get p.b) p.k
 |_,_=>False
def Jd(P:Program)(e:Kn):Prop:=∀ι w bE,HR ι e.hp w->aK ι e.args bE ->
 (callFunc e.f bE.toArray).run P w=.ok (.enter e.f bE.toArray) w/\∀m,CallsIn Fence.wide m P e.f bE.toArray w (xcc e ι w)
def UN(c:P.follows .mixedOrders=true){ext:cj}(d:xM P ext){e:Kn}(h:bv P ext D e=true):Jd P e:=by
 intro ι w g i j;unfold bv at h;split at h
 ·rename_i v H1 l;simp only[sA,lEN,ny]at h;obtain⟨⟨b,n⟩,o⟩:=h;have b:=(tB 64).1 _ _ b;subst b;obtain⟨q,r⟩:=(w6 c d D).fn _ _ _ _ _ l ι w g i j;refine⟨q,λm=>(r m).mono λf w' a=>?_⟩;cases f with
  |returned V=>obtain⟨s,t,u,x⟩:=a;exact⟨s,H1,t,u,x,AK n,λp a=>(o p a).imp id Ti⟩
  |panicked=>exact a.elim
  |outgrown=>exact a.elim
 ·cases h
def Dg(e:Kn)(f:FuncId)(args:List AV)(H:Hp):Bool:=
 Nat.beq f e.f&&(Nat.beq H.nx e.nx&&(oJ 64 args e.args&&e.pre.all (λp=>IQ (H.get p.b) p.k)))
def jr:List Kn->cj
 | [],_,_,_=>none
 |e::l,f,args,H=>bif Dg e f args H then some (.ok e.v (ii e.post ⟨H.t,e.nx'⟩))else jr l f args H
def zcc(k:Vn h=true):h.bG=false:=by cases h<;>first|rfl|cases k
theorem zcf(k:Lh h=true):h=.dead:=by cases h<;>first|rfl|cases k
theorem zmc{e:Kn}(I:Jd P e)(s:e.wf=true){args:List AV}(t:Dg e e.f args H=true){ι:Im}{w:World}{j:List Value}(u:HR ι H w)(J:aK ι args j):(callFunc e.f j.toArray).run P w=.ok (.enter e.f j.toArray) w/\∀m,CallsIn Fence.wide m P e.f j.toArray w (bP ι H w e.v (ii e.post ⟨H.t,e.nx'⟩)):=by
 unfold Dg at t;simp only[sA,lEN]at t;obtain⟨_,v,x,M⟩:=t;have v:=AK v;have x:=(tB 64).2 _ _ x;subst x;unfold Kn.wf at s;simp only[sA,lEN,ny,lIE]at s;obtain⟨A,F⟩:=s;have C:∀p∈e.pre,p.b<e.nx:=λp f=>eQ (A p f).1.1;have y:∀p∈e.post,p.b<e.nx':=λp f=>eQ (F p f).1;have h:∀c,fD (c)->e.hp.get c=match fR c e.pre with|some k=>k|none=>.dead:=λc a=>by have:=LV (H:=⟨Hp.empty.t,e.nx⟩) a e.pre λp f=>vG;have d:Hp.get ⟨Hp.empty.t,e.nx⟩ c=.dead:=Ft _ c;rw[d]at this;exact this
 have l:∀c,fD (c)->(ii e.post ⟨H.t,e.nx'⟩).get c=match fR c e.post with|some k=>k|none=>H.get c:=λc a=>
  LV (H:=⟨H.t,e.nx'⟩) a e.post λp f=>vG
 have g:qu e.hp H:=by
  refine⟨(Mo _ _).trans v.symm,λc a=>?_⟩;rw[h c a];cases b:fR c e.pre with
  |none=>exact .inl rfl
  |some k=>
   have D:=M ⟨c,k⟩ (ww b)
   grind [Ti]
 obtain⟨N,O⟩:=I ι w j (u.part g) J;refine⟨N,λm=>(O m).mono λK w' f=>?_⟩;cases K with
 |panicked=>exact f.elim
 |outgrown=>exact f.elim
 |returned V=>
  obtain⟨Q,H1,R,S,T,U,W⟩:=f;have n:∀c,fD (c)->(e.hp.get c).bG=true->c<H.nx->(ii e.post ⟨H.t,e.nx'⟩).get c=H.get c:=λc a d L=>by
   rw[l c a];cases b:fR c e.post with
   |none=>rfl
   |some k=>
    have E:=F ⟨c,k⟩ (ww b);dsimp only at E;rcases E.2 with D|⟨q,B,o⟩
    ·have:=eQ D;omega
    ·have o:=AK o;obtain⟨G,i⟩:=L7 (c:=c) ⟨q,B,o⟩;rw[h c a,i]at d;have:=zcc (A ⟨c,G⟩ (ww i)).1.2
     grind
  have z:∀c,fD (c)->((e.hp.get c).bG=false\/H.nx<=c)->(ii e.post ⟨H.t,e.nx'⟩).get c=.dead\/Alike (H1.get c) ((ii e.post ⟨H.t,e.nx'⟩).get c):=λc a d=>by
   rw[l c a];cases b:fR c e.post with
   |some k=>
    have Y:=W ⟨c,k⟩ (ww b)
    grind [zcf]
   |none=>
    rcases d with d|d
    ·rw[h c a]at d;cases r:fR c e.pre with
     |none=>rw[r]at d;cases d
     |some k=>
      obtain⟨q,B,o⟩:=(A ⟨c,k⟩ (ww r)).2;obtain⟨G,i⟩:=L7 (c:=c) ⟨q,B,AK o⟩
      grind
    ·grind [u.free]
  obtain⟨X,k2⟩:=u.frame (G':=ii e.post ⟨H.t,e.nx'⟩) g S T ((Mo _ _).trans U.symm) n z;exact⟨Q,R,X,k2⟩
theorem Nc:∀{l:List Kn},(∀e∈l,Jd P e/\e.wf=true)->xM P (jr l)
 | [],_=>⟨λ_ _ _ _ h=>by cases h⟩
 |e::l,h=>by
  refine⟨λf args H r a v d c ι w g i j=>?_⟩;unfold jr at a;cases b:Dg e f args H with
  |false=>rw[b]at a;exact(Nc λx k=>h x (by simp[k])).fn f args H r a v d c ι w g i j
  |true=>
   rw[b]at a;simp only[AN,AH]at a;subst a;cases c;have m:f=e.f:=by unfold Dg at b;simp only[sA]at b;exact AK b.1
   grind [zmc]
end Go.Ev
end
noncomputable section
namespace Go.Ev
open Go.RowKit Go.WideShapes Go.ChangeShapes Go.ChangeAt
variable {P:Program} {Hd:Type} {enc:TypeId×Value->Hd}
theorem SJ(b:laidOutB P=true){W c:World}{sp:Nat->Bool}:∀{ts:List TypeId} {vs:List Value} {ds:List (DataW Hd)} {ps:List MemPlace},(∀t∈ts,P.readableRec t=true/\t<P.types.size) -> DataW.TrodAll enc P W 0 (λ_=>true) true ts vs ds ps->(∀p∈ps,W.sameAt c p)->(∀p∈ps,sp p.block=true)->DataW.TrodAll enc P c 0 sp true ts vs ds ps
 | [],[],[],_,_,h,_,_=>h
 |_::_,_::_,_::_,_,hT,⟨p,q,h1,h2,e⟩,hs,hb=>
  ⟨p,q,WideElems.Trod_stays b (hT _ (lE4.2 (Or.inl rfl))).1 (hT _ (lE4.2 (Or.inl rfl))).2 h1 (λx a=>hs x (by grind)) (λx a=>hb x (by grind)),
   SJ b (λt d=>hT t (lE4.2 (Or.inr d))) h2 (λx a=>hs x (by grind)) (λx a=>hb x (by grind)),e⟩
def X6(P:Program)(ts:List TypeId):Bool:=ts.all λt=>P.readableRec t&&decide (t<P.types.size)
def zuj(z:laidOutB P=true){f:Func}{s:ChangeSpec}{a g c h:Bool}{W r:World}{args:Array Value}{ds A:List (DataW Hd)}{d:List MemPlace}{tb:TypeId}(u:DataW.Whole enc P f.params.toList s.vars a W args.toList ds A d)(v:s.vars=[])(B:X6 P f.params.toList=true)(i:s.fn Hd ds={results:=[.lit (.bool true)],args:=ds})(e:f.resultTypes= #[tb])(l:P.underlying tb=some .bool)(w:Below W.heap.size W r):s.post enc P f a g c h W args (.bool true) r:=by
 have m:=u;obtain⟨p,q,E,y,F,_,_⟩:=u;rw[v]at y;obtain⟨rfl,rfl⟩:=trodVars_none y;have j:∀t∈f.params.toList,P.readableRec t=true/\t<P.types.size:=λt C=>by have:=lEN.1 B t C;simp_all
 have k:ds++[]=ds:=DN ds;refine zb0 (pa:=p) (pv:=[]) m (λb sp G=>?_) (λsp o=>?_) (λsp _=>?_) F w ?_
 ·rw[k,i,e];exact trodAll_cons_mk (shut_bool l _) trodAll_mk0
 ·rw[k,i];have n:=m.lt;exact SJ z j E (λx D=>w.same (n x (by grind))) (λx D=>o x (by grind))
 ·rw[k,i,v];rfl
 ·exact ok_one e rfl (okWide_bool_mk l _)
end Go.Ev
end
