/-
 For StrataTurns: functions in direct style, their contracts, and the plain mathematics, part 6 of 10. No conditions beyond those that each theorem states.
-/
import Derived.Test.YtighkibjecdbnaaGreatConD
import Derived.Test.YtighkibjecdbnaaGreatConE
import Derived.Test.YtighkibjecdbnaaGreatConC
import Derived.Test.YtighkibjecdbnaaGreatEv4
import Derived.Sort.AssemblyPlain
import Derived.KernelRfl
set_option linter.unusedSimpArgs false
set_option linter.unusedVariables false
open Nat renaming reduceAdd->rB,reduceMul->rI,reduceSub->rK,reduceLeDiff->rL,reduceEqDiff->rN,reduceShiftRight->rS,reduceAnd->r6
noncomputable section
namespace Go.Di
open Go.Ev
variable {i k m n:Nat} {ms:List Nat}
def kT(n:Nat)(e:T3):Nat:=(e.f*n+e.t)*2+e.s
theorem zm9{e:T3}(h:e∈ent n ms i k):e.f=i/\e.t=k/\e.s<2/\0<ms.getD (i*n+k) 0:=by
 rcases pg.1 h with h|h
 ·split at h
  ·rw[gq]at h;subst h;refine⟨rfl,rfl,Nat.zero_lt_two,?_⟩;omega
  ·cases h
 ·split at h
  ·rename_i a;rw[gq]at h;subst h;exact⟨rfl,rfl,Nat.one_lt_two,by omega⟩
  ·cases h
theorem z8p(n:Nat)(ms:List Nat)(i k:Nat):(ent n ms i k).Pairwise (fun a b=>kT n a<kT n b):=by unfold ent;split<;>split<;>simp[kT]
theorem q05{n:Nat}{ms:List Nat}{i:Nat}{e:T3}:∀{k:Nat},e∈eR n ms i k->e.f=i/\e.t<k/\e.s<2/\0<ms.getD (i*n+e.t) 0
 |0,h=>by cases h
 |k+1,h=>by
  rcases pg.1 h with h|h
  ·obtain⟨a,b,c,d⟩:=q05 h;omega
  ·obtain⟨a,b,c,d⟩:=zm9 h;simp_all
theorem z8w(n:Nat)(ms:List Nat)(i:Nat):∀ k,(eR n ms i k).Pairwise (fun a b=>kT n a<kT n b)
 |0=>List.Pairwise.nil
 |k+1=>by refine yf.2 ⟨z8w n ms i k,z8p n ms i k,fun a c b d=>?_⟩;obtain⟨e,h,j,_⟩:=q05 c;obtain⟨f,g,l,_⟩:=zm9 d;unfold kT;rw[e,f,g];omega
theorem qjn{n:Nat}{ms:List Nat}{e:T3}:∀{i:Nat},e∈eM n ms i->e.f<i/\e.t<n/\e.s<2/\0<ms.getD (e.f*n+e.t) 0
 |0,h=>by cases h
 |i+1,h=>by
  rcases pg.1 h with h|h
  ·obtain⟨a,b,c,d⟩:=qjn h;omega
  ·obtain⟨a,b,c,d⟩:=q05 h;simp_all
theorem z3i(n:Nat)(ms:List Nat):∀ i,(eM n ms i).Pairwise (fun a b=>kT n a<kT n b)
 |0=>List.Pairwise.nil
 |i+1=>by refine yf.2 ⟨z3i n ms i,z8w n ms i n,fun a c b d=>?_⟩;obtain⟨f,h,j,_⟩:=qjn c;obtain⟨g,k,l,_⟩:=q05 d;have e:(a.f+1)*n<=i*n:=um n f;rw[xk,zu]at e;unfold kT;rw[g];omega
theorem znz{a b:Int}(h:a<b):iQ a b= -1:=by unfold iQ;rw[kz h]
theorem q7f(a:Int):iQ a a=0:=by unfold iQ;rw[lu (Int.lt_irrefl a),lu (Int.lt_irrefl a)]
theorem z7x{a b:T3}(i:a.t<n)(j:b.t<n)(k:a.s<2)(sb:b.s<2)(h:kT n a<kT n b):sD (toE a) (toE b)<0:=by
 unfold kT at h;rcases dm a.f b.f with c|c|c
 ·show yN [iQ (.ofNat a.f) (.ofNat b.f),_,_]<0;rw[znz (by simp only[qi];omega)];exact Int.negSucc_lt_zero 0
 ·have f:a.f*n=b.f*n:=by rw[c]
  rcases dm a.t b.t with d|d|d
  ·show yN [iQ (.ofNat a.f) (.ofNat b.f),iQ (.ofNat a.t) (.ofNat b.t),_]<0;rw[c,q7f,znz (a:=.ofNat a.t) (by simp only[qi];omega)];exact Int.negSucc_lt_zero 0
  ·have e:a.s=0/\b.s=1:=by omega
   show yN [iQ (.ofNat a.f) (.ofNat b.f),iQ (.ofNat a.t) (.ofNat b.t),iQ (sgn (decide (a.s=1))) (sgn (decide (b.s=1)))]<0;rw[c,d,q7f,q7f,e.1,e.2];decide
  ·omega
 ·have g:(b.f+1)*n<=a.f*n:=um n c;rw[xk,zu]at g;omega
theorem qdn(n:Nat)(ms:List Nat):y7 n (eF n ms):=by
 refine⟨fun e b=>?_,fun i a=>?_⟩
 ·obtain⟨x,d,rfl⟩:=qj.1 b;obtain⟨f,g,_⟩:=qjn d;exact⟨f,g⟩
 ·unfold eF at a ⊢;rw[pz]at a;rw[zf,zf];have c:=z3i n ms n;have:=uf.1 c i (i+1) (by omega) a (dC i);obtain⟨_,h,j,_⟩:=qjn (lg (show i<(eM n ms n).length by omega));obtain⟨_,k,l,_⟩:=qjn (lg a);exact z7x h k j l this
theorem qk3{n i j a b:Nat}(d:j<n)(c:b<n)(h:i*n+j=a*n+b):i=a/\j=b:=by
 have e:(i*n+j) / n=i:=by rw[lAD,Nat.mul_add_div (by omega),Nat.div_eq_of_lt d,yw]
 have f:(a*n+b) / n=a:=by rw[lAD,Nat.mul_add_div (by omega),Nat.div_eq_of_lt c,yw]
 simp_all
def ltE(x y:Edge):Bool:=decide (sD x y<0)
theorem qpz(cs:List Nat)(a c v:Nat)(b:c<cs.length):(cs.set a v).getD c 0=if a=c then v else cs.getD c 0:=by
 rw[kw,kw,lAK];by_cases h:a=c
 ·simp_all
 ·simp_all
theorem zs9(n:Nat)(ms:List Nat)(f t:Nat)(s:Bool):(j5 n ms f t s).length=ms.length:=by
 unfold j5;generalize (if s=true then 2 else 1)=d;by_cases hd:ms.getD (f*n+t) 0 / d%2=0
 ·simp_all
 ·rw[lu hd]
theorem zta(j:ms.length=n*n){f t:Nat}(s:Bool)(b:i<n)(a:k<n)(c:t<n)(l:ms.getD (i*n+k) 0<=3):(j5 n ms f t s).getD (i*n+k) 0<=3/\((j5 n ms f t s).getD (i*n+k) 0%2=1↔ms.getD (i*n+k) 0%2=1\/(f=i/\t=k/\s=false))/\(1<(j5 n ms f t s).getD (i*n+k) 0↔1<ms.getD (i*n+k) 0\/(f=i/\t=k/\s=true)):=by
 have m:=qjl b a;by_cases e:f=i/\t=k
 ·obtain⟨rfl,rfl⟩:=e;unfold j5;generalize g:ms.getD (f*n+t) 0=v at *;cases s
  ·simp only[cu,lA9];by_cases h:v / 1%2=0
   ·rw[kz h,qpz _ _ _ _ (by omega),kz rfl];refine⟨by omega,?_,?_⟩
    ·simp;omega
    ·simp;omega
   ·simp_all
  ·simp only[oh];by_cases h:v / 2%2=0
   ·rw[kz h,qpz _ _ _ _ (by omega),kz rfl];refine⟨by omega,?_,?_⟩
    ·simp
    ·simp
   ·rw[lu h,g];refine⟨by omega,?_,?_⟩
    ·simp
    ·simp;omega
 ·have:(j5 n ms f t s).getD (i*n+k) 0=ms.getD (i*n+k) 0:=by
   unfold j5;generalize (if s=true then 2 else 1)=d;by_cases hd:ms.getD (f*n+t) 0 / d%2=0
   ·rw[kz hd,qpz _ _ _ _ (by omega),lu fun h=>e (qk3 c a h)]
   ·rw[lu hd]
  omega
theorem qo6{n i k:Nat}(a:i<n)(b:k<n):∀(ts:List T3) (ms:List Nat),ms.length=n*n->(∀e∈ts,e.f<n/\e.t<n)->ms.getD (i*n+k) 0<=3 -> ((p9 n ms ts).getD (i*n+k) 0%2=1↔ms.getD (i*n+k) 0%2=1\/∃ e∈ts,e.f=i/\e.t=k/\decide (e.s=1)=false)/\(1<(p9 n ms ts).getD (i*n+k) 0↔1<ms.getD (i*n+k) 0\/∃ e∈ts,e.f=i/\e.t=k/\decide (e.s=1)=true)
 | [],ms,_,_,_=>by simp[p9]
 |e::l,ms,hl,hT,h3=>by obtain⟨d,g,h⟩:=zta hl (f:=e.f) (t:=e.t) (decide (e.s=1)) a b (hT e qy).2 h3;obtain⟨j,m⟩:=qo6 a b l (j5 n ms e.f e.t (decide (e.s=1))) (by rw[zs9,hl]) (fun x c=>hT x (uu _ c)) d;show((p9 n (j5 n ms e.f e.t (decide (e.s=1))) l).getD _ 0%2=1↔_)/\_;rw[j,g];show _/\(1<(p9 n (j5 n ms e.f e.t (decide (e.s=1))) l).getD _ 0↔_);rw[m,h];simp only[qm,exists_eq_or_imp,or_assoc,and_self]
def bn(b:Bool):Nat:=if b then 1 else 0
theorem z9l{a b:Bool}(h:bn a=bn b):a=b:=by cases a<;>cases b<;>first|rfl|(simp[bn]at h)
theorem zxe(b:Bool):sgn b=(bn b:Int):=by cases b<;>rfl
def oP(x y:Edge):Prop:=x.f<y.f\/(x.f=y.f/\(x.t<y.t\/(x.t=y.t/\bn x.s<bn y.s)))
theorem zl3(x y:Edge):ltE x y=true↔oP x y:=by unfold ltE sD oP;rw[zxe,zxe];simp only[yN,iQ,qi,yc];omega
theorem q6x(x y:Edge):ltE x y=false↔¬ oP x y:=by rw[<-zl3];cases ltE x y<;>simp
theorem oP.tri{x y:Edge}(g:¬ oP x y)(h:¬ oP y x):x=y:=by
 unfold oP at g h;obtain⟨a,b,c⟩:=x;obtain⟨d,e,f⟩:=y;simp only at g h;have i:a=d:=by omega
 have j:b=e:=by omega
 have k:bn c=bn f:=by omega
 subst i;subst j;rw[z9l k]
theorem oP.irr(x:Edge):¬ oP x x:=by unfold oP;omega
theorem oP.trans{x y z:Edge}:oP x y->oP y z->oP x z:=by unfold oP;omega
abbrev Asc(l:List Edge):Prop:=l.Pairwise oP
theorem Asc.nodup{l:List Edge}(h:Asc l):l.Nodup:=List.Pairwise.imp (fun{a b} (h:oP a b) (e:a=b)=>oP.irr b (e▸h)) h
theorem Asc.uniq:∀{l a:List Edge},Asc l->Asc a->l.Perm a->l=a
 | [],a,_,_,hp=>by rw[List.nil_perm.1 hp]
 |x::l,[],_,_,hp=>by have:=hp.length_eq;simp at this
 |x::l,y::a,h,b,hp=>by
  have h:=ou.1 h;have b:=ou.1 b;have c:x=y:=by
   have d:x∈y::a:=hp.mem_iff.1 (qm.2 (Or.inl rfl));have f:y∈x::l:=hp.mem_iff.2 (qm.2 (Or.inl rfl));rcases qm.1 d with e|d
   ·exact e
   ·rcases qm.1 f with e|f
    ·exact e.symm
    ·exact absurd ((h.1 y f).trans (b.1 x d)) (oP.irr _)
  subst c;rw[Asc.uniq h.2 b.2 ((List.perm_cons x).1 hp)]
theorem qx4{x y:Edge}:sD x y<0↔oP x y:=by rw[<-zl3];unfold ltE;simp
theorem y7.asc{b:List Edge}(h:y7 n b):Asc b:=by
 refine uf.2 ?_;intro i j d c a;obtain⟨k,rfl⟩:∃ k,j=i+1+k:=⟨j-i-1,by omega⟩;clear a
 induction k with
 |zero=>exact qx4.1 (h.ord i c)
 |succ k ih=>exact(ih (by omega)).trans (qx4.1 (h.ord (i+1+k) (by omega)))
theorem Asc.ok{a:List Edge}(h:Asc a)(b:∀ e∈a,e.f<n/\e.t<n):y7 n a:=
 ⟨b,fun i c=>qx4.2 (uf.1 h i (i+1) (by omega) c (by omega))⟩
def aGh(n:Nat)(ms:List Nat)(f t:Nat)(s:Bool):Prop:=if s then 1<ms.getD (f*n+t) 0 else ms.getD (f*n+t) 0%2=1
theorem qp5{e:T3}:e∈ent n ms i k↔e.f=i/\e.t=k/\((e.s=0/\ms.getD (i*n+k) 0%2=1)\/(e.s=1/\1<ms.getD (i*n+k) 0)):=by
 obtain⟨f,t,s⟩:=e;unfold ent;rw[pg];constructor
 ·rintro (h|h)
  ·simp_all
  ·simp_all
 ·rintro ⟨rfl,rfl,⟨a,b⟩|⟨a,b⟩⟩
  ·simp_all
  ·simp_all
theorem zxy{n:Nat}{ms:List Nat}{i:Nat}{e:T3}:∀{k:Nat},e∈eR n ms i k↔e.t<k/\e∈ent n ms i e.t
 |0=>by constructor;(intro h;cases h);(intro h;omega)
 |k+1=>by
  show e∈eR n ms i k++ent n ms i k↔_;rw[pg,zxy];constructor
  ·rintro (⟨b,a⟩|h)
   ·exact⟨by omega,a⟩
   ·have c:=(qp5.1 h).2.1;simp_all
  ·rintro ⟨b,a⟩;by_cases h:e.t<k
   ·simp_all
   ·have:e.t=k:=by omega
    simp_all
theorem zbd{n:Nat}{ms:List Nat}{e:T3}:∀{m:Nat},e∈eM n ms m↔e.f<m/\e.t<n/\e∈ent n ms e.f e.t
 |0=>by constructor;(intro h;cases h);(intro h;omega)
 |m+1=>by
  show e∈eM n ms m++eR n ms m n↔_;rw[pg,zbd,zxy];constructor
  ·rintro (⟨b,a,c⟩|⟨b,a⟩)
   ·exact⟨by omega,a,c⟩
   ·have d:=(qp5.1 a).1;simp_all
  ·rintro ⟨b,a,c⟩;by_cases h:e.f<m
   ·simp_all
   ·have:e.f=m:=by omega
    simp_all
theorem q69{e:Edge}:e∈eF n ms↔e.f<n/\e.t<n/\aGh n ms e.f e.t e.s:=by
 unfold eF aGh;rw[qj];constructor
 ·rintro ⟨t,d,rfl⟩;obtain⟨a,b,c⟩:=zbd.1 d;refine⟨a,b,?_⟩;rcases(qp5.1 c).2.2 with⟨h4,h5⟩|⟨h4,h5⟩
  ·show(if decide (t.s=1)=true then _ else _);rw[h4,lu (by decide)];exact h5
  ·show(if decide (t.s=1)=true then _ else _);rw[h4,kz (by decide)];exact h5
 ·rintro ⟨a,b,c⟩;obtain⟨f,t,s⟩:=e;cases s
  ·exact⟨⟨f,t,0⟩,zbd.2 ⟨a,b,qp5.2 ⟨rfl,rfl,.inl ⟨rfl,by simpa using c⟩⟩⟩,rfl⟩
  ·exact⟨⟨f,t,1⟩,zbd.2 ⟨a,b,qp5.2 ⟨rfl,rfl,.inr ⟨rfl,by simpa using c⟩⟩⟩,rfl⟩
theorem zda{ts:List T3}(o:∀ e∈ts,e.f<n/\e.t<n){e:Edge}:e∈eF n (p9 n (List.replicate (n*n) 0) ts)↔e∈ts.map toE:=by
 rw[q69,qj];have p:∀ x,(List.replicate (n*n) 0).getD x 0=0:=fun x=>by rw[kw,lAV];split<;>rfl
 constructor
 ·rintro ⟨h,j,d⟩;obtain⟨l,m⟩:=qo6 h j ts _ (uw) o (by rw[p];omega);rw[p]at l m;unfold aGh at d;obtain⟨f,t,s⟩:=e;cases s
  ·simp only[cu,lA9]at d;rw[l]at d;rcases d with d|⟨x,g,a,b,c⟩
   ·omega
   ·exact⟨x,g,by unfold toE;rw[a,b,c]⟩
  ·simp only[oh]at d;rw[m]at d;rcases d with d|⟨x,g,a,b,c⟩
   ·omega
   ·exact⟨x,g,by unfold toE;rw[a,b,c]⟩
 ·rintro ⟨x,g,rfl⟩;obtain⟨h,j⟩:=o x g;obtain⟨l,m⟩:=qo6 (i:=x.f) (k:=x.t) h j ts _ (uw) o (by rw[p];omega);refine⟨h,j,?_⟩;show if decide (x.s=1)=true then _ else _
  cases q:decide (x.s=1)
  ·rw[lu (by simp)];exact l.2 (.inr ⟨x,g,rfl,rfl,q⟩)
  ·rw[kz rfl];exact m.2 (.inr ⟨x,g,rfl,rfl,q⟩)
def qk2{α:Type}[DecidableEq α](S:List α)(i:Nat):Bool:=decide (i=0)|| !decide (S[i]? =S[i-1]?)
def l7{α:Type}[DecidableEq α](S:List α)(m:Nat):List α:=(List.range m).filterMap fun i=>if qk2 S i then S[i]? else none
def jD{α:Type}[DecidableEq α](S:List α):List α:=l7 S S.length
theorem qxy{α:Type}[DecidableEq α](S:List α)(h:m<S.length):l7 S (m+1)=l7 S m++if qk2 S m then[S[m]]else[]:=by unfold l7;rw[oz,List.filterMap_append];congr 1;rw[List.filterMap_cons,List.filterMap_nil,lL h];cases qk2 S m<;>rfl
theorem zno{α:Type}[DecidableEq α]{S:List α}{x:α}:x∈jD S↔x∈S:=by
 unfold jD l7;rw[List.mem_filterMap];constructor
 ·rintro ⟨i,g,h⟩;split at h
  ·exact uB h
  ·cases h
 ·intro e;have a:S.findIdx (fun y=>decide (y=x))<S.length:=by rw[List.findIdx_lt_length];exact⟨x,e,by simp⟩
  have c:=List.findIdx_getElem (w:=a);refine⟨S.findIdx fun y=>decide (y=x),xu.2 a,?_⟩;have d:S[S.findIdx fun y=>decide (y=x)]=x:=by simpa using c
  have f:qk2 S (S.findIdx fun y=>decide (y=x))=true:=by
   unfold qk2;rw[ig];by_cases j:(S.findIdx fun y=>decide (y=x))=0
   ·simp_all
   ·right;rw[yg,yt];intro h;have b:=List.not_of_lt_findIdx (xs:=S) (p:=fun y=>decide (y=x)) (i:=(S.findIdx fun y=>decide (y=x))-1) (by omega);rw[lL a,lL (by omega),d]at h;injection h with h;rw[<-h]at b;simp at b
  simp_all
theorem z3o{α:Type}[DecidableEq α]{R:α->α->Prop}{S:List α}(m:∀ x∈S,¬R x x)(g:∀ x∈S,∀y∈S,¬R x y->¬ R y x->x=y)(n:S.Pairwise fun x y=>¬ R y x):(jD S).Pairwise R:=by
 unfold jD l7;rw[List.pairwise_filterMap];refine List.Pairwise.imp_of_mem ?_ List.pairwise_lt_range;intro i j s t l x d y f;have a:j<S.length:=xu.1 t;have b:i<S.length:=xu.1 s;split at f
 ·rename_i c;split at d
  ·rw[lL b]at d;rw[lL a]at f;injection d with d;injection f with f;subst d f;have k:=uf.1 n;have o:=k i j b a l;by_cases h:R S[i] S[j]
   ·exact h
   ·exfalso;have e:=g _ (lg b) _ (lg a) h o;have p:=k (j-1) j (by omega) a (by omega);have q:¬ R S[j-1] S[j]:=by
     rw[<-e];by_cases u:i=j-1
     ·simp_all
     ·exact k i (j-1) b (by omega) (by omega)
    have r:=g _ (lg (by omega)) _ (lg a) q p;unfold qk2 at c;rw[ig,yg,yt,lL a,lL (by omega),r]at c;rcases c with c|c
    ·simp at c;omega
    ·exact c rfl
  ·cases d
 ·cases f
theorem z3p{S:List Edge}(a:S.Pairwise fun x y=>¬ oP y x):Asc (jD S):=z3o (R:=oP) (fun x _=>oP.irr x) (fun _ _ _ _=>oP.tri) a
theorem Asc.ext{l a:List Edge}(h:Asc l)(b:Asc a)(c:∀ x,x∈l↔x∈a):l=a:=
 Asc.uniq h b ((List.perm_ext_iff_of_nodup h.nodup b.nodup).2 c)
def sortE(S:List Edge):List Edge:=S.mergeSort fun x y=> !ltE y x
theorem zso(S:List Edge):(sortE S).Pairwise fun x y=>¬ oP y x:=by
 have h:=List.pairwise_mergeSort (le:=fun x y=> !ltE y x) (fun a b c=>by
  simp only[yg,q6x];unfold oP;omega) (fun a b=>by
  simp only[ig,yg,q6x];unfold oP;omega) S
 refine List.Pairwise.imp ?_ h;intro a b h;rwa [yg,q6x]at h
theorem qze{S:List Edge}{x:Edge}:x∈sortE S↔x∈S:=(List.mergeSort_perm _ _).mem_iff
theorem qzf(S:List Edge):(sortE S).length=S.length:=List.length_mergeSort _
theorem q6o{ts:List T3}(a:∀ e∈ts,e.f<n/\e.t<n):eF n (p9 n (List.replicate (n*n) 0) ts)=jD (sortE (ts.map toE)):=
 Asc.ext (qdn n _).asc (z3p (zso _)) fun x=>by rw[zda a,zno,qze]
end Go.Di
end
noncomputable section
namespace Go.Di
open Go.Ev
variable {C:Nat->Ev.Call}
structure CpW{α:Type}[DecidableEq α](z:Nat)(f:α->List AV)(e0:AV->AV->Option Bool)(zs:List AV):Prop where
 len:∀ x,(f x).length=z
 pos:0<z
 eq:∀(neg:Bool) (x y:α),pX neg (e0 (.agg (f x)) (.agg (f y)))=.val (.bool (bif neg then !decide (x=y)else decide (x=y)))
 zl:zs.length=z
theorem qdl{α:Type}{z:Nat}{f:α->List AV}(b:∀ x,(f x).length=z):∀ l:List α,(l.flatMap f).length=l.length*z
 | []=>by simp
 |a::l=>by rw[xF,ku,qdl b l,b,gz,xk];omega
variable {α:Type} [DecidableEq α] {z:Nat} {f:α->List AV} {e0:AV->AV->Option Bool} {zs:List AV}
theorem zlz{i n:Nat}(z:Nat)(h:i<n):i*z+z<=n*z:=by have:=um z h;rwa [Nat.succ_mul]at this
omit [DecidableEq α]in
theorem q09(a:∀ x,(f x).length=z)(q:Nat)(A Z:List AV)(S:List α){i:Nat}(h:i<S.length):jG (aB q (A++S.flatMap f++Z)) (A.length+i*z) z=some (f S[i]):=by have b:=qdl a S;have c:=zlz z h;rw[qb7,kz (by simp only[ku];omega),rf,<-lAB,List.drop_left' rfl,xm (by omega),List.take_append_of_le_length (by rw[xx];omega),qgg a S i h]
omit [DecidableEq α]in
theorem z3u(c:∀ x,(f x).length=z)(A Z:List AV)(e:α):∀(S:List α) (i:Nat),i<S.length->aY (A++S.flatMap f++Z) (A.length+i*z) (f e)=A++(S.set i e).flatMap f++Z:=by
 have b:∀(S:List α) (i:Nat),i<S.length->aY (S.flatMap f++Z) (i*z) (f e)=(S.set i e).flatMap f++Z:=by
  intro S
  induction S with
  |nil=>intro i h;simp at h
  |cons a S ih=>
   intro i h;have d:=c a;have g:=c e;cases i with
   |zero=>unfold aY;simp_all
   |succ i=>have:=ih i (by simpa using h);rw[lAX,xF,xF,rf,rf,<-this];unfold aY;rw[show(i+1)*z=(f a).length+i*z by rw[d,Nat.succ_mul];omega,iw,rf,rf,rf,ui,iy]
 intro S i h;rw[rf,rf,<-b S i h];unfold aY;rw[iw,ui,iy];simp
theorem zn9(n m i:Nat)(h:i<=n)(a:n<=m):bounds n m (some (iN i)) none none=some ⟨i,n,m⟩:=by show(match(bif Nat.ble i n then some i else none)with|none=>none|some l=>some (Bd.mk l n m))=_;rw[ble_eq,qw h];rfl
theorem q9l(z b o n i:Nat)(e:Bool)(h:i<n):kL z (.sl b o n n e) (some (iN i)) none none=.val (.sl b (o+i*z) (n-i) (n-i) e):=by show(match bounds n n (some (iN i)) none none with|some bd=>iI b o z bd e|none=>R0.bad)=_;rw[zn9 _ _ _ (by omega) (lh _)];unfold iI;simp only[beq_eq];rw[uA (by omega)];rfl
theorem zsp(z b o n i:Nat)(e:Bool)(h:i<=n)(a:0<n):kL z (.sl b o n n e) none (some (iN i)) none=.val (.sl b o i n e):=by show(match bounds n n none (some (iN i)) none with|some bd=>iI b o z bd e|none=>R0.bad)=_;rw[q1d _ _ _ h];unfold iI;simp only[beq_eq];rw[uA (by omega),aj];simp
structure CpO{α:Type}(f:α->List AV)(H:Hp)(b q:Nat)(A:List AV)(l:List α)(w:AV)(e:Bool)(H':Hp):Prop where
 is:∃ m Z,w=.sl b A.length l.length m e/\l.length<=m/\0<m/\H'.get b=aB q (A++(l.flatMap f)++Z)
 fm:Fm (· =b) H H'
 nx:H'.nx=H.nx
theorem q06(m:CpW z f e0 zs){O:Ev.Call}{H0:Hp}{b q k0:Nat}{A:List AV}{S:List α}{e:Bool}(N:b<H0.nx)(B:0<k0/\k0<S.length)(P:S.length<900000){Q:pH}{qe:pB}(M:∀ H (d:List α),d.length=S.length->H.get b=aB q (A++(d.flatMap f)++[])->d.take (jD S).length=jD S->(jD S).length<S.length->0<(jD S).length->Fm (· =b) H0 H->H.nx=H0.nx->Ok (qe (iN ((jD S).length)) H) Q):∀(k k2:Nat) (H:Hp) (d:List α),1<=k2->k0+k2<=S.length->S.length-(k0+k2)<k->d.length=S.length->H.get b=aB q (A++(d.flatMap f)++[])->(∀p (h:p<S.length) (R:p<d.length),k0+k2-1<=p->d[p]=S[p]) -> d.take (l7 S (k0+k2)).length=l7 S (k0+k2)->(l7 S (k0+k2)).length<k0+k2->0<(l7 S (k0+k2)).length->Fm (· =b) H0 H->H.nx=H0.nx -> Ok (qp8 O z e0 zs qe (.sl b A.length S.length S.length e) (.sl b (A.length+k0*z) (S.length-k0) (S.length-k0) e) k (iN ((l7 S (k0+k2)).length)) (iN k2) H) Q
 |0,k2,_,_,_,_,h,_,_,_,_,_,_,_,_=>by omega
 |k+1,k2,H,d,h1,h2,h3,K,L,hp,ht,hl,h0,hf,hx=>by
  show Ok (q7c O z e0 zs _ _ _ (qp8 O z e0 zs _ _ _ k) _ _ H) Q;unfold q7c;obtain⟨I,J⟩:=B;by_cases s:k0+k2<S.length
  ·have l:k2<S.length-k0:=by omega
   have o:k2-1<S.length-k0:=by omega
   unfold znt;have t:=q09 m.len q A [] d (i:=k0+k2) (by omega);have u:=q09 m.len q A [] d (i:=k0+k2-1) (by omega);rw[hp (k0+k2) s (by omega) (by omega)]at t;rw[hp (k0+k2-1) (by omega) (by omega) (by omega)]at u;rw[show A.length+(k0+k2)*z=A.length+k0*z+k2*z by rw[xk,ui]]at t;rw[show A.length+(k0+k2-1)*z=A.length+k0*z+(k2-1)*z by rw[show k0+k2-1=k0+(k2-1)by omega,xk,ui]]at u;rw[ut]at t u;have v:H.get b=aB q (A++(d.flatMap f)):=by rw[L,ut]
   have g:=qxy S s;have next:∀(H':Hp) (j:List α) (C:Nat),C=(l7 S (k0+k2+1)).length->j.length=S.length->H'.get b=aB q (A++(j.flatMap f)++[])->(∀p (h:p<S.length) (R:p<j.length),k0+(k2+1)-1<=p->j[p]=S[p]) ->
     j.take (l7 S (k0+(k2+1))).length=l7 S (k0+(k2+1))->(l7 S (k0+(k2+1))).length<k0+(k2+1)->0<(l7 S (k0+(k2+1))).length->Fm (· =b) H0 H'->H'.nx=H0.nx ->
     Ok (qx0 O z e0 zs (qp8 O z e0 zs qe (.sl b A.length S.length S.length e) (.sl b (A.length+k0*z) (S.length-k0) (S.length-k0) e) k) (iN C) (iN k2) H') Q:=fun H' j C D T U V W X Y Z a8=>by
    subst D;unfold qx0;simp(disch:=go_size)only[go_sem,rB,rI,rK,rL,rN,rS,r6];exact q06 m N ⟨I,J⟩ P M k (k2+1) H' j (by omega) (by omega) (by omega) T U V W X Y Z a8
   have w:qk2 S (k0+k2)= !decide (S[k0+k2]=S[k0+k2-1]):=by unfold qk2;rw[uA (show ¬k0+k2=0 by omega),Bool.false_or,lL s,lL (by omega)];simp
   by_cases hd:S[k0+k2]=S[k0+k2-1]
   ·have E:=zg hd;rw[w,qw hd]at g;rw[show l7 S (k0+k2)++(if(!true)=true then[S[k0+k2]]else[])=l7 S (k0+k2)by simp]at g;simp(disch:=go_size)only[go_sem,rB,rI,rK,rL,rN,rS,r6,l,o,v,t,u,m.eq,E];exact next H d _ (by rw[g]) K L (fun p a b c=>hp p a b (by omega)) (by rw[<-ui,g];exact ht) (by rw[<-ui,g];omega) (by rw[<-ui,g];exact h0) hf hx
   ·rw[w,uA hd]at g;rw[show l7 S (k0+k2)++(if(!false)=true then[S[k0+k2]]else[])=l7 S (k0+k2)++[S[k0+k2]]by simp]at g;have F:(l7 S (k0+k2)).length<S.length:=by omega
    have x:=zg (show A.length+(l7 S (k0+k2)).length*z+(f S[k0+k2]).length<=(A++(d.flatMap f)).length by have h1:=qdl m.len d;have h2:=zlz z (show(l7 S (k0+k2)).length<d.length by omega);rw[ku,m.len];omega);have r:=z3u m.len A [] S[k0+k2] d (l7 S (k0+k2)).length (by omega);rw[ut,ut]at r;have y:(f S[k0+k2]).length=z:=m.len _;simp(disch:=go_size)only[go_sem,rB,rI,rK,rL,rN,rS,r6,l,o,v,t,u,m.eq,hd,F,q9g,y];rw[y]at x;simp(disch:=go_size)only[go_sem,rB,rI,rK,rL,rN,rS,r6,x,r];have G:(d.set (l7 S (k0+k2)).length S[k0+k2]).length=S.length:=by rw[ul,K]
    have n:(l7 S (k0+k2+1)).length=(l7 S (k0+k2)).length+1:=by rw[g];simp
    refine next _ (d.set (l7 S (k0+k2)).length S[k0+k2]) _ n.symm G ?_ (fun p a b c=>?_) ?_ ?_ ?_ (hf.put _ _ fun _=>rfl) hx
    ·rw[ut];exact dL _ _ _
    ·rw[List.getElem_set_ne (by omega)];exact hp p a (by omega) (by omega)
    ·rw[<-ui,n,g];rw[lw (by omega),List.take_set_of_le (lh _),ht,lAH]
    ·rw[<-ui,n];omega
    ·rw[<-ui,n];omega
  ·have he:k0+k2=S.length:=by omega
   have l:¬ k2<S.length-k0:=by omega
   simp only[go_sem,l];rw[he]at ht hl h0 ⊢;exact M H d K L ht hl h0 hf hx
end Go.Di
end
noncomputable section
namespace Go.Di
open Go.Ev
variable {C:Nat->Ev.Call}
variable {α:Type} [DecidableEq α] {z:Nat} {f:α->List AV} {e0:AV->AV->Option Bool} {zs:List AV}
theorem qxz{α:Type}[DecidableEq α]{S:List α}:∀{m:Nat},m<=S.length->(∀i,i<m->qk2 S i=true)->l7 S m=S.take m
 |0,_,_=>rfl
 |m+1,h,hk=>by rw[qxy S h,qxz (by omega) fun i a=>hk i (by omega),hk m (by omega),lw h];rfl
theorem zbh(d:CpW z f e0 zs){O:Ev.Call}{H0:Hp}{b q:Nat}{A:List AV}{S:List α}{e:Bool}(I:b<H0.nx)(J:S.length<900000)(u:H0.get b=aB q (A++(S.flatMap f)++[])){Q:pH}{qe:pD}{qr:pB}(K:∀ w H,CpO f H0 b q A (jD S) w e H->Ok (qr w H) Q)(L:jD S=S->Ok (qe H0) Q):∀(k i:Nat),0<i->i<=S.length->S.length-i<k->(∀p,p<i->qk2 S p=true)->Ok (zbg O z e0 zs qr qe (.sl b A.length S.length S.length e) k (iN i) H0) Q
 |0,i,_,_,h,_=>by omega
 |k+1,i,h0,hi,hk,hp=>by
  show Ok (znu O z e0 zs _ _ _ (zbg O z e0 zs _ _ _ k) _ H0) Q;unfold znu;by_cases a:i<S.length
  ·have c:i-1<S.length:=by omega
   unfold zns;have y:=q09 d.len q A [] S a;have B:=q09 d.len q A [] S c;rw[ut]at y B;have o:H0.get b=aB q (A++(S.flatMap f)):=by rw[u,ut]
   have m:qk2 S i= !decide (S[i]=S[i-1]):=by unfold qk2;rw[uA (show ¬i=0 by omega),Bool.false_or,lL a,lL c];simp
   by_cases hd:S[i]=S[i-1]
   ·have C:=zg hd;have D:=q9l z b A.length S.length i e a;rw[qw hd]at m;have g:=qxy S a;rw[m]at g;have r:=qxz (yu a) hp;have s:l7 S (i+1)=S.take i:=by rw[g,r];simp
    have E:(l7 S (i+1)).length=i:=by rw[s,ry];omega
    simp(disch:=go_size)only[go_sem,rB,rI,rK,rL,rN,rS,r6,a,c,o,y,B,d.eq,C,D];unfold znv;rw[bW];have P:=q06 d (O:=O) (Q:=Q) (e:=e) (qe:=fun R H=>qx1 O z e0 zs qr (.sl b A.length S.length S.length e) R H) I (k0:=i) (S:=S) (A:=A) (q:=q) ⟨h0,a⟩ J (fun H j M v T N U V W=>by
     unfold qx1;have X:=q9l z b A.length S.length (jD S).length e N;have Y:=zsp z b A.length S.length (jD S).length e (by omega) (by omega);have Z:¬ S.length-(jD S).length=0:=by omega
     have F:qif zs H (.sl b (A.length+(jD S).length*z) (S.length-(jD S).length) (S.length-(jD S).length) e)=.ok .undef (H.put b (aB q (A++((jD S).flatMap f)++bB zs (S.length-(jD S).length)))):=by
      show(bif Nat.beq (S.length-(jD S).length) 0 then _ else storeAt H b (A.length+(jD S).length*z) (bB zs (S.length-(jD S).length)) .undef)=_;rw[beq_eq,uA Z,aj];have t:∀ n,(bB zs n).length=n*z:=fun n=>by
       induction n with
       |zero=>exact(lAS z).symm
       |succ n ih=>show(_++bB _ n).length=_;rw[ku,ih,d.zl,Nat.succ_mul];omega
      have hsm:=Nat.sub_mul S.length (jD S).length z;have hml:=um z (yu N);have G:=qdl d.len j;rw[M]at G;have bZD:=qdl d.len (jD S);have l:(j.flatMap f)=((jD S).flatMap f)++((j.drop (jD S).length).flatMap f):=by
       rw[<-vk];congr 1
       conv=>lhs;rw[<-oq (jD S).length j,T]
      rw[qch H b _ _ _ q _ v (by rw[ku,ku,t,uk];omega)];congr 3;unfold aY;rw[l,ut,<-rf,List.take_left' (by rw[ku];omega),t];rw[uy (by rw[ku,ku,qdl d.len,qdl d.len,xx,M];omega),ut]
     simp(disch:=go_size)only[go_sem,rB,rI,rK,rL,rN,rS,r6,X,F,Y];exact K _ _ ⟨⟨S.length,_,rfl,by omega,by omega,dL _ _ _⟩,V.put _ _ fun _=>rfl,W⟩) bL 1 H0 S (lh _) (by omega) (by rw[bZ];omega) rfl u (fun _ _ _ _=>rfl) (by rw[E,s]) (by omega) (by omega) (Fm.refl _ _) rfl
    simp_all
   ·rw[uA hd]at m;simp(disch:=go_size)only[go_sem,rB,rI,rK,rL,rN,rS,r6,a,c,o,y,B,d.eq,hd];unfold zx7;simp(disch:=go_size)only[go_sem,rB,rI,rK,rL,rN,rS,r6];refine zbh d I J u K L k (i+1) (by omega) (by omega) (by omega) fun p x=>?_;by_cases he:p=i
    ·simp_all
    ·exact hp p (by omega)
  ·simp only[go_sem,a];refine L ?_;have:=qxz (lh S.length) fun p x=>hp p (by omega);rw[uz]at this;exact this
theorem z9b(c:CpW z f e0 zs){O:Ev.Call}{H:Hp}{b q:Nat}{A:List AV}{S:List α}{e:Bool}(d:b<H.nx)(g:S.length<900000)(i:0<S.length)(a:H.get b=aB q (A++S.flatMap f++[])):Ok (zuq O z e0 zs (.sl b A.length S.length S.length e) H) fun w H'=>CpO f H b q A (jD S) w e H':=by
 unfold zuq;have same:jD S=S->CpO f H b q A (jD S) (.sl b A.length S.length S.length e) e H:=fun h=>by rw[h];exact⟨⟨S.length,[],rfl,lh _,i,a⟩,Fm.refl _ _,rfl⟩
 have k0:qk2 S 0=true:=rfl;by_cases h:S.length<2
 ·simp only[go_sem,h];refine Ok.ret (same ?_);have:=qxz (S:=S) (lh S.length) fun p j=>by
   obtain rfl:p=0:=by omega
   exact k0
  rw[uz]at this;exact this
 ·simp only[go_sem,h];unfold znr zx9;rw[bW];refine zbh c d g a (fun w H' h=>Ok.ret h) (fun h=>?_) bL 1 (by omega) (by omega) (by rw[bZ];omega) (fun p j=>by
   obtain rfl:p=0:=by omega
   exact k0)
  exact Ok.ret (same h)
abbrev ceE(S:List Edge):List AV:=S.flatMap Edge.cells
theorem cells3(e:Edge):e.cells.length=3:=rfl
theorem q7h(S:List Edge):(ceE S).length=S.length*3:=qdl cells3 S
theorem zt7(neg:Bool)(x y:Edge):pX neg (l8 (eqFields [(p1,⟨qqu⟩,0),(p1,⟨qqu⟩,1),(p1,⟨qem⟩,2)]) (.agg x.cells) (.agg y.cells))=.val (.bool (bif neg then !decide (x=y)else decide (x=y))):=by
 have e:l8 (eqFields [(p1,⟨qqu⟩,0),(p1,⟨qqu⟩,1),(p1,⟨qem⟩,2)]) (.agg x.cells) (.agg y.cells)=some (decide (x=y)):=by
  show andThen (some (qY (.ofNat x.f) (.ofNat y.f))) (andThen (some (qY (.ofNat x.t) (.ofNat y.t))) (andThen (some (x.s==y.s)) (some true)))=_;obtain⟨a,b,c⟩:=x;obtain⟨d,e,f⟩:=y;simp only[qfa,zaf];by_cases g:a=d
  ·by_cases h:b=e
   ·cases c<;>cases f<;>simp[andThen,g,h]
   ·simp[andThen,g,h]
  ·simp[andThen,g]
 rw[e];rfl
theorem aVB:CpW 3 Edge.cells aAt zY:=⟨cells3,by decide,zt7,rfl⟩
theorem zd1(a:aV C){k:Nat}(c:1<=k){H:Hp}{b q:Nat}{A:List AV}{S:List Edge}{e:Bool}(d:b<H.nx)(f:S.length<900000)(g:0<S.length)(h:H.get b=aB q (A++ceE S++[])):Ok (C k (.f 70) [.sl b A.length S.length S.length e] H) fun w H'=>CpO Edge.cells H b q A (jD S) w e H':=by obtain⟨j,rfl⟩:=aU c;rw[(a j).zCb];exact z9b aVB d f g h
end Go.Di
end
noncomputable section
namespace Go.Di
open Go.Ev
variable {C:Nat->Ev.Call}
variable {H:Hp} {X:List aM} {k:Nat} {sv:AV}
structure bCz(c:Ev.Call):Prop where
 srt:∀(H:Hp) (v:AV) (es:List Edge),Gl 3 H v es.length (ceE es)->es.length<=1000000->Ok (c (.f 68) [v,.fn 67 [] []] H) fun r H'=>r=.aX []/\Gl 3 H' v es.length (ceE (sortE es))/\Fm (In v) H H'
abbrev qho(C:Nat->Ev.Call):Prop:=∀ k,bCz (C (k+1))
theorem zbu(c:aV C)(d:1<=k){b o n m:Nat}{e:Bool}(a:n<=m):C k (.f 69) [.sl b o n m e] H=.ok (.sl b o n n true) H:=by
 obtain⟨j,rfl⟩:=aU d;rw[(c j).zCc];unfold zCc zzx;have f:kL 3 (.sl b o n m e) none (some (iN n)) (some (iN n))=.val (.sl b o n n true):=by
  show(match bounds n m none (some (iN n)) (some (iN n))with|some bd=>iI b o 3 bd true|none=>R0.bad)=_;have:bounds n m none (some (iN n)) (some (iN n))=some ⟨0,n,n⟩:=by show(match(bif Nat.ble n m then some n else none)with|none=>none|some m'=>match(bif Nat.ble n m' then some n else none)with|none=>none|some h=>match(some 0:Option Nat)with|none=>none|some l=>some (Bd.mk l h m'))=_;rw[ble_eq,qw a];simp only[uC,ble_eq,qw (lh n)]
  rw[this];unfold iI;simp only[beq_eq];by_cases g:n=0
  ·subst g;rfl
  ·simp_all
 simp only[go_sem,f]
theorem zo2(a:aV C)(b:1<=k):C k (.f 69) [.aA] H=.ok .aA H:=by obtain⟨j,rfl⟩:=aU b;rw[(a j).zCc];rfl
theorem zcq(l:aV C)(D:qho C)(Q:2<=k){v:AV}{f:List Edge}(E:Gl 3 H v f.length (ceE f))(R:f.length<900000):Ok (C k (.f 44) [v] H) fun w H'=>iH H' w (jD (sortE f))/\jM w=.val (iN ((jD (sortE f)).length))/\Fm (In v) H H'/\(w=.aA\/∃ b o n m e,w=.sl b o n m e)/\∀ c,In w c->In v c:=by
 obtain⟨j,rfl⟩:∃ j,k=j+1+1:=⟨k-2,by omega⟩;rw[(l (j+1)).zBn];refine Ok.ve ((D j).srt H v f E (by omega)) ?_;rintro _ H1 ⟨rfl,I,x⟩;rcases I.is with⟨rfl,B⟩|⟨b,o,e,q,L,rfl,J,U,K,V,M⟩
 ·have p:f=[]:=tq.1 B;subst p;have d:C (j+1) (.f 70) [.aA] H1=.ok .aA H1:=by
   rw[(l j).zCb];rfl
  have g:=zo2 l (k:=j+1) (by omega) (H:=H1);simp only[go_sem,d,g];have s:jD (sortE [])=[]:=by simp[jD,l7,sortE]
  rw[s];exact Ok.ret ⟨⟨rfl,rfl,(fun b F=>by obtain⟨_,_,_,_,h⟩:=F;cases h),(fun i r=>by simp at r)⟩,rfl,x,.inl rfl,fun _ h=>h⟩
 ·by_cases B:0<f.length
  ·have G:L=L.take o++ceE (sortE f)++[]:=by rw[<-K,oq,ut]
   have t:(L.take o).length=o:=by rw[ry];omega
   have u:=qzf f;have d:=zd1 l (k:=j+1) (by omega) (H:=H1) (b:=b) (q:=q) (A:=L.take o) (S:=sortE f) (e:=e) M (by omega) (by omega) (by rw[<-G];exact J);rw[t,u]at d;refine Ok.ve d ?_;rintro w N y;obtain⟨m,Z,rfl,O,P,z⟩:=y.is;have g:=zbu l (k:=j+1) (by omega) (H:=N) (b:=b) (o:=(L.take o).length) (e:=e) O;simp only[go_sem,g];have T:=y.nx;refine Ok.ret ⟨⟨rfl,rfl,fun c a=>?_,fun i r=>⟨b,(L.take o).length+i*3,uT _ _ _ _ _ _ _ _ r,by omega,?_⟩⟩,rfl,?_,.inr ⟨_,_,_,_,_,rfl⟩,fun c a=>by obtain⟨_,_,_,_,a⟩:=a;injection a with a;subst a;exact⟨_,_,_,_,rfl⟩⟩
   ·obtain⟨_,_,_,_,a⟩:=a;injection a with a;omega
   ·rw[z];exact q09 cells3 q _ _ _ r
   ·exact x.then y.fm fun c _ h=>by subst h;exact⟨_,_,_,_,rfl⟩
  ·have p:f=[]:=tq.1 (by omega);subst p;have d:C (j+1) (.f 70) [.sl b o 0 0 e] H1=.ok (.sl b o 0 0 e) H1:=by
    rw[(l j).zCb];rfl
   have g:=zbu l (k:=j+1) (by omega) (H:=H1) (b:=b) (o:=o) (n:=0) (m:=0) (e:=e) (lh _);simp only[go_sem,d,g];have s:jD (sortE [])=[]:=by simp[jD,l7,sortE]
   rw[s];exact Ok.ret ⟨⟨rfl,rfl,(fun c a=>by obtain⟨_,_,_,_,h⟩:=a;injection h with h;omega),(fun i r=>by simp at r)⟩,rfl,x,.inr ⟨_,_,_,_,_,rfl⟩,fun c a=>by obtain⟨_,_,_,_,a⟩:=a;injection a with a;subst a;exact⟨_,_,_,_,rfl⟩⟩
structure NbI(H0 H:Hp)(nb mb:Nat)(ps:List (SS×SS)):Prop where
 n:H.get nb=aB 0 [.map mb]
 m:iZ H mb ps
 o:H0.nx<=mb/\mb<nb/\nb<H.nx
 fm:Fm No H0 H
theorem qta{O:Ev.Call}{H0:Hp}{sv:AV}{nb mb pb:Nat}{X:List aM}(m:bM H0 sv X)(n:(aJ X).Nodup)(o:vS X){s:Nat}(e:s<X.length){Q:pH}{q:pD}(v:∀ H,NbI H0 H nb mb ((dY X s++X[s].gs.map fun x=>(X[s].name,x)).map kq)->Ok (q H) Q):∀(k i:Nat) (H:Hp),i<=X[s].gs.length->X[s].gs.length-i<k->NbI H0 H nb mb ((dY X s++(X[s].gs.take i).map fun x=>(X[s].name,x)).map kq)->H.get pb=aB 0 [.str X[s].name.n X[s].name.a,X[s].rv]->nb<pb->pb<H.nx -> Ok (qmn O q (.ptr nb 0) (.ptr pb 0) X[s].rv (iN (X[s].gs.length)) k (iN i) H) Q
 |0,i,_,_,h,_,_,_,_=>by omega
 |k+1,i,H,hi,hk,hI,hp,hpn,hpl=>by
  show Ok (qvt O _ _ _ _ _ (qmn O _ _ _ _ _ k) _ H) Q;unfold qvt;obtain⟨r,z,A⟩:=hI.o;by_cases a:i<X[s].gs.length
  ·simp only[go_sem,a];unfold q8m;have g:=m.fm hI.fm;have c:=g.sp _ (lg e);obtain⟨L,B,C,M,_,_,_,t⟩:=c.at' i a;obtain⟨c0,D,E,F,_,l⟩:=qfh (c.rel _ (lg a));rw[l]at t;have w:=(o.r _ (lg e)).1;obtain⟨H1,b⟩:∃ H1,H1=(aN H (aB 0 [.str 0 0,.aA,.int .u8 (.ofNat 0),.str 0 0,.str 0 0,.aA])).put H.nx (aB 0 [.str X[s].gs[i].r.name.n X[s].gs[i].r.name.a,X[s].gs[i].tv,c0,D,E,F]):=⟨_,rfl⟩;have f:Fm No H H1:=by rw[b];exact nA
   have I:H1.nx=H.nx+1:=by rw[b];rfl
   have y:=(f.keep A).trans hI.n;have k2:=(f.keep hpl).trans hp;have p:iZ H1 mb ((dY X s++(X[s].gs.take i).map fun x=>(X[s].name,x)).map kq):=hI.m.eq (f.keep (by omega));obtain⟨G,u,N⟩:=p.aZ7 X[s].name X[s].gs[i].r.name (q98 n e a);have d:=p.len;have j:=hI.n;rw[b,pz]at d u;simp(disch:=go_size)only[go_sem,rB,rI,rK,rL,rN,rS,r6,C,t,j,hp,d,u];rw[<-b];unfold q8n;simp(disch:=omega)only[go_sem];refine qta m n o e v k (i+1) (H1.put mb G) (by omega) (by omega) ⟨?_,?_,⟨r,z,show nb<H1.nx by omega⟩,(hI.fm.trans f).aD _ _ r⟩ ?_ hpn (show pb<H1.nx by omega)
   ·rw[eB _ _ _ _ (by omega)];exact y
   ·have J:(dY X s++(X[s].gs.take (i+1)).map fun x=>(X[s].name,x)).map kq=(dY X s++(X[s].gs.take i).map fun x=>(X[s].name,x)).map kq++[(X[s].name,X[s].gs[i].r.name)]:=by
     have g:((X[s].gs.take (i+1)).map fun x=>(X[s].name,x))=((X[s].gs.take i).map fun x=>(X[s].name,x))++[(X[s].name,X[s].gs[i])]:=by rw[lw a,uj];rfl
     rw[g,<-rf,uj];rfl
    simp_all
   ·rw[eB _ _ _ _ (by omega)];exact k2
  ·simp only[go_sem,a];have K:i=X[s].gs.length:=by omega
   simp_all
theorem qtb{O:Ev.Call}{H0:Hp}{sv:AV}{nb mb:Nat}{X:List aM}(c:bM H0 sv X)(e:(aJ X).Nodup)(b:vS X){Q:pH}{q:pD}(f:∀ H,NbI H0 H nb mb (aJ X)->Ok (q H) Q):∀(k s:Nat) (H:Hp),s<=X.length->X.length-s<k->NbI H0 H nb mb ((dY X s).map kq) -> Ok (qi0 O q (.ptr nb 0) sv (iN (X.length)) k (iN s) H) Q
 |0,i,_,_,h,_=>by omega
 |k+1,s,H,hi,hk,hI=>by
  show Ok (qvu O _ _ _ _ (qi0 O _ _ _ _ k) _ H) Q;unfold qvu;obtain⟨t,u,j⟩:=hI.o;have y:=b.n;by_cases a:s<X.length
  ·simp only[go_sem,a];unfold q8l;have g:=c.fm hI.fm;obtain⟨A,v,w,B,_,l,_⟩:=g.rs.at' s a;unfold sI SS.v at l;have o:=(g.sp _ (lg a)).len;have p:=(b.r _ (lg a)).1;have d:Fm No H ((aN H (aB 0 [.str 0 0,.aA])).put H.nx (aB 0 [.str X[s].name.n X[s].name.a,X[s].rv])):=by exact nA
   simp(disch:=first|omega|exact ti rfl)only[go_sem,seval,w,l,o];unfold q8t;rw[bW];refine qta c e b a (pb:=H.nx) (fun m n=>?_) bL 0 _ (gy _) (by rw[bZ];omega) ⟨(d.keep j).trans hI.n,?_,⟨t,u,by simp only[np,nq];omega⟩,hI.fm.trans d⟩ (dL _ _ _) j (by simp only[np,nq];omega)
   ·unfold qvs;simp(disch:=omega)only[go_sem];refine qtb c e b f k (s+1) m (by omega) (by omega) ?_;have z:dY X (s+1)=dY X s++X[s].gs.map fun x=>(X[s].name,x):=by
     unfold dY gM;rw[lw a,vk,vw]
    simp_all
   ·rw[lAP,lE7,ut];exact hI.m.eq (d.keep (by omega))
  ·simp only[go_sem,a];have r:s=X.length:=by omega
   refine f H ?_;have:dY X X.length=gM X:=by unfold dY;rw[uz]
   rw[r,this,qbw]at hI;exact hI
theorem zb7(H:Hp)(b o m:Nat):jX H (.ptr b o) (.map m)=storeAt H b o [.map m] .undef:=id rfl
theorem z5w(a b x:AV):aY [a,b] 1 [x]=[a,x]:=id rfl
attribute [go_sem] zb7 z5w
theorem zoz(I:aV C)(hN:kH C)(hS:qho C)(hk:23<=k)(L:bM H sv X)(p:bX X):Ok (C k (.f 18) [.agg [sv]] H) fun r H'=>∃ w,r=.aX [.agg [iN ((aJ X).length),w],iN 0]/\iH H' w (jD (sortE (yU X X)))/\jM w=.val (iN ((jD (sortE (yU X X))).length))/\Fm No H H'/\(w=.aA\/∃ b o n m e,w=.sl b o n m e):=by
 obtain⟨j,rfl⟩:=aU hk;rw[(I j).zAt];unfold zAt zru;simp(disch:=first|go_size|omega)only[go_sem,seval];have f:Fm No H (aN (aN H (aB 0 [sv])) (aB 0 [iN 0,.aA])):=by exact fP2
 refine Ok.ve (q1o I hN (k:=j) (by omega) (L.fm f) p) ?_;rintro _ H1 ⟨rfl,K⟩;have n1:=K.nx;simp only[np]at n1;have fA:=f.trans K;have x1:H1.get H.nx=aB 0 [sv]:=(K.keep (by(first|go_size|omega))).trans (by simp(disch:=first|go_size|omega)only[go_sem,seval]);have O:H1.get (H.nx+1)=aB 0 [iN 0,.aA]:=(K.keep (by go_size)).trans (by simp(disch:=go_size)only[go_sem,seval]);have i:=L.fm fA;have P:=i.rs.len;have hn16:=p.pr.n;unfold q8k;simp(disch:=first|go_size|omega)only[go_sem,seval,x1,P];unfold q8u;rw[bW];generalize d:(aN (aN H1 (.map [] 0)) (aB 0 [.dR])).put (H1.nx+1) (aB 0 [.map H1.nx])=Hn;have fn:Fm No H1 Hn:=by rw[<-d];repeat first|exact Fm.refl _ _|assumption|refine Fm.push ?_ _|refine Fm.aD ?_ _ _ (by omega)
 have nn:Hn.nx=H1.nx+2:=by rw[<-d];rfl
 have kn:Hn.get (H1.nx+1)=aB 0 [.map H1.nx]:=by rw[<-d];exact dL _ _ _
 have km:Hn.get H1.nx=.map [] 0:=by rw[<-d];simp(disch:=first|go_size|omega)only[go_sem,rB,rI,rK,rL,rN,rS,r6]
 have Q:iZ Hn H1.nx ((dY X 0).map kq):=by
  have:(dY X 0).map kq=[]:=by unfold dY gM;simp
  exact lS.nil _ _ km
 refine qtb (sv:=sv) i p.al p.pr (H0:=H1) (nb:=H1.nx+1) (mb:=H1.nx) (fun a s=>?_) bL 0 Hn (gy _) (by rw[bZ];omega) ⟨kn,Q,⟨lh _,by omega,by omega⟩,fn⟩;unfold qmo;have u:=s.n;have R:=s.m.len;have J:=s.fm;obtain⟨_,_,o3⟩:=s.o;have x2:=(J.keep (show H.nx<H1.nx by omega)).trans x1;have S:=(i.fm J).rs.len;simp(disch:=first|omega|exact ti rfl)only[go_sem,seval,u,R,x2,S];unfold zid;rw[bW];generalize l:(aN a (aB 0 [iN 0,.aA])).put a.nx (aB 0 [iN ((aJ X).length),.aA])=Hg;have v:Fm No a Hg:=by rw[<-l];exact nA
 have ng:Hg.nx=a.nx+1:=by rw[<-l];rfl
 have kg:Hg.get a.nx=aB 0 [iN ((aJ X).length),.aA]:=by rw[<-l];exact dL _ _ _
 have A:∀ c,¬In AV.aA c:=fun c h=>by obtain⟨_,_,_,_,h⟩:=h;cases h
 have B:∀ H',Fm (fun c=>c=a.nx\/In AV.aA c) Hg H'->Fm No H H':=fun H' q=>(((fA.trans J).trans v)).then q fun c t h=>by
  rcases h with h|h
  ·omega
  ·simp_all
 refine zau I hN (j:=j) (by omega) (sv:=sv) (mb:=H1.nx) (Hb:=Hg) (iX:=.aA) (N:=(aJ X).length) p (fun H' q=>?_) ⟨by omega,by omega,by omega⟩ (fun H3 ev g=>?_) bL 0 Hg .aA (gy _) (by rw[bZ];omega) ⟨kg,by omega,?_,Fm.refl _ _,fun c h=>.inl h,fun c h=>absurd h (A c)⟩
 ·have T:∀ c,c<a.nx->¬(c=a.nx\/In AV.aA c):=fun c t h=>by
   simp_all
  refine⟨L.fm (B H' q),?_,?_,?_⟩
  ·exact(q.get _ (by omega) (T _ (by omega))).trans ((v.keep (by omega)).trans x2)
  ·exact(q.get _ (by omega) (T _ (by omega))).trans ((v.keep (by omega)).trans u)
  ·exact(s.m.eq (v.keep (by omega))).eq (q.get _ (by omega) (T _ (by omega)))
 ·unfold qn9;have D:=g.blk;have U:=g.fm;have n3:=U.nx;have E:(yU X X).length<900000:=by
   have:=zaw p.pr X.length;rw[uz]at this;omega
  simp only[go_sem,D];refine Ok.ve (zcq I hS (k:=j) (by omega) g.gl E) ?_;rintro w V ⟨hw,t,W,Y,Z⟩;have F:=(W.get a.nx (by omega) (fun h=>by have:=g.nin _ h;omega)).trans D;have G:V.get (H.nx+1)=aB 0 [iN 0,.aA]:=by
   refine(W.get _ (by omega) (fun h=>by have:=g.nin _ h;omega)).trans ((U.get _ (by omega) (fun h=>?_)).trans ((v.keep (by omega)).trans ((J.keep (by omega)).trans O)));rcases h with h|h
   ·omega
   ·exact A _ h
  have fin:∀ x y z:bO,iH (((V.put a.nx x).put (H.nx+1) y)) w (jD (sortE (yU X X)))/\Fm No H ((V.put a.nx x).put (H.nx+1) y):=fun x y z=>by
   refine⟨hw.keep (lh _) fun c M _=>?_,?_⟩
   ·have:=g.nin c (Z c M);rw[eB _ _ _ _ (by omega),eB _ _ _ _ (by omega)]
   ·refine((((B H3 U).then W fun c t h=>?_).aD _ _ (by omega)).aD _ _ (by omega));have:=g.nin c h;omega
  rcases Y with rfl|⟨wb,wo,wn,wm,we,rfl⟩
  ·simp(disch:=omega)only[go_sem,seval,F,G];obtain⟨g1,g2⟩:=fin (aB 0 [iN ((aJ X).length),.aA]) (aB 0 [iN ((aJ X).length),.aA]) .dead;exact Ok.ret ⟨_,rfl,g1,t,g2,.inl rfl⟩
  ·simp(disch:=omega)only[go_sem,seval,F,G];obtain⟨g1,g2⟩:=fin (aB 0 [iN ((aJ X).length),.sl wb wo wn wm we]) (aB 0 [iN ((aJ X).length),.sl wb wo wn wm we]) .dead;exact Ok.ret ⟨_,rfl,g1,t,g2,.inr ⟨_,_,_,_,_,rfl⟩⟩
 ·rw[lAP];exact Gl.nil 3 _
end Go.Di
end
noncomputable section
namespace Go.Di
open Go.Ev
variable {i n:Nat} {neg:Bool}
theorem qzv{a b:Nat}(h:fD a=fD b):a%4=b%4:=by injection h with _ h;omega
theorem qwt{a b:Nat}(h:bY a=bY b):a%3=b%3:=by unfold bY at h;simp_all
theorem qzu(a:Nat):fD (a%4)=fD a:=by unfold fD;rw[Nat.mod_mod]
theorem zsm(a:Nat):bY (a%3)=bY a:=by unfold bY;rw[Nat.mod_mod]
theorem qgu(a:Nat):Nm (fD a):=by
 rw[<-qzu];have:∀ i,i<4->fD i∈nmL:=by decide
 exact this _ (xy _ (by omega))
theorem q59(a:Nat):Nm (bY a):=by
 rw[<-zsm];have:∀ i,i<3->bY i∈nmL:=by decide
 exact this _ (xy _ (by omega))
theorem z5y:Nm sU:=by show sU∈nmL;decide
theorem zsx(a:Nat):¬ fD a=sE:=fun h=>(qgu a).ne (by rw[h];exact⟨rfl,rfl⟩)
def Blo(m n k:Nat):Prop:=n / 4*4<=k/\k<n / 4*4+4/\k<m
def RuP(L:List (List Nat))(n:Nat):Ru->Prop
 | .leaf k rl to=>(k=1/\rl=sE/\to=sE)\/(k=2/\to=sE/\∃ i,rl=fD i/\Blo (bD L) n i)\/(k=3/\∃ i j,rl=fD i/\Blo (bD L) n i/\to=fD j/\j<bD L/\(⟨bY (j / 4),sE⟩:jP)∈kE L i)
 | .node k a b=>(k=4\/k=5\/k=6)/\RuP L n a/\RuP L n b
theorem RuP.fit{L:List (List Nat)}:∀{r:Ru},RuP L n r->r.Fit
 | .leaf _ _ _,h=>by
  rcases h with h|⟨h,a,i,rfl,_⟩|⟨h,i,j,rfl,_,rfl,_⟩
  ·exact .inl h
  ·exact .inr (.inl ⟨h,qgu i,a⟩)
  ·exact .inr (.inr ⟨h,qgu i,qgu j⟩)
 | .node _ _ _,⟨h,ha,hb⟩=>⟨h,ha.fit,hb.fit⟩
def NdP(L:List (List Nat))(n:Nat)(y:Nd):Prop:=
 (y.k=1/\y.rl=sE)\/(y.k=2/\∃ i,y.rl=fD i/\Blo (bD L) n i)\/(y.k=3/\∃ i j,y.rl=fD i/\Blo (bD L) n i/\y.to=fD j/\j<bD L/\(⟨bY (j / 4),sE⟩:jP)∈kE L i)\/4<=y.k
theorem RuP.nd{L:List (List Nat)}:∀{r:Ru} {neg:Bool},RuP L n r->∀ y∈r.nodes neg,NdP L n y
 | .leaf _ _ _,neg,h,y,c=>by
  rw[Ru.nodes,gq]at c;subst c;rcases h with⟨h,d,_⟩|⟨h,_,d⟩|⟨h,d⟩
  ·exact .inl ⟨h,d⟩
  ·exact .inr (.inl ⟨h,d⟩)
  ·exact .inr (.inr (.inl ⟨h,d⟩))
 | .node k a b,neg,⟨h,ha,hb⟩,y,c=>by
  rw[Ru.nodes,qm,pg]at c;rcases c with rfl|c|c
  ·exact .inr (.inr (.inr (by show 4<=k;omega)))
  ·exact ha.nd y c
  ·exact hb.nd y c
theorem qfm{α:Type}{l:List α}{d:α}(h:i<l.length):l.getD i d∈l:=by simp_all
theorem qxi{L:List (List Nat)}(a:n<bD L)(neg:Bool):RuP L n (qjk neg):=by
 cases neg
 ·exact .inl ⟨rfl,rfl,rfl⟩
 ·refine .inr (.inl ⟨rfl,rfl,n / 4*4,?_,by omega,by omega,by omega⟩);rw[<-qzu (n / 4*4),Nat.mul_mod_left]
theorem zu7{L:List (List Nat)}{x:ArS}(h:x∈kU L n neg):∃ i j,x.rl=fD i/\Blo (bD L) n i/\x.to=fD j/\j<bD L/\(⟨bY (j / 4),sE⟩:jP)∈kE L i:=by
 unfold kU mJ at h;rw[dE]at h;obtain⟨i,b,h⟩:=h;rw[qga]at b;unfold arK at h;rw[dE]at h;obtain⟨t,d,h⟩:=h;unfold xK at h;rw[qj]at h;obtain⟨j,a,rfl⟩:=h;rw[xg,qga]at a;obtain⟨a,c⟩:=a;unfold arP at c;rw[qc,qc,zy,zy]at c;refine⟨i,j,rfl,⟨b.1,by omega,by omega⟩,rfl,a.2,?_⟩;have:t=⟨bY (j / 4),sE⟩:=by cases t;simp_all
 simp_all
theorem q6i{L:List (List Nat)}{n:Nat}(a:n<bD L):∀(d i:Nat) (neg:Bool),(neg=true->0<lvl n)->RuP L n (eO L n d i neg).1
 |0,i,neg,_=>by unfold eO;exact qxi a neg
 |d+1,i,neg,hneg=>by
  have c:At (bD L) n neg:=⟨a,xh _ _,hneg⟩;unfold eO;split
  ·exact qxi a neg
  split
  ·exact qxi a neg
  split
  ·have e:=qx3 c;have b:=qfm (d:=sE) (xy (eD L n i / 8) e);unfold cmpL at b;rw[qj]at b;obtain⟨k,f,g⟩:=b;rw[xg,qga]at f;refine .inr (.inl ⟨rfl,rfl,k,?_,by omega,by omega,by omega⟩);rw[g];rfl
  split
  ·unfold uL;split
   ·exact qxi a neg
   ·rename_i h;have b:=qfm (d:=(⟨sE,sE⟩:ArS)) (xy (eD L n i / 8) (show 0<(kU L n neg).length by omega));exact .inr (.inr ⟨rfl,zu7 b⟩)
  refine⟨?_,q6i a d _ _ hneg,q6i a d _ _ fun h=>?_⟩
  ·unfold vB;split
   ·omega
   split<;>omega
  ·rw[ig,zy]at h;rcases h with h|h
   ·exact hneg h
   ·unfold vB at h;split at h
    ·omega
    split at h
    ·omega
    ·omega
theorem qpl{α β:Type}{f:α->β}:∀{l:List α},l.Nodup->(∀x∈l,∀y∈l,f x=f y->x=y)->(l.map f).Nodup
 | [],_,_=>List.nodup_nil
 |a::l,h,hf=>by rw[lAY]at h;rw[au,lAY];refine⟨fun c=>?_,qpl h.2 fun x d y g=>hf x (uu _ d) y (uu _ g)⟩;obtain⟨b,i,e⟩:=qj.1 c;have:=hf b (uu _ i) a qy e;simp_all
theorem qsr{L:List (List Nat)}(e:n<bD L){t:jP}(h:t∈kE L n):(t.rl=sE/\(t.sp=sU\/∃ i,i<(bD L+3) / 4/\t.sp=bY i))\/∃ k,k<bD L/\t=⟨bY (k / 4),fD k⟩:=by
 unfold kE at h;rw[pg]at h;rcases h with h|h
 ·left;unfold tO at h;rw[qm]at h;rcases h with rfl|h
  ·simp
  ·rw[qj]at h;obtain⟨i,b,rfl⟩:=h;rw[xg,qga]at b;have:=b.1.2;unfold nS at this;exact⟨rfl,.inr ⟨i,by omega,rfl⟩⟩
 ·right;split at h
  ·rw[gq]at h;have a:=qfm (d:=(⟨sE,sE⟩:jP)) (xy (eD L n 1 / 2) (qwq e));rw[<-h]at a;unfold qG at a;rw[qj]at a;obtain⟨k,c,rfl⟩:=a;rw[xg,qga]at c;exact⟨k,c.1.2,rfl⟩
  ·cases h
theorem qy7{L:List (List Nat)}(l:n<bD L):(kE L n).Nodup:=by
 have p:(tO (eD L n 0) (nS (bD L))).Nodup:=by
  unfold tO;rw[lAY];constructor
  ·intro h;rw[qj]at h;obtain⟨i,_,e⟩:=h;injection e with e;injection e with e;omega
  ·have c:(rg 0 (nS (bD L))).Nodup:=by
    unfold rg;rw[lAA];exact List.nodup_range
   refine qpl (List.Pairwise.filter _ c) fun x m y o e=>?_
   ·rw[xg,qga]at m o;injection e with e;have:=qwt e;have q:nS (bD L)<=3:=eQ _ _;omega
 unfold kE;split
 ·rw[yh];refine⟨p,zn _ _,fun a g b j=>?_⟩;rw[gq]at j;intro e;subst e;have f:=qfm (d:=(⟨sE,sE⟩:jP)) (xy (eD L n 1 / 2) (qwq l));rw[<-j]at f;unfold qG at f;rw[qj]at f;obtain⟨k,_,e⟩:=f;have c:a.rl=sE:=by
   unfold tO at g;rw[qm,qj]at g;rcases g with rfl|⟨i,_,rfl⟩<;>rfl
  rw[<-e]at c;exact zsx k c
 ·simp_all
end Go.Di
end
noncomputable section
namespace Go.Di
open Go.Ev
def prN(n:Nat):SS×SS:=(bY (n / 4),fD n)
def rls(L:List (List Nat))(i:Nat):List iY:=(rg (4*i) (min (bD L) (4*i+4))).map (lM L)
theorem z11{a b:Nat}(c:a<12)(d:b<12)(h:prN a=prN b):a=b:=by injection h with h1 h2;have:=qwt h1;have:=qzv h2;omega
theorem aVT(m:Nat)(h:m<13):((List.range ((m+3) / 4)).flatMap fun i=>(rg (4*i) (min m (4*i+4))).map fun n=>(bY i,fD n))=(List.range m).map prN:=by
 have:∀ m,m<13->((List.range ((m+3) / 4)).flatMap fun i=>(rg (4*i) (min m (4*i+4))).map fun n=>(bY i,fD n))=(List.range m).map prN:=by decide
 exact this m h
theorem zkl(k:Nat)(h:k<4):(sU::(List.range k).map bY).Nodup:=by
 have:∀ k,k<4->(sU::(List.range k).map bY).Nodup:=by decide
 exact this k h
theorem qku(L:List (List Nat)):bD L<13:=by have:bD L<=12:=xh _ _;omega
structure pJ(L:List (List Nat))(X:List aM):Prop where
 map:X.map aM.sp=aBH L
theorem qeb(bE:List iY)(r:iY):(rR bE r).name=r.name:=by unfold rR;split<;>rfl
variable {L:List (List Nat)} {X:List aM}
theorem pJ.names(h:pJ L X):X.map aM.name=sU::(List.range ((bD L+3) / 4)).map bY:=by
 have e:X.map aM.name=(X.map aM.sp).map yJ.name:=by rw[nz];rfl
 rw[e,h.map];unfold aBH sH;rw[nz,au,nz];rfl
theorem pJ.all(h:pJ L X):aJ X=(List.range (bD L)).map prN:=by
 have e:aJ X=(X.map aM.sp).flatMap fun s=>s.bE.map fun r=>(s.name,r.name):=by unfold aJ;rw[lAT];congr 1;funext g;unfold aM.sp;simp
 rw[e,h.map,<-aVT _ (qku L)];unfold aBH sH;rw[lAT,xF,lAT];show[]++_=_;rw[og];congr 1;funext i;show((spN L i (min (bD L) (4*i+4))).bE.map (rR _)).map _=_;unfold spN;rw[nz,nz];refine lA8 fun n _=>?_;simp only[Function.comp,qeb];rfl
theorem pJ.uM(h:pJ L X){k:Nat}(a:k<bD L):(bY (k / 4),fD k)∈aJ X:=by rw[h.all];exact qj.2 ⟨k,xu.2 a,rfl⟩
theorem pJ.gs(h:pJ L X){g:aM}(b:g∈X):(g.name=sU/\g.gs=[])\/∃ i,i<(bD L+3) / 4/\g.name=bY i/\g.gs.map aT.r=(rls L i).map (rR (rls L i)):=by
 have a:g.sp∈aBH L:=by rw[<-h.map];exact zo b
 unfold aBH sH at a;rw[au,qm,nz,qj]at a;rcases a with a|⟨i,e,a⟩
 ·left;have c:=congrArg yJ.name a;have d:=congrArg yJ.bE a;refine⟨c,?_⟩;have:g.gs.map aT.r=[]:=d;simp_all
 ·right;refine⟨i,xu.1 e,(congrArg yJ.name a).symm,(congrArg yJ.bE a).symm⟩
theorem pJ.x(h:pJ L X){g:aM}(d:g∈X){x:aT}(e:x∈g.gs):∃ i n,i<(bD L+3) / 4/\g.name=bY i/\g.gs.map aT.r=(rls L i).map (rR (rls L i))/\n / 4=i/\n<bD L/\x.r=rR (rls L i) (lM L n):=by
 rcases h.gs d with⟨_,a⟩|⟨i,f,j,a⟩
 ·simp_all
 ·have c:x.r∈g.gs.map aT.r:=zo e;rw[a,qj]at c;obtain⟨r,b,k⟩:=c;unfold rls at b;rw[qj]at b;obtain⟨n,l,rfl⟩:=b;rw[qga]at l;exact⟨i,n,f,j,a,by omega,by omega,k.symm⟩
theorem qgj(bE:List iY)(r:iY):∀ t∈(rR bE r).types,t∈r.types:=by
 unfold rR;split
 ·simp
 ·simp
theorem zt1{L:List (List Nat)}{n:Nat}{r:Ru}(h:RuP L n r):((r.nodes false).any fun y=>decide (y.k=1))=dV r 1 sE:=by
 unfold dV;have b:=h.nd (neg:=false);generalize r.nodes false=l at b
 induction l with
 |nil=>rfl
 |cons y l ih=>
  rw[lA6,lA6,ih fun z c=>b z (uu _ c)];congr 1;unfold dZ;rcases b y qy with⟨a,d⟩|⟨a,_⟩|⟨a,_⟩|a
  ·simp_all
  ·rw[a];rfl
  ·rw[a];rfl
  ·rw[uA (by omega)];rfl
theorem pJ.val(h:pJ L X):bX X:=by
 have bVI:bD L<=12:=xh _ _;have o:(X.map aM.name).Nodup:=by rw[h.names];exact zkl _ (by omega)
 have w:(aJ X).Nodup:=by rw[h.all];exact qpl List.nodup_range fun a Z b hb e=>z11 (by have:=xu.1 Z;omega) (by have:=xu.1 hb;omega) e
 have A:∀ n,n<bD L->RuP L n (lM L n).rule:=fun n f=>q6i f 6 2 false fun h=>by cases h
 have bOT:X.length<=4:=by have:=congrArg List.length h.names;simp at this;omega
 refine⟨⟨by omega,fun g l=>⟨?_,?_⟩,fun g l x u=>?_⟩,w,o,fun g l x u=>?_,fun g l x u y K=>?_,fun g l x u=>?_⟩
 ·rcases h.gs l with⟨_,r⟩|⟨i,C,_,r⟩
  ·rw[r];simp
  ·have:=congrArg List.length r;unfold rls at this;simp only[pz,qll]at this;omega
 ·rcases h.gs l with⟨p,_⟩|⟨i,C,p,_⟩
  ·rw[p];exact z5y
  ·rw[p];exact q59 i
 ·obtain⟨i,n,C,p,r,q,f,c⟩:=h.x l u;have hsm:=qh8 L n;refine⟨?_,?_,⟨?_,?_,?_⟩,fun t v=>?_⟩
  ·have:x.r.types.length<=(kE L n).length:=by
    rw[c];unfold rR;split
    ·exact lh _
    ·simp
   have:=qgo L n;omega
  ·rw[c,qeb];exact qgu n
  ·rw[c,qbz];exact(A n f).fit
  ·rw[c,qbz];omega
  ·rw[c,qbz];omega
  ·rw[c]at v;have B:=qgj _ _ t v;rcases qsr f B with⟨s,d⟩|⟨k,m,rfl⟩
   ·refine⟨?_,.inl s⟩;rcases d with d|⟨i,_,d⟩
    ·rw[d];exact z5y
    ·rw[d];exact q59 i
   ·exact⟨q59 _,.inr (qgu _)⟩
 ·obtain⟨i,n,C,p,r,q,f,c⟩:=h.x l u;constructor
  ·rw[c];unfold rR;split
   ·exact qy7 f
   ·simp
  ·intro t v;rw[c]at v;have B:=qgj _ _ t v;rw[h.names];rcases qsr f B with⟨s,d⟩|⟨k,m,rfl⟩
   ·refine⟨?_,.inl s⟩;rcases d with d|⟨i,C,d⟩
    ·simp_all
    ·rw[d];exact uu _ (qj.2 ⟨i,xu.2 C,rfl⟩)
   ·exact⟨uu _ (qj.2 ⟨k / 4,xu.2 (by omega),rfl⟩),.inr (h.uM m)⟩
 ·obtain⟨i,n,C,p,r,q,f,c⟩:=h.x l u;rw[c,qbz]at K;have D:∀ k,Blo (bD L) n k->(g.name,fD k)∈aJ X:=fun k m=>by
   have:=h.uM m.2.2;unfold Blo at m;rw[p,<-q];rwa [show k / 4=n / 4 by omega]at this
  rcases(A n f).nd y K with⟨e,_⟩|⟨e,k,s,m⟩|⟨e,k,j,s,m,d,hj,v⟩|e
  ·omega
  ·simp_all
  ·refine⟨fun _=>by rw[s];exact D k m,fun _=>?_⟩;rw[s,d];obtain⟨x',V,_⟩:=qgh w o (D k m);obtain⟨W,F,Q,R,G⟩:=qg2 V;have M:W=g:=qpn o F l (by rw[R]);subst M;obtain⟨Y,H,hi',S,h2',bXm,hn',I⟩:=h.x F Q;have N:Y=i:=by
    have:=qwt (S.symm.trans p);omega
   subst N;have O:H=k:=by rw[I,qeb]at G;have:=qzv G;unfold Blo at m;omega
   subst O;have E:qwp (rls L Y) (lM L H)=true:=by
    unfold qwp;rw[ig];right;rw[zt];refine⟨lM L n,?_,?_⟩
    ·unfold rls;exact qj.2 ⟨n,qga.2 ⟨by omega,by omega⟩,rfl⟩
    ·unfold dV;rw[zt];refine⟨y,K,?_⟩;unfold dZ;rw[qw e,qw (show y.rl=(lM L H).name from s)];rfl
   have P:x'.r.types=kE L H:=by rw[I];unfold rR;rw[kz E];rfl
   have U:bY (j / 4)∈pE X W.name (fD H) (fD j):=by unfold pE;rw[V];unfold tgL;rw[qj];refine⟨⟨bY (j / 4),sE⟩,?_,rfl⟩;rw[xg,P];refine⟨v,?_⟩;unfold tgP;rw[qe9 w o,qw (h.uM hj)];rfl
   intro h0;simp_all
  ·omega
 ·obtain⟨i,n,C,p,r,q,f,c⟩:=h.x l u;rw[c,qbz,zt1 (A n f),qeb];constructor
  ·intro T;unfold rR;rw[kz (by unfold qwp;rw[T];rfl)];show kE L n≠[];unfold kE tO;simp
  ·intro T J;have E:qwp (rls L i) (lM L n)=true:=by
    unfold rR at J;split at J
    ·assumption
    ·trivial
   unfold qwp at E;rw[T,Bool.false_or]at E;have e:(g.gs.any fun z=>dV z.r.rule 3 (lM L n).name)=(g.gs.map aT.r).any fun z=>dV z.rule 3 (lM L n).name:=by rw[lAF];rfl
   rw[e,r,lAF];refine Eq.trans ?_ E;congr 1;funext z;simp only[Function.comp,qbz]
end Go.Di
end
noncomputable section
namespace Go.Di
open Go.Ev
variable {X:List aM} {i:Nat}
theorem qe3(X:List aM):(gM X).length=(aJ X).length:=by rw[<-qbw,pz]
theorem qgt(h:i<(gM X).length)(a:i<(aJ X).length):(aJ X)[i]=((gM X)[i].1,(gM X)[i].2.r.name):=by
 have e:(aJ X)[i]? =some (kq (gM X)[i]):=by rw[<-qbw,xw,lL h];rfl
 rw[lL a]at e;exact Option.some.inj e
theorem bX.at(d:bX X)(h:i<(gM X).length):mF X (gM X)[i].1 (gM X)[i].2.r.name=some (gM X)[i].2/\bR X (gM X)[i].1 (gM X)[i].2.r.name=i/\∃ g∈X,(gM X)[i].2∈g.gs/\g.name=(gM X)[i].1:=by
 have b:i<(aJ X).length:=by rw[<-qe3];exact h
 have j:=qpv d.al b;have k:bR X (gM X)[i].1 (gM X)[i].2.r.name=i:=by rw[qgt h b]at j;exact j
 have a:((gM X)[i].1,(gM X)[i].2.r.name)∈aJ X:=by rw[<-qgt h b];exact lg b
 obtain⟨x,l,c⟩:=qgh d.al d.sp a;rw[k,lL h]at c;injection c with c;refine⟨by rw[l,c],k,?_⟩;obtain⟨g,m,f,e⟩:=qjb.1 (show((gM X)[i].1,(gM X)[i].2)∈gM X from lg h);exact⟨g,m,f,e⟩
theorem bX.ofW(a:bX X):OfW X:=by
 refine⟨a.pr.sml,by rw[<-qe3];exact a.pr.len,fun i h=>?_⟩;have c:i<(gM X).length:=by rw[qe3];exact h
 obtain⟨l,m,g,f,j,e⟩:=a.at c;have b:=(a.pr.x g f _ j).2.2.1;refine⟨(gM X)[i].2,by rw[qgt c h];exact l,by have:=b.dp;omega,by have:=b.sz;omega,fun y k p d=>?_⟩;rw[qgt c h,<-e]at d;exact a.ndt ⟨f,j⟩ k p d
theorem z5j(X:List aM)(n:Nat)(neg:Bool)(p:SS×SS):toE (tE X n neg p)=eE X n neg p:=by cases neg<;>rfl
def rlE(X:List aM)(q:SS×aT):List Edge:=(q.2.r.rule.nodes false).flatMap fun y=>(yL X q.1 q.2 y).map (eE X (bR X q.1 q.2.r.name) y.neg)
theorem zt3(X:List aM)(l:List aM):yU X l=(gM l).flatMap (rlE X):=by unfold yU gM;rw[List.flatMap_assoc];congr 1;funext g;rw[lAT];rfl
theorem zc0{α:Type}(l:List α)(f:Nat->List Edge)(g:α->List Edge)(h:∀ i (a:i<l.length),f i=g l[i]):(List.range l.length).flatMap f=l.flatMap g:=by
 have:(List.range l.length).map f=l.map g:=by refine List.ext_getElem (by simp) fun i b c=>?_;simp only[zf,List.getElem_range];simp_all
 rw[List.flatMap_def,this,<-List.flatMap_def]
theorem bX.ts(b:bX X):(tsG X (aJ X).length).map toE=yU X X:=by
 rw[zt3];unfold tsG;rw[List.map_flatMap,<-qe3];refine zc0 (gM X) _ (rlE X) fun i h=>?_;have a:i<(aJ X).length:=by rw[<-qe3];exact h
 obtain⟨c,d,_⟩:=b.at h;unfold tsN;rw[lL a];rw[qgt h a];simp only;rw[c];unfold rlE;rw[List.map_flatMap,d];congr 1;funext y;unfold ndE;rw[nz];refine lA8 fun p _=>?_;exact z5j X i y.neg p
theorem bX.rng(c:bX X):∀ e∈tsG X (aJ X).length,e.f<(aJ X).length/\e.t<(aJ X).length:=by
 intro e a;unfold tsG at a;rw[dE]at a;obtain⟨i,f,a⟩:=a;have b:i<(aJ X).length:=xu.1 f;have h:i<(gM X).length:=by rw[qe3];exact b
 obtain⟨j,o,g,k,l,m⟩:=c.at h;unfold tsN at a;rw[lL b]at a;rw[qgt h b]at a;simp only at a;rw[j]at a;rw[dE]at a;obtain⟨y,n,a⟩:=a;unfold ndE at a;rw[qj]at a;obtain⟨p,d,rfl⟩:=a;rw[<-m]at d;exact⟨b,q0g (c.ndt ⟨k,l⟩ n p d)⟩
theorem bX.same(a:bX X):eF (aJ X).length (p9 (aJ X).length (List.replicate ((aJ X).length*(aJ X).length) 0) (tsG X (aJ X).length))=jD (sortE (yU X X)):=by rw[q6o a.rng,a.ts]
end Go.Di
end
noncomputable section
namespace Go.Di
open Go.Ev
variable {C:Nat->Ev.Call}
structure aIa(H:Hp)(v:AV)(cnt:Nat):Prop where
 flat:vL v=true
 len:aF v=.val (.int .i64 (.ofNat cnt))
 at':∀ i,i<cnt->∃ b o,aG 3 v (.int .i64 (.ofNat i))=.val (.ptr b o)/\b<H.nx/\∀ j,j<3->∃ x,x<256/\bK (H.get b) (o+j)=.val (.int .u8 (.ofNat x))
theorem aIa.fm{H H':Hp}{v:AV}{cnt:Nat}(h:aIa H v cnt)(a:Fm No H H'):aIa H' v cnt:=⟨h.flat,h.len,fun i d=>by obtain⟨b,o,f,c,g⟩:=h.at' i d;exact⟨b,o,f,lq c a.nx,fun j e=>by obtain⟨x,k,l⟩:=g j e;exact⟨x,k,by rw[a.keep c];exact l⟩⟩⟩
/- the pure function -/
def oK(n:Nat)(d:List Int)(k i j:Nat):List Int:=
 if 0<=d.getD (i*n+k) 0/\0<=d.getD (k*n+j) 0/\(d.getD (i*n+j) 0<0\/d.getD (i*n+k) 0+d.getD (k*n+j) 0<d.getD (i*n+j) 0)
 then d.set (i*n+j) (d.getD (i*n+k) 0+d.getD (k*n+j) 0)else d
def fJ(n:Nat)(d:List Int)(k i:Nat):Nat->List Int
 |0=>d
 |j+1=>oK n (fJ n d k i j) k i j
def fI(n:Nat)(d:List Int)(k:Nat):Nat->List Int
 |0=>d
 |i+1=>fJ n (fI n d k i) k i n
def fK(n:Nat)(d:List Int):Nat->List Int
 |0=>d
 |k+1=>fI n (fK n d k) k n
def dg(n:Nat)(d:List Int):Nat->List Int
 |0=>d
 |i+1=>(dg n d i).set (i*n+i) 0
def d1(ms:List Nat):List Int:=ms.map fun v=>if 0<v then 1 else -1
def dist(n:Nat)(ms:List Nat):List Int:=fK n (dg n (d1 ms) n) n
theorem zkh(n:Nat)(d:List Int)(k i j:Nat):(oK n d k i j).length=d.length:=by unfold oK;split<;>simp
theorem qtl(n:Nat)(d:List Int)(k i:Nat):∀ j,(fJ n d k i j).length=d.length
 |0=>rfl
 |j+1=>by rw[fJ,zkh,qtl n d k i j]
theorem qlr(n:Nat)(d:List Int)(k:Nat):∀ i,(fI n d k i).length=d.length
 |0=>rfl
 |i+1=>by rw[fI,qtl,qlr n d k i]
theorem za9(n:Nat)(d:List Int):∀ k,(fK n d k).length=d.length
 |0=>rfl
 |k+1=>by rw[fK,qlr,za9 n d k]
theorem znm(n:Nat)(d:List Int):∀ i,(dg n d i).length=d.length
 |0=>rfl
 |i+1=>by rw[dg,ul,znm n d i]
def Bnd(d:List Int):Prop:=∀ x,-1<=d.getD x 0/\d.getD x 0<=1099511627776
def aUn(n:Nat)(ms:List Nat):Prop:=∀ k i j,k<n->i<n->j<=n->Bnd (fJ n (fI n (fK n (dg n (d1 ms) n) k) k i) k i j)
end Go.Di
end
noncomputable section
namespace Go.Di
open Go.Ev
structure bEd(c d:Ev.Call):Prop where
 aVF:∀(b o n m:Nat) (x:Bool) (H:Hp) (r:R1),qow H b o n=some r->c (.f 112) [.sl b o n m x,.fn 113 [] []] H=r
 aGN:∀(H:Hp),c (.f 112) [.aA,.fn 113 [] []] H=.ok (.aX []) H
 aV0:∀(b o m:Nat) (x:Bool) (H:Hp),c (.f 112) [.sl b o 0 m x,.fn 113 [] []] H=.ok (.aX []) H
abbrev nV(C:Nat->Ev.Call):Prop:=∀ k,bEd (C (k+1)) (C k)
structure aTU(c d:Ev.Call):Prop where
 jU:∀(x0:AV) (H:Hp),c (.f 83) [x0] H=Di.jU d x0 H
 srt:∀(b o n m:Nat) (x:Bool) (H:Hp) (r:R1),qzd H b o n=some r->c (.f 82) [.sl b o n m x] H=r
 aGN:∀(H:Hp),c (.f 82) [.aA] H=.ok (.aX []) H
abbrev pI(C:Nat->Ev.Call):Prop:=∀ k,aTU (C (k+1)) (C k)
end Go.Di
end
noncomputable section
namespace Go.Di
open Go.Ev
variable {C:Nat->Ev.Call} {LA LO:LP}
variable {H H0:Hp} {O:Ev.Call} {i k n:Nat} {l:List AV}
theorem Gl.rl{v:AV}(h:Gl 1 H v n l):Rl H v l:=by
 have a:l.length=n:=by have:=h.len;omega
 refine⟨by rw[h.bS,a],fun i f=>?_⟩;obtain⟨b,o,c,d,_,e⟩:=h.at (i:=i) (x:=l[i]) (by simp);exact⟨b,o,c,d,e⟩
theorem qid(l:List Nat)(h:i<(aI l).length):(aI l)[i]=.int .i64 (.ofNat (l[i]'(by simpa [aI] using h))):=by simp[aI]
theorem lV(l:List Nat):(aI l).length=l.length:=by simp[aI]
theorem qt0{O:Ev.Call}{H:Hp}{v:AV}{l pre a:List Nat}{x:Nat}(j:Rl H v (aI l))(r:l.length<900000)(c:l=pre++x::a)(m:x∉pre){n:pB}{f:pD}{Q:pH}(p:Ok (n (.int .i64 (.ofNat pre.length)) H) Q):∀(k i:Nat),pre.length+1-i<k+1->i<=pre.length -> Ok (q72 O n f v (.int .i64 (.ofNat x)) (.int .i64 (.ofNat l.length)) k (.int .i64 (.ofNat i)) H) Q
 |0,i,h,hi=>by omega
 |k+1,i,h,hi=>by
  show Ok (zfa O _ _ _ _ _ (q72 O _ _ _ _ _ k) _ H) Q;unfold zfa;have s:l.length=pre.length+1+a.length:=by rw[c];simp;omega
  have hil:i<l.length:=by omega
  obtain⟨b,o,q,u,d⟩:=j.at' i (by rw[lV];exact hil);rw[qid]at d;simp only[go_sem,hil];unfold zvw;by_cases t:i=pre.length
  ·subst t;have g:l[pre.length]'hil=x:=by subst c;simp
   rw[g]at d;simp only[go_sem,q,d];exact p
  ·have g:x≠l[i]'hil:=fun e=>m (by
    have:l[i]'hil=pre[i]'(by omega):=by subst c;rw[List.getElem_append_left]
    rw[e,this];exact lg _)
   simp only[go_sem,q,d,g];unfold zvx;simp(disch:=go_size)only[go_sem,rB,rI,rK,rL,rN,rS,r6];exact qt0 j r c m p k (i+1) (by omega) (by omega)
theorem zvi(e:aV C)(f:1<=k){v:AV}{l pre a:List Nat}{x:Nat}(b:Rl H v (aI l))(g:l.length<900000)(c:l=pre++x::a)(h:x∉pre):Ok (C k (.f 171) [v,.int .i64 (.ofNat x)] H) fun r H'=>r=.int .i64 (.ofNat pre.length)/\H'=H:=by
 obtain⟨j,rfl⟩:=aU f;rw[(e j).zDj];unfold zDj zy6;have d:=b.len;rw[lV]at d;simp only[go_sem,d];unfold zvz;rw[bW];have i:l.length=pre.length+1+a.length:=by rw[c];simp;omega
 exact qt0 b g c h (Ok.ret ⟨rfl,rfl⟩) bL 0 (by rw[bZ];omega) (by omega)
theorem zn5(O:Ev.Call)(l:Nat)(args:List AV)(H:Hp):vP O (.yield l) args H=O (.y l) args H:=id rfl
theorem qqh{d:Ev.Call}{v:AV}{l:List AV}{H0:Hp}(m:l.length<900000)(f:Rl H0 v l){y:Nat}{Inv:Nat->Hp->Prop}(g:∀ i H,Inv i H->Fm No H0 H)(j:∀ i (h:i<l.length) H,Inv i H->Ok (d (.y y) [l[i]] H) fun r H'=>r=.bool true/\Inv (i+1) H'){n c:pD}{Q:pH}(p:∀ H,Inv l.length H->Ok (c H) Q):∀(k i:Nat) (H:Hp),l.length-i<k->i<=l.length->Inv i H -> Ok (q7z d n c (.yield y) v (.int .i64 (.ofNat l.length)) k (.int .i64 (.ofNat i)) H) Q
 |0,i,H,h,_,_=>by omega
 |k+1,i,H,h,hi,hI=>by
  show Ok (ze4 d _ _ _ _ _ (q7z d _ _ _ _ _ k) _ H) Q;unfold ze4;by_cases a:i<l.length
  ·obtain⟨b,o,q,t,s⟩:=(f.fm (g i H hI)).at' i a;simp only[go_sem,a];unfold ze3;simp only[go_sem,q,s,zn5];refine Ok.ve (j i a H hI) ?_;rintro r H' ⟨rfl,e⟩;unfold zvp;simp(disch:=go_size)only[go_sem,rB,rI,rK,rL,rN,rS,r6];exact qqh m f g j p k (i+1) H' (by omega) (by omega) e
  ·have:i=l.length:=by omega
   simp only[go_sem,a];simp_all
theorem zdy(b:aV C)(c:1<=k){v:AV}(d:l.length<900000)(a:Rl H0 v l){vb y:Nat}(e:H.get vb=aB 0 [v]){Inv:Nat->Hp->Prop}(f:∀ i H',Inv i H'->Fm No H0 H')(g:∀ i (h:i<l.length) H',Inv i H'->Ok (C (k-1) (.y y) [l[i]] H') fun r H'=>r=.bool true/\Inv (i+1) H')(m:Inv 0 H):Ok (C k (.f 186) [.yield y,.ptr vb 0] H) fun r H'=>r=.aX []/\Inv l.length H':=by obtain⟨j,rfl⟩:=aU c;rw[(b j).zDq];unfold zDq zy0;have n:=a.len;simp only[go_sem,e,n];unfold zvq;rw[bW];exact qqh d a f g (fun H' h=>Ok.ret ⟨rfl,h⟩) bL 0 H (by rw[bZ];omega) (by omega) m
theorem qcr(H:Hp)(c:Nat)(k:bO)(h:c≠H.nx):(aN H k).get c=H.get c:=by rw[qg1,lu h]
theorem Ok.aFN{l:Nat}{r:R1}{R Q:pH}{L:TT AV 2}{K:Kt 2}(h:Ok r R)(a:∀ v H,R v H->Ok (fin (endLoop l (.ok v H) L) K) Q):Ok (fin (endLoop l r L) K) Q:=by obtain⟨v,H,rfl,b⟩:=h;exact a v H b
structure Col(LA:LP)(H0:Hp)(L:TT AV 2)(l sb:Nat)(xs:List AV)(n:Nat)(H:Hp):Prop where
 fm:Fm No H0 H
 lp:H.get l=LA.blk true L
 hl:H0.nx<=l/\l<H.nx
 hs:H0.nx<=sb/\sb<H.nx
 ne:sb≠l
 vs:∃ v,H.get sb=aB 0 [v]/\Gl 1 H v n (xs.take n)/\∀ b,In v b->H0.nx<=b/\b≠l/\b≠sb
theorem qqy{L:TT AV 2}{l sb:Nat}{xs:List AV}(A:i<xs.length)(N:xs.length<900000)(g:∃ n:Nat,xs[i]=.int .i64 (.ofNat n))(a:Col LA H0 L l sb xs i H):Ok (eG O l L (.ptr sb 0) xs[i] (H.put l (LA.blk false L))) fun r H'=>r=.bool true/\Col LA H0 L l sb xs (i+1) H':=by
 obtain⟨v,I,J,o⟩:=a.vs;obtain⟨m,z⟩:=g;unfold eG;have d:=a.ne;have y:(H.put l (LA.blk false L)).get sb=aB 0 [v]:=by rw[eB _ _ _ _ d];exact I
 have B:Gl 1 (H.put l (LA.blk false L)) v i (xs.take i):=J.keep (lh _) fun b e _=>eB _ _ _ _ (o b e).2.1;rw[z];have p:Gl 1 (aN (H.put l (LA.blk false L)) (aB 0 [.int .i64 (.ofNat m)])) v i (xs.take i):=B.no ((Fm.refl _ _).push _);obtain⟨f,K,M,R,u,S⟩:=p.append (w:=8) (k:=1) (x:=[.int .i64 (.ofNat m)]) (by omega) rfl (by omega) (by omega);have j:(aN (H.put l (LA.blk false L)) (aB 0 [.int .i64 (.ofNat m)])).nx=H.nx+1:=rfl;have C:=a.hl.2;have D:=a.hs.2;have q:f.get sb=aB 0 [v]:=by rw[u.get sb (by rw[j];omega) fun h=>(o sb h).2.2 rfl,qcr _ _ _ (by rw[nq];omega)];exact y
 have s:f.get l=LA.blk false L:=by rw[u.get l (by rw[j];omega) fun h=>(o l h).2.1 rfl,qcr _ _ _ (by rw[nq];omega),dL]
 simp(disch:=go_size)only[go_sem,seval,y,K,q,gz,uk];have t:(f.put sb (aB 0 [.sl (H.nx+1) 0 (i+1) (i+1) false])).get l=LA.blk false L:=by rw[eB _ _ _ _ (Ne.symm d)];exact s
 rw[znb t];have E:Fm No H0 (aN (H.put l (LA.blk false L)) (aB 0 [.int .i64 (.ofNat m)])):=((a.fm.aD l _ a.hl.1).push _);have F:Fm No H0 f:=E.then u fun c P h=>absurd (o c h).1 (by omega);have G:Fm No H0 ((f.put sb (aB 0 [.sl (H.nx+1) 0 (i+1) (i+1) false])).put l (LA.blk true L)):=(F.aD sb _ a.hs.1).aD l _ a.hl.1;have Q:=a.fm.nx;refine Ok.ret ⟨rfl,G,dL _ _ _,⟨a.hl.1,?_⟩,⟨a.hs.1,?_⟩,d,.sl (H.nx+1) 0 (i+1) (i+1) false,?_,?_,?_⟩
 ·show l<f.nx;omega
 ·show sb<f.nx;omega
 ·rw[eB _ _ _ _ d,dL]
 ·have:xs.take (i+1)=xs.take i++[.int .i64 (.ofNat m)]:=by rw[lw A,z]
  rw[this];refine M.keep (lh _) fun b e _=>?_;obtain⟨_,_,_,_,e⟩:=e;cases e;rw[eB _ _ _ _ (by omega),eB _ _ _ _ (by omega)]
 ·rintro b ⟨_,_,_,_,e⟩;cases e;omega
theorem q1v(u:aV C)(l:oZ LA LO C)(E:3<=k){v:AV}{xs:List AV}(m:xs.length<900000)(w:Rl H v xs)(c:∀ i (h:i<xs.length),∃n:Nat,xs[i]=.int .i64 (.ofNat n)){vb:Nat}(d:H.get vb=aB 0 [v])(e:vb<H.nx):Ok (C k (.f 190) [.aA,.fn 186 [] [.ptr vb 0]] H) fun r H'=>Gl 1 H' r xs.length xs/\(∀b,In r b->H.nx<=b)/\Fm No H H':=by
 obtain⟨j,rfl⟩:∃ j,k=j+3:=⟨k-3,by omega⟩;rw[(l (j+2)).jR];unfold jR qih;simp only[go_sem];unfold qig;generalize D:pu (nR [.aA,.fn 186 [] [.ptr vb 0]] 0 (same .undef 2)) [(2,.ptr H.nx 0),(4,.aA),(6,.fn 186 [] [.ptr vb 0])]=L;have p:G L 2=.ptr H.nx 0:=by rw[<-D];kernel_rfl
 generalize a:aN H (aB 0 [.aA])=H1;have F:H1.nx=H.nx+1:=by rw[<-a];rfl
 have x:Fm No H H1:=by rw[<-a];exact(Fm.refl _ _).push _
 have q:Fm No H (aN H1 (LA.blk true L)):=x.push _;have O:qjo (C (j+2)) (.fn 186 [] [.ptr vb 0]) [.yield H1.nx] (aN H1 (LA.blk true L))=C (j+2) (.f 186) [.yield H1.nx,.ptr vb 0] (aN H1 (LA.blk true L)):=rfl;have z:Col LA H L H1.nx H.nx xs 0 (aN H1 (LA.blk true L)):=by
  refine⟨q,jA _ _,⟨by omega,by rw[np];omega⟩,⟨lh _,by rw[np];omega⟩,by omega,.aA,?_,?_,?_⟩
  ·rw[qbi _ _ _ (by omega),<-a,jA]
  ·exact Gl.nil _ _
  ·rintro b ⟨_,_,_,_,h⟩;cases h
 refine Ok.aFN (zdy u (k:=j+2) (by omega) m w (vb:=vb) (y:=H1.nx) (by rw[q.keep e];exact d) (Inv:=fun i H'=>Col LA H L H1.nx H.nx xs i H') (fun i H' h=>h.fm) (fun i o H' h=>?_) z) ?_
 ·rw[show j+2-1=j+1 from rfl,(l j).eG L _ _ _ h.lp,p];exact qqy o m (c i o) h
 ·rintro r H' ⟨rfl,g⟩;rw[z6a g.lp];unfold qgl;rw[p];obtain⟨A,B,s,t⟩:=g.vs;have f:(H'.put H1.nx .dead).get H.nx=aB 0 [A]:=by rw[eB _ _ _ _ (by omega)];exact B
  rw[uh (lh _)]at s;simp only[go_sem,f];refine Ok.ret ⟨s.keep (lh _) fun b d _=>eB _ _ _ _ (t b d).2.1,fun b d=>(t b d).1,g.fm.aD _ _ (by omega)⟩
theorem zd2(d:aV C)(e:oZ LA LO C)(f:4<=k){v:AV}{xs:List AV}(g:xs.length<900000)(l:Rl H v xs)(a:∀ i (h:i<xs.length),∃n:Nat,xs[i]=.int .i64 (.ofNat n)){vb:Nat}(m:H.get vb=aB 0 [v])(c:vb<H.nx):Ok (C k (.f 185) [.fn 186 [] [.ptr vb 0]] H) fun r H'=>Gl 1 H' r xs.length xs/\(∀b,In r b->H.nx<=b)/\Fm No H H':=by obtain⟨j,rfl⟩:=aU f;rw[(d j).zDr];refine Ok.ve (q1v d e (k:=j) (by omega) g l a m c) ?_;rintro r H' h;exact Ok.ret h
end Go.Di
end
noncomputable section
namespace Go.Di
open Go.Ev Go.Sort
variable {C:Nat->Ev.Call} {LA LO:LP}
theorem qps:∀ l:List Nat,qpt (aI l)=some (l.map Int.ofNat)
 | []=>rfl
 |n::l=>by show(match qpt (aI l)with|some r=>some (Int.ofNat n::r)|none=>none)=_;rw[qps l];rfl
theorem zbq(P:aV C)(G:pI C)(Q:nV C){k:Nat}{n:Nat}{v:AV}{l:List Nat}{H:Hp}(S:n<900)(I:1<=n)(T:n+10<=k)(A:Gl 1 H v n (aI l)):Ok (C k (.f 82) [v] H) fun r H'=>r=.aX []/\∃ R:List Nat,R.Perm l/\R.Pairwise (· <= ·)/\Gl 1 H' v n (aI R)/\Fm (In v) H H':=by
 obtain⟨k,rfl⟩:∃ j,k=j+1:=⟨k-1,by omega⟩;have g:l.length=n:=by have:=A.len;rw[lV]at this;omega
 rcases A.is with⟨_,U⟩|⟨b,o,e,q,L,rfl,E,V,F,N,O⟩
 ·omega
 have i:L.length=o+n:=by have:=congrArg List.length F;rw[xx,lV]at this;omega
 let R:List Nat:=(qi7 (l.map Int.ofNat)).map Int.toNat
 have D:(qi7 (l.map Int.ofNat)).Perm (l.map Int.ofNat):=List.mergeSort_perm _ _;have p:∀ x∈qi7 (l.map Int.ofNat),∃m:Nat,x=Int.ofNat m:=fun x f=>by obtain⟨m,_,rfl⟩:=qj.1 (D.mem_iff.1 f);exact⟨m,rfl⟩
 have s:R.map Int.ofNat=qi7 (l.map Int.ofNat):=by rw[nz];refine(lA8 fun x f=>?_).trans (List.map_id _);obtain⟨m,rfl⟩:=p x f;rfl
 have t:(qi7 (l.map Int.ofNat)).map (fun z=>AV.int .i64 z)=aI R:=by rw[<-s,nz];rfl
 have d:R.length=n:=by rw[pz,qou,pz,g]
 have u:storeAt H b o (aI R) (.aX [])=.ok (.aX []) (H.put b (aB q (aY L o (aI R)))):=qch _ _ _ _ _ _ _ E (by rw[lV,d,i];omega);have J:qzd H b o n=some (.ok (.aX []) (H.put b (aB q (aY L o (aI R))))):=by
  unfold qzd;have K:jG (H.get b) o n=some (aI l):=by rw[E,qb7,kz (by rw[i];omega),F,uh (by rw[lV];omega)]
  rw[K];simp only[qps,t,u];have M:Nat.blt n 4611686018427387904=true:=by rw[blt_eq,qw (by omega)]
  rw[M];rfl
 rw[(G k).srt _ _ _ _ _ _ _ J];refine Ok.ret ⟨rfl,R,?_,?_,?_,?_⟩
 ·have B:=D.map Int.toNat;have:(l.map Int.ofNat).map Int.toNat=l:=by
   rw[nz];exact(lA8 fun x _=>rfl).trans (List.map_id _)
  rwa [this]at B
 ·have w:(qi7 (l.map Int.ofNat)).Pairwise fun x y=>decide (x<=y)=true:=List.pairwise_mergeSort (fun a b c I B=>by simp only[yc]at *;omega) (fun a b=>by simp only[ig,yc];omega) _;rw[lAM];refine w.imp fun{a c} h=>?_;rw[yc]at h;omega
 ·refine⟨by rw[lV,d,qg],.inr ⟨b,o,e,q,_,rfl,dL _ _ _,?_,?_,N,O⟩⟩
  ·unfold aY;simp_all
  ·unfold aY;rw[rf,xm (by rw[ry];omega),uy (by rw[ry];omega),og,uy (by rw[lV,d,i];omega),ut]
 ·exact(Fm.refl _ _).put _ _ fun _=>⟨_,_,_,_,rfl⟩
theorem zon(a:aV C)(g:pI C)(m:nV C)(n:oZ LA LO C){k:Nat}{v:AV}{l:List Nat}{H:Hp}(y:l.length<900)(o:1<=l.length)(z:l.length+11<=k)(p:Rl H v (aI l)){vb:Nat}(q:H.get vb=aB 0 [v])(d:vb<H.nx):Ok (C k (.f 172) [.fn 186 [] [.ptr vb 0]] H) fun r H'=>∃ R:List Nat,R.Perm l/\R.Pairwise (· <= ·)/\Gl 1 H' r l.length (aI R)/\(∀b,In r b->H.nx<=b)/\Fm No H H':=by obtain⟨j,rfl⟩:∃ j,k=j+1:=⟨k-1,by omega⟩;rw[(a j).zDl];refine Ok.ve (zd2 a n (k:=j) (by omega) (by rw[lV];omega) p (fun i h=>⟨_,qid l h⟩) q d) ?_;rintro r H1 ⟨e,f,s⟩;rw[lV]at e;refine Ok.ve (zbq a g m (k:=j) (by omega) o (by omega) e) ?_;rintro B D ⟨rfl,R,t,u,w,x⟩;exact Ok.ret ⟨R,t,u,w,f,s.then x fun c A h=>absurd (f c h) (by omega)⟩
end Go.Di
end
noncomputable section
namespace Go.Di.T
inductive Rc(aR:Nat->List Nat):Nat->Nat->Prop where
 |refl (a:Nat):Rc aR a a
 |step {a b c:Nat} (h:Rc aR a b) (e:c∈aR b):Rc aR a c
theorem Rc.trans{aR:Nat->List Nat}{a b c:Nat}(h:Rc aR a b)(k:Rc aR b c):Rc aR a c:=by
 induction k with
 |refl=>exact h
 |step _ e ih=>exact ih.step e
theorem Rc.one{aR:Nat->List Nat}{a b:Nat}(e:b∈aR a):Rc aR a b:=(Rc.refl a).step e
theorem Rc.closed{aR:Nat->List Nat}{S:Nat->Prop}(h:∀ v,S v->∀ k∈aR v,S k){a b:Nat}(r:Rc aR a b)(c:S a):S b:=by
 induction r with
 |refl=>exact c
 |step _ e ih=>exact h _ ih _ e
def upd{α:Type}(f:Nat->α)(i:Nat)(x:α):Nat->α:=fun j=>if j=i then x else f j
theorem upd_same{α:Type}(f:Nat->α)(i:Nat)(x:α):upd f i x i=x:=kz rfl
theorem upd_ne{α:Type}(f:Nat->α){i j:Nat}(x:α)(h:j≠i):upd f i x j=f j:=lu h
structure TS where
 num:Nat->Nat
 low:Nat->Nat
 on:Nat->Bool
 stk:List Nat
 cnt:Nat
 out:List (List Nat)
def TS.enter(s:TS)(k:Nat):TS:=
 {s with cnt:=s.cnt+1,num:=upd s.num k (s.cnt+1),low:=upd s.low k (s.cnt+1),on:=upd s.on k true,stk:=s.stk++[k]}
def qqn(fr:List (Nat×Nat))(p:Nat×Nat)(k:Nat):Prop:=∃ j,fr[j]? =some p/\(fr.map Prod.fst)[j+1]? =some k
abbrev gK(fr:List (Nat×Nat)):List Nat:=fr.map Prod.fst
structure TI(n:Nat)(aR:Nat->List Nat)(s:TS)(fr:List (Nat×Nat)):Prop where
 l6:∀ v∈s.stk,v<n
 jV:∀ v∈s.stk,0<s.num v
 gJ:s.stk.Pairwise (fun a b=>s.num a<s.num b)
 oC:∀ v,s.on v=true↔v∈s.stk
 vis:∀ v,0<s.num v->v∈s.stk\/v∈s.out.flatten
 lT:∀ v∈s.out.flatten,0<s.num v/\v∉s.stk/\v<n
 iD:∀ v∈s.out.flatten,∀k∈aR v,k∈s.out.flatten
 oN:∀ c∈s.out,c.Pairwise (· < ·)/\∃ r∈c,∀x,x∈c↔Rc aR r x/\Rc aR x r
 oG:s.out.flatten.Nodup
 iU:∀ v,s.num v<=s.cnt
 kV:s.cnt=s.stk.length+s.out.flatten.length
 iJ:(gK fr).Sublist s.stk
 jT:∀ v∈s.stk,s.low v<=s.num v
 kJ:∀ v∈s.stk,∃u∈s.stk,s.num u=s.low v/\Rc aR v u
 fin:∀ v∈s.stk,v∉gK fr->s.low v<s.num v
 oH:∀ v∈s.stk,v∉gK fr->∀ k∈aR v,0<s.num k/\(k∈s.stk->s.low v<=s.num k)
 frE:∀ p∈fr,p.2<=(aR p.1).length/\∀ j,j<p.2->∀ k,(aR p.1)[j]? =some k->0<s.num k/\(k∈s.stk->s.low p.1<=s.num k\/qqn fr p k)
 nM:∀ v∈gK fr,∀w∈s.stk,s.num v<=s.num w->(∀v'∈gK fr,s.num v<s.num v'->s.num w<s.num v')->s.low v<=s.low w
 frR:∀ v∈gK fr,∀w∈s.stk,s.num v<=s.num w->Rc aR v w
 cov:∀ w∈s.stk,∃v∈gK fr,s.num v<=s.num w
variable {n:Nat} {aR:Nat->List Nat} {s:TS}
theorem TI.nd{b:List (Nat×Nat)}(h:TI n aR s b):s.stk.Nodup:=h.gJ.imp fun a e=>by rw[e]at a;exact xq _ a
theorem zxi{f:Nat->Nat}:∀{l:List Nat},l.Pairwise (fun a b=>f a<f b)->∀{a b},a∈l->b∈l->f a=f b->a=b
 |x::l,h,a,b,ha,hb,e=>by
  rw[ou]at h;rcases qm.1 ha with g|c<;>rcases qm.1 hb with i|d
  ·rw[g,i]
  ·subst g;exact absurd e (Nat.ne_of_lt (h.1 _ d))
  ·subst i;exact absurd e.symm (Nat.ne_of_lt (h.1 _ c))
  ·exact zxi h.2 c d e
theorem TI.inj{c:List (Nat×Nat)}(h:TI n aR s c){a b:Nat}(d:a∈s.stk)(f:b∈s.stk)(e:s.num a=s.num b):a=b:=zxi h.gJ d f e
theorem TI.lQ{a:List (Nat×Nat)}(h:TI n aR s a){v:Nat}(b:v∈gK a):v∈s.stk:=h.iJ.subset b
theorem TI.empty(h:TI n aR s []):s.stk=[]:=by
 cases c:s.stk with
 |nil=>rfl
 |cons a l=>obtain⟨v,b,_⟩:=h.cov a (by rw[c];exact qy);cases b
theorem TI.oL{g:List (Nat×Nat)}(h:TI n aR s g):s.cnt<=n:=by
 have f:(s.stk++s.out.flatten).Nodup:=yh.2 ⟨h.nd,h.oG,fun a i b j e=>(h.lT b j).2.1 (e▸i)⟩;have d:∀ x∈s.stk++s.out.flatten,x∈List.range n:=fun x c=>by
  rw[xu];rcases pg.1 c with c|c
  ·exact h.l6 x c
  ·exact(h.lT x c).2.2
 have:=f.length_le_of_subset d;rw[ku,lE4,<-h.kV]at this;exact this
theorem TI.aAe{a:List (Nat×Nat)}(h:TI n aR s a):a.length<=s.stk.length:=by have:=h.iJ.length_le;simp_all
theorem TI.aEx{b:List (Nat×Nat)}(h:TI n aR s b){k:Nat}(c:s.num k=0):k∉s.stk/\k∉s.out.flatten:=
 ⟨fun a=>by have:=h.jV k a;omega,fun a=>by have:=(h.lT k a).1;omega⟩
end Go.Di.T
end
noncomputable section
namespace Go.Di.T
variable {n:Nat} {aR:Nat->List Nat} {s:TS}
theorem pV(l:List (Nat×Nat))(v i:Nat):gK (l++[(v,i)])=gK l++[v]:=by simp[gK]
theorem TI.aG1{a:List (Nat×Nat)}(h:TI n aR s a):(gK a).Nodup:=h.nd.sublist h.iJ
theorem zj6{l:List (Nat×Nat)}{v i k:Nat}(a:(gK (l++[(v,i)])).Nodup):¬ qqn (l++[(v,i)]) (v,i) k:=by
 rintro ⟨j,b,d⟩;have e:j+1<(gK (l++[(v,i)])).length:=(ql.1 d).1;have f:(gK (l++[(v,i)])).length=l.length+1:=by simp[gK]
 have c:v∈gK l:=by rw[qx (by omega)]at b;exact qj.2 ⟨_,uB b,rfl⟩
 rw[pV,yh]at a;exact a.2.2 v c v (gq.2 rfl) rfl
theorem qqn.bump{l x:List (Nat×Nat)}{v i a k:Nat}{p:Nat×Nat}(h:qqn (l++[(v,i)]) p k):qqn (l++(v,a)::x) p k:=by
 obtain⟨j,b,c⟩:=h;have d:j+1<(gK (l++[(v,i)])).length:=(ql.1 c).1;have f:(gK (l++[(v,i)])).length=l.length+1:=by simp[gK]
 refine⟨j,?_,?_⟩
 ·rw[qx (by omega)]at b ⊢;exact b
 ·have e:(l++(v,a)::x).map Prod.fst=(gK (l++[(v,i)]))++x.map Prod.fst:=by simp[gK]
  rw[e,qx d];exact c
theorem TI.top{l:List (Nat×Nat)}{v i:Nat}(h:TI n aR s (l++[(v,i)])){x:Nat}(a:x∈gK l):s.num x<s.num v:=by have:=h.gJ.sublist h.iJ;rw[pV,yf]at this;exact this.2.2 x a v (gq.2 rfl)
theorem TI.tX{l:List (Nat×Nat)}{v i:Nat}(h:TI n aR s (l++[(v,i)])){x:Nat}(a:x∈gK (l++[(v,i)])):s.num x<=s.num v:=by
 rw[pV]at a;rcases pg.1 a with a|a
 ·exact yu (h.top a)
 ·simp_all
theorem TI.seen{l:List (Nat×Nat)}{v i:Nat}(h:TI n aR s (l++[(v,i)])){j k:Nat}(a:j<i)(e:(aR v)[j]? =some k):0<s.num k/\(k∈s.stk->s.low v<=s.num k):=by obtain⟨_,c⟩:=h.frE (v,i) (xf _ (gq.2 rfl));obtain⟨d,f⟩:=c j a k e;exact⟨d,fun b=>(f b).resolve_right (zj6 h.aG1)⟩
theorem TI.enter{r q:List (Nat×Nat)}(h:TI n aR s r){k:Nat}(U:s.num k=0)(N:k<n)(O:r=[]/\q=[]\/∃ l v i,r=l++[(v,i)]/\(aR v)[i]? =some k/\q=l++[(v,i+1)]):TI n aR (s.enter k) (q++[(k,0)]):=by
 obtain⟨n1,n2⟩:=h.aEx U;have hn:gK q=gK r:=by
  rcases O with⟨rfl,rfl⟩|⟨l,v,i,rfl,_,rfl⟩
  ·rfl
  ·simp
 have G:gK (q++[(k,0)])=gK r++[k]:=by rw[pV,hn]
 have o:∀{v},v∈s.stk->v≠k:=fun c e=>n1 (e▸c);have nko:∀{v},v∈s.out.flatten->v≠k:=fun c e=>n2 (e▸c);have K:∀{v},0<s.num v->v≠k:=fun c e=>by rw[e,U]at c;exact xq _ c
 have f:∀{v},v≠k->(s.enter k).num v=s.num v:=fun c=>upd_ne _ _ c;have z:(s.enter k).num k=s.cnt+1:=upd_same _ _ _;have jT:∀{v},v≠k->(s.enter k).low v=s.low v:=fun c=>upd_ne _ _ c;have kJ:(s.enter k).low k=s.cnt+1:=upd_same _ _ _;have d:∀{v},v∈(s.enter k).stk↔v∈s.stk\/v=k:=fun{v}=>by show v∈s.stk++[k]↔_;rw[pg,gq]
 have F:∀{v},v∈gK (q++[(k,0)])↔v∈gK r\/v=k:=fun{v}=>by rw[G,pg,gq]
 exact{
  l6:=fun v c=>by rcases d.1 c with c|rfl;exact h.l6 v c;exact N
  jV:=fun v c=>by
   rcases d.1 c with c|rfl
   ·rw[f (o c)];exact h.jV v c
   ·omega
  gJ:=by show(s.stk++[k]).Pairwise _;rw[yf];refine⟨h.gJ.imp_of_mem fun G H P=>by rw[f (o G),f (o H)];exact P,zn _ _,fun a G b H=>?_⟩;rw[gq.1 H,z,f (o G)];have:=h.iU a;omega
  oC:=fun v=>by
   rw[d];show upd s.on k true v=true↔_;by_cases e:v=k
   ·rw[e,upd_same];simp
   ·rw[upd_ne _ _ e,h.oC];simp[e]
  vis:=fun v c=>by
   by_cases e:v=k
   ·simp_all
   ·rw[f e]at c;exact(h.vis v c).imp (fun x=>d.2 (Or.inl x)) id
  lT:=fun v c=>by obtain⟨A,I,W⟩:=h.lT v c;simp_all
  iD:=h.iD
  oN:=h.oN
  oG:=h.oG
  iU:=fun v=>by
   show _<=s.cnt+1;by_cases e:v=k
   ·simp_all
   ·rw[f e];exact Nat.le_succ_of_le (h.iU v)
  kV:=by show s.cnt+1=(s.stk++[k]).length+s.out.flatten.length;rw[ku,List.length_singleton,h.kV];omega
  iJ:=by rw[G];exact h.iJ.append (List.Sublist.refl _)
  jT:=fun v c=>by
   rcases d.1 c with c|rfl
   ·rw[f (o c),jT (o c)];exact h.jT v c
   ·omega
  kJ:=fun v c=>by
   rcases d.1 c with c|rfl
   ·obtain⟨u,A,I,W⟩:=h.kJ v c;exact⟨u,d.2 (Or.inl A),by rw[f (o A),jT (o c)];exact I,W⟩
   ·exact⟨v,d.2 (Or.inr rfl),by rw[z,kJ],Rc.refl _⟩
  fin:=fun v c D=>by rw[F,not_or]at D;have c:=(d.1 c).resolve_right D.2;rw[f D.2,jT D.2];exact h.fin v c D.1
  oH:=fun v c D x B=>by rw[F,not_or]at D;have c:=(d.1 c).resolve_right D.2;obtain⟨A,I⟩:=h.oH v c D.1 x B;simp_all
  frE:=fun p C=>by
   rcases pg.1 C with C|C
   ·-- an old frame
    have old:∀{x},0<s.num x->p.1∈gK r->(x∈s.stk->s.low p.1<=s.num x\/qqn (q++[(k,0)]) p x) ->
      0<(s.enter k).num x/\(x∈(s.enter k).stk->(s.enter k).low p.1<=(s.enter k).num x\/qqn (q++[(k,0)]) p x):=fun{x} A Q I=>by
     refine⟨by rw[f (K A)];exact A,fun B=>?_⟩;rw[jT (o (h.lQ Q)),f (K A)];simp_all
    rcases O with⟨rfl,rfl⟩|⟨l,v,i,rfl,M,rfl⟩
    ·cases C
    ·rcases pg.1 C with C|C
     ·obtain⟨g1,g2⟩:=h.frE p (vz _ C);refine⟨g1,fun j R x B=>?_⟩;obtain⟨X,Y⟩:=g2 j R x B;refine old X (qj.2 ⟨p,vz _ C,rfl⟩) fun S=>(Y S).imp id fun g=>?_;rw[rf];exact g.bump
     ·obtain rfl:=gq.1 C;refine⟨(ql.1 M).1,fun j R x B=>?_⟩;rcases xe j i with L|L
      ·obtain⟨X,Y⟩:=h.seen L B;simp_all
      ·have:j=i:=by have:j<i+1:=R;omega
       subst this;have B:(aR v)[j]? =some x:=B;rw[M]at B;obtain rfl:=Option.some.inj B;refine⟨by rw[z];omega,fun _=>Or.inr ⟨l.length,?_,?_⟩⟩
       ·simp
       ·simp
   ·simp_all
  nM:=fun v c w m y H=>by
   rcases F.1 c with c|rfl
   ·have E:=o (h.lQ c);rcases d.1 m with m|rfl
    ·rw[jT E,jT (o m)];rw[f E,f (o m)]at y;refine h.nM v c w m y fun Z J hlt=>?_;have:=H Z (F.2 (Or.inl J));rw[f E,f (o m),f (o (h.lQ J))]at this;omega
    ·have:=H w (F.2 (Or.inr rfl));rw[f E,z]at this;have V:=h.iU v;omega
   ·rcases d.1 m with m|rfl
    ·rw[z,f (o m)]at y;have:=h.iU w;omega
    ·simp
  frR:=fun v T w m y=>by
   rcases F.1 T with c|rfl
   ·rcases d.1 m with m|rfl
    ·rw[f (o (h.lQ c)),f (o m)]at y;exact h.frR v c w m y
    ·rcases O with⟨rfl,rfl⟩|⟨l,t,i,rfl,M,rfl⟩
     ·trivial
     ·have ht:t∈gK (l++[(t,i)]):=by rw[pV];simp
      exact(h.frR v c t (h.lQ ht) (h.tX c)).step (uB M)
   ·rcases d.1 m with m|rfl
    ·rw[z,f (o m)]at y;have:=h.iU w;omega
    ·exact Rc.refl _
  cov:=fun w m=>by
   rcases d.1 m with m|rfl
   ·obtain⟨v,A,I⟩:=h.cov w m;exact⟨v,F.2 (Or.inl A),by rw[f (o (h.lQ A)),f (o m)];exact I⟩
   ·exact⟨w,F.2 (Or.inr rfl),lh _⟩}
theorem TI.aNk{i:List (Nat×Nat)}(h:TI n aR s i){v m:Nat}(z:v∈gK i)(A:m<=s.low v)(B:∃ u∈s.stk,s.num u=m/\Rc aR v u):TI n aR {s with low:=upd s.low v m} i:=by
 have le:∀ x,upd s.low v m x<=s.low x:=fun x=>by
  by_cases e:x=v
  ·rw[e,upd_same];exact A
  ·rw[upd_ne _ _ e];exact lh _
 exact{
  l6:=h.l6,jV:=h.jV,gJ:=h.gJ,oC:=h.oC,vis:=h.vis,lT:=h.lT,iD:=h.iD,oN:=h.oN,oG:=h.oG,iU:=h.iU,kV:=h.kV,iJ:=h.iJ
  jT:=fun x b=>rq (le x) (h.jT x b)
  kJ:=fun x b=>by
   show ∃u∈s.stk,s.num u=upd s.low v m x/\_;by_cases e:x=v
   ·rw[e,upd_same];exact B
   ·rw[upd_ne _ _ e];exact h.kJ x b
  fin:=fun x b g=>lAZ (le x) (h.fin x b g)
  oH:=fun x b g k d=>⟨(h.oH x b g k d).1,fun c=>rq (le x) ((h.oH x b g k d).2 c)⟩
  frE:=fun p l=>⟨(h.frE p l).1,fun j q k d=>⟨((h.frE p l).2 j q k d).1,fun c=>(((h.frE p l).2 j q k d).2 c).imp (rq (le _)) id⟩⟩
  nM:=fun a r w t f y=>by
   show upd s.low v m a<=upd s.low v m w;by_cases e:w=v
   ·subst e;by_cases D:a=w
    ·simp_all
    ·have o:s.num a<s.num w:=Nat.lt_of_le_of_ne f fun C=>D (h.inj (h.lQ r) t C);exact absurd (y w z o) (xq _)
   ·rw[upd_ne _ _ e];exact rq (le a) (h.nM a r w t f y)
  frR:=h.frR
  cov:=h.cov}
theorem TI.bump{l:List (Nat×Nat)}{v i k:Nat}(h:TI n aR s (l++[(v,i)]))(m:(aR v)[i]? =some k)(r:0<s.num k)(t:k∈s.stk->s.low v<=s.num k):TI n aR s (l++[(v,i+1)]):=by
 have c:gK (l++[(v,i+1)])=gK (l++[(v,i)]):=by rw[pV,pV]
 exact{
  l6:=h.l6,jV:=h.jV,gJ:=h.gJ,oC:=h.oC,vis:=h.vis,lT:=h.lT,iD:=h.iD,oN:=h.oN,oG:=h.oG,iU:=h.iU,kV:=h.kV,jT:=h.jT,kJ:=h.kJ
  iJ:=by rw[c];exact h.iJ
  fin:=by rw[c];exact h.fin
  oH:=by rw[c];exact h.oH
  nM:=by rw[c];exact h.nM
  frR:=by rw[c];exact h.frR
  cov:=by rw[c];exact h.cov
  frE:=fun p d=>by
   rcases pg.1 d with d|d
   ·obtain⟨u,w⟩:=h.frE p (vz _ d);refine⟨u,fun j f x a=>?_⟩;obtain⟨o,q⟩:=w j f x a;exact⟨o,fun b=>(q b).imp id fun g=>g.bump⟩
   ·obtain rfl:=gq.1 d;refine⟨(ql.1 m).1,fun j f x a=>?_⟩;rcases xe j i with e|e
    ·obtain⟨o,q⟩:=h.seen e a;simp_all
    ·have:j=i:=by have:j<i+1:=f;omega
     subst this;have a:(aR v)[j]? =some x:=a;rw[m]at a;obtain rfl:=Option.some.inj a;exact⟨r,fun b=>Or.inl (t b)⟩}
def TS.look(s:TS)(v k:Nat):TS:=if s.on k then{s with low:=upd s.low v (min (s.low v) (s.num k))}else s
theorem TI.look{l:List (Nat×Nat)}{v i k:Nat}(h:TI n aR s (l++[(v,i)]))(a:(aR v)[i]? =some k)(f:0<s.num k):TI n aR (s.look v k) (l++[(v,i+1)]):=by
 unfold TS.look;have g:v∈gK (l++[(v,i)]):=by rw[pV];simp
 cases e:s.on k with
 |false=>
  have c:k∉s.stk:=fun b=>by rw[(h.oC k).2 b]at e;cases e
  exact h.bump a f fun b=>absurd b c
 |true=>
  have d:=(h.oC k).1 e;have j:TI n aR {s with low:=upd s.low v (min (s.low v) (s.num k))} (l++[(v,i)]):=by
   refine h.aNk g (eQ _ _) ?_;rcases Nat.le_total (s.low v) (s.num k)with hle|hle
   ·rw[yz hle];exact h.kJ v (h.lQ g)
   ·rw[Nat.min_eq_right hle];exact⟨k,d,rfl,Rc.one (uB a)⟩
  refine TI.bump j a f fun _=>?_;show upd s.low v _ v<=s.num k;rw[upd_same];exact xh _ _
theorem q1l{l:List (Nat×Nat)}{v i k:Nat}{p:Nat×Nat}(f:p∈l)(g:(gK (l++[(v,i)])).Nodup)(h:qqn (l++[(v,i)]) p k):qqn l p k\/(k=v/\l.getLast? =some p):=by
 obtain⟨j,d,a⟩:=h;have m:j+1<(gK (l++[(v,i)])).length:=(ql.1 a).1;have n:(gK (l++[(v,i)])).length=l.length+1:=by simp[gK]
 have b:l[j]? =some p:=by rwa [qx (by omega)]at d
 rw[show(l++[(v,i)]).map Prod.fst=gK l++[v]from pV l v i]at a;have c:(gK l).length=l.length:=by simp[gK]
 rcases xe (j+1) l.length with h|h
 ·rw[qx (by omega)]at a;exact Or.inl ⟨j,b,a⟩
 ·have e:j+1=l.length:=by omega
  rw[ug (by omega),c,e,lEM]at a;refine Or.inr ⟨(Option.some.inj a).symm,?_⟩;rw[List.getLast?_eq_getElem?,<-e];exact b
theorem TI.pop{l:List (Nat×Nat)}{v u j:Nat}(h:TI n aR s ((l++[(u,j)])++[(v,(aR v).length)]))(Q:s.low v<s.num v):TI n aR {s with low:=upd s.low u (min (s.low u) (s.low v))} (l++[(u,j)]):=by
 have y:v∈gK ((l++[(u,j)])++[(v,(aR v).length)]):=by rw[pV];simp
 have d:u∈gK (l++[(u,j)]):=by rw[pV];simp
 have o:∀{x},x∈gK ((l++[(u,j)])++[(v,(aR v).length)])↔x∈gK (l++[(u,j)])\/x=v:=fun{x}=>by rw[pV (l++[(u,j)]),pg,gq]
 have z:=h.lQ y;have M:s.num u<s.num v:=h.top d;have T:=h.lQ (o.2 (Or.inl d));have N:∀{x},x∈gK (l++[(u,j)])->s.num x<=s.num u:=fun{x} b=>by
  have r:=h.gJ.sublist ((List.sublist_append_left (gK (l++[(u,j)])) [v]).trans (by rw[<-pV];exact h.iJ));rw[pV,yf]at r;rw[pV]at b;rcases pg.1 b with b|b
  ·exact yu (r.2.2 x b u (gq.2 rfl))
  ·simp_all
 -- the old state over fewer frames
 have le:∀ x,upd s.low u (min (s.low u) (s.low v)) x<=s.low x:=fun x=>by
  by_cases e:x=u
  ·rw[e,upd_same];exact eQ _ _
  ·rw[upd_ne _ _ e];exact lh _
 exact{
  l6:=h.l6,jV:=h.jV,gJ:=h.gJ,oC:=h.oC,vis:=h.vis,lT:=h.lT,iD:=h.iD,oN:=h.oN,oG:=h.oG,iU:=h.iU,kV:=h.kV
  iJ:=(List.sublist_append_left (gK (l++[(u,j)])) [v]).trans (by rw[<-pV];exact h.iJ)
  jT:=fun x b=>rq (le x) (h.jT x b)
  kJ:=fun x b=>by
   show ∃w∈s.stk,s.num w=upd s.low u (min (s.low u) (s.low v)) x/\_;by_cases e:x=u
   ·rw[e,upd_same];rcases Nat.le_total (s.low u) (s.low v)with c|c
    ·rw[yz c];exact h.kJ u T
    ·rw[Nat.min_eq_right c];obtain⟨w,C,r,V⟩:=h.kJ v z;exact⟨w,C,r,(h.frR u (o.2 (Or.inl d)) v z (yu M)).trans V⟩
   ·rw[upd_ne _ _ e];exact h.kJ x b
  fin:=fun x b J=>by
   refine lAZ (le x) ?_;by_cases e:x=v
   ·simp_all
   ·exact h.fin x b fun q=>(o.1 q).elim J e
  oH:=fun x b J k F=>by
   by_cases e:x=v
   ·subst e;obtain⟨i,G⟩:=lAI.1 F;have O:=(ql.1 G).1;obtain⟨D,E⟩:=h.seen O G;exact⟨D,fun f=>rq (le x) (E f)⟩
   ·obtain⟨D,E⟩:=h.oH x b (fun q=>(o.1 q).elim J e) k F;exact⟨D,fun f=>rq (le x) (E f)⟩
  frE:=fun p R=>by
   obtain⟨D,E⟩:=h.frE p (vz _ R);refine⟨D,fun i G k F=>?_⟩;obtain⟨W,X⟩:=E i G k F;refine⟨W,fun f=>?_⟩;rcases X f with g|g
   ·exact Or.inl (rq (le _) g)
   ·rcases q1l R h.aG1 g with I|⟨rfl,I⟩
    ·exact Or.inr I
    ·rw[List.getLast?_concat]at I;obtain rfl:=Option.some.inj I;refine Or.inl ?_;show upd s.low u (min (s.low u) (s.low k)) u<=s.num k;rw[upd_same];omega
  nM:=fun a H w t c S=>by
   show upd s.low u (min (s.low u) (s.low v)) a<=upd s.low u (min (s.low u) (s.low v)) w;have A:=o.2 (Or.inl H:a∈gK (l++[(u,j)])\/a=v);have B:=h.lQ A;by_cases e:w=u
   ·subst e;by_cases Y:a=w
    ·simp_all
    ·exact absurd (S w d (Nat.lt_of_le_of_ne c fun U=>Y (h.inj B t U))) (xq _)
   ·rw[upd_ne _ _ e];rcases xe (s.num w) (s.num v)with hwv|hwv
    ·refine rq (le a) (h.nM a A w t c fun K m L=>?_);rcases o.1 m with m|rfl
     ·simp_all
     ·exact hwv
    ·have P:a=u:=by
      refine h.inj B T (Nat.le_antisymm (N H) ?_);rcases xe (s.num a) (s.num u)with g|g
      ·have:=S u d g;have:s.num w<s.num u:=this;omega
      ·exact g
     rw[P,upd_same];refine rq (xh _ _) (h.nM v y w t hwv fun K m L=>?_);have:=h.tX m;omega
  frR:=fun a H=>h.frR a (o.2 (Or.inl H))
  cov:=fun w t=>by
   obtain⟨K,C,r⟩:=h.cov w t;rcases o.1 C with C|rfl
   ·exact⟨K,C,r⟩
   ·exact⟨u,d,by show s.num u<=s.num w;omega⟩}
theorem TI.root{v i:Nat}(h:TI n aR s [(v,i)]):¬ s.low v<s.num v:=fun a=>by
 have b:v∈gK [(v,i)]:=by simp[gK]
 obtain⟨u,c,e,_⟩:=h.kJ v (h.lQ b);obtain⟨f,d,g⟩:=h.cov u c;have:f=v:=by simpa [gK] using d
 subst this;omega
theorem TI.leave{l:List (Nat×Nat)}{v:Nat}(h:TI n aR s (l++[(v,(aR v).length)]))(hlow:¬ s.low v<s.num v){pre f comp:List Nat}(hs:s.stk=pre++v::f)(O:comp.Perm (v::f))(X:comp.Pairwise (· < ·))(P:Nat->Bool)(hon:∀ x,P x=if x∈comp then false else s.on x):TI n aR {s with stk:=pre,on:=P,out:=s.out++[comp]} l:=by
 have F:v∈gK (l++[(v,(aR v).length)]):=by rw[pV];simp
 have Y:∀{x},x∈gK (l++[(v,(aR v).length)])↔x∈gK l\/x=v:=fun{x}=>by rw[pV,pg,gq]
 have V:=h.lQ F;have E:=h.gJ;rw[hs,yf,ou]at E;obtain⟨s1,⟨s2,s3⟩,s4⟩:=E;have j:∀{x},x∈s.stk↔x∈pre\/x∈v::f:=fun{x}=>by rw[hs,pg]
 have L:∀{x},x∈pre->s.num x<s.num v:=fun{x} d=>s4 x d v qy;have M:∀{x},x∈v::f->s.num v<=s.num x:=fun{x} d=>by
  rcases qm.1 d with rfl|d
  ·simp
  ·exact yu (s2 x d)
 have uZ:∀{x},x∈pre->x∉v::f:=fun{x} q r=>by have:=L q;have:=M r;omega
 have aMG:∀{x},x∈s.stk->s.num x<s.num v->x∈pre:=fun{x} q r=>(j.1 q).resolve_right fun I=>by have:=M I;omega
 have G:∀{x},x∈s.stk->s.num v<=s.num x->x∈v::f:=fun{x} q r=>(j.1 q).resolve_left fun I=>by have:=L I;omega
 have H:∀{x},x∈comp↔x∈v::f:=O.mem_iff;have B:∀{x},x∈(s.out++[comp]).flatten↔x∈s.out.flatten\/x∈v::f:=fun{x}=>by rw[lA4,pg];simp[H]
 have o:∀{x},x∈v::f->x∈s.stk:=fun d=>j.2 (Or.inr d)
 -- a way N
 have N:∀ m x,s.num x=m->x∈v::f->Rc aR x v:=by
  intro m
  induction m using Nat.strongRecOn with
  |_ m ih=>
   intro x hm d;by_cases e:x=v
   ·rw[e];exact Rc.refl _
   ·have t:=o d;have W:x∉gK (l++[(v,(aR v).length)]):=fun Q=>by
     have q:=h.tX Q;have r:=M d;exact e (h.inj t V (by omega))
    obtain⟨u,q,r,I⟩:=h.kJ x t;have h4:=h.fin x t W;have h5:s.low v<=s.low x:=h.nM v F x t (M d) fun Z D R=>by have:=h.tX D;omega
    exact I.trans (ih (s.num u) (by omega) u rfl (G q (by omega)))
 have C:∀ x∈v::f,∀k∈aR x,k∈v::f\/k∈s.out.flatten:=fun x d k A=>by
  have t:=o d;have key:0<s.num k/\(k∈s.stk->s.num v<=s.num k):=by
   by_cases e:x=v
   ·subst e;obtain⟨i,hi⟩:=lAI.1 A;obtain⟨J,K⟩:=h.seen (ql.1 hi).1 hi;exact⟨J,fun z=>by have:=K z;omega⟩
   ·have W:x∉gK (l++[(v,(aR v).length)]):=fun Q=>by
     have q:=h.tX Q;have r:=M d;exact e (h.inj t V (by omega))
    obtain⟨J,K⟩:=h.oH x t W k A;have h5:s.low v<=s.low x:=h.nM v F x t (M d) fun Z D R=>by have:=h.tX D;omega
    exact⟨J,fun z=>by have:=K z;omega⟩
  rcases h.vis k key.1 with z|hko
  ·simp_all
  ·simp_all
 have aHr:∀{x},x∈s.out.flatten->x∉v::f:=fun q r=>(h.lT _ q).2.1 (o r);have aWw:∀{p k},p∈l->k∈pre->qqn (l++[(v,(aR v).length)]) p k->qqn l p k:=fun{p k} O A g=>by
  rcases q1l O h.aG1 g with g|⟨rfl,_⟩
  ·exact g
  ·exact absurd qy (uZ A)
 exact{
  l6:=fun x d=>h.l6 x (j.2 (Or.inl d))
  jV:=fun x d=>h.jV x (j.2 (Or.inl d))
  gJ:=s1
  oC:=fun x=>by
   show P x=true↔x∈pre;rw[hon];by_cases d:x∈comp
   ·rw[kz d];exact⟨fun e=>(by cases e),fun e=>absurd (H.1 d) (uZ e)⟩
   ·rw[lu d,h.oC,j];exact⟨fun e=>e.resolve_right fun g=>d (H.2 g),Or.inl⟩
  vis:=fun x d=>by
   rcases h.vis x d with g|g
   ·rcases j.1 g with g|g
    ·exact Or.inl g
    ·simp_all
   ·simp_all
  lT:=fun x d=>by
   rcases B.1 d with g|g
   ·obtain⟨q,r,I⟩:=h.lT x g;simp_all
   ·exact⟨h.jV x (o g),fun h4=>uZ h4 g,h.l6 x (o g)⟩
  iD:=fun x d k A=>by
   rcases B.1 d with g|g
   ·exact B.2 (Or.inl (h.iD x g k A))
   ·exact B.2 ((C x g k A).symm)
  oN:=fun c hc=>by
   rcases pg.1 hc with hc|hc
   ·exact h.oN c hc
   ·obtain rfl:=gq.1 hc;refine⟨X,v,H.2 qy,fun x=>⟨fun d=>⟨h.frR v F x (o (H.1 d)) (M (H.1 d)),N _ x rfl (H.1 d)⟩,fun⟨J,K⟩=>?_⟩⟩;have hcl:x∈v::f\/x∈s.out.flatten:=Rc.closed (S:=fun x=>x∈v::f\/x∈s.out.flatten) (fun y hy k A=>hy.elim (fun g=>C y g k A) fun g=>Or.inr (h.iD y g k A)) J (Or.inl qy);rcases hcl with g|g
    ·exact H.2 g
    ·have:=Rc.closed (S:=fun x=>x∈s.out.flatten) h.iD K g;exact absurd V (h.lT v this).2.1
  oG:=by
   rw[lA4,yh];refine⟨h.oG,by
    have e:[comp].flatten=comp:=by simp
    rw[e];exact X.imp fun hab=>Nat.ne_of_lt hab,fun a q b r e=>?_⟩
   have r:b∈comp:=by simpa using r
   exact aHr q (H.1 (e▸r))
  iU:=h.iU
  kV:=by rw[h.kV,hs];have:=O.length_eq;simp at this ⊢;omega
  iJ:=by
   have q:=h.iJ.filter (fun x=>decide (s.num x<s.num v));rw[pV,hs,ag,ag]at q;have e1:(gK l).filter (fun x=>decide (s.num x<s.num v))=gK l:=List.filter_eq_self.2 fun x d=>qw (h.top d);have e2:pre.filter (fun x=>decide (s.num x<s.num v))=pre:=List.filter_eq_self.2 fun x d=>qw (L d);have e3:(v::f).filter (fun x=>decide (s.num x<s.num v))=[]:=List.filter_eq_nil_iff.2 fun x d=>by simpa using M d
   simp_all
  jT:=fun x d=>h.jT x (j.2 (Or.inl d))
  kJ:=fun x d=>by obtain⟨u,q,r,I⟩:=h.kJ x (j.2 (Or.inl d));have:=h.jT x (j.2 (Or.inl d));have:=L d;exact⟨u,aMG q (by omega),r,I⟩
  fin:=fun x d Q=>h.fin x (j.2 (Or.inl d)) fun g=>(Y.1 g).elim Q fun e=>by have:=L d;rw[e]at this;exact xq _ this
  oH:=fun x d Q k A=>by obtain⟨J,K⟩:=h.oH x (j.2 (Or.inl d)) (fun g=>(Y.1 g).elim Q fun e=>by have:=L d;rw[e]at this;exact xq _ this) k A;simp_all
  frE:=fun p O=>by obtain⟨J,K⟩:=h.frE p (vz _ O);refine⟨J,fun i hi k A=>?_⟩;obtain⟨g3,g4⟩:=K i hi k A;exact⟨g3,fun z=>(g4 (j.2 (Or.inl z))).imp id (aWw O z)⟩
  nM:=fun a X w T U hb=>h.nM a (Y.2 (Or.inl X)) w (j.2 (Or.inl T)) U fun Z D R=>by
   rcases Y.1 D with g|rfl
   ·exact hb Z g R
   ·exact L T
  frR:=fun a X w T U=>h.frR a (Y.2 (Or.inl X)) w (j.2 (Or.inl T)) U
  cov:=fun w T=>by
   obtain⟨Z,q,r⟩:=h.cov w (j.2 (Or.inl T));rcases Y.1 q with q|rfl
   ·exact⟨Z,q,r⟩
   ·have:=L T;omega}
theorem TI.init(n:Nat)(aR:Nat->List Nat):TI n aR ⟨fun _=>0,fun _=>0,fun _=>false,[],0,[]⟩ [] where
 l6:=fun v a=>by cases a
 jV:=fun v a=>by cases a
 gJ:=List.Pairwise.nil
 oC:=fun v=>by simp
 vis:=fun v a=>by cases a
 lT:=fun v a=>by cases a
 iD:=fun v a=>by cases a
 oN:=fun v a=>by cases a
 oG:=List.nodup_nil
 iU:=fun v=>lh _
 kV:=rfl
 iJ:=List.Sublist.refl _
 jT:=fun v a=>by cases a
 kJ:=fun v a=>by cases a
 fin:=fun v a=>by cases a
 oH:=fun v a=>by cases a
 frE:=fun v a=>by cases a
 nM:=fun v a=>by cases a
 frR:=fun v a=>by cases a
 cov:=fun v a=>by cases a
end Go.Di.T
end
noncomputable section
namespace Go.Di
open Go.Ev Go.Di.T
variable {C:Nat->Ev.Call} {LA LO:LP}
variable {H H':Hp} {S:Nat->Prop} {i j k n z:Nat} {l:List AV}
structure Gs(z:Nat)(H:Hp)(v:AV)(n:Nat)(l:List AV):Prop where
 len:l.length=n*z
 is:(v=.aA/\n=0)\/∃ b o m e q L,v=.sl b o n m e/\n<=m/\H.get b=aB q L/\o+m*z=L.length/\(L.drop o).take (n*z)=l/\(e=true\/q=z)/\b<H.nx
theorem Gs.nil(z:Nat)(H:Hp):Gs z H .aA 0 []:=⟨by simp,.inl ⟨rfl,rfl⟩⟩
theorem Gs.bS{v:AV}(h:Gs z H v n l):aF v=.val (.int .i64 (.ofNat n)):=by rcases h.is with⟨rfl,rfl⟩|⟨b,o,m,e,q,L,rfl,_⟩<;>rfl
theorem Gs.lt{v:AV}(h:Gs z H v n l){b:Nat}(a:In v b):b<H.nx:=by
 obtain⟨_,_,_,_,e⟩:=a;rcases h.is with⟨rfl,_⟩|⟨c,o,m,y,q,L,rfl,_,_,_,_,_,d⟩
 ·cases e
 ·simp_all
theorem Gs.keep{v:AV}(h:Gs z H v n l)(c:H.nx<=H'.nx)(d:∀ b,In v b->b<H.nx->H'.get b=H.get b):Gs z H' v n l:=by
 refine⟨h.len,?_⟩;rcases h.is with h|⟨b,o,m,e,q,L,rfl,f,g,i,j,k,a⟩
 ·exact .inl h
 ·exact .inr ⟨b,o,m,e,q,L,rfl,f,(d b ⟨_,_,_,_,rfl⟩ a).trans g,i,j,k,lq a c⟩
theorem Gs.fm{v:AV}(h:Gs z H v n l)(a:Fm S H H')(d:∀ b,In v b->¬ S b):Gs z H' v n l:=
 h.keep a.nx fun b e c=>a.get b c (d b e)
theorem Gl.gs{v:AV}(h:Gl z H v n l):Gs z H v n l:=by
 refine⟨h.len,?_⟩;rcases h.is with h|⟨b,o,e,q,L,rfl,c,g,a,d,f⟩
 ·exact .inl h
 ·have hd:o+n*z=L.length:=by have:=h.len;rw[<-a,xx]at this;omega
  exact .inr ⟨b,o,n,e,q,L,rfl,lh _,c,hd,by rw[a,uh (by rw[h.len];exact lh _)],d,f⟩
theorem Gs.rl{v:AV}(h:Gs 1 H v n l):Rl H v l:=by
 have c:l.length=n:=by have:=h.len;omega
 refine⟨by rw[h.bS,c],fun i j=>?_⟩;rcases h.is with⟨rfl,rfl⟩|⟨b,o,m,e,q,L,rfl,k,d,p,f,r,g⟩
 ·omega
 ·refine⟨b,o+i,by rw[uT _ _ _ _ _ _ _ _ (by omega),qg],g,?_⟩;have:L[o+i]? =some l[i]:=by
   have a:((L.drop o).take (n*1))[i]? =some l[i]:=by rw[f];simp
   rw[lAE,kz (by omega),ae]at a;exact a
  rw[d,qbx,this]
theorem Gs.cut{b o m:Nat}{e:Bool}(h:Gs z H (.sl b o n m e) n l)(a:k<=n):Gs z H (.sl b o k m e) k (l.take (k*z)):=by
 have c:k*z<=n*z:=um _ a;refine⟨by rw[ry,h.len];omega,?_⟩;rcases h.is with⟨h,_⟩|⟨r,s,t,u,q,L,d,v,f,g,i,j,p⟩
 ·cases h
 ·cases d;refine .inr ⟨b,o,m,e,q,L,rfl,by omega,f,g,?_,j,p⟩;rw[<-i,List.take_take];simp_all
theorem Gs.append{z w n:Nat}{v:AV}{l x:List AV}(h:Gs z H v n l)(B:x.length=z)(i:(n+1)*w<=1099511627776)(j:n+1<=1099511627776):Ok (lI z w H v (some ⟨1,x⟩)) fun a H'=>(∃b o m e,a=.sl b o (n+1) m e)/\Gs z H' a (n+1) (l++x)/\Fm (In v) H H'/\(∀b,In a b->In v b\/H.nx<=b):=by
 have d:∀(H:Hp) (v:AV),Gl z H v n l->Ok (lI z w H v (some ⟨1,x⟩)) fun a H'=>(∃b o m e,a=.sl b o (n+1) m e)/\Gs z H' a (n+1) (l++x)/\Fm (In v) H H'/\(∀b,In a b->In v b\/H.nx<=b):=fun H v g=>by obtain⟨H',r,D,I,E,J⟩:=g.append (w:=w) (k:=1) (x:=x) (by omega) (by omega) i j;exact⟨_,H',r,⟨_,_,_,_,rfl⟩,D.gs,E,fun b i=>by obtain⟨_,_,_,_,e⟩:=i;cases e;exact Or.inr (lh _)⟩
 rcases h.is with⟨rfl,rfl⟩|⟨b,o,m,e,q,L,rfl,K,u,M,t,y,A⟩
 ·have:l=[]:=tq.1 (by rw[h.len];simp);subst this;exact d H _ (Gl.nil _ _)
 ·rcases xe n m with c|c
  ·have e0:Nat.ble (n+1) m=true:=by rw[ble_eq,qw (by omega)]
   have C:(n+1)*z<=m*z:=um _ c;have f:(n+1)*z=n*z+z:=by rw[xk,zu]
   have r:lI z w H (.sl b o n m e) (some ⟨1,x⟩)=.ok (.sl b o (n+1) m e) (H.put b (aB q (aY L (o+n*z) x))):=by show(bif Nat.ble (n+1) m then storeAt H b (o+n*z) x (.sl b o (n+1) m e)else _)=_;rw[e0];exact qch _ _ _ _ _ _ _ u (by omega)
   refine⟨_,_,r,⟨_,_,_,_,rfl⟩,⟨by rw[ku,h.len,B,f],.inr ⟨b,o,m,e,q,_,rfl,c,dL _ _ _,?_,?_,y,A⟩⟩,(Fm.refl _ _).put b _ fun _=>⟨_,_,_,_,rfl⟩,fun F p=>Or.inl ?_⟩
   ·unfold aY;simp only[ku,ry,xx];omega
   ·rw[f];unfold aY;have G:(L.take (o+n*z)).length=o+n*z:=by rw[ry];omega
    rw[rf,xm (by omega),List.drop_take,show o+n*z-o=n*z by omega];have s:((L.drop o).take (n*z)).length=n*z:=by rw[t];exact h.len
    rw[lED,uh (by omega),s,t,show n*z+z-n*z=z by omega];simp_all
   ·obtain⟨_,_,_,_,e⟩:=p;cases e;exact⟨_,_,_,_,rfl⟩
  ·have:m=n:=by omega
   subst this;refine d H _ ⟨h.len,.inr ⟨b,o,e,q,L,rfl,u,by omega,?_,y,A⟩⟩;rw[<-t,uh (by rw[xx];omega)]
def rP(nx:Nat->AV)(s:TS)(sv ov:AV)(i:Nat):AV:=
 if i<256 then nx i else if i<512 then .int .i64 (.ofNat (s.num (i-256)))else if i<768 then .int .i64 (.ofNat (s.low (i-512)))else if i<1024 then .bool (s.on (i-768))
 else if i=1024 then sv else if i=1025 then .int .i64 (.ofNat s.cnt)else ov
def qpq(nx:Nat->AV)(s:TS)(sv ov:AV):List AV:=(List.range 1027).map (rP nx s sv ov)
def TB(nx:Nat->AV)(s:TS)(sv ov:AV):bO:=aB 0 (qpq nx s sv ov)
theorem zc1(nx:Nat->AV)(s:TS)(sv ov:AV):(qpq nx s sv ov).length=1027:=by unfold qpq;rw[pz,lE4]
variable {nx:Nat->AV} {s:TS} {sv ov:AV}
theorem zmj(j:Nat):(qpq nx s sv ov)[j]? =if j<1027 then some (rP nx s sv ov j)else none:=by
 unfold qpq;rw[xw];by_cases a:j<1027
 ·simp_all
 ·simp_all
theorem q7n(h:i<1027):bK (TB nx s sv ov) i=.val (rP nx s sv ov i):=by unfold TB;rw[qbx,zmj,kz h]
attribute [local irreducible] qpq rP
theorem q7m{nx':Nat->AV}{s':TS}{f b:AV}{x:AV}(h:i<1027)(p:rP nx' s' f b i=x)(n:∀ j,j<1027->j≠i->rP nx' s' f b j=rP nx s sv ov j):uK (TB nx s sv ov) i [x]=some (TB nx' s' f b):=by
 unfold TB;have a:=zc1 nx s sv ov;rw[qgm,kz (by rw[a];exact h)];refine congrArg some (congrArg (aB 0) ?_);unfold aY;generalize o:qpq nx s sv ov=l at a;apply lE3;intro j;have d:l[j]? =if j<1027 then some (rP nx s sv ov j)else none:=by rw[<-o];exact zmj j
 rw[zmj j];have k:(l.take i).length=i:=by rw[ry];omega
 have m:(l.take i++[x]).length=i+1:=by rw[ku,k];rfl
 rcases dm j i with c|c|c
 ·rw[qx (by omega),qx (by omega),lAE,kz c,d];by_cases g:j<1027
  ·rw[kz g,kz g,n j g (by omega)]
  ·omega
 ·simp_all
 ·rw[ug (by omega),ae,m];have e:i+[x].length+(j-(i+1))=j:=by show i+1+(j-(i+1))=j;omega
  rw[e,d];by_cases g:j<1027
  ·rw[kz g,kz g,n j g (by omega)]
  ·rw[lu g,lu g]
attribute [local semireducible] rP
theorem kN(h:i<256):rP nx s sv ov i=nx i:=by unfold rP;rw[kz h]
theorem aEm(h:256<=i)(a:i<512):rP nx s sv ov i=.int .i64 (.ofNat (s.num (i-256))):=by unfold rP;rw[lu (by omega),kz a]
theorem aEZ(h:512<=i)(a:i<768):rP nx s sv ov i=.int .i64 (.ofNat (s.low (i-512))):=by unfold rP;rw[lu (by omega),lu (by omega),kz a]
theorem kOn(h:768<=i)(a:i<1024):rP nx s sv ov i=.bool (s.on (i-768)):=by unfold rP;rw[lu (by omega),lu (by omega),lu (by omega),kz a]
theorem kS:rP nx s sv ov 1024=sv:=rfl
theorem kC:rP nx s sv ov 1025=.int .i64 (.ofNat s.cnt):=rfl
theorem kO:rP nx s sv ov 1026=ov:=rfl
theorem qpr{nx':Nat->AV}{s':TS}{c a:AV}(v:j<1027)(g:j≠i)(h:j<256->nx' j=nx j)(k:∀ m,j=256+m->s'.num m=s.num m)(l:∀ m,j=512+m->s'.low m=s.low m)(n:∀ m,j=768+m->s'.on m=s.on m)(o:j=1024->c=sv)(p:j=1025->s'.cnt=s.cnt)(q:j=1026->a=ov):rP nx' s' c a j=rP nx s sv ov j:=by
 by_cases b:j<256
 ·rw[kN b,kN b,h b]
 by_cases d:j<512
 ·rw[aEm (by omega) d,aEm (by omega) d,k (j-256) (by omega)]
 by_cases e:j<768
 ·rw[aEZ (by omega) e,aEZ (by omega) e,l (j-512) (by omega)]
 by_cases f:j<1024
 ·rw[kOn (by omega) f,kOn (by omega) f,n (j-768) (by omega)]
 by_cases t:j=1024
 ·subst t;rw[kS,kS,o rfl]
 by_cases u:j=1025
 ·subst u;rw[kC,kC,p rfl]
 have r:j=1026:=by omega
 subst r;rw[kO,kO,q rfl]
theorem rdN{v:Nat}(h:v<256):bK (TB nx s sv ov) v=.val (nx v):=by rw[q7n (by omega),kN h]
theorem rdNum{v:Nat}(h:v<256):bK (TB nx s sv ov) (256+v)=.val (.int .i64 (.ofNat (s.num v))):=by rw[q7n (by omega),aEm (by omega) (by omega),zk]
theorem aK8{v:Nat}(h:v<256):bK (TB nx s sv ov) (512+v)=.val (.int .i64 (.ofNat (s.low v))):=by rw[q7n (by omega),aEZ (by omega) (by omega),zk]
theorem aT1{v:Nat}(h:v<256):bK (TB nx s sv ov) (768+v)=.val (.bool (s.on v)):=by rw[q7n (by omega),kOn (by omega) (by omega),zk]
theorem rdS:bK (TB nx s sv ov) 1024=.val sv:=by rw[q7n (by omega),kS]
theorem rdC:bK (TB nx s sv ov) 1025=.val (.int .i64 (.ofNat s.cnt)):=by rw[q7n (by omega),kC]
theorem rdO:bK (TB nx s sv ov) 1026=.val ov:=by rw[q7n (by omega),kO]
theorem wrN{v:Nat}(h:v<256)(x:AV):uK (TB nx s sv ov) v [x]=some (TB (upd nx v x) s sv ov):=
 q7m (by omega) (by rw[kN h,upd_same]) fun j b a=>qpr b a (fun _=>upd_ne _ _ a) (fun _ _=>rfl) (fun _ _=>rfl) (fun _ _=>rfl) (fun _=>rfl) (fun _=>rfl) fun _=>rfl
theorem aMR{v:Nat}(h:v<256)(x:Nat):uK (TB nx s sv ov) (256+v) [.int .i64 (.ofNat x)]=some (TB nx {s with num:=upd s.num v x} sv ov):=
 q7m (by omega) (by rw[aEm (by omega) (by omega),zk,show({s with num:=upd s.num v x}:TS).num v=x from upd_same _ _ _]) fun j a b=>qpr a b (fun _=>rfl) (fun m c=>upd_ne _ _ (by omega)) (fun _ _=>rfl) (fun _ _=>rfl) (fun _=>rfl) (fun _=>rfl) fun _=>rfl
theorem aON{v:Nat}(h:v<256)(x:Nat):uK (TB nx s sv ov) (512+v) [.int .i64 (.ofNat x)]=some (TB nx {s with low:=upd s.low v x} sv ov):=
 q7m (by omega) (by rw[aEZ (by omega) (by omega),zk,show({s with low:=upd s.low v x}:TS).low v=x from upd_same _ _ _]) fun j a b=>qpr a b (fun _=>rfl) (fun _ _=>rfl) (fun m c=>upd_ne _ _ (by omega)) (fun _ _=>rfl) (fun _=>rfl) (fun _=>rfl) fun _=>rfl
theorem aT4{v:Nat}(h:v<256)(x:Bool):uK (TB nx s sv ov) (768+v) [.bool x]=some (TB nx {s with on:=upd s.on v x} sv ov):=
 q7m (by omega) (by rw[kOn (by omega) (by omega),zk,show({s with on:=upd s.on v x}:TS).on v=x from upd_same _ _ _]) fun j a b=>qpr a b (fun _=>rfl) (fun _ _=>rfl) (fun _ _=>rfl) (fun m c=>upd_ne _ _ (by omega)) (fun _=>rfl) (fun _=>rfl) fun _=>rfl
theorem wrS(x:AV):uK (TB nx s sv ov) 1024 [x]=some (TB nx s x ov):=
 q7m (by omega) kS fun j b a=>qpr b a (fun _=>rfl) (fun _ _=>rfl) (fun _ _=>rfl) (fun _ _=>rfl) (fun h=>absurd h a) (fun _=>rfl) fun _=>rfl
theorem wrC(x:Nat):uK (TB nx s sv ov) 1025 [.int .i64 (.ofNat x)]=some (TB nx {s with cnt:=x} sv ov):=
 q7m (by omega) kC fun j b a=>qpr b a (fun _=>rfl) (fun _ _=>rfl) (fun _ _=>rfl) (fun _ _=>rfl) (fun _=>rfl) (fun h=>absurd h a) fun _=>rfl
theorem wrO(x:AV):uK (TB nx s sv ov) 1026 [x]=some (TB nx s sv x):=
 q7m (by omega) kO fun j b a=>qpr b a (fun _=>rfl) (fun _ _=>rfl) (fun _ _=>rfl) (fun _ _=>rfl) (fun _=>rfl) (fun _=>rfl) fun h=>absurd h a
attribute [go_sem] rdN rdNum aK8 aT1 rdS rdC rdO wrN aMR aON aT4 wrS wrC wrO
end Go.Di
end
