/-
 For StrataTurns: functions in direct style, their contracts, and the plain mathematics, part 8 of 10. No conditions beyond those that each theorem states.
-/
import Derived.Test.YtighkibjecdbnaaGreatConG
import Derived.Test.YtighkibjecdbnaaGreatConF
set_option linter.unusedSimpArgs false
set_option linter.unusedVariables false
open Nat renaming reduceAdd->rB,reduceMul->rI,reduceSub->rK,reduceLeDiff->rL,reduceEqDiff->rN,reduceShiftRight->rS,reduceAnd->r6
noncomputable section
namespace Go.Di
open Go.Ev Go.Di.T Go.Sort
variable {C:Nat->Ev.Call} {LA LO:LP}
theorem z9y(E:aV C)(hO:pI C)(hS:nV C)(hR:oZ LA LO C){j:Nat}(hj:920<=j){HB:Hp}{n:Nat}{es:List Edge}(hE:y7 n es)(z:n<=256)(d:es.length<200000){gv:AV}(hg:iH HB gv es){H:Hp}{g0 ob x2 nb:Nat}{iv:AV}{L:TT AV 2}(F:∀ g O P Q,G (pu L [(22,g),(23,O),(24,P),(25,Q)]) 5=.ptr ob 0)(I:∀ g O P Q,G (pu L [(22,g),(23,O),(24,P),(25,Q)]) 2=.ptr x2 0)(J:Fm No HB H)(o:H.get g0=aB 0 [.int .i64 (.ofNat n),gv])(p:g0<H.nx)(rX:HB.nx<=ob/\ob<H.nx)(q:HB.nx<=x2/\x2<H.nx/\x2≠ob)(K:H.get ob=aB 0 [.aA,iv])(M:H.get x2=aB 0 [.aA,.aA])(N:(n=0/\iv=.aA/\nb=ob)\/(0<n/\iv=.sl nb 0 n n true/\H.get nb=aB 0 (aI (List.replicate n 0))/\HB.nx<=nb/\nb<H.nx/\nb≠ob/\nb≠x2)):Ok (qn2 LO (C j) L (.ptr g0 0) H) fun r H'=>∃ lv iv R S out ins s,r=.aX [.agg [lv,iv],.int .i64 (.ofNat 0)]/\qlf n es out ins s/\CR HB H' n lv iv R s S/\Fm No HB H':=by
 unfold qn2;have t:iH H gv es:=hg.fm J;have hq:=t.eqG (.ofNat n);simp only[go_sem,seval,o];refine Ok.kF (ztg E hO hS hR (k:=j) (by omega) z d hE.rng t) ?_;rintro v H1 ⟨cs,out,Y,e,f⟩;have e:mX H H1 v cs out:=e;have f:Fm No H H1:=f;have u:H1.get g0=aB 0 [.int .i64 (.ofNat n),gv]:=(f.keep p).trans o;simp only[go_sem,seval,u,hq];obtain⟨z1,z2⟩:=Y.sizes z;refine Ok.kF (zsz E hS (k:=j) hj e f.nx z z1 z2 Y.nd) ?_;rintro r y ⟨lb,gb,ib,wb,Z,a,ins,rfl,hp,ha,l,hcc,m,hnew⟩;have m:Fm (In v) H1 y:=m;have T:y.get g0=aB 0 [.int .i64 (.ofNat n),gv]:=(m.get _ (lq p f.nx) fun h=>by have:=e.new _ h;omega).trans u;simp only[go_sem,T,hq];have U:=Y.perm hp;have n1:=f.nx;have n2:=m.nx;have V:Fm No HB H1:=J.trans f;have W:Fm No HB y:=V.then m fun c hc h=>by have:=e.new c h;have:=J.nx;omega
 have w:∀{b:Nat} {k:bO},b<H.nx->H.get b=k->y.get b=k:=fun{b k} hb h=>(m.get b (by omega) fun h=>by have:=e.new b h;omega).trans ((f.keep hb).trans h);have x:qlf n es a ins ((jS es ins a.length a.length (List.replicate a.length false)).map fun i=>a.getD i []):=⟨U,ha,l.il,l.ix,rfl⟩;have X:aHe H y n gv v Z a ins lb gb ib wb:=l;refine(zvg E hR (j:=j) (by omega) hE.rng z d hg (F _ _ _ _) (I _ _ _ _) X x ⟨by omega,by omega,by omega,by omega⟩ (fun i c b A B=>?_) W rX q (w rX.2 K) (w q.2.1 M) (nb:=nb) (iv:=iv) ?_ (by omega)).mono ?_
 ·-- the components' blocks are older than the closure's
  have hm:=hcc c (uB A);obtain⟨i',hi',rfl⟩:=yj hm;obtain⟨_,D,_⟩:=e.at' i' cs[i'] (out[i']'(by rw[<-e.len];exact hi')) (by simp) (by simp);have:=D.lt B;omega
 ·rcases N with h|⟨A,B,D,h4,h5,h6,h7⟩
  ·exact Or.inl h
  ·simp_all
 ·rintro r H3 ⟨lv,iv,R,S,A,B,D⟩;exact⟨lv,iv,R,S,a,ins,_,A,x,B,D⟩
theorem z4l(l:aV C)(u:pI C)(v:nV C)(m:oZ LA LO C){k:Nat}(y:921<=k){n:Nat}{es:List Edge}(o:y7 n es)(p:n<=256)(c:es.length<200000){gv:AV}{H:Hp}(q:iH H gv es):Ok (C k (.f 48) [.agg [.int .i64 (.ofNat n),gv]] H) fun r H'=>∃ lv iv z A out ins f,r=.aX [.agg [lv,iv],.int .i64 (.ofNat 0)]/\qlf n es out ins f/\CR H H' n lv iv z f A/\Fm No H H':=by
 obtain⟨j,rfl⟩:=aU y;rw[(m j).zBo];unfold zBo zz6;simp(disch:=first|go_size|omega)only[go_sem,seval];generalize b:aN (aN H (aB 0 [.int .i64 (.ofNat n),gv])) (aB 0 [.aA,.aA])=H1;have F:H1.nx=H.nx+2:=by rw[<-b];rfl
 have w:Fm No H H1:=by rw[<-b];exact((Fm.refl _ _).push _).push _
 have B:H1.get H.nx=aB 0 [.int .i64 (.ofNat n),gv]:=by rw[<-b,qbi _ _ _ (by rw[np];omega),jA]
 have D:H1.get (H.nx+1)=aB 0 [.aA,.aA]:=by rw[<-b];exact jA _ _
 refine Ok.ve (zbv l (k:=j) (by omega) o p (by omega) (q.fm w)) ?_;rintro r a ⟨rfl,i⟩;have G:=i.nx;generalize nR [AV.agg [AV.int IntKind.i64 (Int.ofNat n),gv]] 0 (same AV.undef 2)=L0;unfold q4s;have h:a.get H.nx=aB 0 [.int .i64 (.ofNat n),gv]:=(i.keep (by omega)).trans B;have x2:a.get (H.nx+1)=aB 0 [.aA,.aA]:=(i.keep (by omega)).trans D;have g:=w.trans i;by_cases t:0<n
 ·have x:=qd8 [.int .i64 (.ofNat 0)] 8 (a.nx+1) n (by omega) (by omega);rw[qdi,qm2]at x;simp(disch:=first|go_size|omega)only[go_sem,rB,rI,rK,rL,rN,rS,r6,h,t,x];have s:aY [AV.aA,AV.aA] 1 [.sl (a.nx+1) 0 n n true]=[.aA,.sl (a.nx+1) 0 n n true]:=rfl
  try rw[s]
  generalize d:(aN (aN a (aB 0 [AV.aA,AV.aA])) (aB 0 (aI (List.replicate n 0)))).put a.nx (aB 0 [AV.aA,AV.sl (a.nx+1) 0 n n true])=HX;have E:HX.nx=a.nx+2:=by rw[<-d];rfl
  have e:Fm No a HX:=by rw[<-d];exact(((Fm.refl _ _).push _).push _).aD _ _ (by omega)
  refine z9y l u v m (j:=j) (by omega) o p c q (ob:=a.nx) (x2:=H.nx+1) (nb:=a.nx+1) (iv:=.sl (a.nx+1) 0 n n true) (g0:=H.nx) (fun _ _ _ _=>by kernel_rfl) (fun _ _ _ _=>by kernel_rfl) ?_ ?_ ?_ ?_ ?_ ?_ ?_ ?_
  ·exact g.trans e
  ·exact(e.keep (by omega)).trans h
  ·omega
  ·omega
  ·omega
  ·rw[<-d,dL]
  ·exact(e.keep (by omega)).trans x2
  ·refine Or.inr ⟨t,rfl,?_,by omega,by omega,by omega,by omega⟩;rw[<-d,eB _ _ _ _ (by omega)];exact jA (aN a _) _
 ·simp(disch:=go_size)only[go_sem,rB,rI,rK,rL,rN,rS,r6,h,t];generalize d:aN a (aB 0 [AV.aA,AV.aA])=HX;have E:HX.nx=a.nx+1:=by rw[<-d];rfl
  have e:Fm No a HX:=by rw[<-d];exact(Fm.refl _ _).push _
  refine z9y l u v m (j:=j) (by omega) o p c q (ob:=a.nx) (x2:=H.nx+1) (nb:=a.nx) (iv:=.aA) (g0:=H.nx) (fun _ _ _ _=>by kernel_rfl) (fun _ _ _ _=>by kernel_rfl) ?_ ?_ ?_ ?_ ?_ ?_ ?_ ?_
  ·exact g.trans e
  ·exact(e.keep (by omega)).trans h
  ·omega
  ·omega
  ·omega
  ·rw[<-d,jA]
  ·exact(e.keep (by omega)).trans x2
  ·simp_all
end Go.Di
end
noncomputable section
namespace Go.Di.T
open Classical
variable {n:Nat} {aR:Nat->List Nat}
def Rdy(n:Nat)(aR:Nat->List Nat)(pre:List (List Nat))(i:Nat):Prop:=∀ k,k<n->Rc aR i k->k∈pre.flatten\/Rc aR k i
structure aKM(n:Nat)(aR:Nat->List Nat)(pre:List (List Nat))(i:Nat):Prop where
 lt:i<n
 new:i∉pre.flatten
 rdy:Rdy n aR pre i
 least:∀ j,j<i->j∉pre.flatten->¬ Rdy n aR pre j
def zyg(n:Nat)(aR:Nat->List Nat)(i:Nat)(c:List Nat):Prop:=c.Pairwise (· < ·)/\∀ x,x∈c↔x<n/\Rc aR i x/\Rc aR x i
def jO(n:Nat)(aR:Nat->List Nat):List (List Nat)->List (List Nat)->Prop
 |pre,[]=>∀ x,x<n->x∈pre.flatten
 |pre,c::R=>(∃i,aKM n aR pre i/\zyg n aR i c)/\jO n aR (pre++[c]) R
theorem zbn:∀{l b:List Nat},l.Pairwise (· < ·)->b.Pairwise (· < ·)->(∀x,x∈l↔x∈b)->l=b
 | [],[],_,_,_=>rfl
 | [],y::_,_,_,h=>absurd ((h y).2 qy) (by simp)
 |x::_,[],_,_,h=>absurd ((h x).1 qy) (by simp)
 |x::l,y::b,h1,h2,h=>by
  rw[ou]at h1 h2;have c:x=y:=by
   rcases qm.1 ((h x).1 qy)with e|hx
   ·exact e
   ·rcases qm.1 ((h y).2 qy)with e|hy
    ·exact e.symm
    ·have:=h1.1 y hy;have:=h2.1 x hx;omega
  subst c;rw[zbn h1.2 h2.2 fun z=>⟨fun a=>?_,fun a=>?_⟩]
  ·rcases qm.1 ((h z).1 (uu _ a))with e|g
   ·have:=h1.1 z a;omega
   ·exact g
  ·rcases qm.1 ((h z).2 (uu _ a))with e|g
   ·have:=h2.1 z a;omega
   ·exact g
theorem jO.uniq:∀{R f pre:List (List Nat)},jO n aR pre R->jO n aR pre f->R=f
 | [],[],_,_,_=>rfl
 | [],c::f,pre,h,h'=>by obtain⟨⟨i,a,_⟩,_⟩:=h';exact absurd (h i a.lt) a.new
 |c::R,[],pre,h,h'=>by obtain⟨⟨i,a,_⟩,_⟩:=h;exact absurd (h' i a.lt) a.new
 |c::R,c'::f,pre,h,h'=>by
  obtain⟨⟨i,a,l⟩,o⟩:=h;obtain⟨⟨j,b,d⟩,k⟩:=h';have e:i=j:=by
   rcases dm i j with g|g|g
   ·exact absurd a.rdy (b.least i g a.new)
   ·exact g
   ·exact absurd b.rdy (a.least j g b.new)
  subst e;have m:c=c':=zbn l.1 d.1 fun x=>(l.2 x).trans (d.2 x).symm;subst m;rw[jO.uniq o k]
def cnt(n:Nat)(aR:Nat->List Nat)(i:Nat):Nat:=((List.range n).filter fun k=>decide (Rc aR i k)).length
theorem cnt_lt{i k:Nat}(j:i<n)(h:Rc aR i k)(d:¬ Rc aR k i):cnt n aR k<cnt n aR i:=by
 unfold cnt;have b:∀(l:List Nat),(l.filter fun x=>decide (Rc aR k x)).length<=(l.filter fun x=>decide (Rc aR i x)).length:=fun l=>by
  induction l with
  |nil=>exact lh _
  |cons x l ih=>
   rw[bf,bf];by_cases a:Rc aR k x
   ·rw[kz (by simpa using a),kz (by simpa using h.trans a)];simpa using ih
   ·rw[lu (by simpa using a)];split
    ·simp only[gz];omega
    ·exact ih
 have f:∀(l:List Nat),i∈l->(l.filter fun x=>decide (Rc aR k x)).length<(l.filter fun x=>decide (Rc aR i x)).length:=fun l=>by
  induction l with
  |nil=>intro h;cases h
  |cons x l ih=>
   intro g;rw[bf,bf];by_cases e:x=i
   ·subst e;rw[lu (by simpa using d),kz (by simpa using Rc.refl x)];have:=b l;simp only[gz];omega
   ·have c:i∈l:=(qm.1 g).resolve_left fun h=>e h.symm;have:=ih c;by_cases a:Rc aR k x
    ·rw[kz (by simpa using a),kz (by simpa using h.trans a)];simp_all
    ·rw[lu (by simpa using a)];split
     ·simp only[gz];omega
     ·exact this
 simp_all
theorem z6j{pre:List (List Nat)}(j:∀ u,∀k∈aR u,k<n){x:Nat}(b:x<n)(d:x∉pre.flatten):∃ i,i<n/\i∉pre.flatten/\Rdy n aR pre i:=by
 have e:∀ m x,cnt n aR x=m->x<n->x∉pre.flatten->∃ i,i<n/\i∉pre.flatten/\Rdy n aR pre i:=fun m=>by
  induction m using Nat.strongRecOn with
  |_ m ih=>
   intro x g b d;by_cases c:Rdy n aR pre x
   ·exact⟨x,b,d,c⟩
   ·unfold Rdy at c;simp only[not_forall]at c;obtain⟨k,h,f,a⟩:=c;rw[not_or]at a;exact ih (cnt n aR k) (by rw[<-g];exact cnt_lt b f a.2) k rfl h a.1
 exact e _ x rfl b d
theorem qs4:∀{R pre:List (List Nat)},jO n aR pre R->(∀x∈pre.flatten,x<n)->pre.flatten.Nodup->(∀x∈pre.flatten,∀y,y<n->Rc aR x y->Rc aR y x->y∈pre.flatten) -> (pre++R).flatten.Nodup/\(∀x∈(pre++R).flatten,x<n)/\(∀x,x<n->x∈(pre++R).flatten)/\∀ o∈R,o≠[]
 | [],pre,h,h1,h2,_=>by rw[ut];exact⟨h2,h1,h,fun o d=>by cases d⟩
 |c::R,pre,⟨⟨i,hi,hc⟩,h⟩,h1,h2,h3=>by
  have b:(pre++[c]).flatten=pre.flatten++c:=by rw[lA4];simp
  have f:i∈c:=(hc.2 i).2 ⟨hi.lt,Rc.refl _,Rc.refl _⟩;have ih:=qs4 h (fun x a=>?_) ?_ fun x a y j k l=>?_
  ·rw[rf]at ih;obtain⟨m,p,q,r⟩:=ih;exact⟨m,p,q,fun o d=>by
    rcases qm.1 d with rfl|d
    ·intro e;rw[e]at f;cases f
    ·exact r o d⟩
  ·rw[b,pg]at a;exact a.elim (h1 x) fun g=>((hc.2 x).1 g).1
  ·rw[b,yh];refine⟨h2,hc.1.imp fun g=>Nat.ne_of_lt g,fun x a y j e=>?_⟩;subst e;have g:=(hc.2 x).1 j;exact hi.new (h3 x a i hi.lt g.2.2 g.2.1)
  ·rw[b,pg]at a ⊢;rcases a with a|a
   ·exact Or.inl (h3 x a y j k l)
   ·have g:=(hc.2 x).1 a;exact Or.inr ((hc.2 y).2 ⟨j,g.2.1.trans k,l.trans g.2.2⟩)
theorem jO.all{a:List (List Nat)}(h:jO n aR [] a):a.flatten.Nodup/\(∀x∈a.flatten,x<n)/\(∀x,x<n->x∈a.flatten)/\(∀o∈a,o≠[])/\a.flatten.length=n:=by
 obtain⟨c,d,e,f⟩:=qs4 h (fun x b=>by simp at b) List.nodup_nil fun x b=>by simp at b
 refine⟨c,d,e,f,Nat.le_antisymm ?_ ?_⟩
 ·have:=c.length_le_of_subset (l₂:=List.range n) fun x b=>xu.2 (d x b);simp_all
 ·have:=(List.nodup_range (n:=n)).length_le_of_subset (l₂:=a.flatten) fun x b=>e x (xu.1 b);simp_all
theorem qz7:∀{R pre:List (List Nat)} {j:Nat} {c:List Nat} {a b:Nat},jO n aR pre R->R[j]? =some c->a∈c->b<n->b∈aR a->b∈pre.flatten\/∃ e f,e<=j/\R[e]? =some f/\b∈f
 | [],_,_,_,_,_,_,h,_,_,_=>by simp at h
 |d::R,pre,0,c,a,b,⟨⟨i,hi,hc⟩,_⟩,h,ha,hb,he=>by
  simp at h;subst h;have g:=(hc.2 a).1 ha;have l:Rc aR i b:=g.2.1.step he;rcases hi.rdy b hb l with k|k
  ·exact Or.inl k
  ·exact Or.inr ⟨0,d,lh _,rfl,(hc.2 b).2 ⟨hb,l,k⟩⟩
 |d::R,pre,j+1,c,a,b,⟨_,h'⟩,h,ha,hb,he=>by
  rcases qz7 h' (by simpa using h) ha hb he with k|⟨e,f,o,k2,m⟩
  ·rw[lA4,pg]at k;rcases k with k|k
   ·exact Or.inl k
   ·exact Or.inr ⟨0,d,gy _,rfl,by simpa using k⟩
  ·exact Or.inr ⟨e+1,f,by omega,by simpa using k2,m⟩
end Go.Di.T
end
noncomputable section
namespace Go.Di
open Go.Di.T
theorem qy3(ins:List Nat)(dn:List Bool)(a m:Nat)(b:a<m):∀(es:List Edge) (w:List Bool),w.length=m->(∀e∈es,ins.getD e.f 0<m) -> ((waits es ins dn w).getD a true=true↔w.getD a true=true\/∃ e∈es,ins.getD e.f 0=a/\ins.getD e.f 0≠ins.getD e.t 0/\dn.getD (ins.getD e.t 0) true=false)
 | [],w,_,_=>by simp[waits]
 |e::es,w,hw,hin=>by
  show(waits es ins dn (wJ ins dn w e)).getD a true=true↔_;have g:(wJ ins dn w e).length=m:=by unfold wJ;split<;>simp[hw]
  rw[qy3 ins dn a m b es _ g fun f c=>hin f (uu _ c)];have h:(wJ ins dn w e).getD a true=true↔w.getD a true=true\/(ins.getD e.f 0=a/\ins.getD e.f 0≠ins.getD e.t 0/\dn.getD (ins.getD e.t 0) true=false):=by
   unfold wJ;by_cases d:ins.getD e.f 0≠ins.getD e.t 0/\dn.getD (ins.getD e.t 0) true=false
   ·rw[kz d,kw,lAK];by_cases i:ins.getD e.f 0=a
    ·simp_all
    ·simp_all
   ·rw[lu d];simp_all
  rw[h];simp only[qm,exists_eq_or_imp,or_assoc]
theorem zk1(m a:Nat)(h:a<m):(List.replicate m false).getD a true=false:=by simp_all
structure Pl(n:Nat)(es:List Edge)(out:List (List Nat))(ins:List Nat)(dn:List Bool)(pre:List (List Nat)):Prop where
 dl:dn.length=out.length
 mem:∀ x,x<n->(x∈pre.flatten↔dn.getD (ins.getD x 0) true=true)
 lt:∀ x∈pre.flatten,x<n
 cl:∀ x∈pre.flatten,∀k∈iB es x,k∈pre.flatten
noncomputable section
variable {n:Nat} {es:List Edge} {out:List (List Nat)} {ins:List Nat}
theorem qm9(j:qdv n (iB es) out){p:Nat}{c:List Nat}(k:out[p]? =some c):∃ i t,c=i::t/\i∈c/\(∀x∈c,i<=x)/\(∀x,x∈c↔Rc (iB es) i x/\Rc (iB es) x i):=by
 obtain⟨g,r,l,h⟩:=j.scc c (uB k);cases c with
 |nil=>cases l
 |cons i t=>
  have d:=(h i).1 qy;refine⟨i,t,rfl,qy,fun x f=>?_,fun x=>?_⟩
  ·rw[ou]at g;rcases qm.1 f with e|f
   ·omega
   ·exact yu (g.1 x f)
  ·rw[h x];exact⟨fun⟨a,b⟩=>⟨d.2.trans a,b.trans d.1⟩,fun⟨a,b⟩=>⟨d.1.trans a,b.trans d.2⟩⟩
theorem q0q(b:qdv n (iB es) out)(d:∀(i:Nat) (o:List Nat) (x:Nat),out[i]? =some o->x∈o->ins[x]? =some i){x:Nat}(h:x<n):∃ c,out[ins.getD x 0]? =some c/\x∈c:=by obtain⟨c,e,a⟩:=ny.1 ((b.all x).2 h);obtain⟨i,f⟩:=lAI.1 e;have:=d i c x f a;simp_all
theorem zc2(a:∀(i:Nat) (o:List Nat) (x:Nat),out[i]? =some o->x∈o->ins[x]? =some i){p x:Nat}{c:List Nat}(b:out[p]? =some c)(h:x∈c):ins.getD x 0=p:=by rw[kw,a p c x b h];rfl
theorem zlq(B:∀ e∈es,e.f<n/\e.t<n)(r:qdv n (iB es) out)(d:∀(i:Nat) (o:List Nat) (x:Nat),out[i]? =some o->x∈o->ins[x]? =some i){dn:List Bool}{pre:List (List Nat)}(s:Pl n es out ins dn pre){p:Nat}{c:List Nat}(b:out[p]? =some c):zI dn (waits es ins dn (List.replicate out.length false)) p=true↔∀ i∈c,i∉pre.flatten/\Rdy n (iB es) pre i:=by
 have u:=(ql.1 b).1;obtain⟨D,t,U,j,O,z⟩:=qm9 r b;have v:∀ x∈c,x<n:=fun x h=>(r.all x).1 (ny.2 ⟨c,uB b,h⟩);have F:∀ e∈es,ins.getD e.f 0<out.length:=fun e f=>by obtain⟨P,q,_⟩:=q0q r d (B e f).1;exact(ql.1 q).1
 have M:=qy3 ins dn p out.length u es (List.replicate out.length false) (by simp) F;rw[zk1 _ _ u]at M;unfold zI;rw[qc,yg,yg];constructor
 ·rintro ⟨q,Q⟩;have G:¬ ∃e∈es,ins.getD e.f 0=p/\ins.getD e.f 0≠ins.getD e.t 0/\dn.getD (ins.getD e.t 0) true=false:=fun h=>by
   simp_all
  have H:∀ x∈c,x∉pre.flatten:=fun x h g=>by have:=(s.mem x (v x h)).1 g;rw[zc2 d b h,q]at this;cases this
  -- the component and what is placed are closed
  have I:∀ y,(y∈c\/y∈pre.flatten)->∀ k∈iB es y,k∈c\/k∈pre.flatten:=fun y m k E=>by
   rcases m with m|m
   ·obtain⟨e,f,A,l⟩:=qcp.1 E;have w:k<n:=by rw[<-l];exact(B e f).2
    by_cases a:ins.getD e.f 0=ins.getD e.t 0
    ·left;rw[A,l,zc2 d b m]at a;obtain⟨P,R,J⟩:=q0q r d w;simp_all
    ·right;have:¬ dn.getD (ins.getD e.t 0) true=false:=fun g=>G ⟨e,f,by rw[A];exact zc2 d b m,a,g⟩;rw[l]at this;exact(s.mem k w).2 (by simpa using this)
   ·exact Or.inr (s.cl y m k E)
  intro i K;refine⟨H i K,fun k E C=>?_⟩;rcases Rc.closed (S:=fun y=>y∈c\/y∈pre.flatten) I C (Or.inl K)with g|g
  ·exact Or.inr (((z k).1 g).2.trans ((z i).1 K).1)
  ·exact Or.inl g
 ·intro h;obtain⟨T,V⟩:=h D j;constructor
  ·have:¬ dn.getD (ins.getD D 0) true=true:=fun g=>T ((s.mem D (v D j)).2 g);rw[zc2 d b j]at this;simp_all
  ·have:¬(waits es ins dn (List.replicate out.length false)).getD p true=true:=fun g=>by
    rcases M.1 g with g|⟨e,f,q,Q,R⟩
    ·cases g
    ·obtain⟨P,J,L⟩:=q0q r d (B e f).1;rw[q,b]at J;cases J;obtain⟨W,k2⟩:=h e.f L;have N:=(B e f).2;have C:Rc (iB es) e.f e.t:=Rc.one (qcp.2 ⟨e,f,rfl,rfl⟩);rcases k2 e.t N C with g|g
     ·have:=(s.mem e.t N).1 g;simp_all
     ·have:e.t∈c:=(z e.t).2 ⟨((z e.f).1 L).1.trans C,g.trans ((z e.f).1 L).2⟩;exact Q (q.trans (zc2 d b this).symm)
   simpa using this
theorem qzq{m:Nat}{dn:List Bool}(h:qjd dn (waits es ins dn (List.replicate m false)) m=none):∀ k,jS es ins m k dn=[]
 |0=>rfl
 |k+1=>by rw[jS,h];exact qzq h k
theorem q9x(M:∀ e∈es,e.f<n/\e.t<n)(d:qdv n (iB es) out)(ha:out.Pairwise fun a b=>a.headD 0<b.headD 0)(s:∀(i:Nat) (o:List Nat) (x:Nat),out[i]? =some o->x∈o->ins[x]? =some i):∀(k:Nat) (dn:List Bool) (pre:List (List Nat)),Pl n es out ins dn pre->(dn.count false)<=k->jO n (iB es) pre ((jS es ins out.length k dn).map fun i=>out.getD i [])
 |k,dn,pre,hl,hk=>by
  have mR:∀ u,∀k∈iB es u,k<n:=fun u k hk=>by obtain⟨e,he,_,rfl⟩:=qcp.1 hk;exact(M e he).2
  have z8:∀ i,i<n->i∉pre.flatten->Rdy n (iB es) pre i->zI dn (waits es ins dn (List.replicate out.length false)) (ins.getD i 0)=true:=fun i hi hn F=>by
   obtain⟨c,L,N⟩:=q0q d s hi;refine(zlq M d s hl L).2 fun y B=>?_;obtain⟨E,t,e0,f,A,m⟩:=qm9 d L;have U:Rc (iB es) y i:=((m y).1 B).2.trans ((m i).1 N).1;have G:Rc (iB es) i y:=((m i).1 N).2.trans ((m y).1 B).1;refine⟨fun g=>?_,fun z hz Q=>?_⟩
   ·exact hn (Rc.closed (S:=fun w=>w∈pre.flatten) hl.cl U g)
   ·rcases F z hz (G.trans Q)with g|g
    ·exact Or.inl g
    ·exact Or.inr (g.trans G)
  cases P:qjd dn (waits es ins dn (List.replicate out.length false)) out.length with
  |none=>
   rw[qzq P];intro x q;by_cases hm:x∈pre.flatten
   ·exact hm
   ·obtain⟨i,L,N,h3⟩:=z6j mR q hm;have:=z8 i L N h3;obtain⟨c,r,_⟩:=q0q d s L;rw[qs1 P _ (ql.1 r).1]at this;cases this
  |some p=>
   obtain⟨p1,O,p3⟩:=qe5 P;have H:dn.getD p true=false:=by unfold zI at O;simp only[qc,yg]at O;exact O.1
   have I:p<dn.length:=by rw[hl.dl];exact p1
   have V:dn[p]=false:=by rw[kw,lL I]at H;exact H
   cases k with
   |zero=>have:0<dn.count false:=List.count_pos_iff.2 (by rw[<-V];exact lg _);omega
   |succ k=>
    have J:out[p]? =some out[p]:=by simp
    have W:out.getD p []=out[p]:=by rw[kw,J];rfl
    rw[jS,P];show jO n (iB es) pre (out.getD p []::(jS es ins out.length k (dn.set p true)).map fun i=>out.getD i []);rw[W];obtain⟨E,t,e0,f,A,m⟩:=qm9 d J;have C:∀ x∈out[p],x<n:=fun x h=>(d.all x).1 (ny.2 ⟨out[p],lg _,h⟩);have F:=(zlq M d s hl J).1 O;refine⟨⟨E,⟨C E f,(F E f).1,(F E f).2,fun j hj R T=>?_⟩,(d.scc _ (lg _)).1,fun x=>⟨fun h=>⟨C x h,(m x).1 h⟩,fun h=>(m x).2 h.2⟩⟩,?_⟩
    ·-- the least one
     have v:j<n:=by have:=C E f;omega
     have X:=z8 j v R T;obtain⟨c',r,h5⟩:=q0q d s v;have K:=(ql.1 r).1;rcases dm (ins.getD j 0) p with g|g|g
     ·have:=p3 _ g;rw[X]at this;cases this
     ·rw[g,J]at r;cases r;have:=A j h5;omega
     ·have Y:=uf.1 ha p (ins.getD j 0) p1 K g;obtain⟨i1,t1,e1,hi1,aN4,_⟩:=qm9 d r;have e2:out[ins.getD j 0]=c':=by rw[lL K]at r;exact Option.some.inj r
      rw[e2,e1,e0]at Y;have Y:E<i1:=Y;have:=aN4 j h5;omega
    ·refine q9x M d ha s k (dn.set p true) (pre++[out[p]]) ⟨by rw[ul];exact hl.dl,fun x q=>?_,fun x h=>?_,fun x h y B=>?_⟩ ?_
     ·rw[lA4,pg,hl.mem x q];have e3:([out[p]]:List (List Nat)).flatten=out[p]:=by simp
      rw[e3,kw (l:=dn.set p true),lAK];obtain⟨c',r,h5⟩:=q0q d s q;by_cases e:p=ins.getD x 0
      ·rw[kz e,kz (by omega)];simp_all
      ·rw[lu e,<-kw];exact⟨fun h=>h.resolve_right fun g=>e (zc2 s J g).symm,Or.inl⟩
     ·rw[lA4,pg]at h;rcases h with h|h
      ·exact hl.lt x h
      ·simp_all
     ·rw[lA4,pg]at h ⊢;rcases h with h|h
      ·exact Or.inl (hl.cl x h y B)
      ·have D:x∈out[p]:=by simpa using h
       have Z:=mR x y B;rcases(F x D).2 y Z (Rc.one B)with g|g
       ·exact Or.inl g
       ·right;have:y∈out[p]:=(m y).2 ⟨((m x).1 D).1.step B,g.trans ((m x).1 D).2⟩;simp_all
     ·have:=List.count_set (l:=dn) (i:=p) (a:=true) (b:=false) I;simp_all
theorem qlf.ord(b:∀ e∈es,e.f<n/\e.t<n){a:List (List Nat)}(h:qlf n es out ins a):jO n (iB es) [] a:=by
 rw[h.res];refine q9x b h.parts h.asc h.ix _ _ [] ⟨by simp,fun x d=>?_,fun x h=>by simp at h,fun x h=>by simp at h⟩ ?_
 ·obtain⟨c,f,_⟩:=q0q h.parts h.ix d;rw[zk1 _ _ (ql.1 f).1];simp
 ·simp
end
end Go.Di
end
noncomputable section
namespace Go.Di
open Go.Ev Go.Di.T Go.Sort
variable {C:Nat->Ev.Call}
def dG(n:Nat)(d:List Int)(i k:Nat):Int:=d.getD (i*n+k) 0
end Go.Di
end
noncomputable section
namespace Go.Di
open Go.Ev
def wS(A:Nat->Nat->Prop)(K:Nat)(i j:Nat):Nat->Prop
 |0=>A i j
 |L+1=>∃ x,x<K/\A i x/\wS A K x j L
def wk(A:Nat->Nat->Prop)(K:Nat)(i j:Nat):Nat->Prop
 |0=>i=j
 |L+1=>wS A K i j L
variable {A:Nat->Nat->Prop}
theorem zxb{K:Nat}:∀(L1 L2 i x j:Nat),wS A K i x L1->x<K->wS A K x j L2->wS A K i j (L1+L2+1)
 |0,L2,i,x,j,h,hx,h2=>⟨x,hx,h,by rw[pq];exact h2⟩
 |L1+1,L2,i,x,j,⟨y,hy,ha,hw⟩,hx,h2=>⟨y,hy,ha,by have:=zxb L1 L2 y x j hw hx h2;rw[show L1+1+L2=L1+L2+1 by omega];exact this⟩
theorem zjw{K:Nat}{L1 L2 i x j:Nat}(a:wk A K i x L1)(c:x<K)(b:wk A K x j L2):wk A K i j (L1+L2):=by
 cases L1 with
 |zero=>have:i=x:=a;subst this;rw[pq];exact b
 |succ L1=>
  cases L2 with
  |zero=>have:x=j:=b;subst this;exact a
  |succ L2=>have:=zxb L1 L2 i x j a c b;rw[show L1+1+(L2+1)=(L1+L2+1)+1 by omega];exact this
theorem q86{K:Nat}:∀(L i j:Nat),wS A (K+1) i j L->wS A K i j L\/∃ L1 L2,wS A K i K L1/\wS A K K j L2/\L1+L2<L
 |0,_,_,h=>.inl h
 |L+1,i,j,⟨x,b,ha,hw⟩=>by
  have a:x<K\/x=K:=by omega
  rcases q86 L x j hw with h|⟨L1,L2,d,c,e⟩
  ·rcases a with b|rfl
   ·exact .inl ⟨x,b,ha,h⟩
   ·exact .inr ⟨0,L,ha,h,by omega⟩
  ·rcases a with b|rfl
   ·exact .inr ⟨L1+1,L2,⟨x,b,ha,d⟩,c,by omega⟩
   ·exact .inr ⟨0,L2,ha,c,by omega⟩
theorem zr9{K:Nat}{L i j:Nat}(h:wk A (K+1) i j L):wk A K i j L\/∃ L1 L2,wk A K i K L1/\wk A K K j L2/\L1+L2<=L:=by
 cases L with
 |zero=>exact .inl h
 |succ L=>
  rcases q86 L i j h with h|⟨L1,L2,a,b,c⟩
  ·exact .inl h
  ·exact .inr ⟨L1+1,L2+1,a,b,by omega⟩
/- the distances that are reckoned -/
def Snd(A:Nat->Nat->Prop)(n:Nat)(d:List Int):Prop:=∀ i j,i<n->j<n->0<=d.getD (i*n+j) 0->wk A n i j (d.getD (i*n+j) 0).toNat
def Cmp(A:Nat->Nat->Prop)(n K:Nat)(d:List Int):Prop:=∀ i j L,i<n->j<n->wk A K i j L->0<=d.getD (i*n+j) 0/\d.getD (i*n+j) 0<=L
def uX(d d':List Int):Prop:=∀ x,0<=d.getD x 0->0<=d'.getD x 0/\d'.getD x 0<=d.getD x 0
theorem uX.refl(d:List Int):uX d d:=fun _ h=>⟨h,Int.le_refl _⟩
theorem uX.trans{a b c:List Int}(h:uX a b)(d:uX b c):uX a c:=fun x e=>by obtain⟨f,g⟩:=h x e;obtain⟨i,j⟩:=d x f;omega
theorem qce(d:List Int)(x y:Nat)(v:Int)(a:y<d.length):(d.set y v).getD x 0=if x=y then v else d.getD x 0:=by
 simp only[kw];by_cases h:x=y
 ·subst h;rw[kz rfl,lAC a];rfl
 ·rw[lu h,lAO (fun e=>h e.symm)]
theorem qza(n:Nat)(d:List Int)(k i j:Nat)(g:d.length=n*n)(b:i<n)(c:j<n):uX d (oK n d k i j):=by
 have l:=qjl b c;unfold oK;split
 ·rename_i h;intro x a;rw[qce _ _ _ _ (by omega)];split
  ·rename_i e;subst e;exact⟨Int.add_nonneg h.1 h.2.1,by rcases h.2.2 with f|f<;>omega⟩
  ·exact⟨a,Int.le_refl _⟩
 ·exact uX.refl d
theorem zkg(n:Nat)(d:List Int)(k i j:Nat)(r:d.length=n*n)(f:k<n)(p:i<n)(m:j<n)(h:Snd A n d):Snd A n (oK n d k i j):=by
 have s:=qjl p m;unfold oK;split
 ·rename_i c;intro a b o g l;rw[qce _ _ _ _ (by omega)]at l ⊢;split
  ·rename_i e;obtain⟨rfl,rfl⟩:=qk3 g m e;have w1:=h a k o f c.1;have q:=h k b f g c.2.1;rw[Int.toNat_add c.1 c.2.1];exact zjw w1 f q
  ·rename_i e;rw[lu e]at l;exact h a b o g l
 ·exact h
theorem zba(n:Nat)(d:List Int)(k i:Nat)(a:d.length=n*n)(b:i<n):∀ j,j<=n->uX d (fJ n d k i j)
 |0,_=>uX.refl d
 |j+1,h=>(zba n d k i a b j (by omega)).trans (qza n _ k i j (by rw[qtl];exact a) b (by omega))
theorem zm4(n:Nat)(d:List Int)(k:Nat)(a:d.length=n*n):∀ i,i<=n->uX d (fI n d k i)
 |0,_=>uX.refl d
 |i+1,h=>(zm4 n d k a i (by omega)).trans (zba n _ k i (by rw[qlr];exact a) (by omega) n (lh n))
theorem zxs(n:Nat)(d:List Int)(k i:Nat)(a:d.length=n*n)(b:k<n)(c:i<n)(h:Snd A n d):∀ j,j<=n->Snd A n (fJ n d k i j)
 |0,_=>h
 |j+1,hj=>zkg n _ k i j (by rw[qtl];exact a) b c (by omega) (zxs n d k i a b c h j (by omega))
theorem zxt(n:Nat)(d:List Int)(k:Nat)(a:d.length=n*n)(b:k<n)(h:Snd A n d):∀ i,i<=n->Snd A n (fI n d k i)
 |0,_=>h
 |i+1,hi=>zxs n _ k i (by rw[qlr];exact a) b (by omega) (zxt n d k a b h i (by omega)) n (lh n)
theorem z8i(n:Nat)(d:List Int)(k:Nat)(a:d.length=n*n)(l:k<n)(h:Cmp A n k d):Cmp A n (k+1) (fI n d k n):=by
 intro i j L e f b;have old:∀ L,wk A k i j L->0<=(fI n d k n).getD (i*n+j) 0/\(fI n d k n).getD (i*n+j) 0<=L:=fun L b=>by obtain⟨u,F⟩:=h i j L e f b;obtain⟨p,G⟩:=zm4 n d k a n (lh n) _ u;exact⟨p,by omega⟩
 rcases zr9 b with b|⟨L1,L2,w1,v,p⟩
 ·exact old L b
 ·obtain⟨w,H⟩:=h i k L1 e l w1;obtain⟨x,I⟩:=h k j L2 l f v
  -- at the turn of i and j
  have D:(fJ n (fI n d k i) k i j).length=n*n:=by rw[qtl,qlr];exact a
  have o:uX d (fJ n (fI n d k i) k i j):=(zm4 n d k a i (by omega)).trans (zba n _ k i (by rw[qlr];exact a) e j (by omega));obtain⟨y,J⟩:=o _ w;obtain⟨d1,K⟩:=o _ x;have E:=qjl e f;have c:0<=(fJ n (fI n d k i) k i (j+1)).getD (i*n+j) 0/\(fJ n (fI n d k i) k i (j+1)).getD (i*n+j) 0<=L:=by
   show 0<=(oK n (fJ n (fI n d k i) k i j) k i j).getD (i*n+j) 0/\(oK n (fJ n (fI n d k i) k i j) k i j).getD (i*n+j) 0<=L;unfold oK;split
   ·rw[qce _ _ _ _ (by omega),kz rfl];omega
   ·rename_i z;have:¬((fJ n (fI n d k i) k i j).getD (i*n+j) 0<0\/(fJ n (fI n d k i) k i j).getD (i*n+k) 0+(fJ n (fI n d k i) k i j).getD (k*n+j) 0<(fJ n (fI n d k i) k i j).getD (i*n+j) 0):=fun h=>z ⟨y,d1,h⟩;omega
  have q:∀ m,uX (fJ n (fI n d k i) k i (j+1)) (fJ n (fI n d k i) k i (j+1+m))\/n<j+1+m:=by
   intro m
   induction m with
   |zero=>exact .inl (uX.refl _)
   |succ m ih=>
    by_cases g:j+1+m<n
    ·rcases ih with h|h
     ·exact .inl (h.trans (qza n _ k i (j+1+m) (by rw[qtl,qlr];exact a) e g))
     ·omega
    ·exact .inr (by omega)
  have r:uX (fJ n (fI n d k i) k i (j+1)) (fJ n (fI n d k i) k i n):=by
   rcases q (n-(j+1))with h|h
   ·rwa [show j+1+(n-(j+1))=n by omega]at h
   ·omega
  have s:∀ m,uX (fI n d k (i+1)) (fI n d k (i+1+m))\/n<i+1+m:=by
   intro m
   induction m with
   |zero=>exact .inl (uX.refl _)
   |succ m ih=>
    by_cases g:i+1+m<n
    ·rcases ih with h|h
     ·exact .inl (h.trans (zba n _ k (i+1+m) (by rw[qlr];exact a) g n (lh n)))
     ·omega
    ·exact .inr (by omega)
  have t:uX (fI n d k (i+1)) (fI n d k n):=by
   rcases s (n-(i+1))with h|h
   ·rwa [show i+1+(n-(i+1))=n by omega]at h
   ·omega
  obtain⟨B,C⟩:=(r.trans t) _ c.1;exact⟨B,Int.le_trans C c.2⟩
theorem z2w(n:Nat)(d:List Int)(a:d.length=n*n)(b:Snd A n d)(c:Cmp A n 0 d):∀ k,k<=n->Snd A n (fK n d k)/\Cmp A n k (fK n d k)
 |0,_=>⟨b,c⟩
 |k+1,hk=>by obtain⟨e,f⟩:=z2w n d a b c k (by omega);exact⟨zxt n _ k (by rw[za9];exact a) (by omega) e n (lh n),z8i n _ k (by rw[za9];exact a) (by omega) f⟩
end Go.Di
end
noncomputable section
namespace Go.Di
open Go.Ev
variable {i j k n:Nat} {ms:List Nat}
def sQ(n:Nat)(ms:List Nat)(i j:Nat):Prop:=0<ms.getD (i*n+j) 0
theorem z9a(ms:List Nat)(x:Nat)(h:x<ms.length):(d1 ms).getD x 0=if 0<ms.getD x 0 then 1 else -1:=by unfold d1;simp only[kw,xw,lL h];rfl
theorem zx3(n:Nat)(d:List Int)(f:d.length=n*n){a b:Nat}(g:a<n)(c:b<n):∀ m,m<=n->(dg n d m).getD (a*n+b) 0=if a=b/\a<m then 0 else d.getD (a*n+b) 0
 |0,_=>by rw[lu (by omega)];rfl
 |m+1,hm=>by
  have i:=qjl (show m<n by omega) (show m<n by omega);show((dg n d m).set (m*n+m) 0).getD (a*n+b) 0=_;rw[qce _ _ _ _ (by rw[znm];omega),zx3 n d f g c m (by omega)];by_cases e:a*n+b=m*n+m
  ·obtain⟨rfl,rfl⟩:=qk3 c (show m<n by omega) e;rw[kz rfl,kz (by omega)]
  ·rw[lu e];by_cases h:a=b/\a<m
   ·rw[kz h,kz (by omega)]
   ·rw[lu h,lu];rintro ⟨rfl,j⟩;have:a=m:=by omega
    subst this;exact e rfl
theorem zx5(e:ms.length=n*n){a b:Nat}(c:a<n)(d:b<n):(dg n (d1 ms) n).getD (a*n+b) 0=if a=b then 0 else if 0<ms.getD (a*n+b) 0 then 1 else -1:=by
 have g:=qjl c d;rw[zx3 n (d1 ms) (by unfold d1;rw[pz];exact e) c d n (lh n),z9a _ _ (by omega)];by_cases h:a=b
 ·rw[kz ⟨h,c⟩,kz h]
 ·rw[lu (fun f=>h f.1),lu h]
theorem znp(a:ms.length=n*n):(dg n (d1 ms) n).length=n*n:=by rw[znm];unfold d1;rw[pz];exact a
theorem zx4(b:ms.length=n*n):Snd (sQ n ms) n (dg n (d1 ms) n):=by
 intro i j c d h;rw[zx5 b c d]at h ⊢;by_cases e:i=j
 ·rw[kz e];exact e
 ·rw[lu e]at h ⊢;by_cases a:0<ms.getD (i*n+j) 0
  ·rw[kz a];exact a
  ·rw[lu a]at h;omega
theorem zx6(b:ms.length=n*n):Cmp (sQ n ms) n 0 (dg n (d1 ms) n):=by
 intro i j L d f a;rw[zx5 b d f]
 match L,a with
 |0,a=>have:i=j:=a;rw[kz this];omega
 |1,a=>
  have c:0<ms.getD (i*n+j) 0:=a;by_cases e:i=j
  ·rw[kz e];omega
  ·rw[lu e,kz c];omega
 |L+2,⟨x,hx,_⟩=>omega
theorem zun(a:ms.length=n*n):(dist n ms).length=n*n:=by unfold dist;rw[za9,znp a]
theorem qm8(a:ms.length=n*n):Snd (sQ n ms) n (dist n ms):=(z2w n _ (znp a) (zx4 a) (zx6 a) n (lh n)).1
theorem qxx(a:ms.length=n*n):Cmp (sQ n ms) n n (dist n ms):=(z2w n _ (znp a) (zx4 a) (zx6 a) n (lh n)).2
/- they stay small -/
def Pb(B:Int)(d:List Int):Prop:=∀ x,-1<=d.getD x 0/\d.getD x 0<=B
def Dz(n:Nat)(d:List Int):Prop:=∀ i,i<n->d.getD (i*n+i) 0=0
structure Rnd(n k:Nat)(B:Int)(d e:List Int):Prop where
 len:e.length=n*n
 pb:Pb (2*B) e
 dz:Dz n e
 col:∀ i,i<n->e.getD (i*n+k) 0=d.getD (i*n+k) 0
 row:∀ j,j<n->e.getD (k*n+j) 0=d.getD (k*n+j) 0
theorem Rnd.step{B:Int}{d e:List Int}(r:Pb B d)(s:k<n)(h:Rnd n k B d e)(l:i<n)(c:j<n):Rnd n k B d (oK n e k i j):=by
 unfold oK;split
 ·rename_i q;have w:=qjl l c;have y:=h.len;have f:=h.dz k s;have m:i≠k:=by
   rintro rfl;rw[f]at q;omega
  have o:j≠k:=by rintro rfl;rw[f]at q;omega
  have p:i≠j:=by rintro rfl;have:=h.dz i l;rw[this]at q;omega
  refine⟨by rw[ul];exact h.len,fun x=>?_,fun a g=>?_,fun a g=>?_,fun b t=>?_⟩
  ·rw[qce _ _ _ _ (by omega)];split
   ·have u:=r (i*n+k);have v:=r (k*n+j);rw[<-h.col i l]at u;rw[<-h.row j c]at v;omega
   ·exact h.pb x
  ·rw[qce _ _ _ _ (by omega),lu]
   ·exact h.dz a g
   ·intro e;obtain⟨rfl,rfl⟩:=qk3 g c e;exact p rfl
  ·rw[qce _ _ _ _ (by omega),lu]
   ·exact h.col a g
   ·intro e;exact o (qk3 s c e).2.symm
  ·rw[qce _ _ _ _ (by omega),lu]
   ·exact h.row b t
   ·intro e;exact m (qk3 t c e).1.symm
 ·exact h
theorem Rnd.start{B:Int}{d:List Int}(b:d.length=n*n)(a:Pb B d)(e:0<=B)(c:Dz n d):Rnd n k B d d:=
 ⟨b,fun x=>⟨(a x).1,by have:=(a x).2;omega⟩,c,fun _ _=>rfl,fun _ _=>rfl⟩
theorem Rnd.J{n k:Nat}{B:Int}{d e:List Int}(a:Pb B d)(b:k<n)(h:Rnd n k B d e){i:Nat}(c:i<n):∀ j,j<=n->Rnd n k B d (fJ n e k i j)
 |0,_=>h
 |j+1,hj=>(Rnd.J a b h c j (by omega)).step a b c (by omega)
theorem z8q(h:0<ms.getD (i*n+k) 0):∃ e∈ent n ms i k,e.f=i/\e.t=k:=by
 unfold ent;by_cases a:1<ms.getD (i*n+k) 0
 ·simp_all
 ·exact⟨⟨i,k,0⟩,vz _ (by rw[kz (by omega)];exact gq.2 rfl),rfl,rfl⟩
theorem z8x{n:Nat}{ms:List Nat}{i j:Nat}(h:0<ms.getD (i*n+j) 0):∀{k:Nat},j<k->∃ e∈eR n ms i k,e.f=i/\e.t=j
 |0,hj=>by omega
 |k+1,hj=>by
  by_cases e:j=k
  ·subst e;obtain⟨x,a,b⟩:=z8q h;exact⟨x,xf _ a,b⟩
  ·obtain⟨x,a,b⟩:=z8x h (show j<k by omega);exact⟨x,vz _ a,b⟩
theorem z8y{n:Nat}{ms:List Nat}{i j:Nat}(h:0<ms.getD (i*n+j) 0)(c:j<n):∀{m:Nat},i<m->∃ e∈eM n ms m,e.f=i/\e.t=j
 |0,hi=>by omega
 |m+1,hi=>by
  by_cases e:i=m
  ·subst e;obtain⟨x,a,b⟩:=z8x h c;exact⟨x,xf _ a,b⟩
  ·obtain⟨x,a,b⟩:=z8y h c (show i<m by omega);exact⟨x,vz _ a,b⟩
theorem q04{e:Edge}(h:e∈eF n ms):sQ n ms e.f e.t:=by obtain⟨x,a,rfl⟩:=qj.1 h;exact(qjn a).2.2.2
theorem qxv(a:i<n)(b:j<n)(h:sQ n ms i j):∃ e∈eF n ms,e.f=i/\e.t=j:=by obtain⟨x,c,d,f⟩:=z8y (show 0<ms.getD (i*n+j) 0 from h) b a;exact⟨toE x,zo c,d,f⟩
theorem q03(n:Nat)(ms:List Nat):(eF n ms).Pairwise (fun a b=>a.f=b.f->a.t<=b.t):=by unfold eF;rw[lAM];refine(z3i n ms n).imp_of_mem fun{a b} d e h f=>?_;obtain⟨_,_,g,_⟩:=qjn d;obtain⟨_,_,i,_⟩:=qjn e;have c:a.f=b.f:=f;unfold kT at h;show a.t<=b.t;rw[c]at h;omega
end Go.Di
end
noncomputable section
namespace Go.Di
open Go.Ev Go.Di.T Go.Sort
variable {C:Nat->Ev.Call}
variable {H H0:Hp} {aR:Nat->List Nat} {cs:List AV} {i k n:Nat} {ms:List Nat}
def z99(n:Nat)(aR:Nat->List Nat)(d:List Int):Prop:=d.length=n*n/\∀ i k,i<n->k<n->(Int.ofNat 0<=dG n d i k↔Rc aR i k)
structure RI(aR:Nat->List Nat)(H0:Hp)(n nb:Nat)(ins:List Int)(v:AV)(cs:List AV)(res:List (List Nat))(H:Hp):Prop where
 fm:Fm No H0 H
 ng:H.get nb=aB 0 (ints ins)
 nbl:H0.nx<=nb/\nb<H.nx
 il:ins.length=n
 ls:mX H0 H v cs res
 sv:∀ b,In v b->b≠nb
 sc:∀(i:Nat) (c:AV) (b:Nat),cs[i]? =some c->In c b->b≠nb
 nd:res.flatten.Nodup
 lt:∀ x∈res.flatten,x<n
 ne:∀ o∈res,o≠[]
 cl:∀ x∈res.flatten,∀y,y<n->Rc aR x y->Rc aR y x->y∈res.flatten
 ix:∀ x,x<n->(Int.ofNat 0<=ins.getD x 0↔x∈res.flatten)
 iv:∀(j:Nat) (o:List Nat) (x:Nat),res[j]? =some o->x∈o->ins.getD x 0=Int.ofNat j
theorem RI.len{n nb:Nat}{ins:List Int}{v:AV}{a:List (List Nat)}(h:RI aR H0 n nb ins v cs a H):a.flatten.length<=n/\a.length<=a.flatten.length:=by
 constructor
 ·have:=h.nd.length_le_of_subset (l₂:=List.range n) fun x d=>xu.2 (h.lt x d);simp_all
 ·have b:=h.ne;generalize a=r at b
  induction r with
  |nil=>exact lh _
  |cons c r ih=>have f:=ih fun c e=>b c (uu _ e);have g:0<c.length:=lA5.2 (b c qy);rw[bz,ku,gz];omega
theorem q7l(a:i<n)(b:k<n):k∈iB (eF n ms) i↔sQ n ms i k:=by
 rw[qcp];constructor
 ·rintro ⟨e,c,rfl,rfl⟩;exact q04 c
 ·intro h;exact qxv a b h
theorem z9q(h:k∈iB (eF n ms) i):i<n/\k<n:=by obtain⟨e,a,rfl,rfl⟩:=qcp.1 h;exact(qdn n ms).rng e a
theorem z5b{n:Nat}{ms:List Nat}:∀(L i k:Nat),i<n->k<n->wS (sQ n ms) n i k L->Rc (iB (eF n ms)) i k
 |0,i,k,hi,hk,h=>Rc.one ((q7l hi hk).2 h)
 |L+1,i,k,hi,hk,⟨x,hx,ha,hw⟩=>(Rc.one ((q7l hi hx).2 ha)).trans (z5b L x k hx hk hw)
theorem aKL(c:i<n)(h:Rc (iB (eF n ms)) i k):k<n/\∃ L,wk (sQ n ms) n i k L:=by
 induction h with
 |refl=>exact⟨c,0,rfl⟩
 |step _ e ih=>obtain⟨b,L,d⟩:=ih;have a:=(z9q e).2;exact⟨a,L+1,zjw (L2:=1) d b ((q7l b a).1 e)⟩
theorem q7b(c:ms.length=n*n):z99 n (iB (eF n ms)) (dist n ms):=by
 refine⟨zun c,fun i k a d=>⟨fun h=>?_,fun h=>?_⟩⟩
 ·have h:=qm8 c i k a d h;cases b:((dist n ms).getD (i*n+k) 0).toNat with
  |zero=>rw[b]at h;have h:i=k:=h;rw[h];exact Rc.refl _
  |succ L=>rw[b]at h;exact z5b L i k a d h
 ·obtain⟨_,L,b⟩:=aKL a h;exact(qxx c i k L a d b).1
end Go.Di
end
noncomputable section
namespace Go.Di
open Go.Ev Go.Di.T Go.Sort
variable {aR:Nat->List Nat} {i n:Nat} {ins ms o:List Nat}
theorem aLM{n:Nat}{ms:List Nat}{i:Nat}{e:T3}:∀{k:Nat},e∈eR n ms i k->e.s=1->1<ms.getD (i*n+e.t) 0
 |0,h,_=>by cases h
 |k+1,h,hs=>by
  rcases pg.1 h with h|h
  ·exact aLM h hs
  ·unfold ent at h;rcases pg.1 h with h|h
   ·simp_all
   ·simp_all
theorem aL1{n:Nat}{ms:List Nat}{e:T3}:∀{i:Nat},e∈eM n ms i->e.s=1->1<ms.getD (e.f*n+e.t) 0
 |0,h,_=>by cases h
 |i+1,h,hs=>by
  rcases pg.1 h with h|h
  ·exact aL1 h hs
  ·rw[(q05 h).1];exact aLM h hs
theorem zxz{n:Nat}{ms:List Nat}{i j:Nat}(h:1<ms.getD (i*n+j) 0):∀{k:Nat},j<k->(⟨i,j,1⟩:T3)∈eR n ms i k
 |0,hj=>by omega
 |k+1,hj=>by
  by_cases e:j=k
  ·subst e;exact xf _ (xf _ (by rw[kz h];exact gq.2 rfl))
  ·exact vz _ (zxz h (show j<k by omega))
theorem zx1{n:Nat}{ms:List Nat}{i j:Nat}(h:1<ms.getD (i*n+j) 0)(a:j<n):∀{m:Nat},i<m->(⟨i,j,1⟩:T3)∈eM n ms m
 |0,hi=>by omega
 |m+1,hi=>by
  by_cases e:i=m
  ·subst e;exact xf _ (zxz h a)
  ·exact vz _ (zx1 h a (show i<m by omega))
theorem qz8{n:Nat}{aR:Nat->List Nat}:∀{R pre:List (List Nat)} {c:List Nat},jO n aR pre R->c∈R->∃ i,zyg n aR i c
 | [],_,_,_,h=>by cases h
 |d::R,pre,c,⟨⟨i,_,hc⟩,h2⟩,h=>by
  rcases qm.1 h with rfl|h
  ·exact⟨i,hc⟩
  ·exact qz8 h2 h
theorem zln{a:List (List Nat)}(h:jO n aR [] a)(e:o∈a){x y:Nat}(f:x∈o)(j:y<n):y∈o↔Rc aR x y/\Rc aR y x:=by obtain⟨i,_,b⟩:=qz8 h e;obtain⟨_,c,d⟩:=(b x).1 f;rw[b y];exact⟨fun g=>⟨d.trans g.2.1,g.2.2.trans c⟩,fun g=>⟨j,c.trans g.1,g.2.trans d⟩⟩
structure NmC(n:Nat)(res:List (List Nat))(ins:List Nat):Prop where
 is:∀(j:Nat) (o:List Nat) (x:Nat),res[j]? =some o->x∈o->ins.getD x 0=j
 all:∀ x,x<n->∃(j:Nat) (o:List Nat),res[j]? =some o/\x∈o
theorem NmC.lt{a:List (List Nat)}(h:NmC n a ins){x:Nat}(c:x<n):ins.getD x 0<a.length:=by obtain⟨j,o,b,d⟩:=h.all x c;rw[h.is j o x b d];exact(ql.1 b).1
theorem NmC.eq{a:List (List Nat)}(h:NmC n a ins)(l:jO n aR [] a){x y:Nat}(m:x<n)(d:y<n):ins.getD x 0=ins.getD y 0↔Rc aR x y/\Rc aR y x:=by
 obtain⟨j,o,b,e⟩:=h.all x m;obtain⟨f,g,i,k⟩:=h.all y d;rw[h.is j o x b e,h.is f g y i k,<-zln l (uB b) e d];constructor
 ·rintro rfl;simp_all
 ·intro c;rw[<-h.is j o y b c,h.is f g y i k]
theorem NmC.same{b:List (List Nat)}{ins a:List Nat}(h:NmC n b ins)(e:NmC n b a){x:Nat}(f:x<n):ins.getD x 0=a.getD x 0:=by obtain⟨j,o,c,d⟩:=h.all x f;rw[h.is j o x c d,e.is j o x c d]
theorem CR.no{HB H H':Hp}{lv iv:AV}{c:List AV}{a:List (List Nat)}(h:CR HB H n lv iv c a ins)(b:Fm No H H'):CR HB H' n lv iv c a ins:=
 ⟨h.gl.no b,h.cap,h.len,fun j w o d e=>by obtain⟨f,g,i⟩:=h.at' j w o d e;exact⟨f.no b,g,i⟩,h.gi.no b,h.aZf,h.ins,h.new⟩
def vT(e:Edge):Nat:=if e.s then 1 else 0
def Fit(n:Nat)(es:List Edge)(o:List Nat):Prop:=o.length=n/\∀ e∈es,o.getD e.t 0+vT e<=o.getD e.f 0
def Lst(n:Nat)(es:List Edge)(o:List Nat):Prop:=∀ S,Fit n es S->∀ x,x<n->o.getD x 0<=S.getD x 0
theorem z8e{es:List Edge}{S:List Nat}(h:Fit n es S){a b:Nat}(c:Rc (iB es) a b):S.getD b 0<=S.getD a 0:=by
 induction c with
 |refl=>exact lh _
 |step _ hst ih=>obtain⟨x,d,rfl,rfl⟩:=qcp.1 hst;have:=h.2 x d;omega
structure rZ(n:Nat)(es:List Edge)(ins:List Nat)(i:Nat)(o:List Nat):Prop where
 len:o.length=n
 zero:∀ x,x<n->i<=ins.getD x 0->o.getD x 0=0
 up:∀ e∈es,ins.getD e.f 0<i->ins.getD e.t 0≠ins.getD e.f 0->o.getD e.t 0+vT e<=o.getD e.f 0
 why:∀ x,x<n->ins.getD x 0<i->o.getD x 0=0\/∃ e∈es,ins.getD e.f 0=ins.getD x 0/\ins.getD e.t 0≠ins.getD x 0/\o.getD x 0=o.getD e.t 0+vT e
 same:∀ x y,x<n->y<n->ins.getD x 0=ins.getD y 0->o.getD x 0=o.getD y 0
 bd:∀ x,x<n->o.getD x 0<=ins.getD x 0
theorem aBa(n x:Nat):(List.replicate n 0).getD x 0=0:=by rw[kw,lAV];split<;>rfl
theorem rZ.start(n:Nat)(es:List Edge)(ins:List Nat):rZ n es ins 0 (List.replicate n 0):=
 ⟨by simp,fun x _ _=>aBa n x,fun e _ h=>absurd h (ak _),fun x _ h=>absurd h (ak _),fun x y _ _ _=>by rw[aBa,aBa],fun x _=>by rw[aBa];omega⟩
def asks(es:List Edge)(ins o:List Nat)(i:Nat):List Nat:=(es.filter fun e=>decide (ins.getD e.f 0=i)&& !decide (ins.getD e.t 0=i)).map fun e=>o.getD e.t 0+vT e
def jB(l:List Nat):Nat:=l.foldl max 0
theorem zmt(l:List Nat):∀ a,a<=l.foldl max a/\(∀x∈l,x<=l.foldl max a)/\(l.foldl max a=a\/l.foldl max a∈l):=by
 induction l with
 |nil=>intro a;exact⟨lh _,fun x h=>(by cases h),Or.inl rfl⟩
 |cons y l ih=>
  intro a;obtain⟨f,d,b⟩:=ih (max a y);show a<=l.foldl max (max a y)/\(∀x∈y::l,x<=l.foldl max (max a y))/\(l.foldl max (max a y)=a\/l.foldl max (max a y)∈y::l);refine⟨by omega,fun x c=>?_,?_⟩
  ·rcases qm.1 c with rfl|c
   ·omega
   ·exact d x c
  ·rcases b with b|b
   ·by_cases e:y<=a
    ·left;omega
    ·right;rw[b,show max a y=y by omega];exact qy
   ·simp_all
theorem qx6{es:List Edge}{i x:Nat}:x∈asks es ins o i↔∃ e∈es,ins.getD e.f 0=i/\ins.getD e.t 0≠i/\x=o.getD e.t 0+vT e:=by
 unfold asks;rw[qj];constructor
 ·rintro ⟨e,a,rfl⟩;obtain⟨a,b⟩:=xg.1 a;rw[qc,yc,yg,yt]at b;exact⟨e,a,b.1,b.2,rfl⟩
 ·rintro ⟨e,a,c,d,rfl⟩;exact⟨e,xg.2 ⟨a,by rw[qw c,uA d];rfl⟩,rfl⟩
def yY(o:List Nat)(v:Nat):List Nat->List Nat
 | []=>o
 |x::l=>yY (o.set x v) v l
theorem zay(cs:List Nat)(a c v:Nat)(b:c<cs.length):(cs.set a v).getD c 0=if a=c then v else cs.getD c 0:=by
 rw[kw,kw,lAK];by_cases h:a=c
 ·simp_all
 ·simp_all
theorem qp0(v:Nat):∀(l o:List Nat),(yY o v l).length=o.length
 | [],_=>rfl
 |x::l,o=>(qp0 v l _).trans ul
theorem q0y(v:Nat){y:Nat}:∀(l o:List Nat),y<o.length->(yY o v l).getD y 0=if y∈l then v else o.getD y 0
 | [],o,_=>by simp[yY]
 |x::l,o,h=>by
  rw[yY,q0y v l _ (by rw[ul];exact h),zay _ _ _ _ h];by_cases a:y∈l
  ·simp_all
  ·rw[lu a];by_cases b:x=y
   ·simp_all
   ·rw[lu b,lu fun h=>(qm.1 h).elim (fun e=>b e.symm) a]
theorem qtk(v x:Nat):∀(l o:List Nat),yY o v (l++[x])=(yY o v l).set x v
 | [],_=>rfl
 |_::l,_=>qtk v x l _
theorem rZ.step{es:List Edge}{o c:List Nat}(h:rZ n es ins i o)(l:∀ e∈es,e.f<n/\e.t<n)(v:∀ x,x<n->(x∈c↔ins.getD x 0=i))(hd:∀ e∈es,ins.getD e.t 0<=ins.getD e.f 0):rZ n es ins (i+1) (yY o (jB (asks es ins o i)) c):=by
 have g:∀ x,x<n->(yY o (jB (asks es ins o i)) c).getD x 0=if ins.getD x 0=i then jB (asks es ins o i)else o.getD x 0:=fun x b=>by rw[q0y _ _ _ (by rw[h.len];exact b)];simp_all
 obtain⟨_,s,f⟩:=zmt (asks es ins o i) 0;refine⟨by rw[qp0,h.len],fun x b q=>?_,fun e a q p=>?_,fun x b q=>?_,fun x y b r e=>?_,fun x b=>?_⟩
 ·rw[g x b,lu (by omega)];exact h.zero x b (by omega)
 ·obtain⟨t,u⟩:=l e a;have:=hd e a;rw[g _ t,g _ u,lu (by omega)];by_cases d:ins.getD e.f 0=i
  ·rw[kz d];exact s _ (qx6.2 ⟨e,a,d,by omega,rfl⟩)
  ·rw[lu d];exact h.up e a (by omega) p
 ·rw[g x b];by_cases d:ins.getD x 0=i
  ·rw[kz d];rcases f with f|f
   ·exact Or.inl f
   ·obtain⟨e,a,m,k,j⟩:=qx6.1 f;refine Or.inr ⟨e,a,m.trans d.symm,by rw[d];exact k,?_⟩;rw[g _ (l e a).2,lu k];exact j
  ·rw[lu d];rcases h.why x b (by omega)with h0|⟨e,a,m,k,j⟩
   ·omega
   ·refine Or.inr ⟨e,a,m,k,?_⟩;have:=hd e a;rw[g _ (l e a).2,lu (by omega)];exact j
 ·rw[g x b,g y r,e];split
  ·rfl
  ·exact h.same x y b r e
 ·rw[g x b];by_cases d:ins.getD x 0=i
  ·rw[kz d,d];rcases f with f|f
   ·have f:jB (asks es ins o i)=0:=f;omega
   ·obtain⟨e,a,m,k,j⟩:=qx6.1 f;have j:jB (asks es ins o i)=o.getD e.t 0+vT e:=j;have w:=hd e a;have z:=h.bd e.t (l e a).2;have:vT e<=1:=by unfold vT;split<;>omega
    omega
  ·rw[lu d];exact h.bd x b
theorem rZ.done{es:List Edge}{a:List (List Nat)}(h:rZ n es ins a.length o)(k:∀ e∈es,e.f<n/\e.t<n)(f:NmC n a ins)(p:jO n (iB es) [] a)(hd:∀ e∈es,ins.getD e.t 0<=ins.getD e.f 0)(q:∀ e∈es,e.s=true->ins.getD e.f 0≠ins.getD e.t 0):Fit n es o/\Lst n es o/\∀ x,x<n->o.getD x 0<=ins.getD x 0:=by
 refine⟨⟨h.len,fun e b=>?_⟩,fun S l=>?_,?_⟩
 ·obtain⟨d,i⟩:=k e b;by_cases j:ins.getD e.t 0=ins.getD e.f 0
  ·have g:¬ e.s=true:=fun t=>q e b t j.symm;unfold vT;rw[lu g,h.same _ _ i d j];simp
  ·exact h.up e b (f.lt d) j
 ·have r:∀ m x,ins.getD x 0=m->x<n->o.getD x 0<=S.getD x 0:=fun m=>by
   induction m using Nat.strongRecOn with
   |_ m ih=>
    intro x y c;rcases h.why x c (f.lt c)with h0|⟨e,b,h1,h2,h3⟩
    ·omega
    ·obtain⟨d,i⟩:=k e b;have s:=hd e b;have u:=ih (ins.getD e.t 0) (by omega) e.t rfl i;have v:=l.2 e b;have w:=z8e l ((f.eq p c d).1 h1.symm).1;omega
  simp_all
 ·exact h.bd
def uP(n:Nat)(ms o:List Nat):Prop:=∀ i k,i<n->k<n->0<ms.getD (i*n+k) 0->o.getD k 0+(if 1<ms.getD (i*n+k) 0 then 1 else 0)<=o.getD i 0
theorem za3(j:o.length=n)(r:∀ x∈ms,x<=3):uP n ms o↔Fit n (eF n ms) o:=by
 constructor
 ·intro h;refine⟨j,fun e b=>?_⟩;obtain⟨t,c,rfl⟩:=qj.1 b;obtain⟨l,m,s,p⟩:=qjn c;have:=h t.f t.t l m p;show o.getD t.t 0+vT (toE t)<=o.getD t.f 0;unfold vT toE;by_cases g:t.s=1
  ·have a:=aL1 c g;simp_all
  ·rw[lu (by simpa using g)];omega
 ·intro h i k d f q;by_cases a:1<ms.getD (i*n+k) 0
  ·have:=h.2 _ (qj.2 ⟨_,zx1 a f d,rfl⟩);rw[kz a];exact this
  ·rw[lu a];obtain⟨e,b,rfl,rfl⟩:=qxv d f q;have:=h.2 e b;omega
end Go.Di
end
noncomputable section
namespace Go.Di
open Go.Ev Go.Di.T Go.Sort
variable {C:Nat->Ev.Call} {LA LO:LP}
variable {H:Hp} {i k n:Nat} {ms o:List Nat}
theorem zj8:∀(o:List Nat) (i v:Nat),i<o.length->(o.set i v).sum+o.getD i 0=o.sum+v
 |x::l,0,v,_=>by simp;omega
 |x::l,i+1,v,h=>by have:=zj8 l i v (by simpa using h);simp at this ⊢;omega
theorem zxd:∀(o:List Nat) (m:Nat),(∀x∈o,x<=m)->o.sum<=o.length*m
 | [],_,_=>by simp
 |x::l,m,h=>by have b:=zxd l m fun y a=>h y (uu _ a);have c:=h x qy;rw[List.sum_cons,gz,xk,zu];omega
structure RE(H1:Hp)(n a0 mb ob:Nat)(ms:List Nat):Prop where
 g0:H1.get a0=aB 0 [.int .i64 (.ofNat n),.sl mb 0 (n*n) (n*n) true]
 gm:H1.get mb=aB 0 (aI ms)
 lt:a0<H1.nx/\mb<H1.nx
 ne:a0≠ob/\mb≠ob
 len:ms.length=n*n
 n:n<=256
structure NS(n:Nat)(ms o:List Nat):Prop where
 len:o.length=n
 lst:∀ S,S.length=n->uP n ms S->∀ x,x<n->o.getD x 0<=S.getD x 0
 sm:∀ x,x<n->o.getD x 0<=n
theorem NS.sum(h:NS n ms o):o.sum<=n*n:=by
 have:=zxd o n fun x a=>by obtain⟨i,b,rfl⟩:=mg.1 a;have:=h.sm i (by have:=h.len;omega);simp_all
 rwa [h.len]at this
structure PI(n:Nat)(ms o0 o:List Nat)(ch:Bool)(i k:Nat):Prop where
 ns:NS n ms o
 up:ch=true->o0.sum<o.sum
 no:ch=false->o=o0/\∀ i' k',i'<n->k'<n->(i'<i\/(i'=i/\k'<k))->0<ms.getD (i'*n+k') 0->o.getD k' 0+(if 1<ms.getD (i'*n+k') 0 then 1 else 0)<=o.getD i' 0
 le:o0.sum<=o.sum
def ask(n:Nat)(ms o:List Nat)(i k:Nat):Nat:=o.getD k 0+(if 1<ms.getD (i*n+k) 0 then 1 else 0)
theorem PI.keep{ms o0 o:List Nat}{f:Bool}(h:PI n ms o0 o f i k)(m:0<ms.getD (i*n+k) 0->ask n ms o i k<=o.getD i 0):PI n ms o0 o f i (k+1):=
 ⟨h.ns,h.up,fun b=>⟨(h.no b).1,fun g c j l a d=>by
  rcases a with a|⟨rfl,a⟩
  ·exact(h.no b).2 g c j l (Or.inl a) d
  ·by_cases e:c=k
   ·subst e;exact m d
   ·exact(h.no b).2 g c j l (Or.inr ⟨rfl,by omega⟩) d⟩,h.le⟩
theorem zog{ms o S:List Nat}(h:NS n ms o)(c:i<n)(a:k<n)(d:0<ms.getD (i*n+k) 0)(e:S.length=n)(b:uP n ms S):ask n ms o i k<=S.getD i 0:=by have f:=b i k c a d;have g:=h.lst S e b k a;unfold ask;omega
theorem PI.raise{ms o0 o:List Nat}{d:Bool}(h:PI n ms o0 o d i k)(f:i<n)(g:k<n)(j:0<ms.getD (i*n+k) 0)(l:o.getD i 0<ask n ms o i k)(q:ask n ms o i k<=n):PI n ms o0 (o.set i (ask n ms o i k)) true i (k+1):=by
 have p:=h.ns.len;have r:=zj8 o i (ask n ms o i k) (by omega);refine⟨⟨by rw[ul];exact p,fun S a c x b=>?_,fun x b=>?_⟩,fun _=>by have:=h.le;omega,fun m=>(by cases m),by have:=h.le;omega⟩
 ·rw[zay _ _ _ _ (by omega)];by_cases e:i=x
  ·subst e;rw[kz rfl];exact zog h.ns f g j a c
  ·rw[lu e];exact h.ns.lst S a c x b
 ·rw[zay _ _ _ _ (by omega)];by_cases e:i=x
  ·simp_all
  ·rw[lu e];exact h.ns.sm x b
theorem qqs(o:List Nat)(i:Nat)(h:i<o.length):(aI o)[i]? =some (.int .i64 (.ofNat (o.getD i 0))):=by unfold aI;simp_all
theorem zxm{O:Ev.Call}{H1:Hp}{n e mb ob:Nat}{ms o0:List Nat}(a:RE H1 n e mb ob ms)(T:ob<H1.nx){i:Nat}(l:i<n){qr:AV->pB}{qe:pB}{Q:pH}(K:(∀S,S.length=n->uP n ms S->∃ x,x<n/\n<S.getD x 0)->∀ H,Fm (fun b=>b=ob) H1 H->Ok (qr .aA (.bool false) H) Q)(L:∀ o d H,PI n ms o0 o d i n->H.get ob=aB 0 (aI o)->Fm (fun b=>b=ob) H1 H->Ok (qe (.bool d) H) Q):∀(f k:Nat) (o:List Nat) (d:Bool) (H:Hp),n-k<f->k<=n->PI n ms o0 o d i k->H.get ob=aB 0 (aI o)->Fm (fun b=>b=ob) H1 H -> Ok (qr6 O qr qe (.ptr e 0) (.sl ob 0 n n true) (.int .i64 (.ofNat i)) f (.bool d) (.int .i64 (.ofNat k)) H) Q
 |0,k,o,d,H,h,_,_,_,_=>by omega
 |f+1,k,o,d,H,h,hk,hP,hg,hF=>by
  show Ok (zi3 O _ _ _ _ _ (qr6 O _ _ _ _ _ f) _ _ H) Q;unfold zi3;have g0:H.get e=aB 0 [.int .i64 (.ofNat n),.sl mb 0 (n*n) (n*n) true]:=(hF.get _ a.lt.1 a.ne.1).trans a.g0;have s:H.get mb=aB 0 (aI ms):=(hF.get _ a.lt.2 a.ne.2).trans a.gm;have N:=hP.ns.len;have W:=a.len;have P:=a.n;by_cases c:k<n
  ·have Y:i*n+k<n*n:=qjl l c;have Z:i*n<=65536:=Nat.mul_le_mul (yu (lq l P)) P;have t:=qqs ms (i*n+k) (by omega);have R:=qqs o k (by omega);have C:=qqs o i (by omega);have s1:=hP.ns.sm k c;have s2:=hP.ns.sm i l;have w:¬ n<o.getD i 0:=by omega
   have next:∀(r:List Nat) (g:Bool) (H':Hp),PI n ms o0 r g i (k+1)->H'.get ob=aB 0 (aI r)->Fm (fun b=>b=ob) H1 H' ->
     Ok (qod O qr (qr6 O qr qe (.ptr e 0) (.sl ob 0 n n true) (.int .i64 (.ofNat i)) f) (.ptr e 0) (.sl ob 0 n n true) (.bool g) (.int .i64 (.ofNat i)) (.int .i64 (.ofNat k)) H') Q:=fun r g H' p u v=>by
    unfold qod;have F:H'.get e=aB 0 [.int .i64 (.ofNat n),.sl mb 0 (n*n) (n*n) true]:=(v.get _ a.lt.1 a.ne.1).trans a.g0;have G:=qqs r i (by have:=p.ns.len;omega);have s3:=p.ns.sm i l;have w:¬ n<r.getD i 0:=by omega
    simp(disch:=omega)only[go_sem,F,u,G,w,qg,pq];unfold zi2;simp(disch:=omega)only[go_sem];exact zxm a T l K L f (k+1) r g H' (by omega) (by omega) p u v
   have m:0<ms.getD (i*n+k) 0->Ok (qoc O qr (qr6 O qr qe (.ptr e 0) (.sl ob 0 n n true) (.int .i64 (.ofNat i)) f) (.ptr e 0) (.sl ob 0 n n true) (.bool d) (.int .i64 (.ofNat i)) (.int .i64 (.ofNat k)) (.int .i64 (.ofNat (ask n ms o i k))) H) Q:=fun M=>by
    unfold qoc;by_cases j:o.getD i 0<ask n ms o i k
    ·have y:=qjj o i (ask n ms o i k) (by omega);have z:i+1<=(aI o).length:=by rw[lV];omega
     by_cases B:ask n ms o i k<=n
     ·simp(disch:=omega)only[go_sem,hg,C,j,y,z,qg,pq,gz,uk];exact next _ true _ (hP.raise l c M j B) (dL _ _ _) (hF.put _ _ fun _=>rfl)
     ·have X:(aI (o.set i (ask n ms o i k)))[i]? =some (.int .i64 (.ofNat (ask n ms o i k))):=by
       rw[qqs _ _ (by rw[ul];omega),zay _ _ _ _ (by omega),kz rfl]
      have I:n<ask n ms o i k:=by omega
      simp(disch:=omega)only[go_sem,hg,C,j,y,z,qg,pq,gz,uk];unfold qod;have J:(H.put ob (aB 0 (aI (o.set i (ask n ms o i k))))).get e=aB 0 [.int .i64 (.ofNat n),.sl mb 0 (n*n) (n*n) true]:=by rw[eB _ _ _ _ (by have:=a.ne.1;omega)];exact g0
      simp(disch:=omega)only[go_sem,J,X,I,qg,pq];refine K (fun S U V=>⟨i,l,?_⟩) _ (hF.put _ _ fun _=>rfl);have:=zog hP.ns l c M U V;omega
    ·simp(disch:=omega)only[go_sem,hg,C,j,qg,pq];exact next o d H (hP.keep fun _=>by omega) hg hF
   simp only[go_sem,g0,c];unfold zi1;by_cases E:ms.getD (i*n+k) 0=1
   ·have q:ask n ms o i k=o.getD k 0:=by unfold ask;rw[lu (by omega),yw]
    have D:¬ 1<ms.getD (i*n+k) 0:=by omega
    simp(disch:=omega)only[go_sem,g0,s,hg,t,R,E,qg,pq];unfold qob;simp(disch:=omega)only[go_sem,g0,s,hg,t,E,qg,pq];rw[<-q];exact m (by omega)
   ·by_cases D:1<ms.getD (i*n+k) 0
    ·have q:ask n ms o i k=o.getD k 0+1:=by unfold ask;rw[kz D]
     simp(disch:=omega)only[go_sem,g0,s,hg,t,E,qg,pq];unfold qob;simp(disch:=omega)only[go_sem,g0,s,hg,t,R,D,qg,pq];rw[<-q];exact m (by omega)
    ·simp(disch:=omega)only[go_sem,g0,s,hg,t,E,qg,pq];unfold qob;simp(disch:=omega)only[go_sem,g0,s,hg,t,D,qg,pq];unfold qoc;have A:¬(Int.ofNat (o.getD i 0)<Int.negSucc 0):=by
      simp
     simp(disch:=omega)only[go_sem,hg,C,A,qg,pq];exact next o d H (hP.keep fun h=>by omega) hg hF
  ·simp only[go_sem,g0,c];have:k=n:=by omega
   subst this;exact L o d H hP hg hF
theorem PI.row{ms o0 o:List Nat}{a:Bool}(h:PI n ms o0 o a i n):PI n ms o0 o a (i+1) 0:=
 ⟨h.ns,h.up,fun b=>⟨(h.no b).1,fun c d e f j g=>(h.no b).2 c d e f (by omega) g⟩,h.le⟩
theorem zlu{O:Ev.Call}{H1:Hp}{n e mb ob:Nat}{ms o0:List Nat}(d:RE H1 n e mb ob ms)(m:ob<H1.nx){qr:AV->pB}{qe:pB}{Q:pH}(p:(∀S,S.length=n->uP n ms S->∃ x,x<n/\n<S.getD x 0)->∀ H,Fm (fun b=>b=ob) H1 H->Ok (qr .aA (.bool false) H) Q)(q:∀ o a H,PI n ms o0 o a n 0->H.get ob=aB 0 (aI o)->Fm (fun b=>b=ob) H1 H->Ok (qe (.bool a) H) Q):∀(f i:Nat) (o:List Nat) (a:Bool) (H:Hp),n-i<f->i<=n->PI n ms o0 o a i 0->H.get ob=aB 0 (aI o)->Fm (fun b=>b=ob) H1 H -> Ok (qys O qr qe (.ptr e 0) (.sl ob 0 n n true) f (.bool a) (.int .i64 (.ofNat i)) H) Q
 |0,i,o,a,H,h,_,_,_,_=>by omega
 |f+1,i,o,a,H,h,hi,hP,hg,hF=>by
  show Ok (zi4 O _ _ _ _ (qys O _ _ _ _ f) _ _ H) Q;unfold zi4;have g0:H.get e=aB 0 [.int .i64 (.ofNat n),.sl mb 0 (n*n) (n*n) true]:=(hF.get _ d.lt.1 d.ne.1).trans d.g0;have s:=d.n;by_cases c:i<n
  ·simp only[go_sem,g0,c];unfold zi0 zw6;rw[bW];refine zxm d m c p (fun r g H' j k l=>?_) bL 0 o a H (by rw[bZ];omega) (gy _) hP hg hF;unfold ziy;simp(disch:=go_size)only[go_sem,rB,rI,rK,rL,rN,rS,r6];exact zlu d m p q f (i+1) r g H' (by omega) (by omega) j.row k l
  ·simp only[go_sem,g0,c];have:i=n:=by omega
   subst this;exact q o a H hP hg hF
theorem zlt{O:Ev.Call}{H1:Hp}{n l mb ob:Nat}{ms:List Nat}(e:RE H1 n l mb ob ms)(m:ob<H1.nx){qr:AV->pB}{qe:pD}{Q:pH}(p:(∀S,S.length=n->uP n ms S->∃ x,x<n/\n<S.getD x 0)->∀ H,Fm (fun b=>b=ob) H1 H->Ok (qr .aA (.bool false) H) Q)(q:∀ o H,NS n ms o->uP n ms o->H.get ob=aB 0 (aI o)->Fm (fun b=>b=ob) H1 H->Ok (qe H) Q):∀(f:Nat) (o:List Nat) (H:Hp),n*n-o.sum+2<=f->NS n ms o->H.get ob=aB 0 (aI o)->Fm (fun b=>b=ob) H1 H -> Ok (qoa O qr qe (.ptr l 0) (.sl ob 0 n n true) f (.bool true) H) Q
 |0,o,H,h,_,_,_=>by omega
 |f+1,o,H,h,hN,hg,hF=>by
  show Ok (qyu O _ _ _ _ (qoa O _ _ _ _ f) _ H) Q;unfold qyu;simp only[go_sem];unfold ziz zw7;rw[bW];have z:=e.n;refine zlu e m (o0:=o) p (fun r j H' a c d=>?_) bL 0 o false H (by rw[bZ];omega) (gy _) ⟨hN,fun h=>(by cases h),fun _=>⟨rfl,fun v w _ _ y=>(by omega)⟩,lh _⟩ hg hF;cases j with
  |true=>have A:=a.up rfl;have B:=a.ns.sum;exact zlt e m p q f r H' (by omega) a.ns c d
  |false=>obtain⟨f,rfl⟩:∃ g,f=g+1:=⟨f-1,by omega⟩;show Ok (qyu O _ _ _ _ (qoa O _ _ _ _ f) _ H') Q;unfold qyu;exact q r H' a.ns (fun i k s t u=>(a.no rfl).2 i k s t (Or.inl s) u) c d
theorem NS.start(n:Nat)(ms:List Nat):NS n ms (List.replicate n 0):=
 ⟨by simp,fun S _ _ x _=>by rw[aBa];omega,fun x _=>by rw[aBa];omega⟩
theorem qw5(m:qjt C)(p:1<=k){n mb:Nat}{i:AV}(b:vJ H i mb n ms)(E:n<13):Ok (C k (.f 9) [i] H) fun r H'=>Fm No H H'/\((∃ob o,r=.aX [.sl ob 0 n n true,.bool true]/\H'.get ob=aB 0 (aI o)/\ob<H'.nx/\NS n ms o/\uP n ms o)\/(r=.aX [.aA,.bool false]/\∀ S,S.length=n->uP n ms S->∃ x,x<n/\n<S.getD x 0)):=by
 obtain⟨j,rfl⟩:=aU p;have w:=b.hv;subst w;rw[(m j).zAg];unfold zAg z0u;have y:Fm No H (aN H (aB 0 [.int .i64 (.ofNat n),.sl mb 0 (n*n) (n*n) true])):=(Fm.refl _ _).push _;have l:=qd8 [.int .i64 (.ofNat 0)] 8 (H.nx+1) n (by omega) (by omega);rw[qdi,qm2]at l;simp(disch:=go_size)only[go_sem,rB,rI,rK,rL,rN,rS,r6,l];generalize a:aN (aN H (aB 0 [.int .i64 (.ofNat n),.sl mb 0 (n*n) (n*n) true])) (aB 0 (aI (List.replicate n 0)))=H1;have F:H1.nx=H.nx+1+1:=by rw[<-a];rfl
 have f:Fm No H H1:=by rw[<-a];exact y.push _
 have z:H1.get H.nx=aB 0 [.int .i64 (.ofNat n),.sl mb 0 (n*n) (n*n) true]:=by rw[<-a,qbi _ _ _ (by simp only[np,nq];omega),jA]
 have A:H1.get (H.nx+1)=aB 0 (aI (List.replicate n 0)):=by rw[<-a];exact jA _ _
 have g:=b.lt;have B:RE H1 n H.nx mb (H.nx+1) ms:=⟨z,(f.keep g).trans b.get,⟨by omega,by omega⟩,⟨by omega,by omega⟩,b.ok.len,by omega⟩;unfold zw8;rw[bW];have D:n*n<=12*12:=Nat.mul_le_mul (by omega) (by omega);refine zlt B (by omega) (fun e q d=>?_) (fun o q s t u d=>?_) bL (List.replicate n 0) H1 (by rw[bZ];omega) (NS.start n ms) A (Fm.refl _ _)
 ·exact Ok.ret ⟨f.then d fun c v h=>by omega,Or.inr ⟨rfl,e⟩⟩
 ·unfold qyt;have:=d.nx;exact Ok.ret ⟨f.then d fun c v h=>by omega,Or.inl ⟨_,o,rfl,u,by omega,s,t⟩⟩
end Go.Di
end
noncomputable section
namespace Go.Di
open Go.Ev Go.Di.T Go.Sort
variable {C:Nat->Ev.Call}
variable {H:Hp} {i k n:Nat} {l:List AV}
theorem rdP{b q:Nat}{P:List AV}{M:List Nat}(a:H.get b=aB q (P++aI M))(h:i<M.length):bK (H.get b) (P.length+i)=.val (.int .i64 (.ofNat M[i])):=by rw[a,qbx,ug (by omega),zk];unfold aI;simp_all
theorem aZH(P:List AV)(M:List Nat)(x:Nat)(h:i<M.length):aY (P++aI M) (P.length+i) [.int .i64 (.ofNat x)]=P++aI (M.set i x):=by
 have a:(aI M).length=M.length:=lV M;unfold aY;rw[lED,uh (by omega),List.drop_append,uy (by simp;omega)];rw[show P.length+i-P.length=i by omega,show P.length+i+[AV.int .i64 (.ofNat x)].length-P.length=i+1 by simp;omega];have:aI (M.set i x)=(aI M).set i (.int .i64 (.ofNat x)):=by unfold aI;rw[lE9]
 rw[this,List.set_eq_take_append_cons_drop,kz (by omega)];simp
theorem z9f(P:List AV)(M:List Nat)(b:M.length=n)(h:k<=n):aY (P++aI M) (P.length+k) (bB [.int .i64 (.ofNat 0)] (n-k))=P++aI (M.take k++List.replicate (n-k) 0):=by
 have d:(aI M).length=n:=by rw[lV,b]
 have c:bB [.int .i64 (.ofNat 0)] (n-k)=aI (List.replicate (n-k) 0):=by rw[qdi];unfold aI;rw[List.map_replicate]
 have a:(aI (List.replicate (n-k) 0)).length=n-k:=by rw[lV,uw]
 unfold aY;rw[c,a,lED,uh (by omega),List.drop_append,uy (by omega)];rw[show P.length+k-P.length=k by omega,uy (by omega)];have:aI (M.take k++List.replicate (n-k) 0)=(aI M).take k++aI (List.replicate (n-k) 0):=by unfold aI;rw[uj,List.map_take]
 simp_all
structure Cp(l M:List Nat)(k p:Nat):Prop where
 len:M.length=l.length
 lt:k<p
 le:p<=l.length
 same:M.drop k=l.drop k
 asc:(M.take k).Pairwise (· < ·)
 mem:∀ x,x∈M.take k↔x∈l.take p
theorem Cp.at{l M:List Nat}{k p i:Nat}(h:Cp l M k p)(c:k<=i)(a:i<l.length):M[i]'(by rw[h.len];exact a)=l[i]:=by
 have b:(M.drop k)[i-k]? =(l.drop k)[i-k]? :=by rw[h.same]
 rw[ae,ae,show k+(i-k)=i by omega,lL a,lL (by rw[h.len];exact a)]at b;simp_all
theorem qe0{l:List Nat}{p:Nat}(h:p<l.length):l.take (p+1)=l.take p++[l[p]]:=lw h
theorem qxg{l:List Nat}{p x:Nat}(h:x∈l.take p):∃ i,∃(a:i<l.length),i<p/\l[i]=x:=by obtain⟨i,a,e⟩:=mg.1 h;rw[ry]at a;exact⟨i,by omega,by omega,by rw[<-e];simp⟩
theorem Cp.eq{l M:List Nat}{k p:Nat}(h:Cp l M k p)(b:p<l.length)(c:l[p]=l[p-1]'(by omega)):Cp l M k (p+1):=by
 refine⟨h.len,by have:=h.lt;omega,b,h.same,h.asc,fun x=>(h.mem x).trans ?_⟩;rw[qe0 b,pg,gq];refine⟨Or.inl,fun a=>a.elim id fun a=>?_⟩;have d:=h.lt;rw[a,c];have:l.take p=l.take (p-1)++[l[p-1]'(by omega)]:=by have:=qe0 (l:=l) (p:=p-1) (by omega);rwa [show p-1+1=p by omega]at this
 exact this▸xf _ (gq.2 rfl)
theorem Cp.ne{l M:List Nat}{k p:Nat}(h:Cp l M k p)(j:l.Pairwise (· <= ·))(c:p<l.length)(o:¬ l[p]=l[p-1]'(by omega)):Cp l (M.set k l[p]) (k+1) (p+1):=by
 have q:=h.lt;have d:=h.len;have g:(M.set k l[p]).take (k+1)=M.take k++[l[p]]:=by rw[qe0 (l:=M.set k l[p]) (p:=k) (by rw[ul];omega),lAH,List.take_set_of_le (lh k)]
 refine⟨by rw[ul,d],by omega,c,?_,?_,fun x=>?_⟩
 ·rw[List.drop_set_of_lt (by omega)];have:=congrArg (List.drop 1) h.same;simp_all
 ·rw[g,yf];refine⟨h.asc,zn _ _,fun a m b f=>?_⟩;rw[gq]at f;subst f;obtain⟨i,t,n,rfl⟩:=qxg ((h.mem a).1 m);have e:=uf.1 j;have r:l[p-1]'(by omega)<=l[p]:=e (p-1) p (by omega) c (by omega);have s:l[i]<=l[p-1]'(by omega):=by
   rcases xe i (p-1)with h2|h2
   ·simp_all
   ·have:i=p-1:=by omega
    simp_all
  omega
 ·rw[g,qe0 c,pg,pg,h.mem x]
theorem qk7{O:Ev.Call}{b o n q:Nat}{e:Bool}{P:List AV}{l:List Nat}(p:l.Pairwise (· <= ·))(a:P.length=o)(u:l.length=n)(v:n<900){c0:Nat}(d:c0<n){H1:Hp}{w:pB}{Q:pH}(r:∀ M k H,Cp l M k n->H.get b=aB q (P++aI M)->Fm (fun c=>c=b) H1 H->Ok (w (.int .i64 (.ofNat k)) H) Q):∀(f k k2:Nat) (M:List Nat) (H:Hp),n-(c0+k2)<f->1<=k2->Cp l M k (c0+k2)->H.get b=aB q (P++aI M)->Fm (fun c=>c=b) H1 H -> Ok (qdx O w (.sl b o n n e) (.sl b (o+c0) (n-c0) (n-c0) e) f (.int .i64 (.ofNat k)) (.int .i64 (.ofNat k2)) H) Q
 |0,k,k2,M,H,h,_,_,_,_=>by omega
 |f+1,k,k2,M,H,h,h1,hC,hg,hF=>by
  show Ok (qfj O _ _ _ (qdx O _ _ _ f) _ _ H) Q;unfold qfj;have A:=hC.lt;have B:=hC.le;have C:=hC.len;by_cases z:k2<n-c0
  ·have j:=rdP hg (i:=c0+k2) (by omega);have s:=rdP hg (i:=c0+(k2-1)) (by omega);rw[hC.at (by omega) (by omega),a,<-ui]at j;rw[hC.at (by omega) (by omega),a,<-ui]at s;simp only[go_sem,z];unfold qjh;have g:l[c0+k2-1]'(by omega)=l[c0+(k2-1)]'(by omega):=by congr 1;omega
   by_cases m:l[c0+k2]'(by omega)=l[c0+k2-1]'(by omega)
   ·rw[m,g]at j;simp(disch:=go_size)only[go_sem,rB,rI,rK,rL,rN,rS,r6,qg,j,s];unfold qdy;simp(disch:=go_size)only[go_sem,rB,rI,rK,rL,rN,rS,r6];exact qk7 p a u v d r f k (k2+1) M H (by omega) (by omega) (hC.eq (by omega) m) hg hF
   ·have t:¬ l[c0+k2]'(by omega)=l[c0+(k2-1)]'(by omega):=by rw[<-g];exact m
    have y:=aZH P M (i:=k) (l[c0+k2]'(by omega)) (by omega);rw[a]at y;have D:∀ x:AV,uK (aB q (P++aI M)) (o+k) [x]=some (aB q (aY (P++aI M) (o+k) [x])):=fun x=>by rw[qgm,kz];rw[ku,lV];simp only[gz,uk];omega
    simp(disch:=go_size)only[go_sem,rB,rI,rK,rL,rN,rS,r6,qg,j,s,t];rw[hg]at *;simp(disch:=go_size)only[go_sem,rB,rI,rK,rL,rN,rS,r6,D,y];unfold qdy;simp(disch:=go_size)only[go_sem,rB,rI,rK,rL,rN,rS,r6];exact qk7 p a u v d r f (k+1) (k2+1) _ _ (by omega) (by omega) (hC.ne p (by omega) m) (dL _ _ _) (hF.put _ _ fun _=>rfl)
  ·simp only[go_sem,z];have:c0+k2=n:=by omega
   rw[this]at hC;exact r M k H hC hg hF
theorem qqa{O:Ev.Call}{b o n q:Nat}{e:Bool}{P:List AV}{l:List Nat}(y:l.Pairwise (· <= ·))(s:P.length=o)(t:l.length=n)(I:n<900){H:Hp}(u:H.get b=aB q (P++aI l))(J:b<H.nx)(j:e=true\/q=1){K:pD}{Q:pH}(L:∀ k R H',k<=n->R.length=k->R.Pairwise (· < ·)->(∀x,x∈R↔x∈l)->Gs 1 H' (.sl b o k n e) k (aI R)->Fm (fun c=>c=b) H H'->Q (.sl b o k n e) H')(m:l.Pairwise (· < ·)->Ok (K H) Q):∀(f k:Nat),n-k<f->1<=k->k<=n->(l.take k).Pairwise (· < ·) -> Ok (qej O (fun x H=>.ok x H) K (.sl b o n n e) f (.int .i64 (.ofNat k)) H) Q
 |0,k,h,_,_,_=>by omega
 |f+1,k,h,h1,hk,ha=>by
  show Ok (qf8 O _ _ _ (qej O _ _ _ f) _ H) Q;unfold qf8;by_cases g:k<n
  ·have w:=rdP u (i:=k) (by omega);have C:=rdP u (i:=k-1) (by omega);rw[s]at w C;simp only[go_sem,g];unfold qjg;by_cases G:l[k]'(by omega)=l[k-1]'(by omega)
   ·rw[G]at w;have U:=qkq 1 b o n n e (a:=k) (by omega) (lh _) g;simp(disch:=go_size)only[go_sem,rB,rI,rK,rL,rN,rS,r6,qg,w,C,U];unfold qji;rw[bW];have D:Cp l l k (k+1):=by
     refine⟨rfl,by omega,by omega,rfl,ha,fun x=>?_⟩;rw[qe0 (p:=k) (by omega),pg,gq];refine⟨Or.inl,fun z=>z.elim id fun z=>?_⟩;have:l.take k=l.take (k-1)++[l[k-1]'(by omega)]:=by simp_all
     rw[z,G];exact this▸xf _ (gq.2 rfl)
    refine qk7 (H1:=H) y s t I (c0:=k) g (fun M d H' v A N=>?_) bL k 1 l H (by rw[bZ];omega) (lh 1) D u (Fm.refl _ _);unfold qfi;have V:=v.lt;have c2:=v.len;have W:=qkq 1 b o n n e (a:=d) (by omega) (lh _) V;have X:=q9k 1 b o n n e (k:=d) (by omega) (lh _) (by omega);have T:=z9f P M (k:=d) (n:=n) (by omega) (by omega);rw[s]at T;have E:(bB [.int .i64 (.ofNat 0)] (n-d)).length=n-d:=by rw[qdi,uw]
    have Y:qif [.int .i64 (.ofNat 0)] H' (.sl b (o+d) (n-d) (n-d) e)=.ok .undef (H'.put b (aB q (P++aI (M.take d++List.replicate (n-d) 0)))):=by show(bif Nat.beq (n-d) 0 then _ else storeAt H' b (o+d) (bB [.int .i64 (.ofNat 0)] (n-d)) .undef)=_;rw[beq_eq,uA (by omega),aj,qch _ _ _ _ _ _ _ A (by rw[E,ku,lV];omega),T]
    simp only[go_sem,W,X,Y];have F:(M.take d).length=d:=by rw[ry];omega
    refine Ok.ret (L d (M.take d) _ (by omega) F v.asc (fun x=>by rw[v.mem x,<-t,uz]) ?_ (N.put _ _ fun _=>rfl));refine⟨by rw[lV,F,qg],.inr ⟨b,o,n,e,q,_,rfl,by omega,dL _ _ _,?_,?_,j,lq J N.nx⟩⟩
    ·rw[ku,lV,ku,F,uw];omega
    ·rw[xm (by omega),uy (by omega),og,qg];unfold aI;simp_all
   ·simp(disch:=go_size)only[go_sem,rB,rI,rK,rL,rN,rS,r6,qg,w,C,G];unfold qlm;simp(disch:=go_size)only[go_sem,rB,rI,rK,rL,rN,rS,r6];refine qqa y s t I u J j L m f (k+1) (by omega) (by omega) (by omega) ?_;rw[qe0 (p:=k) (by omega),yf];refine⟨ha,zn _ _,fun a B c S=>?_⟩;rw[gq]at S;subst S;obtain⟨i,Z,hip,rfl⟩:=qxg B;have r:=uf.1 y;have a1:l[k-1]'(by omega)<=l[k]'(by omega):=r (k-1) k (by omega) (by omega) (by omega);have a2:l[i]<=l[k-1]'(by omega):=by
     rcases xe i (k-1)with h2|h2
     ·exact r i (k-1) Z (by omega) h2
     ·have:i=k-1:=by omega
      simp_all
    omega
  ·simp only[go_sem,g];have:k=n:=by omega
   subst this;rw[<-t,uz]at ha;exact m ha
theorem q7s(u:pI C)(m:1<=k){v:AV}{l:List Nat}(w:l.Pairwise (· <= ·))(z:n<900)(d:Gl 1 H v n (aI l)):Ok (C k (.f 83) [v] H) fun r H'=>∃ R:List Nat,R.Pairwise (· < ·)/\(∀x,x∈R↔x∈l)/\Gs 1 H' r R.length (aI R)/\(∀b,In r b->In v b)/\Fm (In v) H H':=by
 obtain⟨j,rfl⟩:=aU m;have a:l.length=n:=by have:=d.len;rw[lV]at this;omega
 rw[(u j).jU];unfold jU qic;have p:=d.bS;by_cases s:n<2
 ·simp only[go_sem,p,s];refine Ok.ret ⟨l,?_,fun x=>Iff.rfl,by rw[a];exact d.gs,fun b h=>h,Fm.refl _ _⟩
  match l,a with
  | [],_=>exact List.Pairwise.nil
  | [x],_=>exact zn _ _
  |x::y::t,h=>simp at h;omega
 ·rcases d.is with⟨_,N⟩|⟨b,o,e,q,L,rfl,I,O,J,K,M⟩
  ·omega
  have F:(L.take o).length=o:=by rw[ry];omega
  have G:H.get b=aB q (L.take o++aI l):=by rw[I,<-J,oq]
  simp only[go_sem,p,s];unfold qjf qln;rw[bW];have i:∀ c,c=b->In (.sl b o n n e) c:=fun c f=>by subst f;exact⟨_,_,_,_,rfl⟩
  refine qqa w F a z G M K (fun k R H' m A g B D E=>?_) (fun g=>?_) bL 1 (by rw[bZ];omega) (lh 1) (by omega) ?_
  ·refine⟨R,g,B,by rw[A];exact D,fun c f=>?_,E.mono fun c _ f=>i c f⟩;obtain⟨_,_,_,_,P⟩:=f;simp_all
  ·unfold qf7;exact Ok.ret ⟨l,g,fun x=>Iff.rfl,by rw[a];exact d.gs,fun b h=>h,Fm.refl _ _⟩
  ·match l,a with
   | [],h=>simp at h;omega
   |x::t,_=>simp
theorem Gs.clip{v:AV}(h:Gs 1 H v n l):∃ w,kL 1 v none (some (.int .i64 (.ofNat n))) (some (.int .i64 (.ofNat n)))=.val w/\Rl H w l/\jM w=.val (.int .i64 (.ofNat n))/\(∀b,In w b->In v b):=by
 rcases h.is with⟨rfl,rfl⟩|⟨b,o,m,e,q,L,rfl,x,C,D,E,F,G⟩
 ·exact⟨.aA,rfl,h.rl,rfl,fun b h=>h⟩
 ·have t:kL 1 (.sl b o n m e) none (some (.int .i64 (.ofNat n))) (some (.int .i64 (.ofNat n)))=iI b o 1 ⟨0,n,n⟩ true:=by
   show(match bounds n m none (some (.int .i64 (.ofNat n))) (some (.int .i64 (.ofNat n)))with|some bd=>iI b o 1 bd true|none=>R0.bad)=_;have:bounds n m none (some (.int .i64 (.ofNat n))) (some (.int .i64 (.ofNat n)))=some ⟨0,n,n⟩:=by show(match(bif Nat.ble n m then some n else none)with|none=>none|some m=>match(bif Nat.ble n m then some n else none)with|none=>none|some h=>match(some 0:Option Nat)with|none=>none|some l=>some (Bd.mk l h m))=_;rw[ble_eq,qw x];simp only[uC,ble_eq,qw (lh n)]
   rw[this]
  have j:∀ f,Gs 1 H (.sl b o n m f) n l->Rl H (.sl b o n n true) l:=fun f g=>by have r:=g.rl;exact⟨r.len,fun i s=>by obtain⟨y,z,k,A,B⟩:=r.at' i s;exact⟨y,z,by have u:=h.len;rw[uT _ _ _ _ _ _ _ _ (by omega)]at k ⊢;exact k,A,B⟩⟩
  rw[t];unfold iI;simp only[beq_eq];by_cases p:n=0
  ·subst p;exact⟨.sl b o 0 0 true,rfl,j e h,rfl,fun c a=>by obtain⟨_,_,_,_,d⟩:=a;cases d;exact⟨_,_,_,_,rfl⟩⟩
  ·rw[uA p];refine⟨.sl b o n n true,?_,j e h,rfl,fun c a=>by obtain⟨_,_,_,_,d⟩:=a;cases d;exact⟨_,_,_,_,rfl⟩⟩;rfl
theorem zvm(a:aV C)(c:1<=k){v:AV}(h:Gs 1 H v n l):∃w,C k (.f 39) [v] H=.ok w H/\Rl H w l/\jM w=.val (.int .i64 (.ofNat n))/\(∀b,In w b->In v b):=by obtain⟨j,rfl⟩:=aU c;obtain⟨w,e,d,f,g⟩:=h.clip;refine⟨w,?_,d,f,g⟩;rw[(a j).zBd];unfold zBd zrk;simp only[go_sem,h.bS,e]
end Go.Di
end
noncomputable section
namespace Go.Di
open Go.Ev Go.Di.T Go.Sort
variable {C:Nat->Ev.Call} {LA LO:LP}
variable {H H' H0:Hp} {aR:Nat->List Nat} {gv:AV} {i k m n:Nat} {ins o:List Nat}
theorem zop(a:pI C)(b:nV C)(c:5<=k)(H:Hp):C k (.f 82) [.aA] H=.ok (.aX []) H:=by obtain⟨k,rfl⟩:∃ j,k=j+1:=⟨k-1,by omega⟩;exact(a k).aGN H
def mP(ins:List Nat)(e:Edge):Bool:=e.s&&decide (ins.getD e.f 0=ins.getD e.t 0)
def iV(ins:List Nat)(es:List Edge):List Nat:=(es.filter (mP ins)).map fun e=>ins.getD e.f 0
theorem zl0(ins:List Nat)(es:List Edge)(h:i<es.length):iV ins (es.take (i+1))=iV ins (es.take i)++(if mP ins es[i]then[ins.getD es[i].f 0]else[]):=by unfold iV;rw[lw h,ag,uj];congr 1;cases a:mP ins es[i]<;>simp[a]
theorem zl1(ins:List Nat)(es:List Edge):(iV ins es).length<=es.length:=by unfold iV;rw[pz];exact bu _ _
theorem zan{es:List Edge}{x:Nat}:x∈iV ins es↔∃ e∈es,e.s=true/\ins.getD e.f 0=ins.getD e.t 0/\ins.getD e.f 0=x:=by
 unfold iV mP;rw[qj];constructor
 ·rintro ⟨e,a,rfl⟩;rw[xg,qc,yc]at a;exact⟨e,a.1,a.2.1,a.2.2,rfl⟩
 ·rintro ⟨e,a,b,c,d⟩;exact⟨e,xg.2 ⟨a,by rw[qc,yc];exact⟨b,c⟩⟩,d⟩
theorem qg8{O:Ev.Call}{H1:Hp}{n c:Nat}{lv iv w:AV}{es:List Edge}{ins:List Nat}(d:es.length<200000)(A:∀ e∈es,e.f<n/\e.t<n)(B:iH H1 w es)(o:Gl 1 H1 iv n (aI ins))(p:H1.get c=aB 0 [lv,iv])(f:c<H1.nx){q:pB}{Q:pH}(C:∀ v H,Gl 1 H v (iV ins es).length (aI (iV ins es))->Fm No H1 H->(∀b,In v b->H1.nx<=b)->Ok (q v H) Q):∀(k i:Nat) (v:AV) (H:Hp),es.length-i<k->i<=es.length->Gl 1 H v (iV ins (es.take i)).length (aI (iV ins (es.take i)))->(∀b,In v b->H1.nx<=b)->Fm No H1 H -> Ok (qu7 O q (.ptr c 0) w (.int .i64 (.ofNat es.length)) k v (.int .i64 (.ofNat i)) H) Q
 |0,i,v,H,h,_,_,_,_=>by omega
 |k+1,i,v,H,h,F,hg,hnew,hF=>by
  show Ok (q4q O _ _ _ _ (qu7 O _ _ _ _ k) _ _ H) Q;unfold q4q;by_cases j:i<es.length
  ·simp only[go_sem,j];unfold zg7;have D:iH H w es:=B.fm hF;have r:Gl 1 H iv n (aI ins):=o.no hF;have s:H.get c=aB 0 [lv,iv]:=(hF.keep f).trans p;have E:c<H.nx:=lq f hF.nx;have F:ins.length=n:=by have:=o.len;rw[lV]at this;omega
   obtain⟨b,o1,N,e2,P⟩:=D.at j;obtain⟨r1,r2⟩:=A es[i] (lg _);have S:∀ x,x<n->(aI ins)[x]? =some (.int .i64 (.ofNat (ins.getD x 0))):=fun x hx=>by unfold aI;simp_all
   obtain⟨b1,o2,T,e5,_,U⟩:=r.at (S _ r1);obtain⟨b2,o3,V,e8,_,W⟩:=r.at (S _ r2);have g:=zl0 ins es j;have G:=zl1 ins (es.take i);rw[ry]at G;have a:Fm No H ((aN H (aB 0 [.int .i64 (.ofNat 0),.int .i64 (.ofNat 0),.bool false])).put H.nx (aB 0 [.int .i64 (.ofNat es[i].f),.int .i64 (.ofNat es[i].t),.bool es[i].s])):=by exact nA
   cases l:es[i].s with
   |false=>
    have t:mP ins es[i]=false:=by unfold mP;rw[l];rfl
    rw[l]at a;rw[t]at g;simp only[go_sem,N,P,Edge.cells,l];unfold qn1;simp(disch:=go_size)only[go_sem,rB,rI,rK,rL,rN,rS,r6];rw[lu (by simp),ut]at g;refine qg8 d A B o p f C k (i+1) v _ (by omega) (by omega) (by rw[g];exact hg.no a) hnew (hF.trans a)
   |true=>
    rw[l]at a;by_cases m:ins.getD es[i].f 0=ins.getD es[i].t 0
    ·have t:mP ins es[i]=true:=by unfold mP;rw[l,qw m];rfl
     rw[t,kz rfl]at g;have u:(iV ins (es.take (i+1))).length=(iV ins (es.take i)).length+1:=by rw[g,ku];rfl
     generalize z:(aN H (aB 0 [.int .i64 (.ofNat 0),.int .i64 (.ofNat 0),.bool false])).put H.nx (aB 0 [.int .i64 (.ofNat es[i].f),.int .i64 (.ofNat es[i].t),.bool true])=H2 at *;have I:H2.get H.nx=aB 0 [.int .i64 (.ofNat es[i].f),.int .i64 (.ofNat es[i].t),.bool true]:=by rw[<-z,dL]
     have J:H2.get c=aB 0 [lv,iv]:=(a.keep E).trans s;have K:bK (H2.get b1) o2=.val (.int .i64 (.ofNat (ins.getD es[i].f 0))):=by rw[a.keep e5];exact U
     have L:bK (H2.get b2) o3=.val (.int .i64 (.ofNat (ins.getD es[i].t 0))):=by rw[a.keep e8];exact W
     have y:Gl 1 (aN H2 (aB 0 [.int .i64 (.ofNat (ins.getD es[i].f 0))])) v (iV ins (es.take i)).length (aI (iV ins (es.take i))):=(hg.no a).no ((Fm.refl _ _).push _);obtain⟨H',X,R,_,Y,a5⟩:=y.append (w:=8) (k:=1) (x:=[.int .i64 (.ofNat (ins.getD es[i].f 0))]) (by omega) rfl (by omega) (by omega);rw[m]at X R Y y;simp(disch:=go_size)only[go_sem,rB,rI,rK,rL,rN,rS,r6,N,P,Edge.cells,l,z,I,J,T,K,V,L,m,X];unfold qn1;simp(disch:=go_size)only[go_sem,rB,rI,rK,rL,rN,rS,r6];have M:aI (iV ins (es.take i))++[.int .i64 (.ofNat (ins.getD es[i].t 0))]=aI (iV ins (es.take (i+1))):=by rw[g,m];simp[aI]
     rw[M,<-u]at R;rw[<-u];have hn1:=hF.nx;have hn2:=a.nx;refine qg8 d A B o p f C k (i+1) _ H' (by omega) (by omega) R (fun b Z=>?_) (((hF.trans a).trans ((Fm.refl _ _).push _)).then Y fun c p h=>by have:=hnew c h;omega);obtain⟨_,_,_,_,h⟩:=Z;cases h;omega
    ·have t:mP ins es[i]=false:=by unfold mP;rw[l,uA m];rfl
     rw[t]at g;simp(disch:=first|omega|exact ti rfl)only[go_sem,seval,N,P,Edge.cells,l,s,T,U,V,W,m];unfold qn1;simp(disch:=go_size)only[go_sem,rB,rI,rK,rL,rN,rS,r6];rw[lu (by simp),ut]at g;refine qg8 d A B o p f C k (i+1) v _ (by omega) (by omega) (by rw[g];exact hg.no a) hnew (hF.trans a)
  ·simp only[go_sem,j];have:i=es.length:=by omega
   simp_all
theorem zvh(D:aV C)(u:pI C)(G:nV C)(hR:oZ LA LO C)(hk:1000<=k){es:List Edge}(I:y7 n es)(hn:n<=256)(X:es.length<900)(Y:iH H gv es):Ok (C k (.f 53) [.agg [.int .i64 (.ofNat n),gv]] H) fun r H'=>∃(w:AV) (a:List (List Nat)) (ins R:List Nat),r=.aX [w,.int .i64 (.ofNat 0)]/\jO n (iB es) [] a/\(∀(j:Nat) (o:List Nat) (x:Nat),a[j]? =some o->x∈o->ins[x]? =some j) /\ R.Pairwise (· < ·)/\(∀x,x∈R↔x∈iV ins es)/\Rl H' w (aI R)/\jM w=.val (.int .i64 (.ofNat R.length))/\R.length<=900/\Fm No H H':=by
 obtain⟨j,rfl⟩:=aU hk;rw[(D j).zBp];unfold zBp zz5;simp(disch:=omega)only[go_sem,seval];have Z:Fm No H (aN H (aB 0 [.int .i64 (.ofNat n),gv])):=(Fm.refl _ _).push _;refine Ok.ve (z4l D u G hR (k:=j) (by omega) I hn (by omega) (Y.fm Z)) ?_;rintro r H1 ⟨lv,iv,os,t,out,ins,a,rfl,T,B,U⟩;have J:=T.ord I.rng;have K:H1.get H.nx=aB 0 [.int .i64 (.ofNat n),gv]:=(U.keep (by simp only[np,nq];omega)).trans (jA _ _);have M:∀ x y:AV,aY [AV.aA,AV.aA] 0 [x,y]=[x,y]:=fun _ _=>rfl;have n1:H.nx+1<=H1.nx:=U.nx;simp(disch:=omega)only[go_sem,seval,M,gz,uk];generalize s:(aN H1 (aB 0 [AV.aA,AV.aA])).put H1.nx (aB 0 [lv,iv])=H2;have N:Fm No H1 H2:=by rw[<-s];exact((Fm.refl _ _).push _).aD _ _ (lh _)
 have p:H2.get H1.nx=aB 0 [lv,iv]:=by rw[<-s,dL]
 have l2:H1.nx<H2.nx:=by rw[<-s];show H1.nx<H1.nx+1;omega
 have O:H2.get H.nx=aB 0 [.int .i64 (.ofNat n),gv]:=(N.keep (by omega)).trans K;have sF:Fm No H H2:=(Z.trans U).trans N;have z:iH H2 gv es:=Y.fm sF;rw[qr1];unfold qu8;have e0:=z.len;simp(disch:=go_size)only[go_sem,rB,rI,rK,rL,rN,rS,r6,O,e0];unfold zg9;rw[bW];refine qg8 (by omega) I.rng z (B.gi.no N) p l2 (fun v f E f3 g=>?_) bL 0 .aA H2 (by rw[bZ];omega) (gy _) (by simpa [iV,aI] using Gl.nil 1 H2) (fun b hb=>by obtain⟨_,_,_,_,h⟩:=hb;cases h) (Fm.refl _ _);have hml:=zl1 t es;have d:Ok (C j (.f 82) [v] f) fun r H'=>r=.aX []/\∃ R:List Nat,R.Perm (iV t es)/\R.Pairwise (· <= ·)/\Gl 1 H' v (iV t es).length (aI R)/\Fm (In v) f H':=by
  rcases lAW (iV t es).length with V|V
  ·have P:iV t es=[]:=tq.1 V;rw[P]at E ⊢;rcases E.is with⟨rfl,_⟩|⟨b,o,e,q,L,rfl,g1,p,g3,g4,g5⟩
   ·exact⟨_,_,zop u G (by omega) f,rfl,[],List.Perm.refl _,List.Pairwise.nil,E,Fm.refl _ _⟩
   ·obtain⟨j,rfl⟩:∃ i,j=i+1:=⟨j-1,by omega⟩;have p:o<=L.length:=p;have A:storeAt f b o [] (.aX [])=.ok (.aX []) (f.put b (aB q (aY L o []))):=qch _ _ _ _ _ _ _ g1 p;have hL:aY L o []=L:=by unfold aY;simp
    rw[hL]at A;have hs:qzd f b o 0=some (.ok (.aX []) (f.put b (aB q L))):=by
     unfold qzd;have hr:jG (f.get b) o 0=some []:=by rw[g1,qb7,kz (show o+0<=L.length from p)];rfl
     rw[hr];have P:qi7 []=[]:=by unfold qi7;simp
     simp only[qpt,P,lE7,A];rfl
    refine⟨_,_,(u j).srt _ _ _ _ _ _ _ hs,rfl,[],List.Perm.refl _,List.Pairwise.nil,?_,(Fm.refl _ _).put _ _ fun _=>⟨_,_,_,_,rfl⟩⟩;exact⟨rfl,.inr ⟨b,o,e,q,L,rfl,dL _ _ _,p,g3,g4,g5⟩⟩
  ·exact zbq D u G (k:=j) (by omega) V (by omega) E
 refine Ok.ve d ?_;rintro r H4 ⟨rfl,R,hp,W,h4,f4⟩;refine Ok.ve (q7s u (k:=j) (by omega) W (by omega) h4) ?_;rintro r5 H5 ⟨F,l,m,h5,hin,f5⟩;obtain⟨w,w1,w2,w3,_⟩:=zvm D (k:=j) (by omega) h5;simp only[go_sem,w1];have Q:F.length<=900:=by have S:F.Nodup:=l.imp fun h=>Nat.ne_of_lt h;have:F.length<=R.length:=S.length_le_of_subset fun x hx=>(m x).1 hx;rw[hp.length_eq]at this;omega
 refine Ok.ret ⟨w,a,t,F,rfl,J,B.ins,l,fun x=>(m x).trans hp.mem_iff,w2,w3,Q,((sF.trans f3).then f4 fun c hc h=>?_).then f5 fun c hc h=>?_⟩
 ·have:=g c h;omega
 ·have:=g c h;omega
def aGd(O:Ev.Call)(H0:Hp)(f:FuncId)(caps:List AV)(es:List Edge)(p:Edge->Bool):Prop:=
 ∀e∈es,∀H,Fm No H0 H->Ok (vP O (.fn f [] caps) [.agg e.cells] H) fun v H'=>v=.bool (p e)/\Fm No H H'
structure CB(H0:Hp)(n gb c:Nat)(gv lv iv:AV)(es:List Edge)(ins:List Nat):Prop where
 fe:iH H0 gv es
 fg:H0.get gb=aB 0 [iN n,gv]
 gl:gb<H0.nx
 fc:H0.get c=aB 0 [lv,iv]
 cl:c<H0.nx
 fi:Gl 1 H0 iv n (aI ins)
 fr:∀ e∈es,e.f<n/\e.t<n
 len:es.length<200000
structure CI(H0:Hp)(m:Nat)(L:List Edge)(H:Hp):Prop where
 ex:∃ v,H.get H0.nx=aB 0 [iN m,v]/\Gl 3 H v L.length (z8r L)/\∀ b,In v b->H0.nx<b
 fm:Fm (fun b=>b=H0.nx) H0 H
 lt:H0.nx<H.nx
theorem CI.no{L:List Edge}(h:CI H0 m L H)(f:Fm No H H'):CI H0 m L H':=by obtain⟨v,a,b,c⟩:=h.ex;exact⟨⟨v,(f.keep h.lt).trans a,b.no f,c⟩,h.fm.then f fun _ _ h=>h.elim,lq h.lt f.nx⟩
theorem CB.at{n a c:Nat}{gv lv iv:AV}{es:List Edge}(h:CB H0 n a c gv lv iv es ins)(f:Fm (fun b=>b=H0.nx) H0 H):iH H gv es/\H.get a=aB 0 [iN n,gv]/\a<H.nx/\H.get c=aB 0 [lv,iv]/\c<H.nx/\Gl 1 H iv n (aI ins):=by have i:=h.gl;have j:=h.cl;have k:=f.nx;exact⟨h.fe.keep f.nx fun b d g=>f.get b g (fun e=>by have:=h.fe.lt d;omega),(f.get _ i (by omega)).trans h.fg,by omega,(f.get _ j (by omega)).trans h.fc,by omega,h.fi.fm f fun b d e=>by have:=h.fi.lt d;omega⟩
theorem zti{a:List (List Nat)}(h:jO n aR [] a):a.length<=n:=by
 obtain⟨i,j,k,e,l⟩:=h.all;have b:∀(o:List (List Nat)),(∀c∈o,c≠[])->o.length<=o.flatten.length:=fun o=>by
  induction o with
  |nil=>intro _;exact lh _
  |cons c o ih=>intro h;have f:=ih fun c d=>h c (uu _ d);have g:0<c.length:=lA5.2 (h c qy);rw[bz,ku,gz];omega
 have:=b a e;omega
theorem aUQ(a b:Nat):max (Int.ofNat a) (Int.ofNat b)=Int.ofNat (max a b):=by simp only[qi];omega
theorem qth{O:Ev.Call}{H:Hp}{v:AV}{l:List Nat}(c:Rl H v (aI l))(e:l.length<900000){q:pB}{Q:pH}(g:Ok (q (.int .i64 (.ofNat (jB l))) H) Q):∀(f i:Nat),l.length-i<f->i<=l.length->Ok (q8h O q v (.int .i64 (.ofNat l.length)) f (.int .i64 (.ofNat (jB (l.take i)))) (.int .i64 (.ofNat i)) H) Q
 |0,i,h,_=>by omega
 |f+1,i,h,hi=>by
  show Ok (zhs O _ _ _ (q8h O _ _ _ f) _ _ H) Q;unfold zhs;by_cases a:i<l.length
  ·obtain⟨b,o,m,_,d⟩:=c.at' i (by rw[lV];exact a);rw[qid]at d;have j:=aUQ (jB (l.take i)) l[i];have k:jB (l.take (i+1))=max (jB (l.take i)) l[i]:=by
    unfold jB;rw[lw a,List.foldl_append];rfl
   simp only[go_sem,a];unfold zws;simp only[go_sem,m,d,q65,j];unfold zwt;simp(disch:=go_size)only[go_sem,rB,rI,rK,rL,rN,rS,r6];rw[<-k];exact qth c e g f (i+1) (by omega) (by omega)
  ·simp only[go_sem,a];have:i=l.length:=by omega
   simp_all
theorem zt2(d:qjt C)(e:1<=k){v:AV}{l:List Nat}(b:Rl H v (aI l))(f:l.length<900000):C k (.f 38) [v] H=.ok (.int .i64 (.ofNat (jB l))) H:=by
 obtain⟨j,rfl⟩:=aU e;have a:Ok (C (j+1) (.f 38) [v] H) fun r H'=>r=.int .i64 (.ofNat (jB l))/\H'=H:=by rw[(d j).zBc];unfold zBc z0g;have c:=b.len;rw[lV]at c;simp only[go_sem,c];unfold zwv;rw[bW];refine qth b f ?_ bL 0 (by rw[bZ];omega) (gy _);exact Ok.ret ⟨rfl,rfl⟩
 obtain⟨r,H',h,rfl,rfl⟩:=a;exact h
theorem step_ok(b:qjt C)(c:1<=k)(e:Edge)(H:Hp):Ok (C k (.f 54) [.agg e.cells] H) fun r H'=>r=.int .i64 (.ofNat (vT e))/\Fm No H H':=by
 obtain⟨j,rfl⟩:=aU c;rw[(b j).zBq];unfold zBq zz4 Edge.cells vT;cases a:e.s with
 |true=>simp(disch:=omega)only[go_sem,seval,a];exact Ok.ret ⟨rfl,by(repeat(first|exact Fm.refl _ _|assumption|refine Fm.push ?_ _|refine Fm.fC ?_ (by go_size)|refine Fm.aD ?_ _ _ (by go_size)))⟩
 |false=>simp(disch:=omega)only[go_sem,seval,a];exact Ok.ret ⟨rfl,by(repeat(first|exact Fm.refl _ _|assumption|refine Fm.push ?_ _|refine Fm.fC ?_ (by go_size)|refine Fm.aD ?_ _ _ (by go_size)))⟩
theorem zu4{es:List Edge}{i c:Nat}(a:c<es.length)(b:ins.getD es[c].f 0=i)(d:¬ ins.getD es[c].t 0=i):asks (es.take (c+1)) ins o i=asks (es.take c) ins o i++[o.getD es[c].t 0+vT es[c]]:=by unfold asks;rw[lw a,ag,uj];simp_all
theorem z4e{es:List Edge}{i c:Nat}(a:c<es.length)(h:¬(ins.getD es[c].f 0=i/\¬ ins.getD es[c].t 0=i)):asks (es.take (c+1)) ins o i=asks (es.take c) ins o i:=by unfold asks;rw[lw a,ag,uj];simp_all
theorem zof(es:List Edge)(ins o:List Nat)(i:Nat):(asks es ins o i).length<=es.length:=by unfold asks;rw[pz];exact bu _ _
theorem qpk(I:qjt C){j:Nat}{H1:Hp}{n c ob i:Nat}{gv lv iv:AV}{es:List Edge}{ins o:List Nat}(J:1<=j)(K:iH H1 gv es)(m:es.length<200000)(L:∀ e∈es,e.f<n/\e.t<n)(D:H1.get c=aB 0 [lv,iv])(g:c<H1.nx)(a:Gl 1 H1 iv n (aI ins))(M:H1.get ob=aB 0 (aI o))(l:ob<H1.nx)(v:o.length=n)(s:∀ x,x<n->o.getD x 0<=1000){q:pB}{Q:pH}(N:∀ w H,Gl 1 H w (asks es ins o i).length (aI (asks es ins o i))->Fm No H1 H->(∀b,In w b->H1.nx<=b)->Ok (q w H) Q):∀(f k:Nat) (w:AV) (H:Hp),es.length-k<f->k<=es.length->Gl 1 H w (asks (es.take k) ins o i).length (aI (asks (es.take k) ins o i))->(∀b,In w b->H1.nx<=b)->Fm No H1 H -> Ok (qkd (C j) q (.ptr c 0) (.sl ob 0 n n true) (.int .i64 (.ofNat i)) gv (.int .i64 (.ofNat es.length)) f w (.int .i64 (.ofNat k)) H) Q
 |0,k,w,H,h,_,_,_,_=>by omega
 |f+1,k,w,H,h,hk,hw,hnew,hF=>by
  show Ok (q5c (C j) _ _ _ _ _ _ (qkd (C j) _ _ _ _ _ _ f) _ _ H) Q;unfold q5c;by_cases d:k<es.length
  ·obtain⟨b,p,X,e2,Y⟩:=(K.fm hF).at d;obtain⟨r1,r2⟩:=L es[k] (lg _);have hil:ins.length=n:=by have:=a.len;rw[lV]at this;omega
   obtain⟨b1,o1,Z,c2,_,c3⟩:=(a.no hF).at (qqs ins es[k].f (by omega));obtain⟨b2,o2,c4,c5,_,c6⟩:=(a.no hF).at (qqs ins es[k].t (by omega));have O:H.get c=aB 0 [lv,iv]:=(hF.keep g).trans D;have hcH:c<H.nx:=lq g hF.nx;have k2:H.get ob=aB 0 (aI o):=(hF.keep l).trans M;have P:ob<H.nx:=lq l hF.nx;simp only[go_sem,d];rw[qr5];unfold qvm;have u:Fm No H ((aN H (aB 0 [.int .i64 (.ofNat 0),.int .i64 (.ofNat 0),.bool false])).put H.nx (aB 0 es[k].cells)):=by exact nA
   have R:=zof (es.take k) ins o i;rw[ry]at R;have y:¬(ins.getD es[k].f 0=i/\¬ ins.getD es[k].t 0=i)->Ok (qn6 (C j) (qkd (C j) q (.ptr c 0) (.sl ob 0 n n true) (.int .i64 (.ofNat i)) gv (.int .i64 (.ofNat es.length)) f) w (.int .i64 (.ofNat k)) ((aN H (aB 0 [.int .i64 (.ofNat 0),.int .i64 (.ofNat 0),.bool false])).put H.nx (aB 0 es[k].cells))) Q:=fun hn=>by unfold qn6;simp(disch:=go_size)only[go_sem,rB,rI,rK,rL,rN,rS,r6];exact qpk I J K m L D g a M l v s N f (k+1) w _ (by omega) (by omega) (by rw[z4e d hn];exact hw.no u) hnew (hF.trans u)
   by_cases B:ins.getD es[k].f 0=i
   ·by_cases G:ins.getD es[k].t 0=i
    ·simp(disch:=first|omega|exact ti rfl)only[go_sem,seval,X,Y,Edge.cells,O,Z,c3,c4,c6,B,G];have:=y fun h=>h.2 G;exact this
    ·have v4:=qqs o es[k].t (by omega);have ho4:=s es[k].t r2;simp(disch:=first|omega|exact ti rfl)only[go_sem,seval,X,Y,Edge.cells,O,k2,Z,c3,c4,c6,B,G,v4];generalize t:(Hp.mk ((aN H (aB 0 [.int .i64 (.ofNat 0),.int .i64 (.ofNat 0),.bool false])).put H.nx (aB 0 [.int .i64 (.ofNat es[k].f),.int .i64 (.ofNat es[k].t),.bool es[k].s])).t (H.nx+1+12))=Hx at *;have u:Fm No H Hx:=by rw[<-t];exact Fm.fC u (by omega)
     have nx:Hx.nx=H.nx+1+12:=by rw[<-t]
     have kx:Hx.get H.nx=aB 0 [.int .i64 (.ofNat es[k].f),.int .i64 (.ofNat es[k].t),.bool es[k].s]:=by rw[<-t];exact dL _ _ _
     refine Ok.kF (step_ok I (k:=j) J es[k] Hx) ?_;rintro r E ⟨rfl,F⟩;have S:E.get H.nx=aB 0 [.int .i64 (.ofNat es[k].f),.int .i64 (.ofNat es[k].t),.bool es[k].s]:=(F.keep (by omega)).trans kx;have T:E.get ob=aB 0 (aI o):=((u.trans F).keep P).trans k2;have hst:vT es[k]<=1:=by unfold vT;split<;>omega
     simp(disch:=omega)only[go_sem,seval,S,T,v4];generalize hz:o.getD es[k].t 0+vT es[k]=z at *;have fP:Fm No H (E.put (H.nx+1+9) (aB 0 [AV.int .i64 (.ofNat z)])):=(u.trans F).aD _ _ (by omega);have U:Gl 1 (E.put (H.nx+1+9) (aB 0 [AV.int .i64 (.ofNat z)])) w _ _:=hw.no fP;obtain⟨H3,a1,a2,_,a4,a5⟩:=U.append (w:=8) (k:=1) (x:=[AV.int .i64 (.ofNat z)]) (by omega) rfl (by omega) (by omega);refine Ok.xW a1 ?_;unfold qn6;simp(disch:=go_size)only[go_sem,rB,rI,rK,rL,rN,rS,r6];have V:=zu4 (o:=o) d B G;rw[hz]at V;have W:aI (asks (es.take k) ins o i)++[AV.int .i64 (.ofNat z)]=aI (asks (es.take (k+1)) ins o i):=by rw[V];simp[aI]
     have A:(asks (es.take (k+1)) ins o i).length=(asks (es.take k) ins o i).length+1:=by rw[V,ku];rfl
     rw[W,<-A]at a2;rw[<-A];have hn1:=hF.nx;have hn2:=F.nx;refine qpk I J K m L D g a M l v s N f (k+1) _ H3 (by omega) (by omega) a2 (fun b hb=>?_) ((hF.trans fP).then a4 fun c D h=>by have:=hnew c h;omega);obtain⟨_,_,_,_,h⟩:=hb;cases h;omega
   ·simp(disch:=first|omega|exact ti rfl)only[go_sem,seval,X,Y,Edge.cells,O,Z,c3,B];have:=y fun h=>B h.1;exact this
  ·simp only[go_sem,d];have:k=es.length:=by omega
   subst this;rw[uz]at hw;exact N w H hw hF hnew
theorem q0f(A:qjt C){j:Nat}(B:1<=j){H1:Hp}{n ob:Nat}{w m:AV}{l c o:List Nat}(D:Gl 1 H1 w l.length (aI l))(E:l.length<900000)(d:∀ b,In w b->b≠ob)(F:Gl 1 H1 m c.length (aI c))(r:c.length<900000)(e:∀ b,In m b->b≠ob)(g:∀ x∈c,x<n)(i:o.length=n){q:pD}{Q:pH}(G:∀ H,H.get ob=aB 0 (aI (yY o (jB l) c))->Fm (fun b=>b=ob) H1 H->Ok (q H) Q):∀(f k:Nat) (H:Hp),c.length-k<f->k<=c.length->H.get ob=aB 0 (aI (yY o (jB l) (c.take k)))->Fm (fun b=>b=ob) H1 H -> Ok (qvj (C j) q (.sl ob 0 n n true) w m (.int .i64 (.ofNat c.length)) f (.int .i64 (.ofNat k)) H) Q
 |0,k,H,h,_,_,_=>by omega
 |f+1,k,H,h,hk,hg,hF=>by
  show Ok (q5d (C j) _ _ _ _ _ (qvj (C j) _ _ _ _ _ f) _ H) Q;unfold q5d;by_cases a:k<c.length
  ·have s:Gl 1 H m c.length (aI c):=F.fm hF e;have t:Rl H w (aI l):=(D.fm hF d).rl;obtain⟨b,p,J,_,_,K⟩:=s.at (show(aI c)[k]? =some (.int .i64 (.ofNat c[k]))from qm3 c k a);have L:=g c[k] (lg _);have u:=zt2 A (k:=j) B t E;have I:(yY o (jB l) (c.take k)).length=n:=by rw[qp0,i]
   have v:=qjj (yY o (jB l) (c.take k)) c[k] (jB l) (by omega);have y:c[k]+1<=(aI (yY o (jB l) (c.take k))).length:=by rw[lV];omega
   have z:(yY o (jB l) (c.take k)).set c[k] (jB l)=yY o (jB l) (c.take (k+1)):=by rw[lw a,qtk]
   simp only[go_sem,a];unfold zh2;simp(disch:=omega)only[go_sem,seval,J,K,u,hg,v,y,qg,pq,gz,uk];unfold zh3;simp(disch:=go_size)only[go_sem,rB,rI,rK,rL,rN,rS,r6];rw[z];exact q0f A B D E d F r e g i G f (k+1) _ (by omega) (by omega) (dL _ _ _) (hF.put _ _ fun _=>rfl)
  ·simp only[go_sem,a];have:k=c.length:=by omega
   simp_all
theorem q0h(E:qjt C){j:Nat}(F:1<=j){HB H0 H1:Hp}{n t c:Nat}{gv lv iv:AV}{m:List AV}{es:List Edge}{ins:List Nat}{a:List (List Nat)}(hn:n<=256)(R:iH H0 gv es)(p:es.length<200000)(G:∀ e∈es,e.f<n/\e.t<n)(S:H0.get t=aB 0 [.int .i64 (.ofNat n),gv])(u:t<H0.nx)(T:H0.get c=aB 0 [lv,iv])(r:c<H0.nx)(k:CR HB H0 n lv iv m a ins)(v:NmC n a ins)(d:∀ o∈a,∀x∈o,x<n)(hd:∀ e∈es,ins.getD e.t 0<=ins.getD e.f 0)(I:a.length<=n)(y:∀ o∈a,o.length<=n)(z:Fm No H0 H1)(J:H0.nx<H1.nx){q:pD}{Q:pH}(U:∀ o H,rZ n es ins a.length o->H.get H0.nx=aB 0 (aI o)->Fm (fun b=>b=H0.nx) H1 H->Ok (q H) Q):∀(f i:Nat) (o:List Nat) (H:Hp),a.length-i<f->i<=a.length->rZ n es ins i o->H.get H0.nx=aB 0 (aI o)->Fm (fun b=>b=H0.nx) H1 H -> Ok (qke (C j) q (.ptr t 0) (.ptr c 0) (.sl H0.nx 0 n n true) lv (.int .i64 (.ofNat a.length)) f (.int .i64 (.ofNat i)) H) Q
 |0,i,o,H,h,_,_,_,_=>by omega
 |f+1,i,o,H,h,hi,hO,hgo,hF=>by
  show Ok (qn7 (C j) _ _ _ _ _ _ (qke (C j) _ _ _ _ _ _ f) _ H) Q;unfold qn7;by_cases hil:i<a.length
  ·have s:∀ b,b<H0.nx->H.get b=H0.get b:=fun b g=>(hF.get b (by omega) (by omega)).trans (z.keep g);have l:H0.nx<=H.nx:=by have:=hF.nx;omega
   have aEu:=k.len;have W:iH H gv es:=R.keep l fun b g d=>s b d;have gI:Gl 1 H iv n (aI ins):=k.gi.keep l fun b g d=>s b d;have gL:Gl 1 H lv m.length m:=k.gl.keep l fun b g d=>s b d;obtain⟨Z,_,_⟩:=k.at' i (m[i]'(by omega)) (a[i]'hil) (by simp) (by simp);have gC:Gl 1 H (m[i]'(by omega)) (a[i]'hil).length (aI (a[i]'hil)):=Z.keep l fun b g d=>s b d;have L:∀ b,In (m[i]'(by omega)) b->b<H0.nx:=fun b g=>Z.lt g;obtain⟨b1,o1,e1,_,_,e2⟩:=gL.at (i:=i) (x:=m[i]'(by omega)) (by simp);have M:∀ x,x<n->(x∈a[i]'hil↔ins.getD x 0=i):=fun x D=>by
    constructor
    ·intro h;exact v.is i _ x (lL hil) h
    ·intro h;obtain⟨j',o',X,Y⟩:=v.all x D;have:=v.is j' o' x X Y;rw[h]at this;subst this;simp_all
   have N:=d _ (lg hil);have bZE:=y _ (lg hil);have k1:H.get t=aB 0 [.int .i64 (.ofNat n),gv]:=(s t u).trans S;have k2:H.get c=aB 0 [lv,iv]:=(s c r).trans T;have e0:=W.len;generalize m[i]'(by omega)=cw at *;generalize a[i]'hil=co at *;simp only[go_sem,hil];unfold zh0;simp only[go_sem,e1,e2,k1,e0];unfold zh5;rw[bW];have O:∀ x,x<n->o.getD x 0<=1000:=fun x D=>by have X:=hO.bd x D;have Y:=v.lt D;omega
   refine qpk E F W p G k2 (lq r l) gI hgo (by have:=hF.nx;omega) hO.len O (fun w V hw K A=>?_) bL 0 .aA H (by rw[bZ];omega) (gy _) (by simpa [asks,aI] using Gl.nil 1 H) (fun b g=>by obtain⟨_,_,_,_,h⟩:=g;cases h) (Fm.refl _ _);unfold qvn;have B:=gC.no K;have e3:=B.bS;simp only[go_sem,e3];unfold zh6;rw[bW];have hal:=zof es ins o i;have P:H0.nx<H.nx:=by have:=hF.nx;omega
   refine q0f E F (H1:=V) (o:=o) hw (by omega) (fun b g=>by have:=A b g;omega) B (by omega) (fun b g=>by have:=L b g;omega) N hO.len (fun H3 g3 f3=>?_) bL 0 V (by rw[bZ];omega) (gy _) ((K.keep P).trans hgo) (Fm.refl _ _);unfold q5b;simp(disch:=go_size)only[go_sem,rB,rI,rK,rL,rN,rS,r6];exact q0h E F hn R p G S u T r k v d hd I y z J U f (i+1) _ H3 (by omega) (by omega) (hO.step G M hd) g3 ((hF.then K fun _ _ h=>h.elim).then f3 fun _ _ h=>h)
  ·simp only[go_sem,hil];have:i=a.length:=by omega
   subst this;exact U o H hO hgo hF
theorem zth{es:List Edge}(f:∀ e∈es,e.f<n/\e.t<n){a:List (List Nat)}(i:jO n (iB es) [] a)(h:NmC n a ins):∀ e∈es,ins.getD e.t 0<=ins.getD e.f 0:=fun e b=>by
 obtain⟨k,l⟩:=f e b;obtain⟨j,o,c,d⟩:=h.all e.f k;rcases qz7 i c d l (qcp.2 ⟨e,b,rfl,rfl⟩)with g|⟨j',c',g1,g2,g3⟩
 ·simp at g
 ·rw[h.is j o e.f c d,h.is j' c' e.t g2 g3];exact g1
theorem z2a{a:List (List Nat)}(c:jO n aR [] a)(d:∀(j:Nat) (o:List Nat) (x:Nat),a[j]? =some o->x∈o->ins[x]? =some j):NmC n a ins:=⟨fun j o y e f=>by
  rw[kw,d j o y e f];rfl,fun y g=>by
  obtain⟨l,m,h,p,q⟩:=c.all;obtain⟨o,i,b⟩:=ny.1 (h y g);obtain⟨j,k⟩:=lAI.1 i;exact⟨j,o,k,b⟩⟩
theorem qtz(hC:aV C)(hY:qjt C)(hO:pI C)(hS:nV C)(hR:oZ LA LO C)(hk:1002<=k){es:List Edge}(g:y7 n es)(J:n<=256)(v:es.length<900)(K:iH H gv es):Ok (C k (.f 23) [.agg [.int .i64 (.ofNat n),gv]] H) fun r H'=>Fm No H H' /\ ((∃w o,r=.aX [w,.int .i64 (.ofNat 0)]/\Gl 1 H' w n (aI o)/\jM w=.val (.int .i64 (.ofNat n))/\Fit n es o/\Lst n es o/\∀ x,x<n->o.getD x 0<n) \/ (r=.aX [.aA,.int .i64 (.ofNat 12)]/\∃ e∈es,e.s=true/\Rc (iB es) e.t e.f)):=by
 obtain⟨j,rfl⟩:=aU hk;rw[(hY j).zAu];unfold zAu z0l;simp(disch:=go_size)only[go_sem,seval];have N:Fm No H (aN H (aB 0 [.int .i64 (.ofNat n),gv])):=by exact mG
 refine Ok.ve (z4l hC hO hS hR (k:=j) (by omega) g J (by omega) (K.fm N)) ?_;rintro r H1 ⟨lv,iv,os,d9,out,ins,res,rfl,aCv,A,I⟩;have p:=aCv.ord g.rng;have n1:H.nx+1<=H1.nx:=I.nx;have g1:H1.get H.nx=aB 0 [.int .i64 (.ofNat n),gv]:=(I.keep (by simp only[np,nq];omega)).trans (jA _ _);have O:∀ x y a b:AV,aY [a,b] 0 [x,y]=[x,y]:=fun _ _ _ _=>rfl;have G:Fm No H1 ((aN H1 (aB 0 [.aA,.aA])).put H1.nx (aB 0 [lv,iv])):=by exact nA
 simp(disch:=omega)only[go_sem,seval,O,gz,uk];generalize F:(aN H1 (aB 0 [AV.aA,AV.aA])).put H1.nx (aB 0 [lv,iv])=H2 at *;have c2:H2.get H1.nx=aB 0 [lv,iv]:=by rw[<-F,dL]
 have n2:H2.nx=H1.nx+1:=by rw[<-F];rfl
 have g2:H2.get H.nx=aB 0 [.int .i64 (.ofNat n),gv]:=(G.keep (by omega)).trans g1;rw[qr3];unfold qvk;simp(disch:=go_size)only[go_sem,rB,rI,rK,rL,rN,rS,r6,g2];refine Ok.ve (zvh hC hO hS hR (k:=j) (by omega) g J v (((K.fm N).fm I).fm G)) ?_;rintro r i ⟨wx,B,cBc,R3,rfl,hF3,aEs,bPa,D,hx3,cAI,hRl,E⟩;have P:=hF3.uniq p;subst P;have n3:=E.nx;have d:=((N.trans I).trans G).trans E;have Q:=hx3.len;rw[lV]at Q;have u:=z2a p A.ins;have q:=z2a p aEs;by_cases hm:R3=[]
 ·subst hm;have R:aF wx=.val (.int .i64 (.ofNat 0)):=Q;simp only[go_sem,R,xq];rw[qr4];unfold qvl;have T:i.get H.nx=aB 0 [.int .i64 (.ofNat n),gv]:=(E.keep (by omega)).trans g2;have U:i.get H1.nx=aB 0 [lv,iv]:=(E.keep (by omega)).trans c2;have hd:=zth g.rng p u;have V:∀ e∈es,e.s=true->d9.getD e.f 0≠d9.getD e.t 0:=fun e m L h=>by
   obtain⟨l1,l2⟩:=g.rng e m;rw[u.same q l1,u.same q l2]at h;have:=(D _).2 (zan.2 ⟨e,m,L,h,rfl⟩);cases this
  have hL:=zti p;have s:=A.no (G.trans E);obtain⟨z1,z2,z3,z4,z5⟩:=p.all;have t:=s.gl.bS;rw[s.len]at t;by_cases h0:0<n
  ·have mk:=qd8 [.int .i64 (.ofNat 0)] 8 i.nx n (by omega) (by omega);rw[qdi,qm2]at mk;simp only[go_sem,T,h0,mk];rw[qkf];unfold qmm;have c4:(aN i (aB 0 (aI (List.replicate n 0)))).get H1.nx=aB 0 [lv,iv]:=by rw[qbi _ _ _ (by omega)];exact U
   simp only[go_sem,c4,t];unfold q5f;rw[bW];refine q0h hY (j:=j) (by omega) (HB:=aN H (aB 0 [.int .i64 (.ofNat n),gv])) (H0:=i) (H1:=aN i (aB 0 (aI (List.replicate n 0)))) J (K.fm d) (by omega) g.rng T (by omega) U (by omega) s u (fun o M x f=>z2 x (ny.2 ⟨o,M,f⟩)) hd hL (fun o M=>?_) ((Fm.refl _ _).push _) (dC _) (fun o H4 z g4 f4=>?_) bL 0 (List.replicate n 0) _ (by rw[bZ];omega) (gy _) (rZ.start n es d9) (jA _ _) (Fm.refl _ _)
   ·have:o.length<=B.flatten.length:=(List.sublist_flatten_of_mem M).length_le;omega
   ·unfold q8j;obtain⟨d1,d2,d3⟩:=z.done g.rng u p hd V;have n4:=f4.nx;have n4':i.nx+1<=H4.nx:=n4;refine Ok.ret ⟨(d.push _).then f4 fun c hc h=>by have:=d.nx;omega,Or.inl ⟨_,o,rfl,⟨by rw[lV,z.len,qg],.inr ⟨i.nx,0,true,0,_,rfl,g4,gy _,lAA,Or.inl rfl,by omega⟩⟩,rfl,d1,d2,fun x f=>?_⟩⟩;have h1:=d3 x f;have h2:=u.lt f;omega
  ·have W:n=0:=by omega
   subst W;simp only[go_sem,T,xq];rw[qkf];unfold qmm;have X:B=[]:=tq.1 (by omega);subst X;have Y:aF lv=.val (.int .i64 (.ofNat 0)):=t;simp only[go_sem,U,Y,xq];unfold q5f;rw[bW];show Ok (qn7 (C j) _ _ _ _ _ _ (qke (C j) _ _ _ _ _ _ 999999) _ i) _;unfold qn7;have Z:es=[]:=by
    rcases List.eq_nil_or_concat es with h|⟨l,e,h⟩
    ·exact h
    ·have:=g.rng e (by rw[h];simp);omega
   exact Ok.ret ⟨d,Or.inl ⟨_,[],rfl,Gl.nil _ _,rfl,⟨rfl,fun e m=>by rw[Z]at m;cases m⟩,fun S _ x f=>absurd f (ak _),fun x f=>absurd f (ak _)⟩⟩
 ·have hp:0<R3.length:=lA5.2 hm;simp only[go_sem,Q,hp];obtain⟨x,f⟩:=List.exists_mem_of_ne_nil R3 hm;obtain⟨e,m,L,h1,_⟩:=zan.1 ((D x).1 f);obtain⟨l1,l2⟩:=g.rng e m;exact Ok.ret ⟨d,Or.inr ⟨rfl,e,m,L,((q.eq p l1 l2).1 h1).2⟩⟩
end Go.Di
end
noncomputable section
namespace Go.Di
open Go.Ev Go.Di.T Go.Sort
def lvN(s:SS):Nat:=lvl ((s.a-12402) / 256)
theorem qpp(n:Nat):lvN (fD n)=lvl n:=by unfold lvN fD lvl;simp
def y9(n:Nat)(s:SS)(neg:Bool):Prop:=lvN s<lvl n\/(neg=false/\lvN s=lvl n)
theorem zmw{n k:Nat}{neg:Bool}(h:qlv n k neg=true):y9 n (fD k) neg:=by unfold qlv at h;unfold y9;rw[qpp];simpa using h
def NdL(n:Nat)(y:Nd):Prop:=(y.k=1->y.neg=false)/\(y.k=2->y9 n y.rl y.neg)/\(y.k=3->y9 n y.to y.neg)
theorem qxj{n:Nat}{neg:Bool}(a:neg=true->0<lvl n):∀ y∈(qjk neg).nodes neg,NdL n y:=by
 unfold qjk;cases neg
 ·intro y b;simp[Ru.nodes]at b;subst b;exact⟨fun _=>rfl,fun h=>by simp at h,fun h=>by simp at h⟩
 ·intro y b;simp[Ru.nodes]at b;subst b;refine⟨fun h=>by simp at h,fun _=>.inl ?_,fun h=>by simp at h⟩;rw[qpp];exact a rfl
theorem q6j{L:List (List Nat)}{n:Nat}(f:n<bD L):∀(d i:Nat) (neg:Bool),(neg=true->0<lvl n)->∀ y∈(eO L n d i neg).1.nodes neg,NdL n y
 |0,i,neg,h=>by unfold eO;exact qxj h
 |d+1,i,neg,hneg=>by
  have l:At (bD L) n neg:=⟨f,xh _ _,hneg⟩;unfold eO;split
  ·exact qxj hneg
  split
  ·exact qxj hneg
  split
  ·have c:=qx3 l;have g:=qfm (d:=sE) (xy (eD L n i / 8) c);intro y a;simp[aAu,Ru.nodes]at a;subst a;refine⟨fun h=>by simp at h,fun _=>?_,fun h=>by simp at h⟩;have:∀ s∈cmpL (bD L) n neg,y9 n s neg:=fun s b=>by
    obtain⟨k,e,rfl⟩:=qj.1 b;exact zmw (xg.1 e).2
   simp_all
  split
  ·unfold uL;split
   ·exact qxj hneg
   ·rename_i h;have g:=qfm (d:=(⟨sE,sE⟩:ArS)) (xy (eD L n i / 8) (show 0<(kU L n neg).length by omega));intro y a;simp only[Ru.nodes,gq]at a;subst a;refine⟨fun h=>by simp at h,fun h=>by simp at h,fun _=>?_⟩;have:∀ s∈kU L n neg,y9 n s.to neg:=fun s b=>by
     obtain⟨i,_,b⟩:=dE.1 b;obtain⟨t,_,b⟩:=dE.1 b;obtain⟨j,m,rfl⟩:=qj.1 b;have c:=(xg.1 m).2;unfold arP at c;rw[qc]at c;exact zmw c.2
    exact this _ g
  ·intro y a;rw[Ru.nodes,qm,pg]at a;have e:vB n (eD L n i)≠1/\vB n (eD L n i)≠2/\vB n (eD L n i)≠3:=by unfold vB;split<;>(try split)<;>omega
   rcases a with rfl|a|a
   ·exact⟨fun h=>absurd h e.1,fun h=>absurd h e.2.1,fun h=>absurd h e.2.2⟩
   ·exact q6j f d _ _ hneg _ a
   ·refine q6j f d _ _ (fun h=>?_) _ a;rw[ig,zy]at h;rcases h with h|h
    ·exact hneg h
    ·unfold vB at h;split at h
     ·omega
     split at h
     ·omega
     ·omega
theorem zsd{L:List (List Nat)}{n:Nat}(b:n<bD L){t:jP}(h:t∈kE L n)(e:t.rl≠sE):lvN t.rl<=lvl n:=by
 unfold kE at h;rw[pg]at h;rcases h with h|h
 ·unfold tO at h;rw[qm]at h;rcases h with rfl|h
  ·trivial
  ·rw[qj]at h;obtain⟨i,_,rfl⟩:=h;trivial
 ·split at h
  ·rw[gq]at h;have a:=qfm (d:=(⟨sE,sE⟩:jP)) (xy (eD L n 1 / 2) (qwq b));rw[<-h]at a;unfold qG at a;rw[qj]at a;obtain⟨k,c,rfl⟩:=a;rw[xg]at c;rw[qpp];simp_all
  ·cases h
variable {L:List (List Nat)} {X:List aM}
theorem pJ.len(h:pJ L X):(aJ X).length=bD L:=by rw[h.all];simp
theorem pJ.aFM(h:pJ L X){a b:SS}(d:bR X a b<(aJ X).length):lvl (bR X a b)=lvN b:=by
 have g:(aJ X)[bR X a b]=(a,b):=by have:=List.findIdx_getElem (w:=d);exact of_decide_eq_true this
 have f:(aJ X)[bR X a b]=prN (bR X a b):=by
  have:∀(l:List (SS×SS)) (c:bR X a b<l.length),l=(List.range (bD L)).map prN->l[bR X a b]=prN (bR X a b):=fun l c e=>by subst e;simp
  exact this _ d h.all
 rw[g]at f;have i:=congrArg Prod.snd f;have j:b=fD (bR X a b):=i
 calc lvl (bR X a b)=lvN (fD (bR X a b)):=(qpp _).symm
  _=lvN b:=by rw[<-j]
theorem pJ.lev(h:pJ L X){e:Edge}(b:e∈yU X X)(u:e.f<(aJ X).length)(v:e.t<(aJ X).length):lvl e.t<=lvl e.f/\(e.s=true->lvl e.t<lvl e.f):=by
 obtain⟨g,B,b⟩:=dE.1 b;obtain⟨x,C,b⟩:=dE.1 b;obtain⟨y,q,b⟩:=dE.1 b;obtain⟨p,a,rfl⟩:=qj.1 b;obtain⟨i,n,_,_,_,_,r,l⟩:=h.x B C;have k:x.r.name=fD n:=by rw[l,qeb];rfl
 have w:lvl (bR X g.name x.r.name)=lvl n:=by rw[h.aFM u,k,qpp]
 have z:lvl (bR X p.1 p.2)=lvN p.2:=h.aFM v;show lvl (bR X p.1 p.2)<=lvl (bR X g.name x.r.name)/\(y.neg=true->lvl (bR X p.1 p.2)<lvl (bR X g.name x.r.name));rw[w,z];have A:x.r.rule=(eO L n 6 2 false).1:=by rw[l,qbz];rfl
 rw[A]at q;obtain⟨D,E,F⟩:=q6j r 6 2 false (fun h=>by cases h) y q;have c:∀ s,y9 n s y.neg->lvN s<=lvl n/\(y.neg=true->lvN s<lvl n):=fun s j=>by
  rcases j with j|⟨e,j⟩
  ·omega
  ·simp_all
 unfold yL at a;split at a
 ·rename_i d;obtain⟨t,m,rfl⟩:=qj.1 a;obtain⟨f,o⟩:=xg.1 m;have:t∈kE L n:=by
   rw[l]at f;exact qgj _ _ t f
  exact⟨zsd r this (by simpa using o),fun h=>by rw[D d]at h;cases h⟩
 split at a
 ·rename_i d;rw[gq]at a;subst a;exact c _ (E d)
 split at a
 ·rename_i d;obtain⟨s,_,rfl⟩:=qj.1 a;exact c _ (F d)
 ·cases a
theorem zlv{n:Nat}{es:List Edge}{lv:Nat->Nat}(h:∀ e∈es,lv e.t<=lv e.f/\(e.s=true->lv e.t<lv e.f)):¬ ∃e∈es,e.s=true/\Rc (iB es) e.t e.f:=by
 rintro ⟨e,f,g,i⟩;have c:∀ a b,Rc (iB es) a b->lv b<=lv a:=fun a b d=>by
  induction d with
  |refl=>exact lh _
  |step _ hc ih=>obtain⟨j,k,l,m⟩:=qcp.1 hc;have:=(h j k).1;rw[l,m]at this;omega
 have:=c _ _ i;have:=(h e f).2 g;omega
end Go.Di
end
noncomputable section
namespace Go.Di
open Go.Ev Go.Di.T Go.Sort
variable {C:Nat->Ev.Call} {LA LO:LP} {L:List (List Nat)} {X:List aM}
def rM(X:List aM):List Edge:=jD (sortE (yU X X))
theorem qtn{n:Nat}(ms:List Nat)(a:n<13):(eF n ms).length<900:=by have:=zx0 n ms n;have h:n*n<=12*12:=Nat.mul_le_mul (by omega) (by omega);unfold eF;rw[pz];omega
theorem pJ.es(h:pJ L X):y7 (aJ X).length (rM X)/\(rM X).length<900:=by have e:rM X=eF (aJ X).length _:=h.val.same.symm;rw[e];exact⟨qdn _ _,qtn _ (by rw[h.len];exact qku L)⟩
theorem pJ.nb(h:pJ L X):¬ ∃e∈rM X,e.s=true/\Rc (iB (rM X)) e.t e.f:=zlv (n:=0) (lv:=lvl) fun e a=>by have b:=h.es.1.rng e a;exact h.lev (qze.1 (zno.1 a)) b.1 b.2
structure bQR(X:List aM)(o:List Nat):Prop where
 fit:Fit (aJ X).length (rM X) o
 lst:Lst (aJ X).length (rM X) o
 lt:∀ x,x<(aJ X).length->o.getD x 0<(aJ X).length
structure SOK(X:List aM):Prop where
 val:bX X
 es:y7 (aJ X).length (rM X)/\(rM X).length<900
 len:(aJ X).length<13
 nb:¬ ∃e∈rM X,e.s=true/\Rc (iB (rM X)) e.t e.f
end Go.Di
end
