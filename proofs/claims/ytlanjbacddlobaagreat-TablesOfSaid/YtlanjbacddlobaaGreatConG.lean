/-
 For TablesOf: functions in direct style, their contracts, and the plain mathematics, part 7 of 10. No conditions beyond those that each theorem states.
-/
import Derived.Test.YtlanjbacddlobaaGreatConA
import Derived.Test.YtlanjbacddlobaaGreatConF
import Derived.Test.YtlanjbacddlobaaGreatConD
import Derived.Test.YtlanjbacddlobaaGreatConE
set_option linter.unusedSimpArgs false
set_option linter.unusedVariables false
open Nat renaming reduceAdd->rB,reduceMul->rI,reduceSub->rK,reduceLeDiff->rL,reduceEqDiff->rN,reduceShiftRight->rS,reduceAnd->r8
noncomputable section
namespace Go.Di
open Go.Ev Go.Di.T
variable {C:Nat->Ev.Call} {LA LO:LP}
variable {H H0:Hp} {N j k n tb:Nat} {aS:Nat->List Nat} {col:Nat->Nat}
theorem zw0{α:Type}(f:Nat->α)(i:Nat):upd f i (f i)=f:=funext fun j=>by
 by_cases e:j=i
 ·rw[e,upd_same]
 ·rw[upd_ne _ _ e]
theorem zx4{a b:List Nat}(d:a.Perm b)(e:b.Nodup)(h:a.Pairwise (· <= ·)):a.Pairwise (· < ·):=by have c:a.Pairwise (· ≠ ·):=d.nodup_iff.2 e;exact(h.and c).imp fun⟨f,g⟩=>Nat.lt_of_le_of_ne f g
def aNN(H0:Hp)(N:Nat)(aS:Nat->List Nat)(s:TS)(l:List (Nat×Nat))(u tb:Nat)(v:AV)(H1:Hp):Prop:=
 ∃(s1:TS) (wE:Nat->Nat),TM H0 aS s1 wE tb H1/\Gs 2 H1 v (l.length+1) (yQ (l++[(u,(aS u).length)]))/\(∀c,In v c->wE c=3)/\(l=[]->TI N aS s1 []) /\
  (∀l' up jj,l=l'++[(up,jj)]->up<256/\TI N aS {s1 with low:=upd s1.low up (min (s1.low up) (s1.low u))} l)/\Le s s1/\s1.cnt=s.cnt
theorem z9y(J:aU C)(M:uZ C)(O:tJ C)(P:uI LA LO C)(Q:300<=j)(R:q9c N aS){l:List (Nat×Nat)}{u:Nat}{v:AV}{s:TS}(b:WS H0 N aS s (l++[(u,(aS u).length)]) col tb v H):Ok (C j (.f 172) [.ptr tb 0,.int .i64 (.ofNat u)] H) fun r H1=>r=.bB []/\aNN H0 N aS s l u tb v H1:=by
 have a:=b.ti;have B:(l++[(u,(aS u).length)]).length=l.length+1:=by simp
 have z:=b.fr;rw[B]at z;have D:u∈s.stk:=a.mF (by rw[qR];simp);have S:=R.le;have m:∀ x∈s.stk,x<256:=fun x A=>af (a.mR x A) S;have n:∀{w up y},l=w++[(up,y)]->up∈dP l:=fun{w up y} e=>by rw[e,qR];simp
 have f:∀{x},x∈dP l->x∈s.stk:=fun{x} A=>a.mF (by rw[qR];exact lOA _ A);by_cases t:s.low u<s.num u
 ·refine⟨_,_,zyp J om b.tm (m u D) t,rfl,s,col,b.tm,z,b.fc,fun e=>?_,fun w up y e=>?_,Le.refl _,rfl⟩
  ·subst e;exact absurd t a.root
  ·subst e;exact⟨m _ (f (n rfl)),a.pop t⟩
 ·obtain⟨pre,post,G⟩:=List.append_of_mem D;have g:=a.nd;rw[G]at g;have p:u∉pre:=fun h=>(lOM.1 g).2.2 u h u lIH rfl;have i:=(lOM.1 g).2.1;have T:=a.pW;have U:=a.lV;have E:s.stk.length<=256:=om;have F:s.out.length<=256:=by
   have V:s.out.length<=s.out.flatten.length:=by
    have:∀(o:List (List Nat)),(∀c∈o,c≠[])->o.length<=o.flatten.length:=fun o=>by
     induction o with
     |nil=>intro _;exact lEO _
     |cons c o ih=>intro h;have V:=ih fun c d=>h c (lIS _ d);have h2:0<c.length:=lUR.2 (h c lIH);rw[lOR,lEP,lEX];omega
    refine this _ fun c d e=>?_;obtain⟨_,r,hr,_⟩:=a.pY c d;simp_all
   omega
  refine(zqn J M O P Q b.tm (m u D) t G p E m F).mono ?_;rintro r H1 ⟨rfl,comp,I,q,L,Z,c3,c4,t1,f1⟩;have K:=a.leave t G L (zx4 L i Z) I c3;refine⟨rfl,_,q,t1,?_,?_,?_,?_,⟨fun _ h=>h,lEO _⟩,rfl⟩
  ·obtain⟨_,_,_,_,hM⟩:=b.tm;exact z.fm f1 fun c d=>by
    rintro (e|e)
    ·have:=b.fc c d;rw[e,hM.ct]at this;cases this
    ·have:=b.fc c d;rw[e]at this;cases this
  ·exact fun c d=>(c4 c (z.lt d)).trans (b.fc c d)
  ·rintro rfl;exact K
  ·intro w up y e;have k:=n e;refine⟨m _ (f k),?_⟩;have W:=a.top k;have X:=a.kF up (f k);have Y:min (s.low up) (s.low u)=s.low up:=lOE om;rw[Y,zw0];exact K
theorem zwy(hC:aU C)(hO:uZ C)(hS:tJ C)(hR:uI LA LO C)(hj:300<=j)(G:q9c N aS){l:List (Nat×Nat)}{u V W:Nat}{v:AV}{s:TS}{g3:pH}{Q:pS}(hp:aG 2 v (.int .i64 (.ofNat l.length))=.val (.ptr V W))(n:WS H0 N aS s (l++[(u,(aS u).length)]) col tb v H)(X:∀ Y H' I w,WS H0 N aS I l w tb Y H'->Le s I->I.cnt=s.cnt->Ok (g3 Y H') Q):Ok (qxg (C j) g3 (.ptr tb 0) v (.ptr V W) H) Q:=by
 unfold qxg;have J:(l++[(u,(aS u).length)]).length=l.length+1:=by simp
 have Z:=n.fr;rw[J]at Z;obtain⟨b,o,e1,e2,e3,e4,e5,_⟩:=Z.aCL;rw[hp]at e1;cases e1;have hlen:l.length<=256:=by have f:=n.ti.aAD;have h2:=n.ti.lV;have h3:=n.ti.pW;have h4:=G.le;omega
 have bUJ:u<256:=by have:=n.ti.mR u (n.ti.mF (by rw[qR];simp));have:=G.le;omega
 simp only[go_sem,lI1,lEW,e4,lO7];refine Ok.ve (z9y hC hO hS hR hj G n) ?_;rintro r H1 ⟨rfl,a,E,⟨nx,sv,ov,cs,g⟩,z,O,h0,f,q,m⟩;have g1:=g.get;have B:=z.aX;obtain⟨P,R,S,T,D,F,e9⟩:=z.upto (k:=l.length) om om;have K:(yQ (l++[(u,(aS u).length)])).take (l.length*2)=yQ l:=by rw[qdm,lUX (by rw[qgx];exact lEO _),lIW (by rw[qgx];exact lEO _)]
 rw[K]at F;have p:∀ c,In (.sl P R l.length S T) c->E c=3:=fun c t=>O c (e9 c t);rcases List.eq_nil_or_concat l with rfl|⟨A,⟨up,jj⟩,d⟩
 ·have D:lC 2 v none (some (.int .i64 (.ofNat 0))) none=.val (.sl P R 0 S T):=D;have B:aD v=.val (.int .i64 (.ofNat 1)):=B;simp(disch:=first|go_size|omega)only[go_sem,rB,rI,rK,rL,rN,rS,r8,lI1,lEW,B,D];exact X _ H1 a E ⟨⟨nx,sv,ov,cs,g⟩,h0 rfl,F,p⟩ q m
 ·rw[List.concat_eq_append]at d;obtain⟨bXh,U⟩:=f A up jj d;have hll:l.length=A.length+1:=by rw[d];simp
  have x:=F;rw[d,lEP]at x;obtain⟨b6,o6,k1,k2,k3,k4,k5,_⟩:=Gs.aCL (l:=A) (u:=up) (i:=jj) x;have y:0<l.length:=om;have L:l.length-1=A.length:=om;have M:aG 2 (.sl P R l.length S T) (.int .i64 (.ofNat A.length))=.val (.ptr b6 o6):=by simp_all
  simp(disch:=go_size)only[go_sem,rB,rI,rK,rL,rN,rS,r8,lI1,lEW,B,D,y,L,M,k4,g1,zdp,lO7,lX3];have fT:Fm (fun c=>c=tb\/E c=3) H1 (H1.put tb (TB nx {a with low:=upd a.low up (min (a.low up) (a.low u))} sv ov)):=(Fm.refl _ _).put _ _ fun _=>Or.inl rfl;refine X _ _ {a with low:=upd a.low up (min (a.low up) (a.low u))} E ⟨⟨nx,sv,ov,cs,g.step fT (fun c _ h=>h.imp id Or.inr) (fun _ _=>rfl) (dL _ _ _) ?_ g.yM rfl⟩,U,?_,p⟩ ⟨q.1,q.2⟩ m
  ·exact g.stk.keep (lEO _) fun c t _=>dS _ _ _ _ fun e=>by have f:=g.yM c t;rw[e,g.ct]at f;cases f
  ·exact F.keep (lEO _) fun c t _=>dS _ _ _ _ fun e=>by have f:=p c t;rw[e,g.ct]at f;cases f
theorem qyl(r:aU C)(t:uZ C)(w:tJ C)(x:uI LA LO C){j:Nat}(y:300<=j){H0:Hp}{N:Nat}{aS:Nat->List Nat}(e:q9c N aS){tb:Nat}{s0:TS}{q:pL}{Q:pS}(z:∀ H' g a,TM H0 aS g a tb H'->TI N aS g []->Le s0 g->Ok (q H') Q):∀(k:Nat) (v:AV) (H:Hp) (s:TS) (f:List (Nat×Nat)) (col:Nat->Nat),2*(N-s.cnt)+f.length<k->WS H0 N aS s f col tb v H->Le s0 s -> Ok (quj (C j) q (.ptr tb 0) k v H) Q
 |0,v,H,s,f,col,h,_,_=>om
 |k+1,v,H,s,f,col,h,hW,hle=>by
  show Ok (zjs (C j) _ _ (quj (C j) _ _ k) _ H) Q;unfold zjs;have n:=hW.fr.aX;rcases List.eq_nil_or_concat f with rfl|⟨l,⟨u,i⟩,F⟩
  ·have n:aD v=.val (.int .i64 (.ofNat 0)):=n;simp only[go_sem,lI1,lEW,n];exact z H s col hW.tm hW.ti hle
  ·rw[List.concat_eq_append]at F;have p:f.length=l.length+1:=by rw[F];simp
   rw[p]at n h;have I:l.length<=256:=by have U:=hW.ti.aAD;have V:=hW.ti.lV;have W:=hW.ti.pW;have X:=e.le;omega
   have J:0<l.length+1:=om;unfold zay;have E:=hW.fr;rw[p]at E;rw[F]at E hW;obtain⟨b,o,G,k2,Y,Z,k5,_⟩:=E.aCL;simp(disch:=go_size)only[go_sem,rB,rI,rK,rL,rN,rS,r8,lI1,lEW,n,G,lX3];unfold zjt;rw[dD];have S:=e.len u;refine z7x r om e G (fun K H' g A a d c T=>?_) (fun H' g a d c L=>?_) bZ i s col H lf hW (Le.refl s) rfl
   ·exact qyl r t w x y e z k K H' g A a om d (hle.trans c)
   ·refine zwy r t w x y e G d fun M O P B D m R=>?_;exact qyl r t w x y e z k M O P l B om D ((hle.trans c).trans m)
theorem zw2(i:aU C)(p:uZ C)(q:tJ C)(t:uI LA LO C)(u:301<=k)(n:q9c N aS){s:TS}(w:TM H0 aS s col tb H)(l:TI N aS s []){r:Nat}(y:r<N)(o:s.num r=0):Ok (C k (.f 151) [.ptr tb 0,.int .i64 (.ofNat r)] H) fun v H'=>v=.bB []/\∃ b a,TM H0 aS b a tb H'/\TI N aS b []/\Le s b/\0<b.num r:=by
 obtain⟨j,rfl⟩:=aT u;rw[(i j).zCu];have G:=n.le;have B:=l.pW;have D:=l.lV;refine Ok.ve (zdw i (k:=j) om w (v:=r) om om om) ?_;rintro x H1 ⟨rfl,F,I,⟨nx,sv,ov,cs,d⟩,J⟩;unfold zax z07;rw[dD];have tE:TI N aS (s.enter r) ([]++[(r,0)]):=l.enter o y (Or.inl ⟨rfl,rfl⟩);have m:Fm No H1 (aK H1 (aB 0 [.int .i64 (.ofNat r),.int .i64 (.ofNat 0)])):=(Fm.refl _ _).push _;have E:WS H0 N aS (s.enter r) ([]++[(r,0)]) (qvs F H1 3) tb (.sl H1.nx 0 1 1 true) (aK H1 (aB 0 [.int .i64 (.ofNat r),.int .i64 (.ofNat 0)])):=by refine⟨⟨nx,sv,ov,cs,d.step m (fun c _ h=>h.elim) (fun c g=>qbr g) ((m.keep d.lt).trans d.get) (d.stk.fm m fun _ _ h=>h) (fun c g=>by rw[qbr (d.stk.lt g)];exact d.yM c g) rfl⟩,tE,⟨rfl,.inr ⟨H1.nx,0,1,true,0,_,rfl,lEO _,jQ _ _,rfl,rfl,Or.inl rfl,lU6 _⟩⟩,?_⟩;rintro c ⟨_,_,_,_,e⟩;cases e;exact qgt (lEO _)
 refine qyl i p q t om n (s0:=s.enter r) (fun H' b a z A f=>?_) bZ _ _ (s.enter r) ([]++[(r,0)]) _ ?_ E (Le.refl _)
 ·exact Ok.ret ⟨rfl,b,a,z,A,(Le.enter s o).trans f,f.1 r (by show 0<upd s.num r (s.cnt+1) r;rw[upd_same];omega)⟩
 ·rw[yR];show 2*(N-(s.cnt+1))+1<1000000;omega
def jO(es:List Edge)(u:Nat):List Nat:=(es.filter fun e=>decide (e.f=u)).map Edge.t
theorem zgh(es:List Edge)(e:Edge)(u:Nat):jO (es++[e]) u=if e.f=u then jO es u++[e.t]else jO es u:=by
 unfold jO;by_cases h:e.f=u
 ·simp[h]
 ·simp[h]
theorem q4c(es:List Edge)(u:Nat):(jO es u).length<=es.length:=by unfold jO;rw[lET];exact lU2 _ _
theorem qdx{es:List Edge}{u k:Nat}:k∈jO es u↔∃ e∈es,e.f=u/\e.t=k:=by unfold jO;simp only[lIB,lIV,lO8];exact⟨fun⟨e,⟨a,b⟩,c⟩=>⟨e,a,b,c⟩,fun⟨e,a,b,c⟩=>⟨e,⟨a,b⟩,c⟩⟩
def s00:TS:=⟨fun _=>0,fun _=>0,fun _=>false,[],0,[]⟩
theorem TB0:aB 0 (List.replicate 256 (.aA)++List.replicate 512 (.int .i64 (.ofNat 0))++List.replicate 256 (.bool false)++[.aA]++[.int .i64 (.ofNat 0)]++[.aA])=TB (fun _=>.aA) s00 .aA .aA:=by
 refine congrArg (aB 0) ?_
 kernel_rfl
theorem qri{O:Ev.Call}{es:List Edge}(l:es.length<200000){v:AV}{tb:Nat}{H0:Hp}(C:kX H0 v es)(D:∀ e∈es,e.f<256/\e.t<256){Q:pS}{q:pL}(E:∀ H nx col,TMd H0 (jO es) s00 col tb H nx .aA .aA []->Ok (q H) Q):∀(k i:Nat) (H:Hp) (nx:Nat->AV) (col:Nat->Nat),es.length-i<k->i<=es.length->TMd H0 (jO (es.take i)) s00 col tb H nx .aA .aA [] -> Ok (qxk O q (.ptr tb 0) v (.int .i64 (.ofNat es.length)) k (.int .i64 (.ofNat i)) H) Q
 |0,i,H,nx,col,h,_,_=>om
 |k+1,i,H,nx,col,h,hi,hM=>by
  show Ok (q6a O _ _ _ _ (qxk O _ _ _ _ k) _ H) Q;unfold q6a;by_cases d:i<es.length
  ·simp only[go_sem,lI1,lEW,d];unfold zj5;obtain⟨b,o,R,W,S⟩:=(C.fm hM.fm).at d;obtain⟨T,X⟩:=D es[i] (lEQ _);obtain⟨F,y⟩:=hM.nxt es[i].f T;have g1:=hM.get;have f:=hM.lt;have J:=q4c (es.take i) es[i].f;have K:(es.take i).length<=es.length:=by rw[lI6];omega
   simp(disch:=first|omega|exact ti rfl)only[go_sem,seval,lI1,lEW,R,S,Edge.cells,g1,lEX,lIT];have p:Fm No H (Hp.put ⟨((aK H (aB 0 [.int .i64 (.ofNat 0),.int .i64 (.ofNat 0),.bool false])).put H.nx (aB 0 [.int .i64 (.ofNat es[i].f),.int .i64 (.ofNat es[i].t),.bool es[i].s])).t,H.nx+1+14⟩ (H.nx+1+9) (aB 0 [.int .i64 (.ofNat es[i].t)])):=by(repeat(first|exact Fm.refl _ _|assumption|refine Fm.push ?_ _|refine Fm.up2 ?_ (by go_size)|refine Fm.aH ?_ _ _ (by go_size)))
   obtain⟨H',e,z,_,A,nx'⟩:=(F.no p).append (k:=1) (w:=8) (x:=[.int .i64 (.ofNat es[i].t)]) om rfl om om;refine Ok.tT e ?_;have L:H'.nx=H.nx+1+14+1:=nx';have r:¬ In (nx es[i].f) tb:=fun n=>by have:=y tb n;rw[hM.ct]at this;omega
   have m:∀ c,In (nx es[i].f) c->c<H.nx:=fun c a=>F.lt a;have M:H'.get tb=TB nx s00 .aA .aA:=(A.get tb om r).trans ((p.keep f).trans g1);have N:Fm (In (nx es[i].f)) H H':=(p.mono fun _ _ h=>h.elim).trans A;have k2:H'.get H.nx=aB 0 [.int .i64 (.ofNat es[i].f),.int .i64 (.ofNat es[i].t),.bool es[i].s]:=by rw[A.get H.nx om fun n=>lOB _ (m _ n),dS _ _ _ _ om,zqz,dL]
   simp only[go_sem,seval,lI1,lEW,M,k2];unfold zj7;simp(disch:=go_size)only[go_sem,rB,rI,rK,rL,rN,rS,r8,lI1,lEW];have s:es.take (i+1)=es.take i++[es[i]]:=lER d;refine qri l C D E k (i+1) _ (upd nx es[i].f (.sl (H.nx+1+14) 0 ((jO (es.take i) es[i].f).length+1) ((jO (es.take i) es[i].f).length+1) false)) (qvs col H (10+es[i].f)) om om ?_;have t:Fm (fun c=>c=tb\/In (nx es[i].f) c) H (H'.put tb (TB (upd nx es[i].f (.sl (H.nx+1+14) 0 ((jO (es.take i) es[i].f).length+1) ((jO (es.take i) es[i].f).length+1) false)) s00 .aA .aA)):=(N.mono fun _ _ h=>Or.inr h).put _ _ fun _=>Or.inl rfl;exact{
    fm:=hM.fm.then t fun c a h=>by
     rcases h with h|h
     ·have:=hM.ge;omega
     ·have:=y c h;rw[hM.base c a]at this;omega
    base:=fun c a=>(qbr (af a hM.fm.nx)).trans (hM.base c a)
    ge:=hM.ge
    lt:=af f t.nx
    ct:=(qbr f).trans hM.ct
    get:=dL _ _ _
    nxt:=fun u I=>by
     rw[s,zgh];by_cases j:es[i].f=u
     ·subst j;rw[lEZ rfl,upd_same];refine⟨?_,?_⟩
      ·have P:aI (jO (es.take i) es[i].f++[es[i].t])=aI (jO (es.take i) es[i].f)++[.int .i64 (.ofNat es[i].t)]:=by simp[aI]
       rw[P,lEP];refine z.keep (lEO _) fun c a _=>dS _ _ _ _ ?_;obtain⟨_,_,_,_,g⟩:=a;cases g;omega
      ·rintro c ⟨_,_,_,_,g⟩;cases g;exact qgt (by show H.nx<=H.nx+1+14;omega)
     ·rw[lEU j,upd_ne _ _ fun e=>j e.symm];obtain⟨G,B⟩:=hM.nxt u I;refine⟨G.fm t fun c a h=>?_,fun c a=>(qbr (G.lt a)).trans (B c a)⟩;rcases h with h|h
      ·have:=B c a;rw[h,hM.ct]at this;omega
      ·have U:=B c a;have V:=y c h;omega
    stk:=Gs.nil _ _
    yM:=fun c a=>by obtain⟨_,_,_,_,g⟩:=a;cases g
    out:=Gl.nil _ _
    ouc:=fun c a=>by obtain⟨_,_,_,_,g⟩:=a;cases g
    css:=⟨rfl,fun i c o h=>by cases h⟩}
  ·simp only[go_sem,lI1,lEW,d];have:i=es.length:=om;subst this;rw[lIN]at hM;exact E H nx col hM
structure qdb(N:Nat)(aS:Nat->List Nat)(out:List (List Nat)):Prop where
 scc:∀ c∈out,c.Pairwise (· < ·)/\∃ r∈c,∀x,x∈c↔Rc aS r x/\Rc aS x r
 nd:out.flatten.Nodup
 all:∀ x,x∈out.flatten↔x<N
structure nV(H0 H:Hp)(v:AV)(cs:List AV)(out:List (List Nat)):Prop where
 gl:Gl 1 H v cs.length cs
 len:cs.length=out.length
 new:∀ b,In v b->H0.nx<=b
 at':∀(i:Nat) (c:AV) (o:List Nat),cs[i]? =some c->out[i]? =some o->(∃b q n m e,c=.sl b q n m e)/\Gl 1 H c o.length (aI o)/\∀ b,In c b->H0.nx<=b/\¬ In v b
theorem qhx(d:aU C)(f:uZ C)(g:tJ C)(l:uI LA LO C){j:Nat}(m:301<=j){H0:Hp}{N:Nat}{aS:Nat->List Nat}(c:q9c N aS){tb:Nat}{q:pL}{Q:pS}(n:∀ H s col,TM H0 aS s col tb H->TI N aS s []->(∀x,x<N->0<s.num x)->Ok (q H) Q):∀(k i:Nat) (H:Hp) (s:TS) (col:Nat->Nat),N-i<k->i<=N->TM H0 aS s col tb H->TI N aS s []->(∀x,x<i->0<s.num x) -> Ok (za4 (C j) q (.ptr tb 0) (.int .i64 (.ofNat N)) k (.int .i64 (.ofNat i)) H) Q
 |0,i,H,s,col,h,_,_,_,_=>om
 |k+1,i,H,s,col,h,hi,hM,hT,hx=>by
  show Ok (zj9 (C j) _ _ _ (za4 (C j) _ _ _ k) _ H) Q;unfold zj9;have y:=c.le;by_cases a:i<N
  ·simp only[go_sem,lI1,lEW,a];unfold zj8;have g1:∃ nx sv ov,H.get tb=TB nx s sv ov:=by obtain⟨nx,sv,ov,cs,h⟩:=hM;exact⟨nx,sv,ov,h.get⟩
   obtain⟨nx,sv,ov,g1⟩:=g1;by_cases t:s.num i=0
   ·simp(disch:=omega)only[go_sem,seval,lI1,lEW,g1,t];refine Ok.ve (zw2 d f g l m c hM hT a t) ?_;rintro r H' ⟨rfl,u,b,v,w,p,z⟩;unfold qxl;simp(disch:=go_size)only[go_sem,rB,rI,rK,rL,rN,rS,r8,lI1,lEW];exact qhx d f g l m c n k (i+1) H' u b om om v w fun x o=>by
     by_cases e:x=i
     ·simp_all
     ·exact p.1 x (hx x om)
   ·simp(disch:=go_size)only[go_sem,rB,rI,rK,rL,rN,rS,r8,lI1,lEW,g1,t];unfold qxl;simp(disch:=go_size)only[go_sem,rB,rI,rK,rL,rN,rS,r8,lI1,lEW];exact qhx d f g l m c n k (i+1) H s col om om hM hT fun x o=>by
     by_cases e:x=i
     ·rw[e];omega
     ·exact hx x om
  ·simp only[go_sem,lI1,lEW,a];have:i=N:=om;subst this;exact n H s col hM hT hx
theorem TI.parts{s:TS}(h:TI N aS s [])(b:∀ x,x<N->0<s.num x):qdb N aS s.out:=by refine⟨h.pY,h.pR,fun x=>⟨fun a=>(h.mH x a).2.2,fun a=>?_⟩⟩;have:=h.vis x (b x a);rw[h.empty]at this;simp_all
theorem zx5(J:aU C)(P:uZ C)(Q:tJ C)(R:uI LA LO C)(w:302<=k){es:List Edge}(y:n<=256)(d:es.length<200000)(z:∀ e∈es,e.f<n/\e.t<n){v:AV}(K:kX H v es):Ok (C k (.f 128) [.agg [.int .i64 (.ofNat n),v]] H) fun r H'=>∃ cs out,qdb n (jO es) out/\nV H H' r cs out/\Fm No H H':=by
 obtain⟨j,rfl⟩:=aT w;rw[(J j).zCe];unfold zCe z6b;have G:=K.len;simp(disch:=first|go_size|omega)only[go_sem,rB,rI,rK,rL,rN,rS,r8,lI1,lEW,G,TB0];unfold zka;rw[dD];generalize m:aK H (aB 0 [.int .i64 (.ofNat n),v])=H1;have T:H1.nx=H.nx+1:=by rw[<-m];rfl
 have N:Fm No H H1:=by rw[<-m];exact(Fm.refl _ _).push _
 have g1:H1.get H.nx=aB 0 [.int .i64 (.ofNat n),v]:=by rw[<-m,jQ]
 have I:TMd H1 (jO (es.take 0)) s00 (fun b=>if b<H1.nx then 9 else 0) (H.nx+1) (aK H1 (TB (fun _=>.aA) s00 .aA .aA)) (fun _=>.aA) .aA .aA []:={
  fm:=(Fm.refl _ _).push _
  base:=fun b a=>lEZ a
  ge:=om
  lt:=by rw[np];omega
  ct:=lEU om
  get:=by rw[<-T];exact jQ _ _
  nxt:=fun u _=>⟨Gl.nil _ _,fun c p=>by obtain⟨_,_,_,_,g⟩:=p;cases g⟩
  stk:=Gs.nil _ _
  yM:=fun c p=>by obtain⟨_,_,_,_,g⟩:=p;cases g
  out:=Gl.nil _ _
  ouc:=fun c p=>by obtain⟨_,_,_,_,g⟩:=p;cases g
  css:=⟨rfl,fun i c o h=>by cases h⟩}
 have U:q9c n (jO es):=⟨y,fun u k w=>by obtain⟨e,q,_,rfl⟩:=qdx.1 w;exact(z e q).2,fun u=>lXP (q4c es u) d⟩;refine qri d (K.fm N) (fun e q=>⟨af (z e q).1 y,af (z e q).2 y⟩) (fun L nx col M=>?_) bZ 0 _ _ _ lf (lEV _) I;unfold q59;have g2:L.get H.nx=aB 0 [.int .i64 (.ofNat n),v]:=(M.fm.keep om).trans g1;simp only[go_sem,lI1,lEW,g2];unfold z1j;rw[dD];refine qhx J P Q R (j:=j) om U (fun Y s A B D E=>?_) bZ 0 L s00 col lf (lEV _) ⟨_,_,_,_,M⟩ (TI.init _ _) fun x E=>absurd E (lUD _);unfold zj6;obtain⟨V,sv,ov,cs,l⟩:=B;have g3:=l.get;simp only[go_sem,lI1,lEW,g3];have f:∀{b c:Nat},c≠9->A b=c->H.nx<=b:=fun{b c} p h=>by
  rcases lOI b H1.nx with a|a
  ·have:=l.base b a;omega
  ·omega
 refine Ok.ret ⟨cs,s.out,TI.parts D E,⟨l.out,l.css.len,fun b a=>f (c:=4) om (l.ouc b a),fun i c o t S=>?_⟩,N.trans l.fm⟩;obtain⟨W,X,O⟩:=l.css.at' i c o t S;exact⟨W,X,fun b a=>⟨f (c:=5) om (O b a),fun F=>by have t:=O b a;rw[l.ouc b F]at t;cases t⟩⟩
end Go.Di
end
noncomputable section
namespace Go.Di
open Go.Ev Go.Di.T Go.Sort
variable {C:Nat->Ev.Call} {LA LO:LP}
variable {H H' H0:Hp} {S:Nat->Prop} {aS:Nat->List Nat} {b i j k m n:Nat} {cs l:List AV} {ins:List Nat}
structure Cv where
 b:Nat
 q:Nat
 n:Nat
 m:Nat
 e:Bool
 o:List Nat
def Cv.v(c:Cv):AV:=.sl c.b c.q c.n c.m c.e
theorem Cv.ex:∀(cs:List AV) (out:List (List Nat)),cs.length=out.length->(∀(i:Nat) (c:AV) (o:List Nat),cs[i]? =some c->out[i]? =some o->∃ b q n m e,c=.sl b q n m e)->∃ a:List Cv,a.map Cv.v=cs/\a.map Cv.o=out
 | [],[],_,_=>⟨[],rfl,rfl⟩
 | [],_::_,h,_=>by simp at h
 |_::_,[],h,_=>by simp at h
 |c::cs,o::out,h,hp=>by obtain⟨a,d,f⟩:=Cv.ex cs out (by simpa using h) fun i c o g1 g2=>hp (i+1) c o (by simpa using g1) (by simpa using g2);obtain⟨b,q,n,m,e,rfl⟩:=hp 0 c o rfl rfl;exact⟨⟨b,q,n,m,e,o⟩::a,by simp[d,Cv.v],by simp[f]⟩
def hdI(l:List Nat):Int:=.ofNat (l.headD 0)
theorem q3g{H:Hp}:∀{l:List AV} {zs:List Int},l.length=zs.length->(∀i (h:i<l.length) (a:i<zs.length),headA H l[i]=some zs[i])->qr2 H l=some zs
 | [],[],_,_=>rfl
 | [],_::_,h,_=>by simp at h
 |_::_,[],h,_=>by simp at h
 |v::l,z::zs,h,k=>by unfold qr2;have b:headA H v=some z:=k 0 g3 g3;rw[b,q3g (l:=l) (zs:=zs) (by simpa using h) fun i h a=>k (i+1) (by simpa using h) (by simpa using a)]
theorem zyu{b o n m:Nat}{x:Bool}{z:Int}(a:0<n)(h:bI (H.get b) o=.val (.int .i64 z)):headA H (.sl b o n m x)=some z:=by unfold headA;simp only[blt_eq,lI9 a,lII,h]
theorem q70(zs:List Int)(h:0<zs.length):(dM zs h).toList.Perm (List.finRange zs.length)/\(dM zs h).toList.Pairwise (fun i j=>zs[i]<=zs[j]):=by
 letI:Inhabited (Fin zs.length):=⟨⟨0,h⟩⟩
 have g:SWO (aA0 zs):={
  irrefl:=fun x=>by unfold aA0;simp
  trans:=fun x y z=>by unfold aA0;simp only[lO8];omega
  ntrans:=fun x y z=>by unfold aA0;simp only[lOG];omega}
 obtain⟨⟨e,_,c⟩,f⟩:=pdq_sorts (aA0 zs) g (Array.finRange zs.length) 0 (Array.finRange zs.length).size (Go.Lib.bitLen (Array.finRange zs.length).size) true true (lEV _) (lEO _) (Or.inl rfl);change (dM zs h).size=_ at e;change ((dM zs h).extract _ _).toList.Perm _ at c;change SortedIn _ _ _ (dM zs h)at f;refine⟨?_,?_⟩
 ·rw[show(dM zs h).extract 0 (Array.finRange zs.length).size=dM zs h by rw[<-e];exact Array.extract_size,show(Array.finRange zs.length).extract 0 (Array.finRange zs.length).size=Array.finRange zs.length from Array.extract_size]at c;have k:(Array.finRange zs.length).toList=List.finRange zs.length:=Array.toList_ofFn;rwa [k]at c
 ·rw[lO2];intro i j l m d;have a:i<(dM zs h).size:=by simpa using l
  have b:j<(dM zs h).size:=by simpa using m
  have:=f i j (lEV _) d om;rw[getElem!_pos _ i a,getElem!_pos _ j b]at this;unfold aA0 at this;simp_all
theorem zzy(hS:tJ C){v:AV}{out:List (List Nat)}(I:nV H0 H v cs out)(hn:cs.length<900000)(V:1<=cs.length)(hk:1<=k)(J:∀ o∈out,o≠[]/\∀ x∈o,x<1000)(W:out.flatten.Nodup):Ok (C k (.f 148) [v,.fn 149 [] []] H) fun r H'=>r=.bB []/\∃ K g,g.Perm out/\g.Pairwise (fun a b=>a.headD 0<b.headD 0)/\nV H0 H' v K g/\(∀c∈K,c∈cs)/\Fm (In v) H H':=by
 obtain⟨k,rfl⟩:∃ j,k=j+1:=⟨k-1,om⟩;obtain⟨d,t,F⟩:=Cv.ex cs out I.len fun i c o g1 g2=>(I.at' i c o g1 g2).1;have Z:d.length=cs.length:=by rw[<-t,lET]
 have M:∀ c∈d,Gl 1 H c.v c.o.length (aI c.o)/\∀ b,In c.v b->H0.nx<=b/\¬ In v b:=fun c p=>by obtain⟨i,G,rfl⟩:=lOO p;exact(I.at' i d[i].v d[i].o (by rw[<-t];simp[G]) (by rw[<-F];simp[G])).2
 have N:∀ c∈d,c.o≠[]/\∀ x∈c.o,x<1000:=fun c p=>J c.o (by rw[<-F];exact lIB.2 ⟨c,p,rfl⟩);rcases I.gl.is with⟨_,h0⟩|⟨b,o,e,q,L,rfl,g1,g2,g3,g4,g5⟩
 ·omega
 have hLl:L.length=o+cs.length:=by have:=congrArg List.length g3;rw[lIZ]at this;omega
 let zs:List Int:=d.map fun c=>hdI c.o
 have hzl:zs.length=d.length:=by simp[zs]
 have f:0<zs.length:=om;have B:∀ i (h:i<zs.length),zs[i]=hdI (d[i]'om).o:=fun i h=>by simp[zs]
 have hOk:aHS zs:=⟨f,om,fun z hz=>by
  obtain⟨c,p,rfl⟩:=lIB.1 hz;obtain⟨T,x2⟩:=N c p;unfold hdI;cases E:c.o with
  |nil=>exact absurd E T
  |cons a l=>rw[E]at x2;have:=x2 a lIH;simp only[List.headD_cons,lIA];omega⟩
 have hhd:qr2 (H.put b .dead) cs=some zs:=q3g om fun i h h'=>by
  have S:d[i]'om∈d:=lEQ _;obtain⟨U,k2⟩:=M _ S;obtain⟨T,_⟩:=N _ S;have hci:cs[i]=(d[i]'om).v:=by simp[<-t]
  rw[hci,B i h'];generalize d[i]'om=c at U k2 T;unfold hdI;cases E:c.o with
  |nil=>exact absurd E T
  |cons a l=>
   rw[E]at U;obtain⟨b1,o1,e1,_,e2,e3⟩:=Gl.head U;unfold Cv.v at e1 k2 ⊢;have hcn:c.n=l.length+1:=by
    have w:=U.aX;have Q:R0.val (.int .i64 (.ofNat c.n))=R0.val (.int .i64 (.ofNat (a::l).length)):=w;have h4:(c.n:Int)=l.length+1:=by simpa using Q
    omega
   rw[uY _ _ _ _ _ _ _ _ om]at e1;obtain⟨rfl,rfl⟩:=e1;have hcb:c.b≠b:=fun e'=>(k2 c.b ⟨_,_,_,_,rfl⟩).2 ⟨_,_,_,_,by rw[e']⟩;refine zyu om ?_;rw[dS _ _ _ _ hcb];simpa using e3
 let ix:Fin zs.length->Cv:=fun i=>d[i.1]'(by have:=i.2;omega)
 obtain⟨hp,hs⟩:=q70 zs f;have s:((dM zs f).toList.map ix).Perm d:=by
  have V:=hp.map ix;have w:(List.finRange zs.length).map ix=d:=by
   apply lXX
   ·simp[hzl]
   ·intro i V w;simp[ix]
  rwa [w]at V
 have hV:((dM zs f).toList.map fun i:Fin zs.length=>cs.getD i.1 .undef)=((dM zs f).toList.map ix).map Cv.v:=by rw[lUK];refine lUY fun i _=>?_;have G:=i.2;rw[lES,gp om];simp[<-t,ix]
 have O:((dM zs f).toList.map ix).Pairwise fun a b=>hdI a.o<=hdI b.o:=by rw[List.pairwise_map];refine hs.imp fun{i j} h=>?_;rw[Fin.getElem_fin,Fin.getElem_fin,B,B]at h;exact h
 have hsz:(dM zs f).size=zs.length:=by have:=hp.length_eq;simpa using this
 generalize hR:(dM zs f).toList.map ix=R at s hV O;have A:(R.map Cv.v).length=cs.length:=by rw[lET,s.length_eq,Z]
 have hst:storeAt H b o (R.map Cv.v) (.bB [])=.ok (.bB []) (H.put b (aB q (aY L o (R.map Cv.v)))):=qb5 _ _ _ _ _ _ _ g1 om;have hr:qq2 H b o cs.length=some (.ok (.bB []) (H.put b (aB q (aY L o (R.map Cv.v))))):=by unfold qq2;rw[g1,qbv,lEZ om,g3,lIW (lEO _)];simp only[hhd,dif_pos hOk,hV,hst];rw[hsz,lY3];rfl
 rw[(hS k).aYV _ _ _ _ _ _ _ hr];have P:aY L o (R.map Cv.v)=L.take o++R.map Cv.v:=by unfold aY;rw[lO0 om,lIM]
 have D:(R.map Cv.o).Perm out:=by have:=s.map Cv.o;rwa [F]at this
 have hF:Fm (In (.sl b o cs.length cs.length e)) H (H.put b (aB q (aY L o (R.map Cv.v)))):=(Fm.refl _ _).put _ _ fun _=>⟨_,_,_,_,rfl⟩;have E:(L.take o).length=o:=by rw[lI6];omega
 refine Ok.ret ⟨rfl,R.map Cv.v,R.map Cv.o,D,?_,⟨?_,by simp,I.new,fun i c o' w Q=>?_⟩,fun c p=>?_,hF⟩
 ·have m:(R.map Cv.o).flatten.Nodup:=(D.flatten).nodup_iff.2 W;have n:∀ l∈R.map Cv.o,l≠[]:=fun l X=>(J l (D.mem_iff.1 X)).1;have u:(R.map Cv.o).Pairwise fun a b=>a.headD 0<=b.headD 0:=by
   rw[List.pairwise_map];refine O.imp fun{x y} h=>?_;unfold hdI at h;simp only[lIA]at h;omega
  generalize R.map Cv.o=g at m n u
  induction g with
  |nil=>exact List.Pairwise.nil
  |cons a l ih=>
   rw[lUO]at u ⊢;rw[lOR,lOM]at m;refine⟨fun c p=>?_,ih m.2.1 (fun l X=>n l (lIS _ X)) u.2⟩;refine Nat.lt_of_le_of_ne (u.1 c p) fun e=>?_;have ha:=n a lIH;have hc':=n c (lIS _ p);cases a with
   |nil=>exact ha rfl
   |cons x a=>
    cases c with
    |nil=>exact hc' rfl
    |cons y c=>have e:x=y:=e;exact m.2.2 x lIH y (lUI.2 ⟨y::c,p,lIH⟩) e
 ·rw[P,A];refine⟨by rw[A,lI1],.inr ⟨b,o,e,q,_,rfl,dL _ _ _,?_,?_,g4,af g5 hF.nx⟩⟩
  ·rw[lEP,E];omega
  ·rw[lO4 om,lO0 om,lOX]
 ·have G:i<R.length:=by
   have:=(lI2.1 w).1;simpa using this
  have p:c=(R[i]).v:=by rw[lO6,gp G]at w;exact(Option.some.inj w).symm
  have ho':o'=(R[i]).o:=by rw[lO6,gp G]at Q;exact(Option.some.inj Q).symm
  have S:R[i]∈d:=s.mem_iff.1 (lEQ _);subst p;subst ho';obtain⟨q1,q2⟩:=M _ S;exact⟨⟨_,_,_,_,_,rfl⟩,q1.fm hF fun b' Y h=>(q2 b' Y).2 h,q2⟩
 ·obtain⟨x,hx,rfl⟩:=lIB.1 p;rw[<-t];exact lIB.2 ⟨x,s.mem_iff.1 hx,rfl⟩
theorem zzz(a:tJ C)(f:5<=k){v:AV}(c:Gl 1 H v n l)(d:n=0)(H:Hp):C k (.f 148) [v,.fn 149 [] []] H=.ok (.bB []) H:=by
 obtain⟨k,rfl⟩:∃ j,k=j+1:=⟨k-1,om⟩;rcases c.is with⟨rfl,_⟩|⟨b,o,e,q,L,rfl,_⟩
 ·exact(a k).aHs H
 ·subst d;exact(a k).aZp _ _ _ _ H
def fill(ins:List Nat)(o:List Nat)(i:Nat):List Nat:=o.foldl (fun a x=>a.set x i) ins
def qeh:List Nat->List (List Nat)->Nat->List Nat
 |ins,[],_=>ins
 |ins,o::r,i=>qeh (fill ins o i) r (i+1)
theorem qe9(i:Nat):∀(o ins:List Nat),(fill ins o i).length=ins.length
 | [],ins=>rfl
 |x::o,ins=>by show(fill (ins.set x i) o i).length=_;rw[qe9 i o,lO1]
theorem qr7:∀(out:List (List Nat)) (ins:List Nat) (i:Nat),(qeh ins out i).length=ins.length
 | [],_,_=>rfl
 |o::r,ins,i=>by rw[qeh,qr7 r,qe9]
theorem qog(i:Nat):∀(o ins:List Nat) (x:Nat),x<ins.length->(fill ins o i)[x]? =if x∈o then some i else ins[x]?
 | [],ins,x,h=>by simp[fill]
 |y::o,ins,x,h=>by
  show(fill (ins.set y i) o i)[x]? =_;rw[qog i o _ x (by rw[lO1];exact h)];by_cases a:x∈o
  ·simp[a]
  ·by_cases e:x=y
   ·simp_all
   ·have:¬ y=x:=fun h=>e h.symm;simp_all
theorem qr8:∀(out:List (List Nat)) (ins:List Nat) (c i x:Nat) (o:List Nat),out.flatten.Nodup->out[i]? =some o->x∈o->x<ins.length->(qeh ins out c)[x]? =some (c+i)
 | [],_,_,_,_,_,_,h,_,_=>by simp at h
 |o'::r,ins,c,0,x,o,hn,h,a,b=>by
  simp at h;subst h;have d:∀(r:List (List Nat)) (ins:List Nat) (i:Nat),x<ins.length->x∉r.flatten->(qeh ins r i)[x]? =ins[x]? :=fun r=>by
   induction r with
   |nil=>intros;rfl
   |cons o r ih=>intro ins i b a;rw[lOR,lEY,not_or]at a;rw[qeh,ih _ _ (by rw[qe9];exact b) a.2,qog i o ins x b,lEU a.1]
  rw[qeh,d r _ _ (by rw[qe9];exact b) ?_,qog _ _ _ _ b,lEZ a,lO7];intro e;rw[lOR,lOM]at hn;exact hn.2.2 x a x e rfl
 |o'::r,ins,c,i+1,x,o,hn,h,a,b=>by rw[lOR,lOM]at hn;rw[qeh,qr8 r _ (c+1) i x o hn.2.1 (by simpa using h) a (by rw[qe9];exact b)];congr 1;omega
theorem zq8{O:Ev.Call}{c:AV}{o:List Nat}{ib nb n i:Nat}{H1:Hp}(p:Rl H1 c (aI o))(d:∀ j b q,j<o.length->aG 1 c (.int .i64 (.ofNat j))=.val (.ptr b q)->b≠nb)(l:o.length<900000)(r:∀ x∈o,x<n)(e:H1.get ib=aB 0 [.sl nb 0 n n true])(f:ib≠nb)(g:ib<H1.nx){q:pL}{Q:pS}{fin:List Nat}(s:∀ H,H.get nb=aB 0 (aI fin)->Fm (fun b=>b=nb) H1 H->Ok (q H) Q):∀(k j:Nat) (ins:List Nat) (H:Hp),o.length-j<k->j<=o.length->ins.length=n->H.get nb=aB 0 (aI ins)->Fm (fun b=>b=nb) H1 H->fill ins (o.drop j) i=fin -> Ok (qxj O q (.ptr ib 0) (.int .i64 (.ofNat i)) c (.int .i64 (.ofNat o.length)) k (.int .i64 (.ofNat j)) H) Q
 |0,j,ins,H,h,_,_,_,_,_=>om
 |k+1,j,ins,H,h,hj,hl,hg,hF,hf=>by
  show Ok (q57 O _ _ _ _ _ (qxj O _ _ _ _ _ k) _ H) Q;unfold q57;by_cases a:j<o.length
  ·obtain⟨b,z,t,A,u⟩:=p.at' j (by rw[lM];exact a);rw[qhz]at u;have v:H.get b=H1.get b:=hF.get b A (d j b z a t);have w:H.get ib=aB 0 [.sl nb 0 n n true]:=(hF.get ib g f).trans e;have B:o[j]<n:=r _ (lEQ _);simp only[go_sem,a];unfold zj1;have m:o[j]+1<=ins.length:=om;simp(disch:=omega)only[go_sem,seval,t,v,u,w,hg,lI1,lEW,lEX,lIT,lM,m,lU8];unfold zj2;simp(disch:=go_size)only[go_sem,rB,rI,rK,rL,rN,rS,r8];have y:o.drop j=o[j]::o.drop (j+1):=lIU a;rw[qj4 _ _ _ om];refine zq8 p d l r e f g s k (j+1) (ins.set o[j] i) _ om om (by rw[lO1];exact hl) (dL _ _ _) (hF.put _ _ fun _=>rfl) ?_;rw[y]at hf;exact hf
  ·simp only[go_sem,a];have:j=o.length:=om;subst this;rw[lXJ]at hf;subst hf;exact s H hg hF
theorem nV.dJ{v:AV}{out:List (List Nat)}(h:nV H0 H v cs out)(f:Fm S H H')(e:∀ b,H0.nx<=b->b<H.nx->¬ S b):nV H0 H' v cs out:=
 ⟨h.gl.keep f.nx fun b d a=>f.get b a (e b (h.new b d) a),h.len,h.new,fun i c o g j=>by obtain⟨g1,g2,g3⟩:=h.at' i c o g j;exact⟨g1,g2.keep f.nx fun b d a=>f.get b a (e b (g3 b d).1 a),g3⟩⟩
theorem nV.no{v:AV}{out:List (List Nat)}(h:nV H0 H v cs out)(f:Fm No H H'):nV H0 H' v cs out:=h.dJ f fun _ _ _ h=>h
theorem zdt{O:Ev.Call}{v:AV}{cs:List AV}{out:List (List Nat)}{ib nb n:Nat}{H0 H1:Hp}(s:nV H0 H1 v cs out)(t:H1.nx<=nb+2)(u:∀ b,H0.nx<=b->b<H1.nx->b≠nb->True)(E:∀ b,In v b->b≠nb)(a:∀(i:Nat) (c:AV) (b:Nat),cs[i]? =some c->In c b->b≠nb)(m:∀ o∈out,o.length<900000/\∀ x∈o,x<n)(w:out.length<900000)(p:H1.get ib=aB 0 [.sl nb 0 n n true])(d:ib≠nb)(f:ib<H1.nx){q:pL}{Q:pS}{fin:List Nat}(G:∀ H,H.get nb=aB 0 (aI fin)->Fm (fun b=>b=nb) H1 H->Ok (q H) Q):∀(k i:Nat) (ins:List Nat) (H:Hp),out.length-i<k->i<=out.length->ins.length=n->H.get nb=aB 0 (aI ins)->Fm (fun b=>b=nb) H1 H->qeh ins (out.drop i) i=fin -> Ok (qp5 O q (.ptr ib 0) v (.int .i64 (.ofNat out.length)) k (.int .i64 (.ofNat i)) H) Q
 |0,i,ins,H,h,_,_,_,_,_=>om
 |k+1,i,ins,H,h,hi,hl,hg,hF,r=>by
  show Ok (q58 O _ _ _ _ (qp5 O _ _ _ _ k) _ H) Q;unfold q58;have F:=s.len;by_cases l:i<out.length
  ·simp only[go_sem,l];unfold zj0;have z:Gl 1 H v cs.length cs:=s.gl.fm hF fun b y=>E b y;obtain⟨b,R,M,_,_,N⟩:=z.at (i:=i) (x:=cs[i]) g3;obtain⟨⟨cb,S,T,U,V,P⟩,g2,g3⟩:=s.at' i cs[i] out[i] g3 g3;have g:Gl 1 H cs[i] out[i].length (aI out[i]):=g2.fm hF fun b y=>a i cs[i] b (by simp) y;have A:=g.aX;obtain⟨C,D⟩:=m out[i] (lEQ _);simp only[go_sem,M,N,A];unfold zj3;rw[dD];have B:H.get ib=aB 0 [.sl nb 0 n n true]:=(hF.get ib f d).trans p;have L:out.drop i=out[i]::out.drop (i+1):=lIU l;refine zq8 (H1:=H) g.rl (fun j b q I e=>a i cs[i] b (by simp) (g.aAl I e)) C D B d (af f hF.nx) (fin:=fill ins out[i] i) (fun J K k2=>?_) bZ 0 ins H (by rw[yR];omega) (lEV _) hl hg (Fm.refl _ _) rfl;unfold q56;simp(disch:=go_size)only[go_sem,rB,rI,rK,rL,rN,rS,r8];refine zdt s t u E a m w p d f G k (i+1) (fill ins out[i] i) J om om (by rw[qe9];exact hl) K (hF.trans k2) ?_;rw[L]at r;exact r
  ·simp only[go_sem,l];have:i=out.length:=om;subst this;rw[lXJ]at r;have r:ins=fin:=r;simp_all
theorem qod(n:Nat):List.replicate n (AV.int .i64 (.ofNat 0))=aI (List.replicate n 0):=by simp[aI]
structure aHX(H0 H:Hp)(n:Nat)(gv v:AV)(cs:List AV)(out:List (List Nat))(ins:List Nat)(lb gb ib wb:Nat):Prop where
 l:H.get lb=aB 0 [v]
 g:H.get gb=aB 0 [.int .i64 (.ofNat n),gv]
 i:H.get ib=aB 0 [.sl wb 0 n n true]
 w:H.get wb=aB 0 (aI ins)
 lt:lb<H.nx/\gb<H.nx/\ib<H.nx/\wb<H.nx
 ls:nV H0 H v cs out
 il:ins.length=n
 ix:∀(i:Nat) (o:List Nat) (x:Nat),out[i]? =some o->x∈o->ins[x]? =some i
theorem zxp(hC:aU C)(V:tJ C)(hk:920<=k){w v:AV}{out:List (List Nat)}(u:nV H0 H v cs out)(hH:H0.nx<=H.nx)(hn:n<=256)(hco:out.length<=256)(E:∀ o∈out,o≠[]/\o.length<=256/\∀ x∈o,x<n)(y:out.flatten.Nodup):Ok (C k (.f 127) [.agg [.int .i64 (.ofNat n),w],v] H) fun r H'=>∃ M N ib W g d ins,r=.fn 150 [] [.ptr M 0,.ptr N 0,.ptr ib 0]/\d.Perm out/\d.Pairwise (fun a b=>a.headD 0<b.headD 0) /\ aHX H0 H' n w v g d ins M N ib W/\(∀c∈g,c∈cs)/\Fm (In v) H H'/\(H.nx<=M/\H.nx<=N/\H.nx<=ib/\H.nx<=W):=by
 obtain⟨j,rfl⟩:=aT hk;rw[(hC j).zCf];unfold zCf z6a;have X:=u.len
 -- the slice is nil or not: its box
 have O:∀ nm,mX nm v=.new (.ptr nm 0) (aB 0 [v]):=fun nm=>by rcases u.gl.is with⟨rfl,_⟩|⟨b,o,e,q,L,rfl,_⟩<;>rfl
 simp(disch:=go_size)only[go_sem,rB,rI,rK,rL,rN,rS,r8,O];generalize s:aK (aK H (aB 0 [.int .i64 (.ofNat n),w])) (aB 0 [v])=H2;have n2:H2.nx=H.nx+2:=by rw[<-s];rfl
 have P:Fm No H H2:=by rw[<-s];exact((Fm.refl _ _).push _).push _
 have g2:H2.get H.nx=aB 0 [.int .i64 (.ofNat n),w]:=by rw[<-s,qbo _ _ _ (by rw[np];omega),jQ]
 have l2:H2.get (H.nx+1)=aB 0 [v]:=by rw[<-s];exact jQ _ _
 have z:∀ b,In v b->b<H.nx:=fun b m=>u.gl.lt m;have p:Ok (C j (.f 148) [v,.fn 149 [] []] H2) fun r H'=>r=.bB []/\∃ g d,d.Perm out/\d.Pairwise (fun a b=>a.headD 0<b.headD 0)/\nV H0 H' v g d/\(∀c∈g,c∈cs)/\Fm (In v) H2 H':=by
  rcases lXL cs.length with T|T
  ·rw[zzz V om u.gl T];have:out=[]:=lIG.1 om;subst this;exact Ok.ret ⟨rfl,cs,[],List.Perm.refl _,List.Pairwise.nil,u.no P,fun _ h=>h,Fm.refl _ _⟩
  ·exact zzy V (u.no P) om T om (fun o F=>⟨(E o F).1,fun x h=>by have:=(E o F).2.2 x h;omega⟩) y
 refine Ok.ve p ?_;rintro r f ⟨rfl,g,d,D,hs,l,U,G⟩;have n3:=G.nx;have Q:Fm (In v) H f:=(P.mono fun _ _ h=>h.elim).trans G;have g3:f.get H.nx=aB 0 [.int .i64 (.ofNat n),w]:=(G.get _ om fun m=>lOB _ (z _ m)).trans g2;have Y:f.get (H.nx+1)=aB 0 [v]:=(G.get _ om fun m=>by have:=z _ m;omega).trans l2;have A:=l.gl.aX;have t:=l.len;have hol:d.length=out.length:=D.length_eq;rw[t]at A;have Z:=qck [.int .i64 (.ofNat 0)] 8 f.nx n om om;rw[qcv,qod]at Z;simp(disch:=first|go_size|omega)only[go_sem,rB,rI,rK,rL,rN,rS,r8,g3,Y,Z,A];generalize J:(aK (aK f (aB 0 (aI (List.replicate n 0)))) (aB 0 [.aA])).put (f.nx+1) (aB 0 [.sl f.nx 0 n n true])=H4;have n4:H4.nx=f.nx+2:=by rw[<-J];rfl
 have B:Fm No f H4:=by rw[<-J];exact(((Fm.refl _ _).push _).push _).aH _ _ om
 have i4:H4.get (f.nx+1)=aB 0 [.sl f.nx 0 n n true]:=by rw[<-J,dL]
 have a4:H4.get f.nx=aB 0 (aI (List.replicate n 0)):=by rw[<-J,dS _ _ _ _ om,qbo _ _ _ (by rw[np];omega),jQ]
 have R:H4.get (H.nx+1)=aB 0 [v]:=(B.keep om).trans Y;unfold zj4;rw[dD];have S:=l.no B;refine zdt (n:=n) S (by omega) (fun _ _ _ _=>trivial) (fun b m=>by have:=l.gl.lt m;omega) (fun i c b K m=>?_) (fun o F=>?_) (by omega) i4 (by omega) (by omega) (fun H5 k1 k2=>?_) bZ 0 (List.replicate n 0) H4 (by rw[yR];omega) (lEV _) (by simp) a4 (Fm.refl _ _) rfl
 ·have hi:=(lI2.1 K).1;obtain⟨_,I,_⟩:=l.at' i c d[i] K (by simp);have:=I.lt m;omega
 ·have:=E o (D.mem_iff.1 F);exact⟨om,this.2.2⟩
 ·unfold za3;have n5:=k2.nx;refine Ok.ret ⟨H.nx+1,H.nx,f.nx+1,f.nx,g,d,qeh (List.replicate n 0) (d.drop 0) 0,rfl,D,hs,⟨?_,?_,?_,k1,⟨om,om,om,om⟩,?_,?_,?_⟩,U,?_,om,om,om,om⟩
  ·exact(k2.get _ om om).trans R
  ·exact(k2.get _ om om).trans ((B.keep om).trans g3)
  ·exact(k2.get _ om om).trans i4
  ·exact l.dJ (((B.mono fun _ _ h=>h.elim:Fm (fun b=>b=f.nx) f H4)).trans k2) fun b _ hlt=>om
  ·rw[qr7,lUA]
  ·intro i o x h1 I;have hm:o∈d:=lIK h1;have:=qr8 d (List.replicate n 0) 0 i x o (D.flatten.nodup_iff.2 y) h1 I (by rw[lUA];exact(E o (D.mem_iff.1 hm)).2.2 x I);simp_all
  ·exact Q.then ((B.mono fun _ _ h=>h.elim:Fm (fun b=>b=f.nx) f H4).trans k2) fun c K h=>om
def bools(l:List Bool):List AV:=l.map .bool
theorem zd6(l:List Bool):(bools l).length=l.length:=by simp[bools]
theorem zr7(l:List Bool)(i:Nat)(h:i<l.length):(bools l)[i]? =some (.bool l[i]):=by simp[bools,h]
theorem qlp(l:List Bool)(i:Nat)(d:Bool)(h:i<l.length):(bools l)[i]? =some (.bool (l.getD i d)):=by rw[zr7 l i h];simp[h]
theorem q36(l:List Bool)(i:Nat)(b:Bool)(h:i<l.length):aY (bools l) i [.bool b]=bools (l.set i b):=by unfold aY bools;rw[lY5,List.set_eq_take_append_cons_drop,lEZ (by simpa using h)];simp
structure RS(D:Nat->Prop)(H:Hp)(n:Nat)(gv:AV)(es:List Edge)(v:AV)(cs:List AV)(ins:List Nat)(lb gb ib wb:Nat):Prop where
 l:H.get lb=aB 0 [v]
 g:H.get gb=aB 0 [.int .i64 (.ofNat n),gv]
 i:H.get ib=aB 0 [.sl wb 0 n n true]
 w:H.get wb=aB 0 (aI ins)
 gl:Gl 1 H v cs.length cs
 e:kX H gv es
 lt:lb<H.nx/\gb<H.nx/\ib<H.nx/\wb<H.nx
 dl:D lb
 dg:D gb
 di:D ib
 dw:D wb
 dv:∀ b,In v b->D b
 de:∀ b,In gv b->D b
def RB(gv v:AV)(lb gb ib wb b:Nat):Prop:=b=lb\/b=gb\/b=ib\/b=wb\/In v b\/In gv b
theorem RS.rb{D:Nat->Prop}{c:AV}{es:List Edge}{v:AV}{d e ib f:Nat}(h:RS D H n c es v cs ins d e ib f)(a:RB c v d e ib f b):D b:=by
 rcases a with rfl|rfl|rfl|rfl|a|a
 ·exact h.dl
 ·exact h.dg
 ·exact h.di
 ·exact h.dw
 ·exact h.dv b a
 ·exact h.de b a
theorem RS.keep{D:Nat->Prop}{d:AV}{es:List Edge}{v:AV}{e g ib i:Nat}(h:RS D H n d es v cs ins e g ib i)(f:Fm S H H')(c:∀ b,RB d v e g ib i b->¬ S b):RS D H' n d es v cs ins e g ib i:=by
 obtain⟨l,m,o,p⟩:=h.lt;have k:=f.nx;exact⟨(f.get _ l (c _ (Or.inl rfl))).trans h.l,(f.get _ m (c _ (Or.inr (Or.inl rfl)))).trans h.g,(f.get _ o (c _ (Or.inr (Or.inr (Or.inl rfl))))).trans h.i,(f.get _ p (c _ (Or.inr (Or.inr (Or.inr (Or.inl rfl)))))).trans h.w,
  h.gl.keep k fun b j a=>f.get b a (c b (Or.inr (Or.inr (Or.inr (Or.inr (Or.inl j)))))),h.e.keep k fun b j a=>f.get b a (c b (Or.inr (Or.inr (Or.inr (Or.inr (Or.inr j)))))),⟨om,om,om,om⟩,h.dl,h.dg,h.di,h.dw,h.dv,h.de⟩
theorem RS.no{D:Nat->Prop}{a:AV}{es:List Edge}{v:AV}{b c ib d:Nat}(h:RS D H n a es v cs ins b c ib d)(f:Fm No H H'):RS D H' n a es v cs ins b c ib d:=h.keep f fun _ _ h=>h
def xX(ins:List Nat)(dn:List Bool)(w:List Bool)(e:Edge):List Bool:=
 if ins.getD e.f 0≠ins.getD e.t 0/\dn.getD (ins.getD e.t 0) true=false then w.set (ins.getD e.f 0) true else w
def waits(es:List Edge)(ins:List Nat)(dn:List Bool)(w:List Bool):List Bool:=es.foldl (xX ins dn) w
theorem q1d(ins:List Nat)(dn:List Bool):∀(es:List Edge) (w:List Bool),(waits es ins dn w).length=w.length
 | [],w=>rfl
 |e::es,w=>by
  show(waits es ins dn (xX ins dn w e)).length=_;rw[q1d ins dn es];unfold xX;split
  ·simp
  ·rfl
theorem q1f{O:Ev.Call}{D:Nat->Prop}{n:Nat}{M:AV}{es:List Edge}{v:AV}{cs:List AV}{ins:List Nat}{lb gb ib wb F tb m:Nat}{dn:List Bool}{H1:Hp}(X:RS D H1 n M es v cs ins lb gb ib wb)(G:es.length<200000)(N:ins.length=n)(Y:∀ e∈es,e.f<n/\e.t<n)(r:∀ x<n,ins.getD x 0<m)(P:dn.length=m)(I:H1.get F=aB 0 (bools dn))(Z:F<H1.nx)(R:H1.nx<=tb){q:pL}{Q:pS}{fin:List Bool}(hq:∀ H,H.get tb=aB 0 (bools fin)->Fm No H1 H->tb<H.nx->Ok (q H) Q):∀(k i:Nat) (w:List Bool) (H:Hp),es.length-i<k->i<=es.length->w.length=m->H.get tb=aB 0 (bools w)->Fm No H1 H->tb<H.nx->waits (es.drop i) ins dn w=fin -> Ok (qp1 O q (.ptr ib 0) (.sl F 0 m m true) (.sl tb 0 m m true) M (.int .i64 (.ofNat es.length)) k (.int .i64 (.ofNat i)) H) Q
 |0,i,w,H,h,_,_,_,_,_,_=>om
 |k+1,i,w,H,h,hi,hw,ht,hF,hlt,p=>by
  show Ok (q51 O _ _ _ _ _ _ (qp1 O _ _ _ _ _ _ k) _ H) Q;unfold q51;by_cases l:i<es.length
  ·simp only[go_sem,l];unfold zjl;have g:=X.no hF;obtain⟨b,o,T,e2,U⟩:=g.e.at l;obtain⟨V,W⟩:=Y es[i] (lEQ _);have s:(aI ins)[es[i].f]? =some (.int .i64 (.ofNat (ins.getD es[i].f 0))):=by rw[qoe _ _ om,lES,gp om];rfl
   have t:(aI ins)[es[i].t]? =some (.int .i64 (.ofNat (ins.getD es[i].t 0))):=by rw[qoe _ _ om,lES,gp om];rfl
   have ha:=r _ V;have hb:=r _ W;have j:(bools dn)[ins.getD es[i].t 0]? =some (.bool (dn.getD (ins.getD es[i].t 0) true)):=qlp _ _ _ om;have u:es.drop i=es[i]::es.drop (i+1):=lIU l;rw[u]at p;have p:waits (es.drop (i+1)) ins dn (xX ins dn w es[i])=fin:=p;obtain⟨l1,l2,l3,l4⟩:=g.lt;have y:=g.i;have z:=g.w;have J:H.get F=aB 0 (bools dn):=(hF.keep Z).trans I;generalize C:ins.getD es[i].f 0=a at *;generalize E:ins.getD es[i].t 0=c at *;have A:∀(w':List Bool) (H':Hp),xX ins dn w es[i]=w'->H'.get tb=aB 0 (bools w')->Fm No H1 H'->tb<H'.nx->Ok (qxe O (qp1 O q (.ptr ib 0) (.sl F 0 m m true) (.sl tb 0 m m true) M (.int .i64 (.ofNat es.length)) k) (.int .i64 (.ofNat i)) H') Q:=fun w' H' h1 h2 h3 h4=>by
    unfold qxe;simp(disch:=go_size)only[go_sem,rB,rI,rK,rL,rN,rS,r8];refine q1f X G N Y r P I Z R hq k (i+1) w' H' om om ?_ h2 h3 h4 (by rw[h1]at p;exact p);rw[<-h1];unfold xX;split
    ·rw[lO1];exact hw
    ·exact hw
   have K:Fm No H ((aK H (aB 0 [.int .i64 (.ofNat 0),.int .i64 (.ofNat 0),.bool false])).put H.nx (aB 0 [.int .i64 (.ofNat es[i].f),.int .i64 (.ofNat es[i].t),.bool es[i].s])):=by exact jW
   have B:((aK H (aB 0 [.int .i64 (.ofNat 0),.int .i64 (.ofNat 0),.bool false])).put H.nx (aB 0 [.int .i64 (.ofNat es[i].f),.int .i64 (.ofNat es[i].t),.bool es[i].s])).get tb=aB 0 (bools w):=(K.keep hlt).trans ht;by_cases f:a=c
   ·have d:xX ins dn w es[i]=w:=by
     unfold xX;rw[C,E,lEU (by simp[f])]
    simp(disch:=first|omega|exact ti rfl)only[go_sem,seval,T,U,Edge.cells,y,z,s,t,f,lI1,lEW,lEX,lIT];exact A w _ d B (hF.trans K) (by show tb<H.nx+1;omega)
   ·cases L:dn.getD c true with
    |true=>
     have d:xX ins dn w es[i]=w:=by unfold xX;rw[C,E,L,lEU g3]
     rw[L]at j;simp(disch:=first|omega|exact ti rfl)only[go_sem,seval,T,U,Edge.cells,y,z,s,t,f,J,j,lI1,lEW,lEX,lIT];exact A w _ d B (hF.trans K) (by show tb<H.nx+1;omega)
    |false=>
     have d:xX ins dn w es[i]=w.set a true:=by unfold xX;rw[C,E,L,lEZ ⟨f,rfl⟩]
     rw[L]at j;have S:a+1<=w.length:=om;simp(disch:=go_size)only[go_sem,rB,rI,rK,rL,rN,rS,r8,T,U,Edge.cells,y,z,s,t,f,J,j,B,lI1,lEW,lEX,lIT,zd6,S,lU8];rw[q36 _ _ _ om];exact A (w.set a true) _ d (dL _ _ _) ((hF.trans K).aH _ _ om) (by show tb<H.nx+1;omega)
  ·simp only[go_sem,l];have:i=es.length:=om;subst this;rw[lXJ]at p;have p:w=fin:=p;simp_all
def okP(dn w:List Bool)(i:Nat):Bool:= !dn.getD i true&& !w.getD i true
def qjw(dn w:List Bool)(m:Nat):Option Nat:=(List.range m).find? (okP dn w)
def j6(es:List Edge)(ins:List Nat)(m:Nat):Nat->List Bool->List Nat
 |0,_=>[]
 |k+1,dn=>match qjw dn (waits es ins dn (List.replicate m false)) m with
  |none=>j6 es ins m k dn
  |some i=>i::j6 es ins m k (dn.set i true)
theorem qvl{dn w:List Bool}(h:qjw dn w m=none):∀ j,j<m->okP dn w j=false:=fun j a=>by have:=List.find?_eq_none.1 h j (lIY.2 a);simp_all
theorem qep{dn w:List Bool}(h:qjw dn w m=some i):i<m/\okP dn w i=true/\∀ j,j<i->okP dn w j=false:=by
 have d:=lY1 h;have b:=lOP h;rw[lIY]at b;refine⟨b,d,fun j k=>?_⟩;unfold qjw at h;rw[List.find?_eq_some_iff_append]at h;obtain⟨_,f,n,e,o⟩:=h;have l:j∈f:=by
  have a:j∈List.range m:=lIY.2 om;rw[e]at a;rcases lEY.1 a with g|g
  ·exact g
  ·have c:(List.range m).Pairwise (· < ·):=List.pairwise_lt_range;rw[e,lOL,lUO]at c;rcases lI8.1 g with g|g
   ·omega
   ·have:=c.2.1.1 j g;omega
 simp_all
structure YI(C0:Ev.Call)(y bs:Nat)(cs:List AV)(ord:List Nat)(Inv:Nat->(Nat->Prop)->Hp->Prop):Prop where
 ext:∀ t D D' H H',Inv t D H->Fm (fun b=>D b/\bs<=b) H H'->(∀b,D' b->D b\/(H.nx<=b/\b<H'.nx))->Inv t D' H'
 step:∀ t i c D H,ord[t]? =some i->cs[i]? =some c->Inv t D H->Ok (C0 (.y y) [c] H) fun r H'=>r=.bool true/\Inv (t+1) D H'/\Fm (fun b=>¬ D b) H H'
theorem q13{B:Ev.Call}{y bs:Nat}{q:List Nat}{Inv:Nat->(Nat->Prop)->Hp->Prop}{D:Nat->Prop}{n:Nat}{gv:AV}{es:List Edge}{v:AV}{cs:List AV}{ins:List Nat}{E gb ib wb a tb m t:Nat}{dn w:List Bool}(S:YI B y bs cs q Inv)(hm:m=cs.length)(T:m<900000)(U:dn.length=m)(V:w.length=m)(s:D a)(F:bs<=a)(G:a≠E){tZ f:pL}{Q:pS}{H:Hp}(O:RS D H n gv es v cs ins E gb ib wb)(I:∀ b,In v b->b≠a)(l:H.get a=aB 0 (bools dn))(qG:a<H.nx)(u:H.get tb=aB 0 (bools w))(hI:Inv t D H)(c:qjw dn w m=none->Ok (f H) Q)(d:∀ p H',qjw dn w m=some p->q[t]? =some p->H'.get a=aB 0 (bools (dn.set p true))->Inv (t+1) D H'->Fm (fun b=>¬ D b\/b=a) H H'->Ok (f H') Q)(z:∀ p,qjw dn w m=some p->q[t]? =some p):∀(k i:Nat),m-i<k->i<=m->(∀j,j<i->okP dn w j=false) -> Ok (qp2 B tZ f (.yield y) (.ptr E 0) (.sl a 0 m m true) (.sl tb 0 m m true) (.int .i64 (.ofNat m)) k (.int .i64 (.ofNat i)) H) Q
 |0,i,h,_,_=>om
 |k+1,i,h,hi,hj=>by
  show Ok (q52 B _ _ _ _ _ _ _ (qp2 B _ _ _ _ _ _ _ k) _ H) Q;unfold q52;by_cases A:i<m
  ·have K:okP dn w i=false->Ok (q50 B (qp2 B tZ f (.yield y) (.ptr E 0) (.sl a 0 m m true) (.sl tb 0 m m true) (.int .i64 (.ofNat m)) k) (.int .i64 (.ofNat i)) H) Q:=fun J=>by
    unfold q50;simp(disch:=go_size)only[go_sem,rB,rI,rK,rL,rN,rS,r8];exact q13 S hm T U V s F G O I l qG u hI c d z k (i+1) om om fun j hj'=>by
     by_cases e:j=i
     ·simp_all
     ·exact hj j om
   have L:=qlp dn i true om;have P:=qlp w i true om;simp only[go_sem,A];unfold zjm;cases M:dn.getD i true with
   |true=>rw[M]at L;simp(disch:=omega)only[go_sem,seval,l,L,lI1,lEW];exact K (by unfold okP;rw[M];rfl)
   |false=>
    rw[M]at L;cases R:w.getD i true with
    |true=>rw[R]at P;simp(disch:=omega)only[go_sem,seval,l,L,u,P,lI1,lEW];exact K (by unfold okP;rw[M,R];rfl)
    |false=>
     rw[R]at P;have J:okP dn w i=true:=by unfold okP;rw[M,R];rfl
     have C:qjw dn w m=some i:=by
      cases N:qjw dn w m with
      |none=>have:=qvl N i A;rw[J]at this;cases this
      |some p=>
       obtain⟨p1,p2,p3⟩:=qep N;rcases lUW p i with g|g|g
       ·simp_all
       ·rw[g]
       ·simp_all
     have W:i+1<=dn.length:=om;have X:(H.put a (aB 0 (bools (dn.set i true)))).get E=aB 0 [v]:=by rw[dS _ _ _ _ (Ne.symm G)];exact O.l
     have Y:Gl 1 (H.put a (aB 0 (bools (dn.set i true)))) v cs.length cs:=O.gl.keep (lEO _) fun b hb _=>dS _ _ _ _ (I b hb);obtain⟨b,o,e1,_,_,e2⟩:=Y.at (i:=i) (x:=cs[i]'om) g3;have fd:Fm (fun b=>b=a) H (H.put a (aB 0 (bools (dn.set i true)))):=(Fm.refl _ _).put _ _ fun _=>rfl;have Z:Inv t D (H.put a (aB 0 (bools (dn.set i true)))):=S.ext t D D _ _ hI (fd.mono fun b _ h=>by subst h;exact⟨s,F⟩) fun b h=>Or.inl h;simp(disch:=omega)only[go_sem,seval,l,L,u,P,lI1,lEW,lEX,lIT,zd6,W,lU8];rw[q36 _ _ _ om];have hl0:=O.l;simp only[go_sem,X,hl0,e1,e2,zr4];refine Ok.ve (S.step t i (cs[i]'om) D _ (z i C) (gp om) Z) ?_;rintro r H' ⟨rfl,qD,f3⟩;refine d i H' C (z i C) ?_ qD ((fd.mono fun _ _ h=>Or.inr h).trans (f3.mono fun _ _ h=>Or.inl h));rw[f3.get a qG fun h=>h s,dL]
  ·simp only[go_sem,A];have:i=m:=om;subst this;cases C:qjw dn w i with
   |none=>exact c C
   |some p=>obtain⟨p1,p2,p3⟩:=qep C;simp_all
theorem q37(m:Nat):List.replicate m (AV.bool false)=bools (List.replicate m false):=by simp[bools]
theorem qk8{G:Ev.Call}{y W:Nat}{a:List Nat}{Inv:Nat->(Nat->Prop)->Hp->Prop}{D:Nat->Prop}{n:Nat}{L:AV}{es:List Edge}{v:AV}{cs:List AV}{ins:List Nat}{M I ib X d m:Nat}(J:YI G y W cs a Inv)(K:m=cs.length)(l:m<900000)(o:D d)(q:W<=d)(r:d≠M/\d≠I/\d≠ib/\d≠X)(i:∀ b,In v b->b≠d)(s:∀ b,In L b->b≠d)(f:es.length<200000)(u:ins.length=n)(N:∀ e∈es,e.f<n/\e.t<n)(w:∀ x<n,ins.getD x 0<m){iV A:pL}{Q:pS}(Y:∀ H,Inv a.length D H->Ok (A H) Q):∀(k c t:Nat) (dn:List Bool) (H:Hp),m-c<k->c<=m->dn.length=m->RS D H n L es v cs ins M I ib X->H.get d=aB 0 (bools dn)->d<H.nx->Inv t D H->t<=a.length->a.drop t=j6 es ins m (m-c) dn -> Ok (qui G iV A (.yield y) (.ptr M 0) (.ptr I 0) (.ptr ib 0) (.sl d 0 m m true) (.int .i64 (.ofNat m)) k (.int .i64 (.ofNat c)) H) Q
 |0,c,t,dn,H,h,_,_,_,_,_,_,_,_=>om
 |k+1,c,t,dn,H,h,hc,hdl,hR,hdb,qG,hI,ht,ho=>by
  show Ok (zjn G _ _ _ _ _ _ _ _ (qui G _ _ _ _ _ _ _ _ k) _ H) Q;unfold zjn;by_cases F:c<m
  ·simp only[go_sem,F];unfold zjk;have e1:=hR.l;have R:=hR.gl.aX;rw[<-K]at R;have e3:=hR.g;have e4:=hR.e.len;have mk:=qck [.bool false] 1 H.nx m om om;rw[qcv,q37]at mk;obtain⟨l1,l2,l3,l4⟩:=hR.lt;have fH:Fm No H (aK H (aB 0 (bools (List.replicate m false)))):=(Fm.refl _ _).push _;have S:(aK H (aB 0 (bools (List.replicate m false)))).get I=aB 0 [.int .i64 (.ofNat n),L]:=(fH.keep l2).trans e3;simp only[go_sem,e1,R,mk,S,e4];unfold zjo;rw[dD];refine q1f hR f u N w hdl hdb qG (tb:=H.nx) (lEO _) (fin:=waits es ins dn (List.replicate m false)) (fun O g1 g2 g3=>?_) bZ 0 (List.replicate m false) _ lf (lEV _) g3 (jQ _ _) fH (lU6 _) rfl;unfold q5y;have z:Fm No H O:=g2;have g:=hR.no z;have e5:=g.l;simp only[go_sem,e5,R];unfold zjq;rw[dD];have C:Inv t D O:=J.ext t D D _ _ hI (z.mono fun _ _ h=>h.elim) fun b h=>Or.inl h;have T:m-c=(m-(c+1))+1:=om;rw[T,j6]at ho;refine q13 J K l hdl (by rw[q1d];simp) o q r.1 g i ((z.keep qG).trans hdb) (af qG z.nx) g1 C (fun B=>?_) (fun p H3 B P k1 k2 Z=>?_) (fun p B=>?_) bZ 0 lf (lEV _) fun j hj=>absurd hj (lUD _)
   ·unfold zaw;simp(disch:=go_size)only[go_sem,rB,rI,rK,rL,rN,rS,r8];rw[B]at ho;exact qk8 J K l o q r i s f u N w Y k (c+1) t dn O om om hdl g ((z.keep qG).trans hdb) (af qG z.nx) C ht ho
   ·unfold zaw;simp(disch:=go_size)only[go_sem,rB,rI,rK,rL,rN,rS,r8];rw[B]at ho;have E:t<a.length:=(lI2.1 P).1;have U:a.drop (t+1)=j6 es ins m (m-(c+1)) (dn.set p true):=by
     rw[lIU E]at ho;simp_all
    refine qk8 J K l o q r i s f u N w Y k (c+1) (t+1) (dn.set p true) H3 om om (by rw[lO1];exact hdl) (g.keep Z ?_) k1 (af qG (lI7 z.nx Z.nx)) k2 E U;rintro b hb (h|h)
    ·exact h (g.rb hb)
    ·subst h;rcases hb with e|e|e|e|e|e
     ·omega
     ·omega
     ·omega
     ·omega
     ·exact i _ e rfl
     ·exact s _ e rfl
   ·rw[B]at ho;have V:(a.drop t)[0]? =some p:=by rw[ho];rfl
    rwa [lU1,lO7]at V
  ·simp only[go_sem,F];have:c=m:=om;subst this;rw[lUV]at ho;have V:a.drop t=[]:=ho;have:a.length<=t:=List.drop_eq_nil_iff.1 V;have:t=a.length:=om;simp_all
theorem zpd(G:aU C)(I:1<=k){y w:Nat}{c:List Nat}{Inv:Nat->(Nat->Prop)->Hp->Prop}{z:AV}{es:List Edge}{v:AV}{g i ib A:Nat}{D:Nat->Prop}(B:YI (C (k-1)) y w cs c Inv)(l:cs.length<900000)(d:RS D H n z es v cs ins g i ib A)(m:w<=H.nx)(f:es.length<200000)(o:ins.length=n)(J:∀ e∈es,e.f<n/\e.t<n)(p:∀ x<n,ins.getD x 0<cs.length)(O:c=j6 es ins cs.length cs.length (List.replicate cs.length false))(K:Inv 0 D H):Ok (C k (.f 150) [.yield y,.ptr g 0,.ptr i 0,.ptr ib 0] H) fun r H'=>r=.bB []/\∃ L,Inv c.length L H':=by
 obtain⟨j,rfl⟩:=aT I;rw[(G j).zCw];unfold zCw z5o;have E:=d.l;have M:=d.gl.aX;obtain⟨N,P,Q,R⟩:=d.lt;have F:=qck [.bool false] 1 H.nx cs.length om om;rw[qcv,q37]at F;have s:Fm No H (aK H (aB 0 (bools (List.replicate cs.length false)))):=(Fm.refl _ _).push _;have t:(aK H (aB 0 (bools (List.replicate cs.length false)))).get g=aB 0 [v]:=(s.keep N).trans E;simp only[go_sem,E,M,F,t];unfold z06;rw[dD];have a:=d.no s;have u:RS (fun b=>D b\/b=H.nx) (aK H (aB 0 (bools (List.replicate cs.length false)))) n z es v cs ins g i ib A:=
  ⟨a.l,a.g,a.i,a.w,a.gl,a.e,a.lt,Or.inl a.dl,Or.inl a.dg,Or.inl a.di,Or.inl a.dw,fun b h=>Or.inl (a.dv b h),fun b h=>Or.inl (a.de b h)⟩
 refine qk8 (D:=fun b=>D b\/b=H.nx) B rfl l (Or.inr rfl) m ⟨om,om,om,om⟩ (fun b q e=>by have:=d.gl.lt q;omega) (fun b q e=>by have:=d.e.lt q;omega) f o J p (fun H' h=>Ok.ret ⟨rfl,_,h⟩) bZ 0 0 (List.replicate cs.length false) _ lf (lEV _) g3 u (jQ _ _) (lU6 _) (B.ext 0 D _ _ _ K (s.mono fun _ _ h=>h.elim) fun b h=>h.imp id fun e=>⟨om,by rw[np];omega⟩) (lEV _) ?_;trivial
def bA8(HB H:Hp)(iv:AV)(nb n l ob:Nat)(ins:List Nat)(D:Nat->Prop):Prop:=
 (n=0/\iv=.aA)\/(iv=.sl nb 0 n n true/\H.get nb=aB 0 (aI ins)/\HB.nx<=nb/\nb<l/\¬ D nb/\nb≠ob)
structure OI(LO:LP)(HB:Hp)(L:TT AV 2)(l ob nb x2 n:Nat)(iv:AV)(cs:List AV)(out:List (List Nat))(ord:List Nat)(t:Nat)(D:Nat->Prop)(H:Hp):Prop where
 fm:Fm No HB H
 dlt:∀ b,D b->b<H.nx
 lp:H.get l=LO.blk true L
 hl:HB.nx<=l/\l<H.nx/\¬ D l
 ho:HB.nx<=ob/\ob<l/\¬ D ob
 rc:H.get x2=aB 0 [.aA,.aA]/\x2<l/\¬ D x2/\x2≠ob/\x2≠nb
 ins:∃ fJ:List Nat,fJ.length=n/\bA8 HB H iv nb n l ob fJ D/\∀(j i:Nat) (o:List Nat) (x:Nat),j<t->ord[j]? =some i->out[i]? =some o->x∈o->fJ[x]? =some j
 lv:∃(lv:AV) (os:List AV),H.get ob=aB 0 [lv,iv]/\Gl 1 H lv t os/\(∀b,In lv b->l<b/\¬ D b)/\∀(j:Nat) (w:AV),os[j]? =some w->∃ i o,ord[j]? =some i/\out[i]? =some o/\Gl 1 H w o.length (aI o)/\dA w=.val (.int .i64 (.ofNat o.length))/\∀ b,In w b->HB.nx<=b/\¬ D b/\b<l/\b≠ob/\b≠nb/\b≠x2
 cs:∀(i:Nat) (c:AV) (o:List Nat),cs[i]? =some c->out[i]? =some o->Gl 1 H c o.length (aI o)/\∀ b,In c b->HB.nx<=b/\¬ D b/\b<l/\b≠ob/\b≠nb/\b≠x2
theorem OI.ext{HB:Hp}{L:TT AV 2}{l ob nb x2 n:Nat}{iv:AV}{out:List (List Nat)}{p:List Nat}{t:Nat}{D r:Nat->Prop}(h:OI LO HB L l ob nb x2 n iv cs out p t D H)(f:Fm (fun b=>D b/\HB.nx<=b) H H')(z:∀ b,r b->D b\/(H.nx<=b/\b<H'.nx)):OI LO HB L l ob nb x2 n iv cs out p t r H':=by
 obtain⟨K,v,A⟩:=h.hl;obtain⟨M,N,B⟩:=h.ho;obtain⟨x,O,C,P⟩:=h.rc;have k:∀ b,b<H.nx->¬ D b->¬ r b:=fun b a s u=>(z b u).elim s fun g=>by have:=g.1;omega
 have m:∀ b,b<H.nx->¬ D b->H'.get b=H.get b:=fun b a s=>f.get b a fun g=>s g.1;obtain⟨Q,R,S,T⟩:=h.ins;obtain⟨lv,U,V,E,y,W⟩:=h.lv;refine⟨h.fm.then f fun c F g=>absurd F (by have:=g.2;omega),fun b a=>(z b a).elim (fun g=>af (h.dlt b g) f.nx) fun g=>g.2,(m l v A).trans h.lp,⟨K,af v f.nx,k l v A⟩,⟨M,N,k ob om B⟩,⟨(m x2 om C).trans x,O,k x2 om C,P⟩,⟨Q,R,?_,T⟩,⟨lv,U,(m ob om B).trans V,E.keep f.nx fun b a d=>m b d (y b a).2,fun b a=>⟨(y b a).1,k b (E.lt a) (y b a).2⟩,fun j w G=>?_⟩,fun i c o I J=>?_⟩
 ·rcases S with g|⟨g1,g2,g3,g4,g5,g6⟩
  ·exact Or.inl g
  ·exact Or.inr ⟨g1,(m nb om g5).trans g2,g3,g4,k nb om g5,g6⟩
 ·obtain⟨i,o,X,Y,q,Z,e⟩:=W j w G;exact⟨i,o,X,Y,q.keep f.nx fun b a d=>m b d (e b a).2.1,Z,fun b a=>⟨(e b a).1,k b (q.lt a) (e b a).2.1,(e b a).2.2⟩⟩
 ·obtain⟨q,e⟩:=h.cs i c o I J;exact⟨q.keep f.nx fun b a d=>m b d (e b a).2.1,fun b a=>⟨(e b a).1,k b (q.lt a) (e b a).2.1,(e b a).2.2⟩⟩
theorem q2x{O:Ev.Call}{c lv:AV}{o:List Nat}{ob nb n t:Nat}{H1:Hp}(i:Gl 1 H1 c o.length (aI o))(d:∀ b,In c b->b≠nb)(l:o.length<900000)(p:∀ x∈o,x<n)(r:H1.get ob=aB 0 [lv,.sl nb 0 n n true])(e:ob≠nb)(f:ob<H1.nx)(g:aD lv=.val (.int .i64 (.ofNat t))){q:pL}{Q:pS}{fin:List Nat}(s:∀ H,H.get nb=aB 0 (aI fin)->Fm (fun b=>b=nb) H1 H->Ok (q H) Q):∀(k j:Nat) (ins:List Nat) (H:Hp),o.length-j<k->j<=o.length->ins.length=n->H.get nb=aB 0 (aI ins)->Fm (fun b=>b=nb) H1 H->fill ins (o.drop j) t=fin -> Ok (qks O q (.ptr ob 0) c (.int .i64 (.ofNat o.length)) k (.int .i64 (.ofNat j)) H) Q
 |0,j,ins,H,h,_,_,_,_,_=>om
 |k+1,j,ins,H,h,hj,hl,hg,hF,hf=>by
  show Ok (q6p O _ _ _ _ (qks O _ _ _ _ k) _ H) Q;unfold q6p;by_cases a:j<o.length
  ·obtain⟨b,C,u,A,v⟩:=i.rl.at' j (by rw[lM];exact a);rw[qhz]at v;have w:H.get b=H1.get b:=hF.get b A (d b (i.aAl a u));have y:H.get ob=aB 0 [lv,.sl nb 0 n n true]:=(hF.get ob f e).trans r;have B:o[j]<n:=p _ (lEQ _);have m:o[j]+1<=ins.length:=om;simp only[go_sem,a];unfold q6m;simp(disch:=omega)only[go_sem,seval,u,w,v,y,g,hg,lI1,lEW,lEX,lIT,lM,m,lU8];unfold q6n;simp(disch:=go_size)only[go_sem,seval];have z:o.drop j=o[j]::o.drop (j+1):=lIU a;rw[qj4 _ _ _ om];refine q2x i d l p r e f g s k (j+1) (ins.set o[j] t) _ om om (by rw[lO1];exact hl) (dL _ _ _) (hF.put _ _ fun _=>rfl) ?_;rw[z]at hf;exact hf
  ·simp only[go_sem,a];have:j=o.length:=om;subst this;rw[lXJ]at hf;subst hf;exact s H hg hF
theorem xa7(hC:aU C)(hR:uI LA LO C)(hk:2<=k){HB:Hp}{L:TT AV 2}{l ob nb x2 n:Nat}(hG:G L 5=.ptr ob 0){iv:AV}{out:List (List Nat)}{u:List Nat}{t i:Nat}{c:AV}{D:Nat->Prop}(p:OI LO HB L l ob nb x2 n iv cs out u t D H)(ht:u[t]? =some i)(X:cs[i]? =some c)(hlen:cs.length=out.length)(hn:n<=256)(ht2:t<900)(v:∀ o∈out,o≠[]/\o.length<=256/\∀ x∈o,x<n)(Y:∀(q:Nat) (s o:List Nat) (x:Nat),out[q]? =some s->out[i]? =some o->x∈o->x∈s->q=i)(K:∀ j,j<t->u[j]? ≠ some i):Ok (C k (.y l) [c] H) fun r H'=>r=.bool true/\OI LO HB L l ob nb x2 n iv cs out u (t+1) D H'/\Fm (fun b=>¬ D b) H H':=by
 obtain⟨k,rfl⟩:∃ j,k=j+1:=⟨k-1,om⟩;rw[(hR k).vK L l c H p.lp,hG];unfold vK;obtain⟨l1,l2,l3⟩:=p.hl;obtain⟨o1,o2,o3⟩:=p.ho;have hic:i<cs.length:=(lI2.1 X).1;obtain⟨o,O⟩:∃ o,out[i]? =some o:=⟨out[i]'om,g3⟩;obtain⟨g1,g2⟩:=p.cs i c o X O;obtain⟨q1,q2,q3⟩:=v o (lIK O);obtain⟨x1',x3,x4,x5⟩:=p.rc;obtain⟨J,i1,i2,i3⟩:=p.ins;obtain⟨lv,P,v1,V,v3,v4⟩:=p.lv;have hn0:¬ n=0:=fun e=>by
  cases o with
  |nil=>exact q1 rfl
  |cons x o=>have:=q3 x lIH;omega
 rcases i2 with⟨e,_⟩|⟨rfl,b1,b2,b3,b4,b5⟩
 ·exact absurd e hn0
 have hl':=g1.aX;simp only[go_sem,seval,hl'];unfold q6q;rw[dD];generalize E:H.put l (LO.blk false L)=H1;have n1:H1.nx=H.nx:=by rw[<-E];rfl
 have S:Fm (fun b=>b=l) H H1:=by rw[<-E];exact(Fm.refl _ _).put _ _ fun _=>rfl
 have gl1:H1.get l=LO.blk false L:=by rw[<-E,dL]
 have M:H1.get ob=aB 0 [lv,.sl nb 0 n n true]:=(S.get ob om om).trans v1;have gn1:H1.get nb=aB 0 (aI J):=(S.get nb om om).trans b1;refine q2x (H1:=H1) (g1.fm S fun b a=>by have:=(g2 b a).2.2.1;omega) (fun b a=>(g2 b a).2.2.2.2.1) om q3 M (Ne.symm b5) om V.aX (fin:=fill J o t) (fun d k1 k2=>?_) bZ 0 J H1 lf (lEV _) i1 gn1 (Fm.refl _ _) rfl;unfold qhj;have n2:=k2.nx;have f2:Fm (fun b=>b=l\/b=nb) H d:=(S.mono fun _ _ h=>Or.inl h).trans (k2.mono fun _ _ h=>Or.inr h);have N:d.get ob=aB 0 [lv,.sl nb 0 n n true]:=(k2.get ob om om).trans M;have gl2:d.get l=LO.blk false L:=(k2.get l om om).trans gl1;have gc2:Gl 1 d c o.length (aI o):=g1.fm f2 fun b a=>by have:=(g2 b a).2.2;omega
 obtain⟨w,w1,w2,w3,w4⟩:=qz1 hC (k:=k) om (H:=⟨d.t,d.nx+8⟩) (gc2.no ((Fm.refl _ _).up 8));have bCl:oD 64 lv lv=true:=qP V.flat 63;have hol:0<o.length:=lUR.2 q1;rcases w2.is with⟨_,h0⟩|⟨wb,wo,we,wq,wL,rfl,_⟩
 ·omega
 simp only[go_sem,seval,N,w1,bCl];have I:Fm No d (Hp.put ⟨d.t,d.nx+8⟩ (d.nx+4) (aB 0 [.sl wb wo o.length o.length we])):=by(repeat(first|exact Fm.refl _ _|assumption|refine Fm.push ?_ _|refine Fm.up2 ?_ (by go_size)|refine Fm.aH ?_ _ _ (by go_size)))
 have v22:Gl 1 d lv t P:=V.fm f2 fun b a=>by have:=(v3 b a).1;omega
 obtain⟨z,e,gl',_,Q,nx'⟩:=(v22.no I).append (k:=1) (w:=24) (x:=[.sl wb wo o.length o.length we]) om rfl om om;refine Ok.tT e ?_;have nx3:z.nx=d.nx+8+1:=nx';have f:∀ b,In lv b->l<b:=fun b a=>(v3 b a).1;have go3:z.get ob=aB 0 [lv,.sl nb 0 n n true]:=(Q.get ob om fun a=>by have:=f _ a;omega).trans ((I.keep om).trans N);have gl3:z.get l=LO.blk false L:=(Q.get l om fun a=>by have:=f _ a;omega).trans ((I.keep om).trans gl2);simp only[go_sem,seval,go3,lEX,lIT];have es:aY [lv,.sl nb 0 n n true] 0 [.sl (d.nx+8) 0 (t+1) (t+1) false]=[.sl (d.nx+8) 0 (t+1) (t+1) false,.sl nb 0 n n true]:=rfl;rw[es];have gl4:(z.put ob (aB 0 [.sl (d.nx+8) 0 (t+1) (t+1) false,.sl nb 0 n n true])).get l=LO.blk false L:=by rw[dS _ _ _ _ om];exact gl3
 rw[zrj gl4];have f3:Fm (fun b=>b=l\/b=nb\/In lv b) H z:=(((f2.mono fun _ _ h=>h.imp id Or.inl).trans (I.mono fun _ _ h=>h.elim)).trans (Q.mono fun _ _ h=>Or.inr (Or.inr h)));have U:Fm (fun b=>b=l\/b=nb\/b=ob\/In lv b) H ((z.put ob (aB 0 [.sl (d.nx+8) 0 (t+1) (t+1) false,.sl nb 0 n n true])).put l (LO.blk true L)):=
  ((f3.mono (T:=fun b=>b=l\/b=nb\/b=ob\/In lv b) fun _ _ h=>h.imp id (Or.imp id Or.inr)).put ob _ fun _=>Or.inr (Or.inr (Or.inl rfl))).put l _ fun _=>Or.inl rfl
 have n4:((z.put ob (aB 0 [.sl (d.nx+8) 0 (t+1) (t+1) false,.sl nb 0 n n true])).put l (LO.blk true L)).nx=d.nx+9:=nx3;have old:∀{x:AV} {m:Nat} {y:List AV},Gl 1 H x m y->(∀b,In x b->b<l/\b≠ob/\b≠nb/\b≠x2)->Gl 1 ((z.put ob (aB 0 [.sl (d.nx+8) 0 (t+1) (t+1) false,.sl nb 0 n n true])).put l (LO.blk true L)) x m y:=fun{x m y} Z a=>Z.fm U fun b hb'=>by
  have:=a b hb';rintro (h|h|h|h)
  ·omega
  ·omega
  ·omega
  ·have:=f _ h;omega
 refine Ok.ret ⟨rfl,⟨p.fm.then U fun c X h=>?_,fun b a=>af (p.dlt b a) om,dL _ _ _,⟨l1,om,l3⟩,⟨o1,o2,o3⟩,⟨?_,x3,x4,x5⟩,⟨fill J o t,by rw[qe9];exact i1,Or.inr ⟨rfl,?_,b2,b3,b4,b5⟩,fun j q s x A F B R=>?_⟩,⟨.sl (d.nx+8) 0 (t+1) (t+1) false,P++[.sl wb wo o.length o.length we],?_,?_,?_,fun j w A=>?_⟩,fun q c' s F B=>?_⟩,U.mono fun b _ h=>?_⟩
 ·rcases h with h|h|h|h
  ·omega
  ·omega
  ·omega
  ·have:=f _ h;omega
 ·rw[U.get x2 om ?_]
  ·exact x1'
  ·rintro (h|h|h|h)
   ·omega
   ·omega
   ·omega
   ·have:=f _ h;omega
 ·rw[dS _ _ _ _ om,dS _ _ _ _ b5,Q.get nb om fun a=>by have:=f _ a;omega];exact(I.keep om).trans k1
 ·have Z:x<J.length:=by
   rw[i1];exact(v s (lIK B)).2.2 x R
  rw[qog t o J x Z];rcases lOI j t with g|g
  ·have h4:=i3 j q s x g F B R;rw[lEU fun hxo=>?_,h4];have:q=i:=Y q s o x B O hxo R;subst this;exact K j g F
  ·have:j=t:=om;subst this;rw[ht]at F;cases F;rw[O]at B;cases B;rw[lEZ R]
 ·rw[dS _ _ _ _ om,dL]
 ·refine gl'.keep (lEO _) fun b a _=>?_;obtain⟨_,_,_,_,h⟩:=a;cases h;rw[dS _ _ _ _ om,dS _ _ _ _ om]
 ·rintro b ⟨_,_,_,_,h⟩;have a:b=d.nx+8:=by cases h;rfl
  subst a;exact⟨om,fun h=>by have:=p.dlt _ h;omega⟩
 ·rcases lOI j P.length with g|g
  ·rw[lIO g]at A;obtain⟨q,s,a1,W,a3,a4,a5⟩:=v4 j w A;exact⟨q,s,a1,W,old a3 fun b a=>(a5 b a).2.2,a4,a5⟩
  ·rw[lIJ g]at A;have h0:j-P.length=0:=by
    have:=(lI2.1 A).1;simpa using this
   rw[h0]at A;cases A;have hos:P.length=t:=by have:=V.len;omega
   have hjt:j=t:=om;subst hjt;refine⟨i,o,ht,O,?_,w3,fun b a=>g2 b (w4 b a)⟩;refine w2.keep (by show d.nx+8<=_;omega) fun b a _=>?_;obtain⟨_,_,b6,b7,b8⟩:=g2 b (w4 b a);rw[dS _ _ _ _ om,dS _ _ _ _ b7,Q.get b om fun a=>by have:=f _ a;omega];exact I.keep om
 ·obtain⟨a1,W⟩:=p.cs q c' s F B;exact⟨old a1 fun b a=>(W b a).2.2,W⟩
 ·rcases h with rfl|rfl|rfl|h
  ·exact l3
  ·exact b4
  ·exact o3
  ·exact(v3 b h).2
theorem kX.eqG{v:AV}{es:List Edge}(h:kX H v es)(n:Int):Ev.oD 64 (.agg [.int .i64 n,v]) (.agg [.int .i64 n,v])=true:=
 qgc [.int .i64 n,v] (by unfold Tr;rw[lXK,lXK,h.flat];rfl)
theorem zs2(a:aU C)(c:1<=k){v:AV}(h:Gl 1 H v n l):∃w,C k (.f 129) [v] H=.ok w H/\Gl 1 H w n l/\dA w=.val (.int .i64 (.ofNat n))/\(∀b,In w b->In v b):=by obtain⟨j,rfl⟩:=aT c;obtain⟨w,e,d,f,g⟩:=h.clip;refine⟨w,?_,d,f,g⟩;rw[(a j).zCg];unfold zCg z5z;simp only[go_sem,h.aX,e]
theorem qoa{es:List Edge}{ins:List Nat}{m:Nat}:∀(k:Nat) (dn:List Bool) (i:Nat),i∈j6 es ins m k dn->i<m/\dn.getD i true=false
 |0,_,_,h=>by cases h
 |k+1,dn,i,h=>by
  rw[j6]at h;cases b:qjw dn (waits es ins dn (List.replicate m false)) m with
  |none=>rw[b]at h;exact qoa k dn i h
  |some p=>
   rw[b]at h;obtain⟨p1,d,_⟩:=qep b;rcases lI8.1 h with rfl|h
   ·refine⟨p1,?_⟩;unfold okP at d;simp_all
   ·obtain⟨f,a⟩:=qoa k _ i h;refine⟨f,?_⟩;rw[lES,lXA]at a;by_cases e:p=i
    ·subst e;by_cases c:p<dn.length
     ·simp[c]at a
     ·simp[c]at a
    ·simp_all
theorem qk9{es:List Edge}{ins:List Nat}{m:Nat}:∀(k:Nat) (dn:List Bool),dn.length=m->(j6 es ins m k dn).Nodup
 |0,_,_=>List.nodup_nil
 |k+1,dn,hd=>by
  rw[j6];cases a:qjw dn (waits es ins dn (List.replicate m false)) m with
  |none=>exact qk9 k dn hd
  |some p=>obtain⟨p1,b,_⟩:=qep a;refine lXO.2 ⟨fun h=>?_,qk9 k _ (by rw[lO1];exact hd)⟩;have:=(qoa k _ p h).2;simp_all
structure CR(HB H:Hp)(n:Nat)(lv iv:AV)(os:List AV)(res:List (List Nat))(ins:List Nat):Prop where
 gl:Gl 1 H lv os.length os
 cap:dA lv=.val (.int .i64 (.ofNat os.length))
 len:os.length=res.length
 at':∀(j:Nat) (w:AV) (o:List Nat),os[j]? =some w->res[j]? =some o->Gl 1 H w o.length (aI o)/\dA w=.val (.int .i64 (.ofNat o.length))/\∀ b,In w b->HB.nx<=b
 gi:Gl 1 H iv n (aI ins)
 bCt:dA iv=.val (.int .i64 (.ofNat n))
 ins:∀(j:Nat) (o:List Nat) (x:Nat),res[j]? =some o->x∈o->ins[x]? =some j
 new:∀ b,In lv b\/In iv b->HB.nx<=b
structure qlr(n:Nat)(es:List Edge)(out:List (List Nat))(ins:List Nat)(res:List (List Nat)):Prop where
 parts:qdb n (jO es) out
 asc:out.Pairwise fun a b=>a.headD 0<b.headD 0
 il:ins.length=n
 ix:∀(i:Nat) (o:List Nat) (x:Nat),out[i]? =some o->x∈o->ins[x]? =some i
 res:res=(j6 es ins out.length out.length (List.replicate out.length false)).map fun i=>out.getD i []
theorem qdb.perm{out a:List (List Nat)}(h:qdb n aS out)(p:a.Perm out):qdb n aS a:=
 ⟨fun c b=>h.scc c (p.mem_iff.1 b),p.flatten.nodup_iff.2 h.nd,fun x=>p.flatten.mem_iff.trans (h.all x)⟩
theorem zc6:∀(out:List (List Nat)) (i j:Nat) (a b:List Nat) (x:Nat),out.flatten.Nodup->out[i]? =some a->out[j]? =some b->x∈a->x∈b->i=j
 | [],_,_,_,_,_,_,h,_,_,_=>by simp at h
 |o::r,0,0,_,_,_,_,_,_,_,_=>rfl
 |o::r,0,j+1,a,b,x,hn,h1,h2,h3,h4=>by rw[lOR,lOM]at hn;simp at h1;subst h1;exact absurd rfl (hn.2.2 x h3 x (lUI.2 ⟨b,lIK (by simpa using h2),h4⟩))
 |o::r,i+1,0,a,b,x,hn,h1,h2,h3,h4=>by rw[lOR,lOM]at hn;simp at h2;subst h2;exact absurd rfl (hn.2.2 x h4 x (lUI.2 ⟨a,lIK (by simpa using h1),h3⟩))
 |o::r,i+1,j+1,a,b,x,hn,h1,h2,h3,h4=>by rw[lOR,lOM]at hn;rw[zc6 r i j a b x hn.2.1 (by simpa using h1) (by simpa using h2) h3 h4]
theorem qdb.sizes{out:List (List Nat)}(h:qdb n aS out)(k:n<=256):out.length<=256/\∀ o∈out,o≠[]/\o.length<=256/\∀ x∈o,x<n:=by
 have j:out.flatten.length<=n:=by have:=h.nd.length_le_of_subset (l₂:=List.range n) fun x d=>lIY.2 ((h.all x).1 d);simp_all
 have b:∀ o∈out,o≠[]:=fun o a e=>by obtain⟨_,r,g,_⟩:=h.scc o a;rw[e]at g;cases g
 have f:∀(o:List (List Nat)),(∀c∈o,c≠[])->o.length<=o.flatten.length:=fun o=>by
  induction o with
  |nil=>intro _;exact lEO _
  |cons c o ih=>intro h;have l:=ih fun c i=>h c (lIS _ i);have m:0<c.length:=lUR.2 (h c lIH);rw[lOR,lEP,lEX];omega
 have:=f out b;refine⟨om,fun o a=>⟨b o a,?_,fun x d=>(h.all x).1 (lUI.2 ⟨o,a,d⟩)⟩⟩;have:o.length<=out.flatten.length:=(List.sublist_flatten_of_mem a).length_le;omega
theorem zz4(hC:aU C)(hR:uI LA LO C)(hj:10<=j){HB:Hp}{es:List Edge}(hE:∀ e∈es,e.f<n/\e.t<n)(hn:n<=256)(hlen:es.length<200000){E v:AV}(hg:kX HB E es){out:List (List Nat)}{s u ib K ob x2 nb:Nat}{iv:AV}{L:TT AV 2}(hg5:G L 5=.ptr ob 0)(hg2:G L 2=.ptr x2 0)(P:aHX H0 H n E v cs out ins s u ib K)(g:qlr n es out ins ((j6 es ins out.length out.length (List.replicate out.length false)).map fun i=>out.getD i []))(l:H0.nx<=s/\H0.nx<=u/\H0.nx<=ib/\H0.nx<=K)(F:∀(i:Nat) (c:AV) (b:Nat),cs[i]? =some c->In c b->b≠s/\b≠u/\b≠ib/\b≠K)(Z:Fm No HB H)(uD:HB.nx<=ob/\ob<H0.nx)(I:HB.nx<=x2/\x2<H0.nx/\x2≠ob)(hgo:H.get ob=aB 0 [.aA,iv])(hgx:H.get x2=aB 0 [.aA,.aA])(J:(n=0/\iv=.aA/\nb=ob)\/(0<n/\iv=.sl nb 0 n n true/\H.get nb=aB 0 (aI (List.replicate n 0))/\HB.nx<=nb/\nb<H0.nx/\nb≠ob/\nb≠x2))(h0:H0.nx<=H.nx):Ok (zvt LO (C j) L (.fn 150 [] [.ptr s 0,.ptr u 0,.ptr ib 0]) H) fun r H'=>∃ lv iv os fJ,r=.bB [.agg [lv,iv],.int .i64 (.ofNat 0)] /\ CR HB H' n lv iv os ((j6 es ins out.length out.length (List.replicate out.length false)).map fun i=>out.getD i []) fJ/\Fm No HB H':=by
 unfold zvt;have S:=P.ls;have aF3:=S.len;obtain⟨l1,l2,l3,l4⟩:=P.lt;obtain⟨z1,z2⟩:=g.parts.sizes hn;have hnd:=g.parts.nd;generalize Y:j6 es ins out.length out.length (List.replicate out.length false)=ord;have hom:∀ i∈ord,i<out.length:=fun i Q=>(qoa _ _ i (by rw[Y];exact Q)).1;have hon:ord.Nodup:=by rw[<-Y];exact qk9 _ _ g3
 have hol:ord.length<=out.length:=by have:=hon.length_le_of_subset (l₂:=List.range out.length) fun x hx=>lIY.2 (hom x hx);rwa [lXC]at this
 have hgl:=P.ls.gl;have hgH:kX H E es:=hg.fm Z;have aGy:∀ b,In E b->b<HB.nx:=fun b a=>hg.lt a;have aGf:∀ b,In v b->H0.nx<=b/\b<H.nx:=fun b a=>⟨S.new b a,hgl.lt a⟩;have z:Fm No H (aK H (LO.blk true L)):=(Fm.refl _ _).push _;have hRS:RS (RB E v s u ib K) (aK H (LO.blk true L)) n E es v cs ins s u ib K:=by refine⟨(z.keep l1).trans P.l,(z.keep l2).trans P.g,(z.keep l3).trans P.i,(z.keep l4).trans P.w,hgl.no z,hgH.fm z,⟨by rw[np];omega,by rw[np];omega,by rw[np];omega,by rw[np];omega⟩,Or.inl rfl,Or.inr (Or.inl rfl),Or.inr (Or.inr (Or.inl rfl)),Or.inr (Or.inr (Or.inr (Or.inl rfl))),fun b h=>Or.inr (Or.inr (Or.inr (Or.inr (Or.inl h)))),fun b h=>Or.inr (Or.inr (Or.inr (Or.inr (Or.inr h))))⟩
 have U:∀ b,RB E v s u ib K b->b<H.nx/\(b<HB.nx\/H0.nx<=b):=fun b a=>by
  rcases a with rfl|rfl|rfl|rfl|h|h
  ·exact⟨l1,Or.inr l.1⟩
  ·exact⟨l2,Or.inr l.2.1⟩
  ·exact⟨l3,Or.inr l.2.2.1⟩
  ·exact⟨l4,Or.inr l.2.2.2⟩
  ·exact⟨(aGf b h).2,Or.inr (aGf b h).1⟩
  ·have:=aGy b h;exact⟨om,Or.inl this⟩
 have A:∀ b,HB.nx<=b->b<H0.nx->¬ RB E v s u ib K b:=fun b d p h=>by have:=(U b h).2;omega
 have hI0:OI LO HB L H.nx ob nb x2 n iv cs out ord 0 (RB E v s u ib K) (aK H (LO.blk true L)):=by
  refine⟨Z.trans z,fun b a=>by have:=(U b a).1;rw[np];omega,jQ _ _,⟨Z.nx,lU6 _,fun h=>by have:=(U _ h).1;omega⟩,⟨uD.1,om,A ob uD.1 uD.2⟩,⟨(z.keep om).trans hgx,om,A x2 I.1 I.2.1,I.2.2,?_⟩,⟨List.replicate n 0,g3,?_,fun j i o x hj=>absurd hj (lUD _)⟩,⟨.aA,[],(z.keep om).trans hgo,Gl.nil _ _,fun b a=>(by obtain⟨_,_,_,_,h⟩:=a;cases h),fun j w h=>(by simp at h)⟩,fun i c o d p=>?_⟩
  ·rcases J with⟨_,_,e⟩|⟨_,_,_,_,_,_,a6⟩
   ·rw[e];exact I.2.2
   ·exact Ne.symm a6
  ·rcases J with⟨a1,a2,_⟩|⟨_,a1,a2,a3,a4,a5,a6⟩
   ·exact Or.inl ⟨a1,a2⟩
   ·exact Or.inr ⟨a1,(z.keep om).trans a2,a3,om,A nb a3 a4,a5⟩
  ·obtain⟨c1,c2,c3⟩:=S.at' i c o d p;refine⟨c2.no z,fun b a=>?_⟩;obtain⟨d1,d2⟩:=c3 b a;have d3:=c2.lt a;have hh:=Z.nx;refine⟨om,?_,d3,om,?_⟩
   ·rintro (e|e|e|e|e|e)
    ·exact(F i c b d a).1 e
    ·exact(F i c b d a).2.1 e
    ·exact(F i c b d a).2.2.1 e
    ·exact(F i c b d a).2.2.2 e
    ·exact d2 e
    ·have:=aGy b e;omega
   ·rcases J with⟨_,_,e⟩|⟨_,_,_,_,a4,_,_⟩
    ·exact⟨om,om⟩
    ·exact⟨om,om⟩
 have hY:YI (C (j-1)) H.nx HB.nx cs ord (OI LO HB L H.nx ob nb x2 n iv cs out ord):=by refine⟨fun t D D' H1 H2 h f hD=>h.ext f hD,fun t i c D H1 d p h=>?_⟩;have hit:t<ord.length:=(lI2.1 d).1;refine xa7 hC hR om hg5 h d p aF3 hn om z2 (fun i' M o x e1 e2 e3 e4=>zc6 out i' i M o x hnd e1 e2 e4 e3) fun j' hj' e=>?_;have:=(List.getElem?_inj om hon).1 (e.trans d.symm);omega
 have hin:∀ x<n,ins.getD x 0<cs.length:=fun x hx=>by obtain⟨o,W,hxo⟩:=lUI.1 ((g.parts.all x).2 hx);obtain⟨i,Q⟩:=lX6.1 W;have d:=g.ix i o x Q hxo;rw[lES,d];have:=(lI2.1 Q).1;show i<cs.length;omega
 have O:qj9 (C j) (.fn 150 [] [.ptr s 0,.ptr u 0,.ptr ib 0]) [.yield H.nx] (aK H (LO.blk true L))=C j (.f 150) [.yield H.nx,.ptr s 0,.ptr u 0,.ptr ib 0] (aK H (LO.blk true L)):=rfl;refine Ok.aGn (zpd hC (k:=j) om hY om hRS (by rw[np];have:=Z.nx;omega) hlen g.il hE hin (by rw[aF3,Y]) hI0) ?_;rintro r H1 ⟨rfl,D',hI⟩;rw[xcf hI.lp,hg5,hg2];unfold q6o;obtain⟨fJ,i1,i2,i3⟩:=hI.ins;obtain⟨lv,os,v1,v2,v3,v4⟩:=hI.lv;obtain⟨k1,k2,k3⟩:=hI.hl;obtain⟨x1',x3,x4,x5,x6⟩:=hI.rc;have fd:Fm (fun b=>b=H.nx) H1 (H1.put H.nx .dead):=(Fm.refl _ _).put _ _ fun _=>rfl;have go:(H1.put H.nx .dead).get ob=aB 0 [lv,iv]:=(fd.get ob om om).trans v1;have gx:(H1.put H.nx .dead).get x2=aB 0 [.aA,.aA]:=(fd.get x2 om om).trans x1';have gv2:Gl 1 (H1.put H.nx .dead) lv ord.length os:=v2.fm fd fun b a=>by have:=(v3 b a).1;omega
 obtain⟨w,w1,w2,w3,w4⟩:=zs2 hC (k:=j) om gv2;have V:os.length=ord.length:=by have:=v2.len;omega
 generalize hH2:H1.put H.nx .dead=H2 at *;have n2:H2.nx=H1.nx:=by rw[<-hH2];rfl
 have wsl:(w=.aA)\/∃ b o n m e,w=.sl b o n m e:=by
  rcases w2.is with⟨h,_⟩|⟨b,o,e,q,L,h,_⟩
  ·exact Or.inl h
  ·exact Or.inr ⟨_,_,_,_,_,h⟩
 have run:∃ H3,(vq (aP 0 (.ptr ob 0)) H2 fun a3 H=>vq (aN H a3) H fun a4 H=>ve (C j (.f 129) [a4] H) fun a5 H=>vq (aP 0 (.ptr ob 0)) H fun a6 H=>ve (jN H a6 a5) fun _ H=>vq (dB 2 H (.ptr ob 0)) H fun a8 H=>ve (qdc 2 H (.ptr x2 0) a8) fun _ H=>
   cO (eT (d9 (rV (dB 2 H (.ptr x2 0))) (d9 (some (.int .i64 (.ofNat 0))) (some [])))) H)=.ok (.bB [.agg [w,iv],.int .i64 (.ofNat 0)]) H3/\Fm (fun b=>b=ob\/b=x2) H2 H3:=by
  have N:∀ B1 B2,Fm (fun b=>b=ob\/b=x2) H2 ((H2.put ob B1).put x2 B2):=fun B1 B2=>((Fm.refl _ _).put _ _ fun _=>Or.inl rfl).put _ _ fun _=>Or.inr rfl;have es2:∀ x:AV,aY [lv,iv] 0 [x]=[x,iv]:=fun _=>rfl;have es3:∀ x:AV,aY [AV.aA,AV.aA] 0 [x,iv]=[x,iv]:=fun _=>rfl;have es4:∀ x:AV,List.take 2 [x,iv]=[x,iv]:=fun _=>rfl;rcases wsl with rfl|⟨b,o,n,m,e,rfl⟩
  ·simp(disch:=omega)only[go_sem,seval,go,w1,gx,es2,es3,es4,lEX,lIT,lEO,lU8,lX2];exact⟨_,rfl,N _ _⟩
  ·simp(disch:=omega)only[go_sem,seval,go,w1,gx,es2,es3,es4,lEX,lIT,lEO,lU8,lX2];exact⟨_,rfl,N _ _⟩
 obtain⟨H3,e3,N⟩:=run;rw[e3];have n3:=N.nx;have old:∀{x:AV} {m:Nat} {y:List AV},Gl 1 H1 x m y->(∀b,In x b->b≠H.nx/\b≠ob/\b≠x2)->Gl 1 H3 x m y:=fun{x m y} hx a=>(hx.fm fd fun b R=>(a b R).1).fm N fun b R=>by
  have:=a b R;rintro (h|h)
  ·exact this.2.1 h
  ·exact this.2.2 h
 refine Ok.ret ⟨w,iv,os,fJ,rfl,⟨?_,?_,?_,fun j' w' M d p=>?_,?_,?_,fun j' M x d p=>?_,fun b a=>?_⟩,?_⟩
 ·-- the list
  have h5:Gl 1 H3 w ord.length os:=w2.fm N fun b a h=>by
   have h6:=(v3 b (w4 b a)).1;rcases h with h|h
   ·omega
   ·omega
  rw[V];exact h5
 ·rw[V];exact w3
 ·rw[V,lET]
 ·obtain⟨i,o,a1,a2,a3,a4,a5⟩:=v4 j' w' d;rw[lO6,a1]at p;have p:out.getD i []=M:=Option.some.inj p;rw[lES,a2]at p;have p:o=M:=p;subst p;exact⟨old a3 fun b a=>by have:=a5 b a;exact⟨om,om,om⟩,a4,fun b a=>(a5 b a).1⟩
 ·rcases i2 with⟨B,X⟩|⟨B,X,b3,b4,b5,b6⟩
  ·have:fJ=[]:=lIG.1 om;rw[B,X,this];exact Gl.nil _ _
  ·rcases J with⟨_,h,_⟩|⟨_,_,_,_,_,_,a6⟩
   ·rw[B]at h;cases h
   ·rw[B];have g3:H3.get nb=aB 0 (aI fJ):=(N.get nb om (by rintro (h|h);exact b6 h;exact a6 h)).trans ((fd.get nb om om).trans X);exact⟨by rw[lM,i1,lI1],.inr ⟨nb,0,true,0,_,rfl,g3,lEV _,lX2,Or.inl rfl,om⟩⟩
 ·rcases i2 with⟨B,X⟩|⟨B,_⟩
  ·rw[B,X];rfl
  ·rw[B];rfl
 ·rw[lO6]at d;cases W:ord[j']? with
  |none=>rw[W]at d;cases d
  |some i=>rw[W]at d;have d:out.getD i []=M:=Option.some.inj d;have Q:i<out.length:=hom i (lIK W);rw[lES,gp Q]at d;have d:out[i]=M:=d;exact i3 j' i M x (lI2.1 W).1 W (by rw[gp Q,d]) p
 ·have hh:=Z.nx;rcases a with a|a
  ·have:=(v3 b (w4 b a)).1;omega
  ·rcases i2 with⟨_,X⟩|⟨B,_,b3,_⟩
   ·rw[X]at a;obtain⟨_,_,_,_,h⟩:=a;cases h
   ·rw[B]at a;obtain⟨_,_,_,_,h⟩:=a;cases h;exact b3
 ·refine hI.fm.then ((fd.mono (T:=fun b=>b=H.nx\/b=ob\/b=x2) fun _ _ h=>Or.inl h).trans (N.mono fun _ _ h=>Or.inr h)) fun c hc h=>?_;omega
theorem xez(F:aU C)(hO:uZ C)(hS:tJ C)(hR:uI LA LO C)(hj:920<=j){HB:Hp}{es:List Edge}(hE:qdy n es)(A:n<=256)(d:es.length<200000){m:AV}(hg:kX HB m es){g0 ob x2 nb:Nat}{iv:AV}{L:TT AV 2}(I:∀ g P Q R,G (pu L [(22,g),(23,P),(24,Q),(25,R)]) 5=.ptr ob 0)(J:∀ g P Q R,G (pu L [(22,g),(23,P),(24,Q),(25,R)]) 2=.ptr x2 0)(K:Fm No HB H)(p:H.get g0=aB 0 [.int .i64 (.ofNat n),m])(q:g0<H.nx)(uD:HB.nx<=ob/\ob<H.nx)(s:HB.nx<=x2/\x2<H.nx/\x2≠ob)(M:H.get ob=aB 0 [.aA,iv])(N:H.get x2=aB 0 [.aA,.aA])(O:(n=0/\iv=.aA/\nb=ob)\/(0<n/\iv=.sl nb 0 n n true/\H.get nb=aB 0 (aI (List.replicate n 0))/\HB.nx<=nb/\nb<H.nx/\nb≠ob/\nb≠x2)):Ok (qqa LO (C j) L (.ptr g0 0) H) fun r H'=>∃ lv iv S T out ins t,r=.bB [.agg [lv,iv],.int .i64 (.ofNat 0)]/\qlr n es out ins t/\CR HB H' n lv iv S t T/\Fm No HB H':=by
 unfold qqa;have u:kX H m es:=hg.fm K;have hq:=u.eqG (.ofNat n);simp only[go_sem,seval,p];refine Ok.iR (zx5 F hO hS hR (k:=j) om A d hE.rng u) ?_;rintro v H1 ⟨cs,out,Z,e,f⟩;have e:nV H H1 v cs out:=e;have f:Fm No H H1:=f;have w:H1.get g0=aB 0 [.int .i64 (.ofNat n),m]:=(f.keep q).trans p;simp only[go_sem,seval,w,hq];obtain⟨z1,z2⟩:=Z.sizes A;refine Ok.iR (zxp F hS (k:=j) hj e f.nx A z1 z2 Z.nd) ?_;rintro r z ⟨lb,gb,ib,wb,cs',a,ins,rfl,hp,ha,l,hcc,o,hnew⟩;have o:Fm (In v) H1 z:=o;have U:z.get g0=aB 0 [.int .i64 (.ofNat n),m]:=(o.get _ (af q f.nx) fun h=>by have:=e.new _ h;omega).trans w;simp only[go_sem,U,hq];have V:=Z.perm hp;have n1:=f.nx;have n2:=o.nx;have W:Fm No HB H1:=K.trans f;have X:Fm No HB z:=W.then o fun c hc h=>by have:=e.new c h;have:=K.nx;omega
 have x:∀{b:Nat} {k:bX},b<H.nx->H.get b=k->z.get b=k:=fun{b k} hb h=>(o.get b om fun h=>by have:=e.new b h;omega).trans ((f.keep hb).trans h);have y:qlr n es a ins ((j6 es ins a.length a.length (List.replicate a.length false)).map fun i=>a.getD i []):=⟨V,ha,l.il,l.ix,rfl⟩;have Y:aHX H z n m v cs' a ins lb gb ib wb:=l;refine(zz4 F hR (j:=j) om hE.rng A d hg (I _ _ _ _) (J _ _ _ _) Y y ⟨om,om,om,om⟩ (fun i c b B D=>?_) X uD s (x uD.2 M) (x s.2.1 N) (nb:=nb) (iv:=iv) ?_ om).mono ?_
 ·-- the components' blocks are older than the closure's
  have hm:=hcc c (lIK B);obtain⟨i',hi',rfl⟩:=lOO hm;obtain⟨_,E,_⟩:=e.at' i' cs[i'] (out[i']'(by rw[<-e.len];exact hi')) g3 g3;have:=E.lt D;omega
 ·rcases O with h|⟨B,D,E,h4,h5,h6,h7⟩
  ·exact Or.inl h
  ·simp_all
 ·rintro r H3 ⟨lv,iv,S,T,B,D,E⟩;exact⟨lv,iv,S,T,a,ins,_,B,y,D,E⟩
theorem xey(l:aU C)(u:uZ C)(v:tJ C)(m:uI LA LO C)(y:921<=k){es:List Edge}(o:qdy n es)(p:n<=256)(c:es.length<200000){f:AV}(q:kX H f es):Ok (C k (.f 106) [.agg [.int .i64 (.ofNat n),f]] H) fun r H'=>∃ lv iv z A out ins g,r=.bB [.agg [lv,iv],.int .i64 (.ofNat 0)]/\qlr n es out ins g/\CR H H' n lv iv z g A/\Fm No H H':=by
 obtain⟨j,rfl⟩:=aT y;rw[(m j).zBo];unfold zBo z6n;simp(disch:=first|go_size|omega)only[go_sem,seval];generalize b:aK (aK H (aB 0 [.int .i64 (.ofNat n),f])) (aB 0 [.aA,.aA])=H1;have E:H1.nx=H.nx+2:=by rw[<-b];rfl
 have w:Fm No H H1:=by rw[<-b];exact((Fm.refl _ _).push _).push _
 have g1:H1.get H.nx=aB 0 [.int .i64 (.ofNat n),f]:=by rw[<-b,qbo _ _ _ (by rw[np];omega),jQ]
 have B:H1.get (H.nx+1)=aB 0 [.aA,.aA]:=by rw[<-b];exact jQ _ _
 refine Ok.ve (z0c l (k:=j) om o p om (q.fm w)) ?_;rintro r a ⟨rfl,i⟩;have F:=i.nx;generalize pE [AV.agg [AV.int IntKind.i64 (Int.ofNat n),f]] 0 (same AV.undef 2)=L0;unfold q6l;have g2:a.get H.nx=aB 0 [.int .i64 (.ofNat n),f]:=(i.keep om).trans g1;have x2:a.get (H.nx+1)=aB 0 [.aA,.aA]:=(i.keep om).trans B;have h:=w.trans i;by_cases t:0<n
 ·have x:=qck [.int .i64 (.ofNat 0)] 8 (a.nx+1) n om om;rw[qcv,qod]at x;simp(disch:=first|go_size|omega)only[go_sem,rB,rI,rK,rL,rN,rS,r8,g2,t,x];have s:aY [AV.aA,AV.aA] 1 [.sl (a.nx+1) 0 n n true]=[.aA,.sl (a.nx+1) 0 n n true]:=rfl
  try rw[s]
  generalize d:(aK (aK a (aB 0 [AV.aA,AV.aA])) (aB 0 (aI (List.replicate n 0)))).put a.nx (aB 0 [AV.aA,AV.sl (a.nx+1) 0 n n true])=HX;have D:HX.nx=a.nx+2:=by rw[<-d];rfl
  have e:Fm No a HX:=by rw[<-d];exact(((Fm.refl _ _).push _).push _).aH _ _ om
  refine xez l u v m (j:=j) om o p c q (ob:=a.nx) (x2:=H.nx+1) (nb:=a.nx+1) (iv:=.sl (a.nx+1) 0 n n true) (g0:=H.nx) (fun _ _ _ _=>kr) (fun _ _ _ _=>kr) ?_ ?_ ?_ ?_ ?_ ?_ ?_ ?_
  ·exact h.trans e
  ·exact(e.keep om).trans g2
  ·omega
  ·omega
  ·omega
  ·rw[<-d,dL]
  ·exact(e.keep om).trans x2
  ·refine Or.inr ⟨t,rfl,?_,om,om,om,om⟩;rw[<-d,dS _ _ _ _ om];exact jQ (aK a _) _
 ·simp(disch:=go_size)only[go_sem,rB,rI,rK,rL,rN,rS,r8,g2,t];generalize d:aK a (aB 0 [AV.aA,AV.aA])=HX;have D:HX.nx=a.nx+1:=by rw[<-d];rfl
  have e:Fm No a HX:=by rw[<-d];exact(Fm.refl _ _).push _
  refine xez l u v m (j:=j) om o p c q (ob:=a.nx) (x2:=H.nx+1) (nb:=a.nx) (iv:=.aA) (g0:=H.nx) (fun _ _ _ _=>kr) (fun _ _ _ _=>kr) ?_ ?_ ?_ ?_ ?_ ?_ ?_ ?_
  ·exact h.trans e
  ·exact(e.keep om).trans g2
  ·omega
  ·omega
  ·omega
  ·rw[<-d,jQ]
  ·exact(e.keep om).trans x2
  ·simp_all
end Go.Di
end
noncomputable section
namespace Go.Di.T
open Classical
variable {n:Nat} {aS:Nat->List Nat}
def Rdy(n:Nat)(aS:Nat->List Nat)(pre:List (List Nat))(i:Nat):Prop:=∀ k,k<n->Rc aS i k->k∈pre.flatten\/Rc aS k i
structure aLL(n:Nat)(aS:Nat->List Nat)(pre:List (List Nat))(i:Nat):Prop where
 lt:i<n
 new:i∉pre.flatten
 rdy:Rdy n aS pre i
 least:∀ j,j<i->j∉pre.flatten->¬ Rdy n aS pre j
def z3u(n:Nat)(aS:Nat->List Nat)(i:Nat)(c:List Nat):Prop:=c.Pairwise (· < ·)/\∀ x,x∈c↔x<n/\Rc aS i x/\Rc aS x i
def kI(n:Nat)(aS:Nat->List Nat):List (List Nat)->List (List Nat)->Prop
 |pre,[]=>∀ x,x<n->x∈pre.flatten
 |pre,c::R=>(∃i,aLL n aS pre i/\z3u n aS i c)/\kI n aS (pre++[c]) R
theorem zd8:∀{l b:List Nat},l.Pairwise (· < ·)->b.Pairwise (· < ·)->(∀x,x∈l↔x∈b)->l=b
 | [],[],_,_,_=>rfl
 | [],y::_,_,_,h=>absurd ((h y).2 lIH) g3
 |x::_,[],_,_,h=>absurd ((h x).1 lIH) g3
 |x::l,y::b,h1,h2,h=>by
  rw[lUO]at h1 h2;have c:x=y:=by
   rcases lI8.1 ((h x).1 lIH)with e|hx
   ·exact e
   ·rcases lI8.1 ((h y).2 lIH)with e|hy
    ·exact e.symm
    ·have:=h1.1 y hy;have:=h2.1 x hx;omega
  subst c;rw[zd8 h1.2 h2.2 fun z=>⟨fun a=>?_,fun a=>?_⟩]
  ·rcases lI8.1 ((h z).1 (lIS _ a))with e|g
   ·have:=h1.1 z a;omega
   ·exact g
  ·rcases lI8.1 ((h z).2 (lIS _ a))with e|g
   ·have:=h2.1 z a;omega
   ·exact g
theorem kI.uniq:∀{R f pre:List (List Nat)},kI n aS pre R->kI n aS pre f->R=f
 | [],[],_,_,_=>rfl
 | [],c::f,pre,h,h'=>by obtain⟨⟨i,a,_⟩,_⟩:=h';exact absurd (h i a.lt) a.new
 |c::R,[],pre,h,h'=>by obtain⟨⟨i,a,_⟩,_⟩:=h;exact absurd (h' i a.lt) a.new
 |c::R,c'::f,pre,h,h'=>by
  obtain⟨⟨i,a,l⟩,o⟩:=h;obtain⟨⟨j,b,d⟩,k⟩:=h';have e:i=j:=by
   rcases lUW i j with g|g|g
   ·exact absurd a.rdy (b.least i g a.new)
   ·exact g
   ·exact absurd b.rdy (a.least j g b.new)
  subst e;have m:c=c':=zd8 l.1 d.1 fun x=>(l.2 x).trans (d.2 x).symm;subst m;rw[kI.uniq o k]
def cnt(n:Nat)(aS:Nat->List Nat)(i:Nat):Nat:=((List.range n).filter fun k=>decide (Rc aS i k)).length
theorem cnt_lt{i k:Nat}(j:i<n)(h:Rc aS i k)(d:¬ Rc aS k i):cnt n aS k<cnt n aS i:=by
 unfold cnt;have b:∀(l:List Nat),(l.filter fun x=>decide (Rc aS k x)).length<=(l.filter fun x=>decide (Rc aS i x)).length:=fun l=>by
  induction l with
  |nil=>exact lEO _
  |cons x l ih=>
   rw[lUN,lUN];by_cases a:Rc aS k x
   ·rw[lEZ (by simpa using a),lEZ (by simpa using h.trans a)];simpa using ih
   ·rw[lEU (by simpa using a)];split
    ·simp only[lEX];omega
    ·exact ih
 have f:∀(l:List Nat),i∈l->(l.filter fun x=>decide (Rc aS k x)).length<(l.filter fun x=>decide (Rc aS i x)).length:=fun l=>by
  induction l with
  |nil=>intro h;cases h
  |cons x l ih=>
   intro g;rw[lUN,lUN];by_cases e:x=i
   ·subst e;rw[lEU (by simpa using d),lEZ (by simpa using Rc.refl x)];have:=b l;simp only[lEX];omega
   ·have c:i∈l:=(lI8.1 g).resolve_left fun h=>e h.symm;have:=ih c;by_cases a:Rc aS k x
    ·rw[lEZ (by simpa using a),lEZ (by simpa using h.trans a)];simp_all
    ·rw[lEU (by simpa using a)];split
     ·simp only[lEX];omega
     ·exact this
 simp_all
theorem xco{pre:List (List Nat)}(g:∀ u,∀k∈aS u,k<n){x:Nat}(b:x<n)(d:x∉pre.flatten):∃ i,i<n/\i∉pre.flatten/\Rdy n aS pre i:=by
 have e:∀ m x,cnt n aS x=m->x<n->x∉pre.flatten->∃ i,i<n/\i∉pre.flatten/\Rdy n aS pre i:=fun m=>by
  induction m using Nat.strongRecOn with
  |_ m ih=>
   intro x h b d;by_cases c:Rdy n aS pre x
   ·exact⟨x,b,d,c⟩
   ·unfold Rdy at c;simp only[not_forall]at c;obtain⟨k,j,f,a⟩:=c;rw[not_or]at a;exact ih (cnt n aS k) (by rw[<-h];exact cnt_lt b f a.2) k rfl j a.1
 exact e _ x rfl b d
theorem qvn:∀{R pre:List (List Nat)},kI n aS pre R->(∀x∈pre.flatten,x<n)->pre.flatten.Nodup->(∀x∈pre.flatten,∀y,y<n->Rc aS x y->Rc aS y x->y∈pre.flatten) -> (pre++R).flatten.Nodup/\(∀x∈(pre++R).flatten,x<n)/\(∀x,x<n->x∈(pre++R).flatten)/\∀ o∈R,o≠[]
 | [],pre,h,h1,h2,_=>by rw[lIM];exact⟨h2,h1,h,fun o d=>by cases d⟩
 |c::R,pre,⟨⟨i,hi,hc⟩,h⟩,h1,h2,h3=>by
  have b:(pre++[c]).flatten=pre.flatten++c:=by rw[lUQ];simp
  have f:i∈c:=(hc.2 i).2 ⟨hi.lt,Rc.refl _,Rc.refl _⟩;have ih:=qvn h (fun x a=>?_) ?_ fun x a y j k l=>?_
  ·rw[lI5]at ih;obtain⟨m,p,q,r⟩:=ih;exact⟨m,p,q,fun o d=>by
    rcases lI8.1 d with rfl|d
    ·intro e;rw[e]at f;cases f
    ·exact r o d⟩
  ·rw[b,lEY]at a;exact a.elim (h1 x) fun g=>((hc.2 x).1 g).1
  ·rw[b,lOM];refine⟨h2,hc.1.imp fun g=>Nat.ne_of_lt g,fun x a y j e=>?_⟩;subst e;have g:=(hc.2 x).1 j;exact hi.new (h3 x a i hi.lt g.2.2 g.2.1)
  ·rw[b,lEY]at a ⊢;rcases a with a|a
   ·exact Or.inl (h3 x a y j k l)
   ·have g:=(hc.2 x).1 a;exact Or.inr ((hc.2 y).2 ⟨j,g.2.1.trans k,l.trans g.2.2⟩)
theorem kI.all{a:List (List Nat)}(h:kI n aS [] a):a.flatten.Nodup/\(∀x∈a.flatten,x<n)/\(∀x,x<n->x∈a.flatten)/\(∀o∈a,o≠[])/\a.flatten.length=n:=by
 obtain⟨c,d,e,f⟩:=qvn h (fun x b=>by simp at b) List.nodup_nil fun x b=>by simp at b
 refine⟨c,d,e,f,Nat.le_antisymm ?_ ?_⟩
 ·have:=c.length_le_of_subset (l₂:=List.range n) fun x b=>lIY.2 (d x b);simp_all
 ·have:=(List.nodup_range (n:=n)).length_le_of_subset (l₂:=a.flatten) fun x b=>e x (lIY.1 b);simp_all
theorem q2o:∀{R pre:List (List Nat)} {j:Nat} {c:List Nat} {a b:Nat},kI n aS pre R->R[j]? =some c->a∈c->b<n->b∈aS a->b∈pre.flatten\/∃ e f,e<=j/\R[e]? =some f/\b∈f
 | [],_,_,_,_,_,_,h,_,_,_=>by simp at h
 |d::R,pre,0,c,a,b,⟨⟨i,hi,hc⟩,_⟩,h,ha,hb,he=>by
  simp at h;subst h;have g:=(hc.2 a).1 ha;have l:Rc aS i b:=g.2.1.step he;rcases hi.rdy b hb l with k|k
  ·exact Or.inl k
  ·exact Or.inr ⟨0,d,lEO _,rfl,(hc.2 b).2 ⟨hb,l,k⟩⟩
 |d::R,pre,j+1,c,a,b,⟨_,h'⟩,h,ha,hb,he=>by
  rcases q2o h' (by simpa using h) ha hb he with k|⟨e,f,o,k2,m⟩
  ·rw[lUQ,lEY]at k;rcases k with k|k
   ·exact Or.inl k
   ·exact Or.inr ⟨0,d,lEV _,rfl,by simpa using k⟩
  ·exact Or.inr ⟨e+1,f,om,by simpa using k2,m⟩
end Go.Di.T
end
noncomputable section
namespace Go.Di
open Go.Di.T
theorem q1e(ins:List Nat)(dn:List Bool)(a m:Nat)(b:a<m):∀(es:List Edge) (w:List Bool),w.length=m->(∀e∈es,ins.getD e.f 0<m) -> ((waits es ins dn w).getD a true=true↔w.getD a true=true\/∃ e∈es,ins.getD e.f 0=a/\ins.getD e.f 0≠ins.getD e.t 0/\dn.getD (ins.getD e.t 0) true=false)
 | [],w,_,_=>by simp[waits]
 |e::es,w,hw,hin=>by
  show(waits es ins dn (xX ins dn w e)).getD a true=true↔_;have g:(xX ins dn w e).length=m:=by unfold xX;split<;>simp[hw]
  rw[q1e ins dn a m b es _ g fun f c=>hin f (lIS _ c)];have h:(xX ins dn w e).getD a true=true↔w.getD a true=true\/(ins.getD e.f 0=a/\ins.getD e.f 0≠ins.getD e.t 0/\dn.getD (ins.getD e.t 0) true=false):=by
   unfold xX;by_cases d:ins.getD e.f 0≠ins.getD e.t 0/\dn.getD (ins.getD e.t 0) true=false
   ·rw[lEZ d,lES,lXA];by_cases i:ins.getD e.f 0=a
    ·simp_all
    ·simp_all
   ·rw[lEU d];simp_all
  rw[h];simp only[lI8,exists_eq_or_imp,or_assoc]
theorem zpb(m a:Nat)(h:a<m):(List.replicate m false).getD a true=false:=by simp_all
structure Pl(n:Nat)(es:List Edge)(out:List (List Nat))(ins:List Nat)(dn:List Bool)(pre:List (List Nat)):Prop where
 dl:dn.length=out.length
 mem:∀ x,x<n->(x∈pre.flatten↔dn.getD (ins.getD x 0) true=true)
 lt:∀ x∈pre.flatten,x<n
 cl:∀ x∈pre.flatten,∀k∈jO es x,k∈pre.flatten
noncomputable section
variable {n:Nat} {es:List Edge} {out:List (List Nat)} {ins:List Nat}
theorem qok(j:qdb n (jO es) out){p:Nat}{c:List Nat}(k:out[p]? =some c):∃ i t,c=i::t/\i∈c/\(∀x∈c,i<=x)/\(∀x,x∈c↔Rc (jO es) i x/\Rc (jO es) x i):=by
 obtain⟨g,r,l,h⟩:=j.scc c (lIK k);cases c with
 |nil=>cases l
 |cons i t=>
  have d:=(h i).1 lIH;refine⟨i,t,rfl,lIH,fun x f=>?_,fun x=>?_⟩
  ·rw[lUO]at g;rcases lI8.1 f with e|f
   ·omega
   ·exact lON (g.1 x f)
  ·rw[h x];exact⟨fun⟨a,b⟩=>⟨d.2.trans a,b.trans d.1⟩,fun⟨a,b⟩=>⟨d.1.trans a,b.trans d.2⟩⟩
theorem q3d(b:qdb n (jO es) out)(d:∀(i:Nat) (o:List Nat) (x:Nat),out[i]? =some o->x∈o->ins[x]? =some i){x:Nat}(h:x<n):∃ c,out[ins.getD x 0]? =some c/\x∈c:=by obtain⟨c,e,a⟩:=lUI.1 ((b.all x).2 h);obtain⟨i,f⟩:=lX6.1 e;have:=d i c x f a;simp_all
theorem zfn(a:∀(i:Nat) (o:List Nat) (x:Nat),out[i]? =some o->x∈o->ins[x]? =some i){p x:Nat}{c:List Nat}(b:out[p]? =some c)(h:x∈c):ins.getD x 0=p:=by rw[lES,a p c x b h];rfl
theorem zpx(B:∀ e∈es,e.f<n/\e.t<n)(r:qdb n (jO es) out)(d:∀(i:Nat) (o:List Nat) (x:Nat),out[i]? =some o->x∈o->ins[x]? =some i){dn:List Bool}{pre:List (List Nat)}(s:Pl n es out ins dn pre){p:Nat}{c:List Nat}(b:out[p]? =some c):okP dn (waits es ins dn (List.replicate out.length false)) p=true↔∀ i∈c,i∉pre.flatten/\Rdy n (jO es) pre i:=by
 have u:=(lI2.1 b).1;obtain⟨D,t,T,j,O,z⟩:=qok r b;have v:∀ x∈c,x<n:=fun x h=>(r.all x).1 (lUI.2 ⟨c,lIK b,h⟩);have F:∀ e∈es,ins.getD e.f 0<out.length:=fun e f=>by obtain⟨P,q,_⟩:=q3d r d (B e f).1;exact(lI2.1 q).1
 have M:=q1e ins dn p out.length u es (List.replicate out.length false) g3 F;rw[zpb _ _ u]at M;unfold okP;rw[lI0,lOC,lOC];constructor
 ·rintro ⟨q,Q⟩;have G:¬ ∃e∈es,ins.getD e.f 0=p/\ins.getD e.f 0≠ins.getD e.t 0/\dn.getD (ins.getD e.t 0) true=false:=fun h=>by
   simp_all
  have H:∀ x∈c,x∉pre.flatten:=fun x h g=>by have:=(s.mem x (v x h)).1 g;rw[zfn d b h,q]at this;cases this
  -- the component and what is placed are closed
  have I:∀ y,(y∈c\/y∈pre.flatten)->∀ k∈jO es y,k∈c\/k∈pre.flatten:=fun y m k E=>by
   rcases m with m|m
   ·obtain⟨e,f,A,l⟩:=qdx.1 E;have w:k<n:=by rw[<-l];exact(B e f).2
    by_cases a:ins.getD e.f 0=ins.getD e.t 0
    ·left;rw[A,l,zfn d b m]at a;obtain⟨P,R,J⟩:=q3d r d w;simp_all
    ·right;have:¬ dn.getD (ins.getD e.t 0) true=false:=fun g=>G ⟨e,f,by rw[A];exact zfn d b m,a,g⟩;rw[l]at this;exact(s.mem k w).2 (by simpa using this)
   ·exact Or.inr (s.cl y m k E)
  intro i K;refine⟨H i K,fun k E C=>?_⟩;rcases Rc.closed (S:=fun y=>y∈c\/y∈pre.flatten) I C (Or.inl K)with g|g
  ·exact Or.inr (((z k).1 g).2.trans ((z i).1 K).1)
  ·exact Or.inl g
 ·intro h;obtain⟨g1,g2⟩:=h D j;constructor
  ·have:¬ dn.getD (ins.getD D 0) true=true:=fun g=>g1 ((s.mem D (v D j)).2 g);rw[zfn d b j]at this;simp_all
  ·have:¬(waits es ins dn (List.replicate out.length false)).getD p true=true:=fun g=>by
    rcases M.1 g with g|⟨e,f,q,Q,R⟩
    ·cases g
    ·obtain⟨P,J,L⟩:=q3d r d (B e f).1;rw[q,b]at J;cases J;obtain⟨U,k2⟩:=h e.f L;have N:=(B e f).2;have C:Rc (jO es) e.f e.t:=Rc.one (qdx.2 ⟨e,f,rfl,rfl⟩);rcases k2 e.t N C with g|g
     ·have:=(s.mem e.t N).1 g;simp_all
     ·have:e.t∈c:=(z e.t).2 ⟨((z e.f).1 L).1.trans C,g.trans ((z e.f).1 L).2⟩;exact Q (q.trans (zfn d b this).symm)
   simpa using this
theorem q2b{m:Nat}{dn:List Bool}(h:qjw dn (waits es ins dn (List.replicate m false)) m=none):∀ k,j6 es ins m k dn=[]
 |0=>rfl
 |k+1=>by rw[j6,h];exact q2b h k
theorem zcm(O:∀ e∈es,e.f<n/\e.t<n)(d:qdb n (jO es) out)(ha:out.Pairwise fun a b=>a.headD 0<b.headD 0)(s:∀(i:Nat) (o:List Nat) (x:Nat),out[i]? =some o->x∈o->ins[x]? =some i):∀(k:Nat) (dn:List Bool) (pre:List (List Nat)),Pl n es out ins dn pre->(dn.count false)<=k->kI n (jO es) pre ((j6 es ins out.length k dn).map fun i=>out.getD i [])
 |k,dn,pre,hl,hk=>by
  have G:∀ u,∀k∈jO es u,k<n:=fun u k hk=>by obtain⟨e,he,_,rfl⟩:=qdx.1 hk;exact(O e he).2
  have H:∀ i,i<n->i∉pre.flatten->Rdy n (jO es) pre i->okP dn (waits es ins dn (List.replicate out.length false)) (ins.getD i 0)=true:=fun i hi hn F=>by
   obtain⟨c,N,P⟩:=q3d d s hi;refine(zpx O d s hl N).2 fun y B=>?_;obtain⟨E,t,e0,f,A,m⟩:=qok d N;have W:Rc (jO es) y i:=((m y).1 B).2.trans ((m i).1 P).1;have I:Rc (jO es) i y:=((m i).1 P).2.trans ((m y).1 B).1;refine⟨fun g=>?_,fun z hz T=>?_⟩
   ·exact hn (Rc.closed (S:=fun w=>w∈pre.flatten) hl.cl W g)
   ·rcases F z hz (I.trans T)with g|g
    ·exact Or.inl g
    ·exact Or.inr (g.trans I)
  cases R:qjw dn (waits es ins dn (List.replicate out.length false)) out.length with
  |none=>
   rw[q2b R];intro x q;by_cases hm:x∈pre.flatten
   ·exact hm
   ·obtain⟨i,N,P,h3⟩:=xco G q hm;have:=H i N P h3;obtain⟨c,r,_⟩:=q3d d s N;rw[qvl R _ (lI2.1 r).1]at this;cases this
  |some p=>
   obtain⟨p1,Q,p3⟩:=qep R;have J:dn.getD p true=false:=by unfold okP at Q;simp only[lI0,lOC]at Q;exact Q.1
   have K:p<dn.length:=by rw[hl.dl];exact p1
   have X:dn[p]=false:=by rw[lES,gp K]at J;exact J
   cases k with
   |zero=>have:0<dn.count false:=List.count_pos_iff.2 (by rw[<-X];exact lEQ _);omega
   |succ k=>
    have L:out[p]? =some out[p]:=g3;have Y:out.getD p []=out[p]:=by rw[lES,L];rfl
    rw[j6,R];show kI n (jO es) pre (out.getD p []::(j6 es ins out.length k (dn.set p true)).map fun i=>out.getD i []);rw[Y];obtain⟨E,t,e0,f,A,m⟩:=qok d L;have C:∀ x∈out[p],x<n:=fun x h=>(d.all x).1 (lUI.2 ⟨out[p],lEQ _,h⟩);have F:=(zpx O d s hl L).1 Q;refine⟨⟨E,⟨C E f,(F E f).1,(F E f).2,fun j hj U V=>?_⟩,(d.scc _ (lEQ _)).1,fun x=>⟨fun h=>⟨C x h,(m x).1 h⟩,fun h=>(m x).2 h.2⟩⟩,?_⟩
    ·-- the least one
     have v:j<n:=by have:=C E f;omega
     have Z:=H j v U V;obtain⟨c',r,h5⟩:=q3d d s v;have M:=(lI2.1 r).1;rcases lUW (ins.getD j 0) p with g|g|g
     ·have:=p3 _ g;rw[Z]at this;cases this
     ·rw[g,L]at r;cases r;have:=A j h5;omega
     ·have h6:=lO2.1 ha p (ins.getD j 0) p1 M g;obtain⟨i1,t1,e1,hi1,aPT,_⟩:=qok d r;have e2:out[ins.getD j 0]=c':=by rw[gp M]at r;exact Option.some.inj r
      rw[e2,e1,e0]at h6;have h6:E<i1:=h6;have:=aPT j h5;omega
    ·refine zcm O d ha s k (dn.set p true) (pre++[out[p]]) ⟨by rw[lO1];exact hl.dl,fun x q=>?_,fun x h=>?_,fun x h y B=>?_⟩ ?_
     ·rw[lUQ,lEY,hl.mem x q];have e3:([out[p]]:List (List Nat)).flatten=out[p]:=g3;rw[e3,lES (l:=dn.set p true),lXA];obtain⟨c',r,h5⟩:=q3d d s q;by_cases e:p=ins.getD x 0
      ·rw[lEZ e,lEZ om];simp_all
      ·rw[lEU e,<-lES];exact⟨fun h=>h.resolve_right fun g=>e (zfn s L g).symm,Or.inl⟩
     ·rw[lUQ,lEY]at h;rcases h with h|h
      ·exact hl.lt x h
      ·simp_all
     ·rw[lUQ,lEY]at h ⊢;rcases h with h|h
      ·exact Or.inl (hl.cl x h y B)
      ·have D:x∈out[p]:=by simpa using h
       have hyn:=G x y B;rcases(F x D).2 y hyn (Rc.one B)with g|g
       ·exact Or.inl g
       ·right;have:y∈out[p]:=(m y).2 ⟨((m x).1 D).1.step B,g.trans ((m x).1 D).2⟩;simp_all
     ·have:=List.count_set (l:=dn) (i:=p) (a:=true) (b:=false) K;simp_all
theorem qlr.ord(b:∀ e∈es,e.f<n/\e.t<n){a:List (List Nat)}(h:qlr n es out ins a):kI n (jO es) [] a:=by
 rw[h.res];refine zcm b h.parts h.asc h.ix _ _ [] ⟨g3,fun x d=>?_,fun x h=>by simp at h,fun x h=>by simp at h⟩ ?_
 ·obtain⟨c,f,_⟩:=q3d h.parts h.ix d;rw[zpb _ _ (lI2.1 f).1];simp
 ·simp
end
end Go.Di
end
noncomputable section
namespace Go.Di
open Go.Ev Go.Di.T Go.Sort
variable {C:Nat->Ev.Call}
end Go.Di
end
noncomputable section
namespace Go.Di
open Go.Ev
def wS(A:Nat->Nat->Prop)(K:Nat)(i j:Nat):Nat->Prop
 |0=>A i j
 |L+1=>∃ x,x<K/\A i x/\wS A K x j L
def wk(A:Nat->Nat->Prop)(K:Nat)(i j:Nat):Nat->Prop
 |0=>i=j
 |L+1=>wS A K i j L
variable {A:Nat->Nat->Prop}
/- the distances that are reckoned -/
def Les(d d':List Int):Prop:=∀ x,0<=d.getD x 0->0<=d'.getD x 0/\d'.getD x 0<=d.getD x 0
theorem Les.refl(d:List Int):Les d d:=fun _ h=>⟨h,Int.le_refl _⟩
theorem Les.trans{a b c:List Int}(h:Les a b)(d:Les b c):Les a c:=fun x e=>by obtain⟨f,g⟩:=h x e;obtain⟨i,j⟩:=d x f;omega
end Go.Di
end
noncomputable section
namespace Go.Di
open Go.Ev
variable {i j k n:Nat} {ms:List Nat}
theorem xd4(h:0<ms.getD (i*n+k) 0):∃ e∈ent n ms i k,e.f=i/\e.t=k:=by
 unfold ent;by_cases a:1<ms.getD (i*n+k) 0
 ·simp_all
 ·exact⟨⟨i,k,0⟩,lOA _ (by rw[lEZ om];exact lI3.2 rfl),rfl,rfl⟩
theorem xd9{n:Nat}{ms:List Nat}{i j:Nat}(h:0<ms.getD (i*n+j) 0):∀{k:Nat},j<k->∃ e∈eR n ms i k,e.f=i/\e.t=j
 |0,hj=>om
 |k+1,hj=>by
  by_cases e:j=k
  ·subst e;obtain⟨x,a,b⟩:=xd4 h;exact⟨x,lOJ _ a,b⟩
  ·obtain⟨x,a,b⟩:=xd9 h (show j<k by omega);exact⟨x,lOA _ a,b⟩
theorem xeb{n:Nat}{ms:List Nat}{i j:Nat}(h:0<ms.getD (i*n+j) 0)(c:j<n):∀{m:Nat},i<m->∃ e∈eM n ms m,e.f=i/\e.t=j
 |0,hi=>om
 |m+1,hi=>by
  by_cases e:i=m
  ·subst e;obtain⟨x,a,b⟩:=xd9 h c;exact⟨x,lOJ _ a,b⟩
  ·obtain⟨x,a,b⟩:=xeb h c (show i<m by omega);exact⟨x,lOA _ a,b⟩
theorem zy7(a:i<n)(b:j<n)(h:0<ms.getD (i*n+j) 0):∃ e∈qcr n ms,e.f=i/\e.t=j:=by obtain⟨x,c,d,f⟩:=xeb (show 0<ms.getD (i*n+j) 0 from h) b a;exact⟨toE x,lIX c,d,f⟩
end Go.Di
end
noncomputable section
namespace Go.Di
open Go.Ev Go.Di.T Go.Sort
variable {C:Nat->Ev.Call}
structure RI(aS:Nat->List Nat)(H0:Hp)(n nb:Nat)(ins:List Int)(v:AV)(cs:List AV)(res:List (List Nat))(H:Hp):Prop where
 fm:Fm No H0 H
 ng:H.get nb=aB 0 (ints ins)
 nbl:H0.nx<=nb/\nb<H.nx
 il:ins.length=n
 ls:nV H0 H v cs res
 sv:∀ b,In v b->b≠nb
 sc:∀(i:Nat) (c:AV) (b:Nat),cs[i]? =some c->In c b->b≠nb
 nd:res.flatten.Nodup
 lt:∀ x∈res.flatten,x<n
 ne:∀ o∈res,o≠[]
 cl:∀ x∈res.flatten,∀y,y<n->Rc aS x y->Rc aS y x->y∈res.flatten
 ix:∀ x,x<n->(Int.ofNat 0<=ins.getD x 0↔x∈res.flatten)
 iv:∀(j:Nat) (o:List Nat) (x:Nat),res[j]? =some o->x∈o->ins.getD x 0=Int.ofNat j
theorem RI.len{aS:Nat->List Nat}{H0:Hp}{n nb:Nat}{ins:List Int}{v:AV}{cs:List AV}{a:List (List Nat)}{H:Hp}(h:RI aS H0 n nb ins v cs a H):a.flatten.length<=n/\a.length<=a.flatten.length:=by
 constructor
 ·have:=h.nd.length_le_of_subset (l₂:=List.range n) fun x d=>lIY.2 (h.lt x d);simp_all
 ·have b:=h.ne;generalize a=r at b
  induction r with
  |nil=>exact lEO _
  |cons c r ih=>have f:=ih fun c e=>b c (lIS _ e);have g:0<c.length:=lUR.2 (b c lIH);rw[lOR,lEP,lEX];omega
end Go.Di
end
noncomputable section
namespace Go.Di
open Go.Ev Go.Di.T Go.Sort
variable {aS:Nat->List Nat} {ins o:List Nat} {n:Nat}
theorem aMV{n:Nat}{ms:List Nat}{i:Nat}{e:T3}:∀{k:Nat},e∈eR n ms i k->e.s=1->1<ms.getD (i*n+e.t) 0
 |0,h,_=>by cases h
 |k+1,h,hs=>by
  rcases lEY.1 h with h|h
  ·exact aMV h hs
  ·unfold ent at h;rcases lEY.1 h with h|h
   ·simp_all
   ·simp_all
theorem aNe{n:Nat}{ms:List Nat}{e:T3}:∀{i:Nat},e∈eM n ms i->e.s=1->1<ms.getD (e.f*n+e.t) 0
 |0,h,_=>by cases h
 |i+1,h,hs=>by
  rcases lEY.1 h with h|h
  ·exact aNe h hs
  ·rw[(q3v h).1];exact aMV h hs
theorem z3k{n:Nat}{ms:List Nat}{i j:Nat}(h:1<ms.getD (i*n+j) 0):∀{k:Nat},j<k->(⟨i,j,1⟩:T3)∈eR n ms i k
 |0,hj=>om
 |k+1,hj=>by
  by_cases e:j=k
  ·subst e;exact lOJ _ (lOJ _ (by rw[lEZ h];exact lI3.2 rfl))
  ·exact lOA _ (z3k h (show j<k by omega))
theorem z3m{n:Nat}{ms:List Nat}{i j:Nat}(h:1<ms.getD (i*n+j) 0)(a:j<n):∀{m:Nat},i<m->(⟨i,j,1⟩:T3)∈eM n ms m
 |0,hi=>om
 |m+1,hi=>by
  by_cases e:i=m
  ·subst e;exact lOJ _ (z3k h a)
  ·exact lOA _ (z3m h a (show i<m by omega))
theorem q2p{n:Nat}{aS:Nat->List Nat}:∀{R pre:List (List Nat)} {c:List Nat},kI n aS pre R->c∈R->∃ i,z3u n aS i c
 | [],_,_,_,h=>by cases h
 |d::R,pre,c,⟨⟨i,_,hc⟩,h2⟩,h=>by
  rcases lI8.1 h with rfl|h
  ·exact⟨i,hc⟩
  ·exact q2p h2 h
theorem zpu{a:List (List Nat)}(h:kI n aS [] a)(e:o∈a){x y:Nat}(f:x∈o)(j:y<n):y∈o↔Rc aS x y/\Rc aS y x:=by obtain⟨i,_,b⟩:=q2p h e;obtain⟨_,c,d⟩:=(b x).1 f;rw[b y];exact⟨fun g=>⟨d.trans g.2.1,g.2.2.trans c⟩,fun g=>⟨j,c.trans g.1,g.2.trans d⟩⟩
structure NmC(n:Nat)(res:List (List Nat))(ins:List Nat):Prop where
 is:∀(j:Nat) (o:List Nat) (x:Nat),res[j]? =some o->x∈o->ins.getD x 0=j
 all:∀ x,x<n->∃(j:Nat) (o:List Nat),res[j]? =some o/\x∈o
theorem NmC.lt{a:List (List Nat)}(h:NmC n a ins){x:Nat}(c:x<n):ins.getD x 0<a.length:=by obtain⟨j,o,b,d⟩:=h.all x c;rw[h.is j o x b d];exact(lI2.1 b).1
theorem NmC.eq{a:List (List Nat)}(h:NmC n a ins)(l:kI n aS [] a){x y:Nat}(m:x<n)(d:y<n):ins.getD x 0=ins.getD y 0↔Rc aS x y/\Rc aS y x:=by
 obtain⟨j,o,b,e⟩:=h.all x m;obtain⟨f,g,i,k⟩:=h.all y d;rw[h.is j o x b e,h.is f g y i k,<-zpu l (lIK b) e d];constructor
 ·rintro rfl;simp_all
 ·intro c;rw[<-h.is j o y b c,h.is f g y i k]
theorem NmC.same{b:List (List Nat)}{ins a:List Nat}(h:NmC n b ins)(e:NmC n b a){x:Nat}(f:x<n):ins.getD x 0=a.getD x 0:=by obtain⟨j,o,c,d⟩:=h.all x f;rw[h.is j o x c d,e.is j o x c d]
theorem CR.no{HB H H':Hp}{lv iv:AV}{c:List AV}{a:List (List Nat)}(h:CR HB H n lv iv c a ins)(b:Fm No H H'):CR HB H' n lv iv c a ins:=
 ⟨h.gl.no b,h.cap,h.len,fun j w o d e=>by obtain⟨f,g,i⟩:=h.at' j w o d e;exact⟨f.no b,g,i⟩,h.gi.no b,h.bCt,h.ins,h.new⟩
end Go.Di
end
