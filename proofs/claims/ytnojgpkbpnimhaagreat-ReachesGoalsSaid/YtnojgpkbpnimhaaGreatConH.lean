/-
 For ReachesGoals: functions in direct style, their contracts, and the plain mathematics, part 8 of 11. No conditions beyond those that each theorem states.
-/
import Derived.Test.YtnojgpkbpnimhaaGreatConA
import Derived.Test.YtnojgpkbpnimhaaGreatConG
import Derived.Test.YtnojgpkbpnimhaaGreatConC
import Derived.Test.YtnojgpkbpnimhaaGreatConE
import Derived.Test.YtnojgpkbpnimhaaGreatConF
import Derived.KernelRfl
set_option linter.unusedSimpArgs false
set_option linter.unusedVariables false
open Nat renaming reduceAdd->rB,reduceMul->rI,reduceSub->rK,reduceLeDiff->rL,reduceEqDiff->rN,reduceShiftRight->rS,reduceAnd->r6
section
namespace Go.Di
open Go.Ev Go.Di.T Go.Sort
variable {LA LO:LP}
variable {H H0:Hp} {cs:List AV} {gv:AV} {ins:List Nat} {j n:Nat}
theorem zup(hR:oL LA LO C)(hj:10<=j){HB:Hp}{es:List Edge}(hE:∀ e∈es,e.f<n/\e.t<n)(hn:n<=256)(hlen:es.length<200000){gv v:AV}(hg:lV HB gv es){out:List (List Nat)}{s u ib wb ob x2 nb:Nat}{iv:AV}{L:TT AV 2}(hg5:G L 5=.ptr ob 0)(hg2:G L 2=.ptr x2 0)(M:aI3 H0 H n gv v cs out ins s u ib wb)(g:qlk n es out ins ((kG es ins out.length out.length (List.replicate out.length false)).map fun i=>out.getD i []))(l:H0.nx<=s/\H0.nx<=u/\H0.nx<=ib/\H0.nx<=wb)(E:∀(i:Nat) (c:AV) (b:Nat),cs[i]? =some c->In c b->b≠s/\b≠u/\b≠ib/\b≠wb)(X:Fm No HB H)(rQ:HB.nx<=ob/\ob<H0.nx)(F:HB.nx<=x2/\x2<H0.nx/\x2≠ob)(hgo:H.get ob=aB 0 [.aA,iv])(hgx:H.get x2=aB 0 [.aA,.aA])(I:(n=0/\iv=.aA/\nb=ob)\/(0<n/\iv=.sl nb 0 n n true/\H.get nb=aB 0 (aJ (List.replicate n 0))/\HB.nx<=nb/\nb<H0.nx/\nb≠ob/\nb≠x2))(h0:H0.nx<=H.nx):Ok (zqk LO (C j) L (.fn 249 [] [.ptr s 0,.ptr u 0,.ptr ib 0]) H) fun r H'=>∃ lv iv os gU,r=.bA [.agg [lv,iv],.int .i64 (.ofNat 0)] /\ CR HB H' n lv iv os ((kG es ins out.length out.length (List.replicate out.length false)).map fun i=>out.getD i []) gU/\Fm No HB H':=by
 unfold zqk;have Q:=M.ls;have aG6:=Q.len;obtain⟨l1,l2,l3,l4⟩:=M.lt;obtain⟨z1,z2⟩:=g.parts.sizes hn;have hnd:=g.parts.nd;generalize W:kG es ins out.length out.length (List.replicate out.length false)=ord;have hom:∀ i∈ord,i<out.length:=fun i N=>(qng _ _ i (by rw[W];exact N)).1;have hon:ord.Nodup:=by rw[<-W];exact qkx _ _ g3
 have hol:ord.length<=out.length:=by have:=hon.length_le_of_subset (l₂:=List.range out.length) fun x hx=>xg.2 (hom x hx);rwa [lAR]at this
 have hgl:=M.ls.gl;have hgH:lV H gv es:=hg.fm X;have aGY:∀ b,In gv b->b<HB.nx:=fun b a=>hg.lt a;have aHi:∀ b,In v b->H0.nx<=b/\b<H.nx:=fun b a=>⟨Q.new b a,hgl.lt a⟩;have z:Fm No H (aI H (LO.blk true L)):=(Fm.refl _ _).push _;have hRS:RS (RB gv v s u ib wb) (aI H (LO.blk true L)) n gv es v cs ins s u ib wb:=by refine⟨(z.keep l1).trans M.l,(z.keep l2).trans M.g,(z.keep l3).trans M.i,(z.keep l4).trans M.w,hgl.no z,hgH.fm z,⟨by rw[np];omega,by rw[np];omega,by rw[np];omega,by rw[np];omega⟩,Or.inl rfl,Or.inr (Or.inl rfl),Or.inr (Or.inr (Or.inl rfl)),Or.inr (Or.inr (Or.inr (Or.inl rfl))),fun b h=>Or.inr (Or.inr (Or.inr (Or.inr (Or.inl h)))),fun b h=>Or.inr (Or.inr (Or.inr (Or.inr (Or.inr h))))⟩
 have R:∀ b,RB gv v s u ib wb b->b<H.nx/\(b<HB.nx\/H0.nx<=b):=fun b a=>by
  rcases a with rfl|rfl|rfl|rfl|h|h
  ·exact⟨l1,Or.inr l.1⟩
  ·exact⟨l2,Or.inr l.2.1⟩
  ·exact⟨l3,Or.inr l.2.2.1⟩
  ·exact⟨l4,Or.inr l.2.2.2⟩
  ·exact⟨(aHi b h).2,Or.inr (aHi b h).1⟩
  ·have:=aGY b h;exact⟨om,Or.inl this⟩
 have A:∀ b,HB.nx<=b->b<H0.nx->¬ RB gv v s u ib wb b:=fun b d p h=>by have:=(R b h).2;omega
 have hI0:OI LO HB L H.nx ob nb x2 n iv cs out ord 0 (RB gv v s u ib wb) (aI H (LO.blk true L)):=by
  refine⟨X.trans z,fun b a=>by have:=(R b a).1;rw[np];omega,jG _ _,⟨X.nx,ig _,fun h=>by have:=(R _ h).1;omega⟩,⟨rQ.1,om,A ob rQ.1 rQ.2⟩,⟨(z.keep om).trans hgx,om,A x2 F.1 F.2.1,F.2.2,?_⟩,⟨List.replicate n 0,g3,?_,fun j i o x hj=>absurd hj (lAD _)⟩,⟨.aA,[],(z.keep om).trans hgo,Gl.nil _ _,fun b a=>(by obtain⟨_,_,_,_,h⟩:=a;cases h),fun j w h=>(by simp at h)⟩,fun i c o d p=>?_⟩
  ·rcases I with⟨_,_,e⟩|⟨_,_,_,_,_,_,a6⟩
   ·rw[e];exact F.2.2
   ·exact Ne.symm a6
  ·rcases I with⟨a1,a2,_⟩|⟨_,a1,a2,Z,a4,a5,a6⟩
   ·exact Or.inl ⟨a1,a2⟩
   ·exact Or.inr ⟨a1,(z.keep om).trans a2,Z,om,A nb Z a4,a5⟩
  ·obtain⟨c1,c2,c3⟩:=Q.at' i c o d p;refine⟨c2.no z,fun b a=>?_⟩;obtain⟨d1,d2⟩:=c3 b a;have d3:=c2.lt a;have hh:=X.nx;refine⟨om,?_,d3,om,?_⟩
   ·rintro (e|e|e|e|e|e)
    ·exact(E i c b d a).1 e
    ·exact(E i c b d a).2.1 e
    ·exact(E i c b d a).2.2.1 e
    ·exact(E i c b d a).2.2.2 e
    ·exact d2 e
    ·have:=aGY b e;omega
   ·rcases I with⟨_,_,e⟩|⟨_,_,_,_,a4,_,_⟩
    ·exact⟨om,om⟩
    ·exact⟨om,om⟩
 have hY:YI (C (j-1)) H.nx HB.nx cs ord (OI LO HB L H.nx ob nb x2 n iv cs out ord):=by refine⟨fun t D D' H1 Y h f hD=>h.ext f hD,fun t i c D H1 d p h=>?_⟩;have hit:t<ord.length:=(qp.1 d).1;refine z4y hR om hg5 h d p aG6 hn om z2 (fun i' J o x e1 e2 e3 e4=>q8i out i' i J o x hnd e1 e2 e4 e3) fun j' hj' e=>?_;have:=(List.getElem?_inj om hon).1 (e.trans d.symm);omega
 have hin:∀ x<n,ins.getD x 0<cs.length:=fun x hx=>by obtain⟨o,U,hxo⟩:=oq.1 ((g.parts.all x).2 hx);obtain⟨i,N⟩:=lAO.1 U;have d:=g.ix i o x N hxo;rw[gy,d];have:=(qp.1 N).1;show i<cs.length;omega
 have O:qj3 (C j) (.fn 249 [] [.ptr s 0,.ptr u 0,.ptr ib 0]) [.yield H.nx] (aI H (LO.blk true L))=C j (.f 249) [.yield H.nx,.ptr s 0,.ptr u 0,.ptr ib 0] (aI H (LO.blk true L)):=rfl;refine Ok.aHA (zjn (k:=j) om hY om hRS (by rw[np];have:=X.nx;omega) hlen g.il hE hin (by rw[aG6,W]) hI0) ?_;rintro r H1 ⟨rfl,D',hI⟩;rw[z6z hI.lp,hg5,hg2];unfold q1v;obtain⟨gU,i1,i2,i3⟩:=hI.ins;obtain⟨lv,os,v1,v2,v3,v4⟩:=hI.lv;obtain⟨k1,k2,k3⟩:=hI.hl;obtain⟨x1',x3,x4,x5,x6⟩:=hI.rc;have fd:Fm (fun b=>b=H.nx) H1 (H1.put H.nx .dead):=(Fm.refl _ _).put _ _ fun _=>rfl;have go:(H1.put H.nx .dead).get ob=aB 0 [lv,iv]:=(fd.get ob om om).trans v1;have gx:(H1.put H.nx .dead).get x2=aB 0 [.aA,.aA]:=(fd.get x2 om om).trans x1';have gv2:Gl 1 (H1.put H.nx .dead) lv ord.length os:=v2.fm fd fun b a=>by have:=(v3 b a).1;omega
 obtain⟨w,w1,w2,w3,w4⟩:=znh (k:=j) om gv2;have S:os.length=ord.length:=by have:=v2.len;omega
 generalize hH2:H1.put H.nx .dead=Y at *;have n2:Y.nx=H1.nx:=by rw[<-hH2];rfl
 have wsl:(w=.aA)\/∃ b o n m e,w=.sl b o n m e:=by
  rcases w2.is with⟨h,_⟩|⟨b,o,e,q,L,h,_⟩
  ·exact Or.inl h
  ·exact Or.inr ⟨_,_,_,_,_,h⟩
 have run:∃ H3,(vq (aN 0 (.ptr ob 0)) Y fun Z H=>vq (aR H Z) H fun a4 H=>ve (C j (.f 224) [a4] H) fun a5 H=>vq (aN 0 (.ptr ob 0)) H fun a6 H=>ve (j5 H a6 a5) fun _ H=>vq (cO 2 H (.ptr ob 0)) H fun a8 H=>ve (xA 2 H (.ptr x2 0) a8) fun _ H=>
   dM (gH (fQ (rV (cO 2 H (.ptr x2 0))) (fQ (some (.int .i64 (.ofNat 0))) (some [])))) H)=.ok (.bA [.agg [w,iv],.int .i64 (.ofNat 0)]) H3/\Fm (fun b=>b=ob\/b=x2) Y H3:=by
  have K:∀ B1 B2,Fm (fun b=>b=ob\/b=x2) Y ((Y.put ob B1).put x2 B2):=fun B1 B2=>((Fm.refl _ _).put _ _ fun _=>Or.inl rfl).put _ _ fun _=>Or.inr rfl;have es2:∀ x:AV,aZ [lv,iv] 0 [x]=[x,iv]:=fun _=>rfl;have es3:∀ x:AV,aZ [AV.aA,AV.aA] 0 [x,iv]=[x,iv]:=fun _=>rfl;have es4:∀ x:AV,List.take 2 [x,iv]=[x,iv]:=fun _=>rfl;rcases wsl with rfl|⟨b,o,n,m,e,rfl⟩
  ·simp(disch:=omega)only[go_sem,seval,go,w1,gx,es2,es3,es4,pq,uo,lu,mg,lA4];exact⟨_,rfl,K _ _⟩
  ·simp(disch:=omega)only[go_sem,seval,go,w1,gx,es2,es3,es4,pq,uo,lu,mg,lA4];exact⟨_,rfl,K _ _⟩
 obtain⟨H3,e3,K⟩:=run;rw[e3];have n3:=K.nx;have old:∀{x:AV} {m:Nat} {y:List AV},Gl 1 H1 x m y->(∀b,In x b->b≠H.nx/\b≠ob/\b≠x2)->Gl 1 H3 x m y:=fun{x m y} hx a=>(hx.fm fd fun b P=>(a b P).1).fm K fun b P=>by
  have:=a b P;rintro (h|h)
  ·exact this.2.1 h
  ·exact this.2.2 h
 refine Ok.ret ⟨w,iv,os,gU,rfl,⟨?_,?_,?_,fun j' w' J d p=>?_,?_,?_,fun j' J x d p=>?_,fun b a=>?_⟩,?_⟩
 ·-- the list
  have h5:Gl 1 H3 w ord.length os:=w2.fm K fun b a h=>by
   have h6:=(v3 b (w4 b a)).1;rcases h with h|h
   ·omega
   ·omega
  rw[S];exact h5
 ·rw[S];exact w3
 ·rw[S,pz]
 ·obtain⟨i,o,a1,a2,Z,a4,a5⟩:=v4 j' w' d;rw[xy,a1]at p;have p:out.getD i []=J:=Option.some.inj p;rw[gy,a2]at p;have p:o=J:=p;subst p;exact⟨old Z fun b a=>by have:=a5 b a;exact⟨om,om,om⟩,a4,fun b a=>(a5 b a).1⟩
 ·rcases i2 with⟨B,V⟩|⟨B,V,b3,b4,b5,b6⟩
  ·have:gU=[]:=tu.1 om;rw[B,V,this];exact Gl.nil _ _
  ·rcases I with⟨_,h,_⟩|⟨_,_,_,_,_,_,a6⟩
   ·rw[B]at h;cases h
   ·rw[B];have g3:H3.get nb=aB 0 (aJ gU):=(K.get nb om (by rintro (h|h);exact b6 h;exact a6 h)).trans ((fd.get nb om om).trans V);exact⟨by rw[mP,i1,qm],.inr ⟨nb,0,true,0,_,rfl,g3,gp _,lA4,Or.inl rfl,om⟩⟩
 ·rcases i2 with⟨B,V⟩|⟨B,_⟩
  ·rw[B,V];rfl
  ·rw[B];rfl
 ·rw[xy]at d;cases U:ord[j']? with
  |none=>rw[U]at d;cases d
  |some i=>rw[U]at d;have d:out.getD i []=J:=Option.some.inj d;have N:i<out.length:=hom i (uz U);rw[gy,lq N]at d;have d:out[i]=J:=d;exact i3 j' i J x (qp.1 U).1 U (by rw[lq N,d]) p
 ·have hh:=X.nx;rcases a with a|a
  ·have:=(v3 b (w4 b a)).1;omega
  ·rcases i2 with⟨_,V⟩|⟨B,_,b3,_⟩
   ·rw[V]at a;obtain⟨_,_,_,_,h⟩:=a;cases h
   ·rw[B]at a;obtain⟨_,_,_,_,h⟩:=a;cases h;exact b3
 ·refine hI.fm.then ((fd.mono (T:=fun b=>b=H.nx\/b=ob\/b=x2) fun _ _ h=>Or.inl h).trans (K.mono fun _ _ h=>Or.inr h)) fun c hc h=>?_;omega
theorem z99(hO:pJ C)(hS:qbv C)(hR:oL LA LO C)(hj:920<=j){HB:Hp}{es:List Edge}(hE:qf4 n es)(E:n<=256)(d:es.length<200000)(hg:lV HB gv es){g0 ob x2 nb:Nat}{iv:AV}{L:TT AV 2}(F:∀ l O P Q,G (pu L [(22,l),(23,O),(24,P),(25,Q)]) 5=.ptr ob 0)(I:∀ l O P Q,G (pu L [(22,l),(23,O),(24,P),(25,Q)]) 2=.ptr x2 0)(J:Fm No HB H)(q:H.get g0=aB 0 [.int .i64 (.ofNat n),gv])(s:g0<H.nx)(rQ:HB.nx<=ob/\ob<H.nx)(t:HB.nx<=x2/\x2<H.nx/\x2≠ob)(K:H.get ob=aB 0 [.aA,iv])(M:H.get x2=aB 0 [.aA,.aA])(N:(n=0/\iv=.aA/\nb=ob)\/(0<n/\iv=.sl nb 0 n n true/\H.get nb=aB 0 (aJ (List.replicate n 0))/\HB.nx<=nb/\nb<H.nx/\nb≠ob/\nb≠x2)):Ok (qn9 LO (C j) L (.ptr g0 0) H) fun r H'=>∃ lv iv R S out ins x,r=.bA [.agg [lv,iv],.int .i64 (.ofNat 0)]/\qlk n es out ins x/\CR HB H' n lv iv R x S/\Fm No HB H':=by
 unfold qn9;have y:lV H gv es:=hg.fm J;have hq:=y.eqG (.ofNat n);refine eP q ?_;refine Ok.iD (zst hO hS hR (k:=j) om E d hE.rng y) ?_;rintro v H1 ⟨cs,out,Y,e,f⟩;have e:pG H H1 v cs out:=e;have f:Fm No H H1:=f;have z:H1.get g0=aB 0 [.int .i64 (.ofNat n),gv]:=(f.keep s).trans q;refine eF z hq ?_;obtain⟨z1,z2⟩:=Y.sizes E;refine Ok.iD (zsd hS (k:=j) hj e f.nx E z1 z2 Y.nd) ?_;rintro r B ⟨lb,gb,ib,wb,Z,a,ins,rfl,hp,o,hcc,p,g⟩;have p:Fm (In v) H1 B:=p;have g:H1.nx<=lb/\H1.nx<=gb/\H1.nx<=ib/\H1.nx<=wb:=g;have T:B.get g0=aB 0 [.int .i64 (.ofNat n),gv]:=(p.get _ (ku s f.nx) fun h=>by have:=e.new _ h;omega).trans z;refine eF T hq ?_;have U:=Y.perm hp;have n1:=f.nx;have n2:=p.nx;have V:Fm No HB H1:=J.trans f;have W:Fm No HB B:=V.then p fun c hc h=>by have:=e.new c h;have:=J.nx;omega
 have m:∀{b:Nat} {k:bW},b<H.nx->H.get b=k->B.get b=k:=fun{b k} hb h=>(p.get b om fun h=>by have:=e.new b h;omega).trans ((f.keep hb).trans h);have A:qlk n es a ins ((kG es ins a.length a.length (List.replicate a.length false)).map fun i=>a.getD i []):=⟨U,o.il,o.ix,rfl⟩;have X:aI3 H B n gv v Z a ins lb gb ib wb:=o;refine(zup hR (j:=j) om hE.rng E d hg (F _ _ _ _) (I _ _ _ _) X A ⟨om,om,om,om⟩ (fun i c b u w=>?_) W rQ t (m rQ.2 K) (m t.2.1 M) (nb:=nb) (iv:=iv) ?_ om).mono ?_
 ·-- the components' blocks are older than the closure's
  have hm:=hcc c (uz u);obtain⟨i',hi',rfl⟩:=ai hm;obtain⟨_,D,_⟩:=e.at' i' cs[i'] (out[i']'(by rw[<-e.len];exact hi')) g3 g3;have:=D.lt w;omega
 ·rcases N with h|⟨u,w,D,h4,h5,h6,h7⟩
  ·exact Or.inl h
  ·exact Or.inr ⟨u,w,m h5 D,h4,h5,h6,h7⟩
 ·rintro r H3 ⟨lv,iv,R,S,u,w,D⟩;exact⟨lv,iv,R,S,a,ins,_,u,A,w,D⟩
theorem z98(s:pJ C)(t:qbv C)(i:oL LA LO C){k:Nat}(x:921<=k){es:List Edge}(l:qf4 n es)(m:n<=256)(c:es.length<200000)(o:lV H gv es):Ok (C k (.f 191) [.agg [.int .i64 (.ofNat n),gv]] H) fun r u=>∃ lv iv y z out ins f,r=.bA [.agg [lv,iv],.int .i64 (.ofNat 0)]/\qlk n es out ins f/\CR H u n lv iv y f z/\Fm No H u:=by
 obtain⟨j,rfl⟩:=aP x;rw[(i j).zBo];unfold zBo z04;refine aT ?_;generalize b:aI (aI H (aB 0 [.int .i64 (.ofNat n),gv])) (aB 0 [.aA,.aA])=H1;have D:H1.nx=H.nx+2:=by rw[<-b];rfl
 have v:Fm No H H1:=by rw[<-b];exact((Fm.refl _ _).push _).push _
 have g1:H1.get H.nx=aB 0 [.int .i64 (.ofNat n),gv]:=by rw[<-b,qbs _ _ _ (by rw[np];omega),jG]
 have A:H1.get (H.nx+1)=aB 0 [.aA,.aA]:=by rw[<-b];exact jG _ _
 refine Ok.ve (zux (k:=j) om l m om (o.fm v)) ?_;rintro r a ⟨rfl,h⟩;have E:=h.nx;generalize pX [AV.agg [AV.int IntKind.i64 (Int.ofNat n),gv]] 0 (same AV.undef 2)=L0;unfold q1q;have g2:a.get H.nx=aB 0 [.int .i64 (.ofNat n),gv]:=(h.keep om).trans g1;have x2:a.get (H.nx+1)=aB 0 [.aA,.aA]:=(h.keep om).trans A;have g:=v.trans h;by_cases q:0<n
 ·have w:=qc9 [.int .i64 (.ofNat 0)] 8 (a.nx+1) n om om;rw[qdj,qno]at w;refine iG g2 q w ?_;have p:aZ [AV.aA,AV.aA] 1 [.sl (a.nx+1) 0 n n true]=[.aA,.sl (a.nx+1) 0 n n true]:=rfl
  try rw[p]
  generalize d:(aI (aI a (aB 0 [AV.aA,AV.aA])) (aB 0 (aJ (List.replicate n 0)))).put a.nx (aB 0 [AV.aA,AV.sl (a.nx+1) 0 n n true])=HX;have B:HX.nx=a.nx+2:=by rw[<-d];rfl
  have e:Fm No a HX:=by rw[<-d];exact(((Fm.refl _ _).push _).push _).aG _ _ om
  refine z99 s t i (j:=j) om l m c o (ob:=a.nx) (x2:=H.nx+1) (nb:=a.nx+1) (iv:=.sl (a.nx+1) 0 n n true) (g0:=H.nx) (fun _ _ _ _=>kr) (fun _ _ _ _=>kr) ?_ ?_ ?_ ?_ ?_ ?_ ?_ ?_
  ·exact g.trans e
  ·exact(e.keep om).trans g2
  ·omega
  ·omega
  ·omega
  ·rw[<-d,dN]
  ·exact(e.keep om).trans x2
  ·refine Or.inr ⟨q,rfl,?_,om,om,om,om⟩;rw[<-d,dO _ _ _ _ om];exact jG (aI a _) _
 ·refine eF g2 q ?_;generalize d:aI a (aB 0 [AV.aA,AV.aA])=HX;have B:HX.nx=a.nx+1:=by rw[<-d];rfl
  have e:Fm No a HX:=by rw[<-d];exact(Fm.refl _ _).push _
  refine z99 s t i (j:=j) om l m c o (ob:=a.nx) (x2:=H.nx+1) (nb:=a.nx) (iv:=.aA) (g0:=H.nx) (fun _ _ _ _=>kr) (fun _ _ _ _=>kr) ?_ ?_ ?_ ?_ ?_ ?_ ?_ ?_
  ·exact g.trans e
  ·exact(e.keep om).trans g2
  ·omega
  ·omega
  ·omega
  ·rw[<-d,jG]
  ·exact(e.keep om).trans x2
  ·simp_all
end Go.Di
end
section
namespace Go.Di
open Go.Di.T
theorem qw9(ins:List Nat)(dn:List Bool)(a m:Nat)(b:a<m):∀(es:List Edge) (w:List Bool),w.length=m->(∀e∈es,ins.getD e.f 0<m) -> ((waits es ins dn w).getD a true=true↔w.getD a true=true\/∃ e∈es,ins.getD e.f 0=a/\ins.getD e.f 0≠ins.getD e.t 0/\dn.getD (ins.getD e.t 0) true=false)
 | [],w,_,_=>by simp[waits]
 |e::es,w,hw,hin=>by
  show(waits es ins dn (yY ins dn w e)).getD a true=true↔_;have g:(yY ins dn w e).length=m:=by unfold yY;split<;>simp[hw]
  rw[qw9 ins dn a m b es _ g fun f c=>hin f (uk _ c)];have h:(yY ins dn w e).getD a true=true↔w.getD a true=true\/(ins.getD e.f 0=a/\ins.getD e.f 0≠ins.getD e.t 0/\dn.getD (ins.getD e.t 0) true=false):=by
   unfold yY;by_cases d:ins.getD e.f 0≠ins.getD e.t 0/\dn.getD (ins.getD e.t 0) true=false
   ·rw[qj d,gy,lE4];by_cases i:ins.getD e.f 0=a
    ·simp_all
    ·simp_all
   ·rw[pg d];simp_all
  rw[h];simp only[su,exists_eq_or_imp,or_assoc]
theorem zjk(m a:Nat)(h:a<m):(List.replicate m false).getD a true=false:=by simp_all
structure Pl(n:Nat)(es:List Edge)(out:List (List Nat))(ins:List Nat)(dn:List Bool)(pre:List (List Nat)):Prop where
 dl:dn.length=out.length
 mem:∀ x,x<n->(x∈pre.flatten↔dn.getD (ins.getD x 0) true=true)
 lt:∀ x∈pre.flatten,x<n
 cl:∀ x∈pre.flatten,∀k∈j6 es x,k∈pre.flatten
section
variable {n:Nat} {es:List Edge} {out:List (List Nat)} {ins:List Nat}
theorem qwa(f:qdt n (j6 es) out){p:Nat}{c:List Nat}(g:out[p]? =some c):∃ i t,c=i::t/\i∈c/\(∀x,x∈c↔Rc (j6 es) i x/\Rc (j6 es) x i):=by
 obtain⟨j,r,h,e⟩:=f.scc c (uz g);cases c with
 |nil=>cases h
 |cons i t=>have d:=(e i).1 ug;refine⟨i,t,rfl,ug,fun x=>?_⟩;rw[e x];exact⟨fun⟨a,b⟩=>⟨d.2.trans a,b.trans d.1⟩,fun⟨a,b⟩=>⟨d.1.trans a,b.trans d.2⟩⟩
theorem q37(b:qdt n (j6 es) out)(d:∀(i:Nat) (o:List Nat) (x:Nat),out[i]? =some o->x∈o->ins[x]? =some i){x:Nat}(h:x<n):∃ c,out[ins.getD x 0]? =some c/\x∈c:=by obtain⟨c,e,a⟩:=oq.1 ((b.all x).2 h);obtain⟨i,f⟩:=lAO.1 e;have:=d i c x f a;simp_all
theorem za0(a:∀(i:Nat) (o:List Nat) (x:Nat),out[i]? =some o->x∈o->ins[x]? =some i){p x:Nat}{c:List Nat}(b:out[p]? =some c)(h:x∈c):ins.getD x 0=p:=by rw[gy,a p c x b h];rfl
theorem zj9(B:∀ e∈es,e.f<n/\e.t<n)(r:qdt n (j6 es) out)(d:∀(i:Nat) (o:List Nat) (x:Nat),out[i]? =some o->x∈o->ins[x]? =some i){dn:List Bool}{pre:List (List Nat)}(s:Pl n es out ins dn pre){p:Nat}{c:List Nat}(b:out[p]? =some c):okP dn (waits es ins dn (List.replicate out.length false)) p=true↔∀ i∈c,i∉pre.flatten/\Rdy n (j6 es) pre i:=by
 have u:=(qp.1 b).1;obtain⟨D,t,R,j,z⟩:=qwa r b;have v:∀ x∈c,x<n:=fun x h=>(r.all x).1 (oq.2 ⟨c,uz b,h⟩);have H:∀ e∈es,ins.getD e.f 0<out.length:=fun e f=>by obtain⟨Q,q,_⟩:=q37 r d (B e f).1;exact(qp.1 q).1
 have I:=qw9 ins dn p out.length u es (List.replicate out.length false) g3 H;rw[zjk _ _ u]at I;unfold okP;rw[qh,yh,yh];constructor
 ·rintro ⟨q,M⟩;have J:¬ ∃e∈es,ins.getD e.f 0=p/\ins.getD e.f 0≠ins.getD e.t 0/\dn.getD (ins.getD e.t 0) true=false:=fun h=>by
   have:=I.2 (Or.inr h);rw[M]at this;cases this
  have K:∀ x∈c,x∉pre.flatten:=fun x h g=>by have:=(s.mem x (v x h)).1 g;rw[za0 d b h,q]at this;cases this
  -- the component and what is placed are closed
  have L:∀ y,(y∈c\/y∈pre.flatten)->∀ k∈j6 es y,k∈c\/k∈pre.flatten:=fun y m k G=>by
   rcases m with m|m
   ·obtain⟨e,f,A,l⟩:=qg3.1 G;have w:k<n:=by rw[<-l];exact(B e f).2
    by_cases a:ins.getD e.f 0=ins.getD e.t 0
    ·left;rw[A,l,za0 d b m]at a;obtain⟨Q,E,F⟩:=q37 r d w;rw[<-a,b]at E;cases E;exact F
    ·right;have:¬ dn.getD (ins.getD e.t 0) true=false:=fun g=>J ⟨e,f,by rw[A];exact za0 d b m,a,g⟩;rw[l]at this;exact(s.mem k w).2 (by simpa using this)
   ·exact Or.inr (s.cl y m k G)
  intro i N;refine⟨K i N,fun k G C=>?_⟩;rcases Rc.closed (S:=fun y=>y∈c\/y∈pre.flatten) L C (Or.inl N)with g|g
  ·exact Or.inr (((z k).1 g).2.trans ((z i).1 N).1)
  ·exact Or.inl g
 ·intro h;obtain⟨g1,g2⟩:=h D j;constructor
  ·have:¬ dn.getD (ins.getD D 0) true=true:=fun g=>g1 ((s.mem D (v D j)).2 g);rw[za0 d b j]at this;simpa using this
  ·have:¬(waits es ins dn (List.replicate out.length false)).getD p true=true:=fun g=>by
    rcases I.1 g with g|⟨e,f,q,M,E⟩
    ·cases g
    ·obtain⟨Q,F,O⟩:=q37 r d (B e f).1;rw[q,b]at F;cases F;obtain⟨T,k2⟩:=h e.f O;have P:=(B e f).2;have C:Rc (j6 es) e.f e.t:=Rc.one (qg3.2 ⟨e,f,rfl,rfl⟩);rcases k2 e.t P C with g|g
     ·have:=(s.mem e.t P).1 g;rw[E]at this;cases this
     ·have:e.t∈c:=(z e.t).2 ⟨((z e.f).1 O).1.trans C,g.trans ((z e.f).1 O).2⟩;exact M (q.trans (za0 d b this).symm)
   simpa using this
theorem qx1{m:Nat}{dn:List Bool}(h:qjr dn (waits es ins dn (List.replicate m false)) m=none):∀ k,kG es ins m k dn=[]
 |0=>rfl
 |k+1=>by rw[kG,h];exact qx1 h k
theorem q7t(J:∀ e∈es,e.f<n/\e.t<n)(d:qdt n (j6 es) out)(q:∀(i:Nat) (o:List Nat) (x:Nat),out[i]? =some o->x∈o->ins[x]? =some i):∀(k:Nat) (dn:List Bool) (pre:List (List Nat)),Pl n es out ins dn pre->(dn.count false)<=k->qJ n (j6 es) pre ((kG es ins out.length k dn).map fun i=>out.getD i [])
 |k,dn,pre,hl,U=>by
  have C:∀ u,∀k∈j6 es u,k<n:=fun u k U=>by obtain⟨e,he,_,rfl⟩:=qg3.1 U;exact(J e he).2
  have P:∀ i,i<n->i∉pre.flatten->Rdy n (j6 es) pre i->okP dn (waits es ins dn (List.replicate out.length false)) (ins.getD i 0)=true:=fun i X Y B=>by
   obtain⟨c,H,K⟩:=q37 d q X;refine(zj9 J d q hl H).2 fun y r=>?_;obtain⟨I,t,e0,m,f⟩:=qwa d H;have Q:Rc (j6 es) y i:=((f y).1 r).2.trans ((f i).1 K).1;have D:Rc (j6 es) i y:=((f i).1 K).2.trans ((f y).1 r).1;refine⟨fun g=>?_,fun z Z O=>?_⟩
   ·exact Y (Rc.closed (S:=fun w=>w∈pre.flatten) hl.cl Q g)
   ·rcases B z Z (D.trans O)with g|g
    ·exact Or.inl g
    ·exact Or.inr (g.trans D)
  cases N:qjr dn (waits es ins dn (List.replicate out.length false)) out.length with
  |none=>
   rw[qx1 N];intro x j;by_cases W:x∈pre.flatten
   ·exact W
   ·obtain⟨i,H,K,h3⟩:=z7i C j W;have:=P i H K h3;obtain⟨c,L,_⟩:=q37 d q H;rw[qr7 N _ (qp.1 L).1]at this;cases this
  |some p=>
   obtain⟨p1,M,p3⟩:=qe6 N;have E:dn.getD p true=false:=by unfold okP at M;simp only[qh,yh]at M;exact M.1
   have F:p<dn.length:=by rw[hl.dl];exact p1
   have s:dn[p]=false:=by rw[gy,lq F]at E;exact E
   cases k with
   |zero=>have:0<dn.count false:=List.count_pos_iff.2 (by rw[<-s];exact lg _);omega
   |succ k=>
    have G:out[p]? =some out[p]:=g3;have R:out.getD p []=out[p]:=by rw[gy,G];rfl
    rw[kG,N];show qJ n (j6 es) pre (out.getD p []::(kG es ins out.length k (dn.set p true)).map fun i=>out.getD i []);rw[R];obtain⟨I,t,e0,m,f⟩:=qwa d G;have v:∀ x∈out[p],x<n:=fun x h=>(d.all x).1 (oq.2 ⟨out[p],lg _,h⟩);have B:=(zj9 J d q hl G).1 M;refine⟨⟨I,⟨v I m,(B I m).1,(B I m).2⟩,(d.scc _ (lg _)).1,fun x=>⟨fun h=>⟨v x h,(f x).1 h⟩,fun h=>(f x).2 h.2⟩⟩,?_⟩
    ·refine q7t J d q k (dn.set p true) (pre++[out[p]]) ⟨by rw[vw];exact hl.dl,fun x j=>?_,fun x h=>?_,fun x h y r=>?_⟩ ?_
     ·rw[lAG,qi,hl.mem x j];have e3:([out[p]]:List (List Nat)).flatten=out[p]:=g3;rw[e3,gy (l:=dn.set p true),lE4];obtain⟨c',L,h5⟩:=q37 d q j;by_cases e:p=ins.getD x 0
      ·rw[qj e,qj om];simp only[Option.getD_some,iff_true];rw[<-e,G]at L;cases L;exact Or.inr h5
      ·rw[pg e,<-gy];exact⟨fun h=>h.resolve_right fun g=>e (za0 q G g).symm,Or.inl⟩
     ·rw[lAG,qi]at h;rcases h with h|h
      ·exact hl.lt x h
      ·exact v x (by simpa using h)
     ·rw[lAG,qi]at h ⊢;rcases h with h|h
      ·exact Or.inl (hl.cl x h y r)
      ·have A:x∈out[p]:=by simpa using h
       have T:=C x y r;rcases(B x A).2 y T (Rc.one r)with g|g
       ·exact Or.inl g
       ·right;have:y∈out[p]:=(f y).2 ⟨((f x).1 A).1.step r,g.trans ((f x).1 A).2⟩;simpa using this
     ·have:=List.count_set (l:=dn) (i:=p) (a:=true) (b:=false) F;have V:0<dn.count false:=List.count_pos_iff.2 (by rw[<-s];exact lg _);simp[s]at this;omega
theorem qlk.ord(b:∀ e∈es,e.f<n/\e.t<n){a:List (List Nat)}(h:qlk n es out ins a):qJ n (j6 es) [] a:=by
 rw[h.res];refine q7t b h.parts h.ix _ _ [] ⟨g3,fun x d=>?_,fun x h=>by simp at h,fun x h=>by simp at h⟩ ?_
 ·obtain⟨c,f,_⟩:=q37 h.parts h.ix d;rw[zjk _ _ (qp.1 f).1];simp
 ·exact rq List.count_le_length g3
end
end Go.Di
end
section
namespace Go.Di
open Go.Ev Go.Di.T Go.Sort
end Go.Di
end
section
namespace Go.Di
open Go.Ev
variable {A:Nat->Nat->Prop}
/- the distances that are reckoned -/
open Go.Di.T Go.Sort
variable {aV:Nat->List Nat} {ins:List Nat} {m n:Nat}
theorem qyg{n:Nat}{aV:Nat->List Nat}:∀{R pre:List (List Nat)} {c:List Nat},qJ n aV pre R->c∈R->∃ i,zyc n aV i c
 | [],_,_,_,h=>by cases h
 |d::R,pre,c,⟨⟨i,_,hc⟩,h2⟩,h=>by
  rcases su.1 h with rfl|h
  ·exact⟨i,hc⟩
  ·exact qyg h2 h
theorem zj6{a:List (List Nat)}(h:qJ n aV [] a){o:List Nat}(e:o∈a){x y:Nat}(f:x∈o)(j:y<n):y∈o↔Rc aV x y/\Rc aV y x:=by obtain⟨i,_,b⟩:=qyg h e;obtain⟨_,c,d⟩:=(b x).1 f;rw[b y];exact⟨fun g=>⟨d.trans g.2.1,g.2.2.trans c⟩,fun g=>⟨j,c.trans g.1,g.2.trans d⟩⟩
structure NmC(n:Nat)(res:List (List Nat))(ins:List Nat):Prop where
 is:∀(j:Nat) (o:List Nat) (x:Nat),res[j]? =some o->x∈o->ins.getD x 0=j
 all:∀ x,x<n->∃(j:Nat) (o:List Nat),res[j]? =some o/\x∈o
theorem NmC.eq{a:List (List Nat)}(h:NmC n a ins)(l:qJ n aV [] a){x y:Nat}(m:x<n)(d:y<n):ins.getD x 0=ins.getD y 0↔Rc aV x y/\Rc aV y x:=by
 obtain⟨j,o,b,e⟩:=h.all x m;obtain⟨f,g,i,k⟩:=h.all y d;rw[h.is j o x b e,h.is f g y i k,<-zj6 l (uz b) e d];constructor
 ·rintro rfl;simp_all
 ·intro c;rw[<-h.is j o y b c,h.is f g y i k]
theorem CR.no{HB H c:Hp}{lv iv:AV}{d:List AV}{a:List (List Nat)}(h:CR HB H n lv iv d a ins)(b:Fm No H c):CR HB c n lv iv d a ins:=
 ⟨h.gl.no b,h.cap,h.len,fun j w o e f=>by obtain⟨g,i,k⟩:=h.at' j w o e f;exact⟨g.no b,i,k⟩,h.gi.no b,h.aZL,h.ins,h.new⟩
def stN(e:Edge):Nat:=if e.s then 1 else 0
theorem aVF(n x:Nat):(List.replicate n 0).getD x 0=0:=by rw[gy,List.getElem?_replicate];split<;>rfl
def jU(l:List Nat):Nat:=l.foldl max 0
theorem zlc(l:List Nat):∀ a,a<=l.foldl max a/\(∀x∈l,x<=l.foldl max a)/\(l.foldl max a=a\/l.foldl max a∈l):=by
 induction l with
 |nil=>intro a;exact⟨lu _,fun x h=>(by cases h),Or.inl rfl⟩
 |cons y l ih=>
  intro a;obtain⟨f,d,b⟩:=ih (max a y);show a<=l.foldl max (max a y)/\(∀x∈y::l,x<=l.foldl max (max a y))/\(l.foldl max (max a y)=a\/l.foldl max (max a y)∈y::l);refine⟨om,fun x c=>?_,?_⟩
  ·rcases su.1 c with rfl|c
   ·omega
   ·exact d x c
  ·rcases b with b|b
   ·by_cases e:y<=a
    ·left;omega
    ·right;rw[b,show max a y=y by omega];exact ug
   ·simp_all
def qit(o:List Nat)(v:Nat):List Nat->List Nat
 | []=>o
 |x::l=>qit (o.set x v) v l
theorem zlb(cs:List Nat)(a c v:Nat)(b:c<cs.length):(cs.set a v).getD c 0=if a=c then v else cs.getD c 0:=by
 rw[gy,gy,lE4];by_cases h:a=c
 ·simp_all
 ·simp_all
theorem qp4(v:Nat):∀(l o:List Nat),(qit o v l).length=o.length
 | [],_=>rfl
 |x::l,o=>(qp4 v l _).trans vw
theorem qze(v:Nat){y:Nat}:∀(l o:List Nat),y<o.length->(qit o v l).getD y 0=if y∈l then v else o.getD y 0
 | [],o,_=>by simp[qit]
 |x::l,o,h=>by
  rw[qit,qze v l _ (by rw[vw];exact h),zlb _ _ _ _ h];by_cases a:y∈l
  ·simp_all
  ·rw[pg a];by_cases b:x=y
   ·simp_all
   ·rw[pg b,pg fun h=>(su.1 h).elim (fun e=>b e.symm) a]
theorem qsp(v x:Nat):∀(l o:List Nat),qit o v (l++[x])=(qit o v l).set x v
 | [],_=>rfl
 |_::l,_=>qsp v x l _
theorem z3g{l:List Nat}(h:∀ x∈l,x<=m):jU l<=m:=by
 obtain⟨_,_,a⟩:=zlc l 0;rcases a with a|a
 ·unfold jU;omega
 ·exact h _ a
structure Smo(n m:Nat)(o:List Nat):Prop where
 len:o.length=n
 bd:∀ x,x<n->o.getD x 0<=m
theorem Smo.start(n m:Nat):Smo n m (List.replicate n 0):=⟨g3,fun x _=>by rw[aVF];omega⟩
theorem Smo.fill{n m v:Nat}{o c:List Nat}(h:Smo n m o)(b:v<=m+1):Smo n (m+1) (qit o v c):=
 ⟨by rw[qp4,h.len],fun x a=>by rw[qze _ _ _ (by rw[h.len];exact a)];have:=h.bd x a;split<;>omega⟩
variable {LA LO:LP}
theorem ziq:∀(o:List Nat) (i v:Nat),i<o.length->(o.set i v).sum+o.getD i 0=o.sum+v
 |x::l,0,v,_=>g2
 |x::l,i+1,v,h=>by have:=ziq l i v (by simpa using h);simp at this ⊢;omega
theorem zxh:∀(o:List Nat) (m:Nat),(∀x∈o,x<=m)->o.sum<=o.length*m
 | [],_,_=>g3
 |x::l,m,h=>by have b:=zxh l m fun y a=>h y (uk _ a);have c:=h x ug;rw[List.sum_cons,pq,zk,lA5];omega
structure RE(H1:Hp)(n a0 mb ob:Nat)(ms:List Nat):Prop where
 g0:H1.get a0=aB 0 [.int .i64 (.ofNat n),.sl mb 0 (n*n) (n*n) true]
 gm:H1.get mb=aB 0 (aJ ms)
 lt:a0<H1.nx/\mb<H1.nx
 ne:a0≠ob/\mb≠ob
 len:ms.length=n*n
 n:n<=256
theorem Smo.sum{n m:Nat}{o:List Nat}(h:Smo n m o):o.sum<=n*m:=by
 have:=zxh o m fun x a=>by obtain⟨i,b,rfl⟩:=lEC.1 a;have:=h.bd i (by have:=h.len;omega);rwa [gy,lq b]at this
 rwa [h.len]at this
structure PI(n:Nat)(o0 o:List Nat)(ch:Bool):Prop where
 ns:Smo n n o
 up:ch=true->o0.sum<o.sum
 le:o0.sum<=o.sum
theorem PI.raise{n:Nat}{o0 o:List Nat}{a:Bool}{i v:Nat}(h:PI n o0 o a)(f:i<n)(b:o.getD i 0<v)(c:v<=n):PI n o0 (o.set i v) true:=by
 have e:=h.ns.len;have g:=ziq o i v om;have:=h.le;refine⟨⟨by rw[vw];exact e,fun x d=>?_⟩,fun _=>om,om⟩;rw[zlb _ _ _ _ om];split
 ·exact c
 ·exact h.ns.bd x d
theorem qyr(o:List Nat)(i:Nat)(h:i<o.length):(aJ o)[i]? =some (.int .i64 (.ofNat (o.getD i 0))):=by unfold aJ;simp_all
theorem zxv{O:Ev.Call}{H1:Hp}{n e mb ob:Nat}{ms o0:List Nat}(a:RE H1 n e mb ob ms)(U:ob<H1.nx){i:Nat}(s:i<n){qr:AV->pD}{qe:pD}{Q:pL}(N:∀ H,Fm (fun b=>b=ob) H1 H->Ok (qr .aA (.bool false) H) Q)(P:∀ o d H,PI n o0 o d->H.get ob=aB 0 (aJ o)->Fm (fun b=>b=ob) H1 H->Ok (qe (.bool d) H) Q):∀(f k:Nat) (o:List Nat) (d:Bool) (H:Hp),n-k<f->k<=n->PI n o0 o d->H.get ob=aB 0 (aJ o)->Fm (fun b=>b=ob) H1 H -> Ok (qrj O qr qe (.ptr e 0) (.sl ob 0 n n true) (.int .i64 (.ofNat i)) f (.bool d) (.int .i64 (.ofNat k)) H) Q
 |0,k,o,d,H,h,_,_,_,_=>om
 |f+1,k,o,d,H,h,hk,q,c,r=>by
  show Ok (zhc O _ _ _ _ _ (qrj O _ _ _ _ _ f) _ _ H) Q;unfold zhc;have g0:H.get e=aB 0 [.int .i64 (.ofNat n),.sl mb 0 (n*n) (n*n) true]:=(r.get _ a.lt.1 a.ne.1).trans a.g0;have w:H.get mb=aB 0 (aJ ms):=(r.get _ a.lt.2 a.ne.2).trans a.gm;have R:=q.ns.len;have V:=a.len;have S:=a.n;by_cases l:k<n
  ·have Y:i*n+k<n*n:=zxy s l;have Z:i*n<=65536:=Nat.mul_le_mul (zo (ku s S)) S;have x:=qyr ms (i*n+k) om;have T:=qyr o k om;have F:=qyr o i om;have s1:=q.ns.bd k l;have s2:=q.ns.bd i s;have A:¬ n<o.getD i 0:=om;have next:∀(t:List Nat) (g:Bool) (u:Hp),PI n o0 t g->u.get ob=aB 0 (aJ t)->Fm (fun b=>b=ob) H1 u ->
     Ok (qol O qr (qrj O qr qe (.ptr e 0) (.sl ob 0 n n true) (.int .i64 (.ofNat i)) f) (.ptr e 0) (.sl ob 0 n n true) (.bool g) (.int .i64 (.ofNat i)) (.int .i64 (.ofNat k)) u) Q:=fun t g u p y z=>by
    unfold qol;have I:u.get e=aB 0 [.int .i64 (.ofNat n),.sl mb 0 (n*n) (n*n) true]:=(z.get _ a.lt.1 a.ne.1).trans a.g0;have J:=qyr t i (by have:=p.ns.len;omega);have s3:=p.ns.bd i s;have A:¬ n<t.getD i 0:=om;simp(disch:=go_size)only[go_sem,rB,rI,rK,rL,rN,rS,r6,I,y,J,A,qm,qg];unfold qid;simp(disch:=go_size)only[go_sem,rB,rI,rK,rL,rN,rS,r6];exact zxv a U s N P f (k+1) t g u (by omega) (by omega) p y z
   have m:∀ v,v<=n+1->Ok (qok O qr (qrj O qr qe (.ptr e 0) (.sl ob 0 n n true) (.int .i64 (.ofNat i)) f) (.ptr e 0) (.sl ob 0 n n true) (.bool d) (.int .i64 (.ofNat i)) (.int .i64 (.ofNat k)) (.int .i64 (.ofNat v)) H) Q:=fun v X=>by
    unfold qok;by_cases j:o.getD i 0<v
    ·have B:=qjy o i (v) om;have C:i+1<=(aJ o).length:=by rw[mP];omega
     by_cases E:v<=n
     ·simp(disch:=go_size)only[go_sem,rB,rI,rK,rL,rN,rS,r6,c,F,j,B,C,qm,qg,pq,uo];exact next _ true _ (q.raise s j E) (dN _ _ _) (r.put _ _ fun _=>rfl)
     ·have W:(aJ (o.set i (v)))[i]? =some (.int .i64 (.ofNat (v))):=by
       rw[qyr _ _ (by rw[vw];omega),zlb _ _ _ _ om,qj rfl]
      have K:n<v:=om;simp(disch:=go_size)only[go_sem,rB,rI,rK,rL,rN,rS,r6,c,F,j,B,C,qm,qg,pq,uo];unfold qol;have L:(H.put ob (aB 0 (aJ (o.set i (v))))).get e=aB 0 [.int .i64 (.ofNat n),.sl mb 0 (n*n) (n*n) true]:=by rw[dO _ _ _ _ (by have:=a.ne.1;omega)];exact g0
      simp(disch:=go_size)only[go_sem,rB,rI,rK,rL,rN,rS,r6,L,W,K,qm,qg];exact N _ (r.put _ _ fun _=>rfl)
    ·simp(disch:=go_size)only[go_sem,rB,rI,rK,rL,rN,rS,r6,c,F,j,qm,qg];exact next o d H q c r
   simp(disch:=go_size)only[go_sem,rB,rI,rK,rL,rN,rS,r6,g0,l];unfold zhb;by_cases G:ms.getD (i*n+k) 0=1
   ·have M:¬ 1<ms.getD (i*n+k) 0:=om;simp(disch:=go_size)only[go_sem,rB,rI,rK,rL,rN,rS,r6,g0,w,c,x,T,G,qm,qg];unfold qoj;simp(disch:=first|go_size|omega)only[go_sem,rB,rI,rK,rL,rN,rS,r6,g0,w,c,x,G,qm,qg];exact m _ om
   ·by_cases M:1<ms.getD (i*n+k) 0
    ·simp(disch:=go_size)only[go_sem,rB,rI,rK,rL,rN,rS,r6,g0,w,c,x,G,qm,qg];unfold qoj;simp(disch:=go_size)only[go_sem,rB,rI,rK,rL,rN,rS,r6,g0,w,c,x,T,M,qm,qg];exact m _ (by omega)
    ·simp(disch:=go_size)only[go_sem,rB,rI,rK,rL,rN,rS,r6,g0,w,c,x,G,qm,qg];unfold qoj;simp(disch:=go_size)only[go_sem,rB,rI,rK,rL,rN,rS,r6,g0,w,c,x,M,qm,qg];unfold qok;have D:¬(Int.ofNat (o.getD i 0)<Int.negSucc 0):=by
      have:=Int.negSucc_lt_zero 0;simp only[ut];omega
     simp(disch:=go_size)only[go_sem,rB,rI,rK,rL,rN,rS,r6,c,F,D,qm,qg];exact next o d H q c r
  ·simp(disch:=go_size)only[go_sem,rB,rI,rK,rL,rN,rS,r6,g0,l];have:k=n:=om;subst this;exact P o d H q c r
theorem zke{O:Ev.Call}{H1:Hp}{n e mb ob:Nat}{ms o0:List Nat}(d:RE H1 n e mb ob ms)(m:ob<H1.nx){qr:AV->pD}{qe:pD}{Q:pL}(p:∀ H,Fm (fun b=>b=ob) H1 H->Ok (qr .aA (.bool false) H) Q)(q:∀ o a H,PI n o0 o a->H.get ob=aB 0 (aJ o)->Fm (fun b=>b=ob) H1 H->Ok (qe (.bool a) H) Q):∀(f i:Nat) (o:List Nat) (a:Bool) (H:Hp),n-i<f->i<=n->PI n o0 o a->H.get ob=aB 0 (aJ o)->Fm (fun b=>b=ob) H1 H -> Ok (qw2 O qr qe (.ptr e 0) (.sl ob 0 n n true) f (.bool a) (.int .i64 (.ofNat i)) H) Q
 |0,i,o,a,H,h,_,_,_,_=>om
 |f+1,i,o,a,H,h,hi,hP,hg,hF=>by
  show Ok (zhd O _ _ _ _ (qw2 O _ _ _ _ f) _ _ H) Q;unfold zhd;have g0:H.get e=aB 0 [.int .i64 (.ofNat n),.sl mb 0 (n*n) (n*n) true]:=(hF.get _ d.lt.1 d.ne.1).trans d.g0;have t:=d.n;by_cases c:i<n
  ·simp(disch:=go_size)only[go_sem,seval,g0,c];unfold zha zw5;rw[dD];refine zxv d m c p (fun r g s j k l=>?_) bZ 0 o a H lf (gp _) hP hg hF;unfold zg8;refine aT ?_;exact zke d m p q f (i+1) r g s om om j k l
  ·simp(disch:=go_size)only[go_sem,seval,g0,c];have:i=n:=om;subst this;exact q o a H hP hg hF
theorem zkd{O:Ev.Call}{H1:Hp}{n k mb ob:Nat}{ms:List Nat}(d:RE H1 n k mb ob ms)(l:ob<H1.nx){qr:AV->pD}{qe:pH}{Q:pL}(m:∀ H,Fm (fun b=>b=ob) H1 H->Ok (qr .aA (.bool false) H) Q)(p:∀ o H,H.get ob=aB 0 (aJ o)->Fm (fun b=>b=ob) H1 H->Ok (qe H) Q):∀(f:Nat) (o:List Nat) (H:Hp),n*n-o.sum+2<=f->Smo n n o->H.get ob=aB 0 (aJ o)->Fm (fun b=>b=ob) H1 H -> Ok (qoi O qr qe (.ptr k 0) (.sl ob 0 n n true) f (.bool true) H) Q
 |0,o,H,h,_,_,_=>om
 |f+1,o,H,h,hN,hg,hF=>by
  show Ok (qw4 O _ _ _ _ (qoi O _ _ _ _ f) _ H) Q;unfold qw4;refine aT ?_;unfold zg9 zw6;rw[dD];have r:=d.n;refine zke d l (o0:=o) m (fun q e i j a c=>?_) bZ 0 o false H lf (gp _) ⟨hN,fun h=>(by cases h),lu _⟩ hg hF;cases e with
  |true=>have s:=j.up rfl;have t:=j.ns.sum;exact zkd d l m p f q i om j.ns a c
  |false=>obtain⟨f,rfl⟩:∃ g,f=g+1:=⟨f-1,om⟩;show Ok (qw4 O _ _ _ _ (qoi O _ _ _ _ f) _ i) Q;unfold qw4;refine aT ?_;exact p q i a c
theorem qu3{k:Nat}(m:1<=k){n mb:Nat}{ms:List Nat}{i:AV}{H:Hp}(d:yH H i mb n ms)(y:n<13):Ok (C k (.f 19) [i] H) fun r p=>Fm No H p/\∃ w b,r=.bA [w,b]/\uQ w=some [w]:=by
 obtain⟨j,rfl⟩:=aP m;have t:=d.hv;subst t;rw[lk (zrg ..)];unfold zAg z1x;have u:Fm No H (aI H (aB 0 [.int .i64 (.ofNat n),.sl mb 0 (n*n) (n*n) true])):=(Fm.refl _ _).push _;have l:=qc9 [.int .i64 (.ofNat 0)] 8 (H.nx+1) n om om;rw[qdj,qno]at l;refine eP l ?_;generalize a:aI (aI H (aB 0 [.int .i64 (.ofNat n),.sl mb 0 (n*n) (n*n) true])) (aB 0 (aJ (List.replicate n 0)))=H1;have A:H1.nx=H.nx+1+1:=by rw[<-a];rfl
 have f:Fm No H H1:=by rw[<-a];exact u.push _
 have g1:H1.get H.nx=aB 0 [.int .i64 (.ofNat n),.sl mb 0 (n*n) (n*n) true]:=by rw[<-a,qbs _ _ _ gz,jG]
 have g2:H1.get (H.nx+1)=aB 0 (aJ (List.replicate n 0)):=by rw[<-a];exact jG _ _
 have g:=d.lt;have v:RE H1 n H.nx mb (H.nx+1) ms:=⟨g1,(f.keep g).trans d.get,⟨om,om⟩,⟨om,om⟩,d.ok.len,om⟩;unfold zw7;rw[dD];have x:n*n<=12*12:=Nat.mul_le_mul om om;refine zkd v om (fun q e=>?_) (fun o q z e=>?_) bZ (List.replicate n 0) H1 lf (Smo.start n n) g2 (Fm.refl _ _)
 ·exact Ok.ret ⟨f.then e fun c s h=>om,_,_,rfl,rfl⟩
 ·unfold qw3;exact Ok.ret ⟨f.then e fun c s h=>om,_,_,rfl,rfl⟩
variable {H:Hp} {i:Nat} {l:List AV}
theorem rdP{b q:Nat}{P:List AV}{M:List Nat}(a:H.get b=aB q (P++aJ M))(h:i<M.length):bX (H.get b) (P.length+i)=.val (.int .i64 (.ofNat M[i])):=by rw[a,qca,uh om,yx];unfold aJ;simp_all
theorem bAd(P:List AV)(M:List Nat)(x:Nat)(h:i<M.length):aZ (P++aJ M) (P.length+i) [.int .i64 (.ofNat x)]=P++aJ (M.set i x):=by
 have a:(aJ M).length=M.length:=mP M;unfold aZ;rw[lEG,tq om,List.drop_append,xe g2];rw[show P.length+i-P.length=i by omega,show P.length+i+[AV.int .i64 (.ofNat x)].length-P.length=i+1 by simp;omega];have:aJ (M.set i x)=(aJ M).set i (.int .i64 (.ofNat x)):=by unfold aJ;rw[lEA]
 rw[this,List.set_eq_take_append_cons_drop,qj om];simp
theorem z9q(P:List AV)(M:List Nat){k n:Nat}(b:M.length=n)(h:k<=n):aZ (P++aJ M) (P.length+k) (aS [.int .i64 (.ofNat 0)] (n-k))=P++aJ (M.take k++List.replicate (n-k) 0):=by
 have d:(aJ M).length=n:=by rw[mP,b]
 have c:aS [.int .i64 (.ofNat 0)] (n-k)=aJ (List.replicate (n-k) 0):=by rw[qdj];unfold aJ;rw[List.map_replicate]
 have a:(aJ (List.replicate (n-k) 0)).length=n-k:=by rw[mP,lAA]
 unfold aZ;rw[c,a,lEG,tq om,List.drop_append,xe om];rw[show P.length+k-P.length=k by omega,xe om];have:aJ (M.take k++List.replicate (n-k) 0)=(aJ M).take k++aJ (List.replicate (n-k) 0):=by unfold aJ;rw[ui,List.map_take]
 simp_all
structure Cp(l M:List Nat)(k p:Nat):Prop where
 len:M.length=l.length
 lt:k<p
 le:p<=l.length
 same:M.drop k=l.drop k
 asc:(M.take k).Pairwise (· < ·)
 mem:∀ x,x∈M.take k↔x∈l.take p
theorem Cp.at{l M:List Nat}{k p i:Nat}(h:Cp l M k p)(c:k<=i)(a:i<l.length):M[i]'(by rw[h.len];exact a)=l[i]:=by
 have b:(M.drop k)[i-k]? =(l.drop k)[i-k]? :=by rw[h.same]
 rw[zg,zg,show k+(i-k)=i by omega,lq a,lq (by rw[h.len];exact a)]at b;simp_all
theorem qe2{l:List Nat}{p:Nat}(h:p<l.length):l.take (p+1)=l.take p++[l[p]]:=lh h
theorem qvl{l:List Nat}{p x:Nat}(h:x∈l.take p):∃ i,∃(a:i<l.length),i<p/\l[i]=x:=by obtain⟨i,a,e⟩:=lEC.1 h;rw[qx]at a;exact⟨i,om,om,by rw[<-e];simp⟩
theorem Cp.eq{l M:List Nat}{k p:Nat}(h:Cp l M k p)(b:p<l.length)(c:l[p]=l[p-1]'om):Cp l M k (p+1):=by
 refine⟨h.len,by have:=h.lt;omega,b,h.same,h.asc,fun x=>(h.mem x).trans ?_⟩;rw[qe2 b,qi,qf];refine⟨Or.inl,fun a=>a.elim id fun a=>?_⟩;have d:=h.lt;rw[a,c];have:l.take p=l.take (p-1)++[l[p-1]'om]:=by have:=qe2 (l:=l) (p:=p-1) om;rwa [show p-1+1=p by omega]at this
 exact this▸ny _ (qf.2 rfl)
theorem Cp.ne{l M:List Nat}{k p:Nat}(h:Cp l M k p)(j:l.Pairwise (· <= ·))(c:p<l.length)(o:¬ l[p]=l[p-1]'om):Cp l (M.set k l[p]) (k+1) (p+1):=by
 have q:=h.lt;have d:=h.len;have g:(M.set k l[p]).take (k+1)=M.take k++[l[p]]:=by rw[qe2 (l:=M.set k l[p]) (p:=k) (by rw[vw];omega),List.getElem_set_self,List.take_set_of_le (lu k)]
 refine⟨by rw[vw,d],om,c,?_,?_,fun x=>?_⟩
 ·rw[List.drop_set_of_lt om];have:=congrArg (List.drop 1) h.same;simp_all
 ·rw[g,zq];refine⟨h.asc,bf _ _,fun a m b f=>?_⟩;rw[qf]at f;subst f;obtain⟨i,t,n,rfl⟩:=qvl ((h.mem a).1 m);have e:=yf.1 j;have r:l[p-1]'om<=l[p]:=e (p-1) p om c om;have s:l[i]<=l[p-1]'om:=by
   rcases cu i (p-1)with h2|h2
   ·simp_all
   ·have:i=p-1:=om;simp_all
  omega
 ·rw[g,qe2 c,qi,qi,h.mem x]
theorem qld{O:Ev.Call}{b o n q:Nat}{e:Bool}{P:List AV}{l:List Nat}(p:l.Pairwise (· <= ·))(a:P.length=o)(u:l.length=n)(v:n<900){c0:Nat}(d:c0<n){H1:Hp}{q2:pD}{Q:pL}(r:∀ M k H,Cp l M k n->H.get b=aB q (P++aJ M)->Fm (fun c=>c=b) H1 H->Ok (q2 (.int .i64 (.ofNat k)) H) Q):∀(f k k2:Nat) (M:List Nat) (H:Hp),n-(c0+k2)<f->1<=k2->Cp l M k (c0+k2)->H.get b=aB q (P++aJ M)->Fm (fun c=>c=b) H1 H -> Ok (qdw O q2 (.sl b o n n e) (.sl b (o+c0) (n-c0) (n-c0) e) f (.int .i64 (.ofNat k)) (.int .i64 (.ofNat k2)) H) Q
 |0,k,k2,M,H,h,_,_,_,_=>om
 |f+1,k,k2,M,H,h,h1,hC,hg,hF=>by
  show Ok (qfs O _ _ _ (qdw O _ _ _ f) _ _ H) Q;unfold qfs;have z:=hC.lt;have A:=hC.le;have B:=hC.len;by_cases y:k2<n-c0
  ·have j:=rdP hg (i:=c0+k2) om;have s:=rdP hg (i:=c0+(k2-1)) om;rw[hC.at om om,a,<-uu]at j;rw[hC.at om om,a,<-uu]at s;simp only[go_sem,y];unfold qjv;have g:l[c0+k2-1]'om=l[c0+(k2-1)]'om:=by congr 1;omega
   by_cases m:l[c0+k2]'om=l[c0+k2-1]'om
   ·rw[m,g]at j;refine iG qm j s ?_;unfold qj9;refine aT ?_;exact qld p a u v d r f k (k2+1) M H om om (hC.eq om m) hg hF
   ·have t:¬ l[c0+k2]'om=l[c0+(k2-1)]'om:=by rw[<-g];exact m
    have w:=bAd P M (i:=k) (l[c0+k2]'om) om;rw[a]at w;have C:∀ x:AV,qig (aB q (P++aJ M)) (o+k) [x]=some (aB q (aZ (P++aJ M) (o+k) [x])):=fun x=>by rw[qjd,qj];rw[lL,mP];simp only[pq,uo];omega
    refine jD qm j s t ?_;rw[hg]at *;refine eF C w ?_;unfold qj9;refine aT ?_;exact qld p a u v d r f (k+1) (k2+1) _ _ om om (hC.ne p om m) (dN _ _ _) (hF.put _ _ fun _=>rfl)
  ·simp only[go_sem,y];have:c0+k2=n:=om;rw[this]at hC;exact r M k H hC hg hF
theorem qqd{O:Ev.Call}{b o n q:Nat}{e:Bool}{P:List AV}{l:List Nat}(z:l.Pairwise (· <= ·))(t:P.length=o)(u:l.length=n)(J:n<900){H:Hp}(v:H.get b=aB q (P++aJ l))(K:b<H.nx)(m:e=true\/q=1){q2:pH}{Q:pL}(L:∀ k R j,k<=n->R.length=k->R.Pairwise (· < ·)->(∀x,x∈R↔x∈l)->Gs 1 j (.sl b o k n e) k (aJ R)->Fm (fun c=>c=b) H j->Q (.sl b o k n e) j)(r:l.Pairwise (· < ·)->Ok (q2 H) Q):∀(f k:Nat),n-k<f->1<=k->k<=n->(l.take k).Pairwise (· < ·) -> Ok (qek O (fun x H=>.ok x H) q2 (.sl b o n n e) f (.int .i64 (.ofNat k)) H) Q
 |0,k,h,_,_,_=>om
 |f+1,k,h,h1,hk,ha=>by
  show Ok (qgr O _ _ _ (qek O _ _ _ f) _ H) Q;unfold qgr;by_cases g:k<n
  ·have y:=rdP v (i:=k) om;have D:=rdP v (i:=k-1) om;rw[t]at y D;simp only[go_sem,g];unfold qju;by_cases I:l[k]'om=l[k-1]'om
   ·rw[I]at y;have U:=qkv 1 b o n n e (a:=k) om (lu _) g;refine jD qm y D U ?_;unfold qjw;rw[dD];have E:Cp l l k (k+1):=by
     refine⟨rfl,om,om,rfl,ha,fun x=>?_⟩;rw[qe2 (p:=k) om,qi,qf];refine⟨Or.inl,fun A=>A.elim id fun A=>?_⟩;have:l.take k=l.take (k-1)++[l[k-1]'om]:=by simp_all
     rw[A,I];exact this▸ny _ (qf.2 rfl)
    refine qld (H1:=H) z t u J (c0:=k) g (fun M d j w B N=>?_) bZ k 1 l H lf (lu 1) E v (Fm.refl _ _);unfold qfr;have V:=w.lt;have c2:=w.len;have W:=qkv 1 b o n n e (a:=d) om (lu _) V;have X:=q7d 1 b o n n e (k:=d) om (lu _) om;have T:=z9q P M (k:=d) (n:=n) om om;rw[t]at T;have F:(aS [.int .i64 (.ofNat 0)] (n-d)).length=n-d:=by rw[qdj,lAA]
    have Y:qgz [.int .i64 (.ofNat 0)] j (.sl b (o+d) (n-d) (n-d) e)=.ok .undef (j.put b (aB q (P++aJ (M.take d++List.replicate (n-d) 0)))):=by show(bif Nat.beq (n-d) 0 then _ else storeAt j b (o+d) (aS [.int .i64 (.ofNat 0)] (n-d)) .undef)=_;rw[beq_eq,ql om,af,qb3 _ _ _ _ _ _ _ B (by rw[F,lL,mP];omega),T]
    simp only[go_sem,W,X,Y];have G:(M.take d).length=d:=by rw[qx];omega
    refine Ok.ret (L d (M.take d) _ om G w.asc (fun x=>by rw[w.mem x,<-u,um]) ?_ (N.put _ _ fun _=>rfl));refine⟨by rw[mP,G,qm],.inr ⟨b,o,n,e,q,_,rfl,om,dN _ _ _,?_,?_,m,ku K N.nx⟩⟩
    ·rw[lL,mP,lL,G,lAA];omega
    ·rw[xn om,xe om,yj,qm];unfold aJ;simp_all
   ·refine jD qm y D I ?_;unfold qh0;refine aT ?_;refine qqd z t u J v K m L r f (k+1) om om om ?_;rw[qe2 (p:=k) om,zq];refine⟨ha,bf _ _,fun a C c S=>?_⟩;rw[qf]at S;subst S;obtain⟨i,Z,hip,rfl⟩:=qvl C;have s:=yf.1 z;have a1:l[k-1]'om<=l[k]'om:=s (k-1) k om om om;have a2:l[i]<=l[k-1]'om:=by
     rcases cu i (k-1)with h2|h2
     ·exact s i (k-1) Z om h2
     ·have:i=k-1:=om;simp_all
    omega
  ·simp only[go_sem,g];have:k=n:=om;subst this;rw[<-u,um]at ha;exact r ha
theorem q4v(w:pJ C){k:Nat}(p:1<=k){v:AV}{l:List Nat}(z:l.Pairwise (· <= ·))(A:n<900)(d:Gl 1 H v n (aJ l)):Ok (C k (.f 226) [v] H) fun r g=>∃ R:List Nat,R.Pairwise (· < ·)/\(∀x,x∈R↔x∈l)/\Gs 1 g r R.length (aJ R)/\(∀b,In r b->In v b)/\Fm (In v) H g:=by
 obtain⟨j,rfl⟩:=aP p;have a:l.length=n:=by have:=d.len;rw[mP]at this;omega
 rw[(w j).kJ];unfold kJ qip;have s:=d.bM;by_cases u:n<2
 ·simp only[go_sem,s,u];refine Ok.ret ⟨l,?_,fun x=>Iff.rfl,by rw[a];exact d.gs,fun b h=>h,Fm.refl _ _⟩
  match l,a with
  | [],_=>exact List.Pairwise.nil
  | [x],_=>exact bf _ _
  |x::y::t,h=>simp at h;omega
 ·rcases d.is with⟨_,J⟩|⟨b,o,e,q,L,rfl,g1,g2,g3,g4,g5⟩
  ·omega
  have G:(L.take o).length=o:=by rw[qx];omega
  have I:H.get b=aB q (L.take o++aJ l):=by rw[g1,<-g3,dh]
  simp only[go_sem,s,u];unfold qjt qls;rw[dD];have m:∀ c,c=b->In (.sl b o n n e) c:=fun c f=>by subst f;exact⟨_,_,_,_,rfl⟩
  refine qqd z G a A I g5 g4 (fun k R g p B i D E F=>?_) (fun i=>?_) bZ 1 lf (lu 1) om ?_
  ·refine⟨R,i,D,by rw[B];exact E,fun c f=>?_,F.mono fun c _ f=>m c f⟩;obtain⟨_,_,_,_,K⟩:=f;simp_all
  ·unfold gM;exact Ok.ret ⟨l,i,fun x=>Iff.rfl,by rw[a];exact d.gs,fun b h=>h,Fm.refl _ _⟩
  ·match l,a with
   | [],h=>simp at h;omega
   |x::t,_=>simp
theorem Gs.clip{v:AV}(h:Gs 1 H v n l):∃ w,kU 1 v none (some (.int .i64 (.ofNat n))) (some (.int .i64 (.ofNat n)))=.val w/\Rl H w l/\dU w=.val (.int .i64 (.ofNat n))/\(∀b,In w b->In v b):=by
 rcases h.is with⟨rfl,rfl⟩|⟨b,o,m,e,q,L,rfl,x,C,D,E,F,G⟩
 ·exact⟨.aA,rfl,h.rl,rfl,fun b h=>h⟩
 ·have t:kU 1 (.sl b o n m e) none (some (.int .i64 (.ofNat n))) (some (.int .i64 (.ofNat n)))=iV b o 1 ⟨0,n,n⟩ true:=by
   show(match bounds n m none (some (.int .i64 (.ofNat n))) (some (.int .i64 (.ofNat n)))with|some bd=>iV b o 1 bd true|none=>R0.bad)=_;have:bounds n m none (some (.int .i64 (.ofNat n))) (some (.int .i64 (.ofNat n)))=some ⟨0,n,n⟩:=by show(match(bif Nat.ble n m then some n else none)with|none=>none|some m=>match(bif Nat.ble n m then some n else none)with|none=>none|some h=>match(some 0:Option Nat)with|none=>none|some l=>some (Bd.mk l h m))=_;rw[ble_eq,qc x];simp only[uB,ble_eq,qc (lu n)]
   rw[this]
  have j:∀ f,Gs 1 H (.sl b o n m f) n l->Rl H (.sl b o n n true) l:=fun f g=>by have r:=g.rl;exact⟨r.len,fun i s=>by obtain⟨y,z,k,A,B⟩:=r.at' i s;exact⟨y,z,by have u:=h.len;rw[vL _ _ _ _ _ _ _ _ om]at k ⊢;exact k,A,B⟩⟩
  rw[t];unfold iV;simp only[beq_eq];by_cases p:n=0
  ·subst p;exact⟨.sl b o 0 0 true,rfl,j e h,rfl,fun c a=>by obtain⟨_,_,_,_,d⟩:=a;cases d;exact⟨_,_,_,_,rfl⟩⟩
  ·rw[ql p];refine⟨.sl b o n n true,?_,j e h,rfl,fun c a=>by obtain⟨_,_,_,_,d⟩:=a;cases d;exact⟨_,_,_,_,rfl⟩⟩;rfl
theorem zuw{k:Nat}(a:1<=k){v:AV}(h:Gs 1 H v n l):∃w,C k (.f 185) [v] H=.ok w H/\Rl H w l/\dU w=.val (.int .i64 (.ofNat n))/\(∀b,In w b->In v b):=by obtain⟨j,rfl⟩:=aP a;obtain⟨w,e,c,d,f⟩:=h.clip;refine⟨w,?_,c,d,f⟩;rw[lk (q55 ..)];unfold zBd qn4;simp only[go_sem,h.bM,e]
variable {gv:AV}
theorem zm3(a:pJ C)(b:qbv C){k:Nat}(c:5<=k)(H:Hp):C k (.f 225) [.aA] H=.ok (.bA []) H:=by obtain⟨k,rfl⟩:∃ j,k=j+1:=⟨k-1,om⟩;exact(a k).aIC H
def vJ(ins:List Nat)(e:Edge):Bool:=e.s&&decide (ins.getD e.f 0=ins.getD e.t 0)
def jK(ins:List Nat)(es:List Edge):List Nat:=(es.filter (vJ ins)).map fun e=>ins.getD e.f 0
theorem zkn(ins:List Nat)(es:List Edge)(h:i<es.length):jK ins (es.take (i+1))=jK ins (es.take i)++(if vJ ins es[i]then[ins.getD es[i].f 0]else[]):=by unfold jK;rw[lh h,eQ,ui];congr 1;cases a:vJ ins es[i]<;>simp[a]
theorem zko(ins:List Nat)(es:List Edge):(jK ins es).length<=es.length:=by unfold jK;rw[pz];exact zn _ _
theorem zs5{es:List Edge}{x:Nat}:x∈jK ins es↔∃ e∈es,e.s=true/\ins.getD e.f 0=ins.getD e.t 0/\ins.getD e.f 0=x:=by
 unfold jK vJ;rw[uC];constructor
 ·rintro ⟨e,a,rfl⟩;rw[xF,qh,yc]at a;exact⟨e,a.1,a.2.1,a.2.2,rfl⟩
 ·rintro ⟨e,a,b,c,d⟩;exact⟨e,xF.2 ⟨a,by rw[qh,yc];exact⟨b,c⟩⟩,d⟩
theorem qhy{O:Ev.Call}{H1:Hp}{n c:Nat}{lv iv w:AV}{es:List Edge}{ins:List Nat}(d:es.length<200000)(A:∀ e∈es,e.f<n/\e.t<n)(B:lV H1 w es)(o:Gl 1 H1 iv n (aJ ins))(p:H1.get c=aB 0 [lv,iv])(f:c<H1.nx){q:pD}{Q:pL}(C:∀ v H,Gl 1 H v (jK ins es).length (aJ (jK ins es))->Fm No H1 H->(∀b,In v b->H1.nx<=b)->Ok (q v H) Q):∀(k i:Nat) (v:AV) (H:Hp),es.length-i<k->i<=es.length->Gl 1 H v (jK ins (es.take i)).length (aJ (jK ins (es.take i)))->(∀b,In v b->H1.nx<=b)->Fm No H1 H -> Ok (qtq O q (.ptr c 0) w (.int .i64 (.ofNat es.length)) k v (.int .i64 (.ofNat i)) H) Q
 |0,i,v,H,h,_,_,_,_=>om
 |k+1,i,v,H,h,F,hg,hnew,hF=>by
  show Ok (q1p O _ _ _ _ (qtq O _ _ _ _ k) _ _ H) Q;unfold q1p;by_cases j:i<es.length
  ·simp only[go_sem,j];unfold zfo;have D:lV H w es:=B.fm hF;have r:Gl 1 H iv n (aJ ins):=o.no hF;have s:H.get c=aB 0 [lv,iv]:=(hF.keep f).trans p;have E:c<H.nx:=ku f hF.nx;have F:ins.length=n:=by have:=o.len;rw[mP]at this;omega
   obtain⟨b,o1,N,e2,P⟩:=D.at j;obtain⟨r1,r2⟩:=A es[i] (lg _);have S:∀ x,x<n->(aJ ins)[x]? =some (.int .i64 (.ofNat (ins.getD x 0))):=fun x hx=>by unfold aJ;simp_all
   obtain⟨b1,o2,T,e5,_,U⟩:=r.at (S _ r1);obtain⟨b2,o3,V,e8,_,W⟩:=r.at (S _ r2);have g:=zkn ins es j;have G:=zko ins (es.take i);rw[qx]at G;have a:Fm No H ((aI H (aB 0 [.int .i64 (.ofNat 0),.int .i64 (.ofNat 0),.bool false])).put H.nx (aB 0 [.int .i64 (.ofNat es[i].f),.int .i64 (.ofNat es[i].t),.bool es[i].s])):=by exact kP
   cases l:es[i].s with
   |false=>
    have t:vJ ins es[i]=false:=by unfold vJ;rw[l];rfl
    rw[l]at a;rw[t]at g;simp only[go_sem,N,P,Edge.cells,l];unfold qfh;refine aT ?_;rw[pg g3,uf]at g;refine qhy d A B o p f C k (i+1) v _ om om (by rw[g];exact hg.no a) hnew (hF.trans a)
   |true=>
    rw[l]at a;by_cases m:ins.getD es[i].f 0=ins.getD es[i].t 0
    ·have t:vJ ins es[i]=true:=by unfold vJ;rw[l,qc m];rfl
     rw[t,qj rfl]at g;have u:(jK ins (es.take (i+1))).length=(jK ins (es.take i)).length+1:=by rw[g,lL];rfl
     generalize z:(aI H (aB 0 [.int .i64 (.ofNat 0),.int .i64 (.ofNat 0),.bool false])).put H.nx (aB 0 [.int .i64 (.ofNat es[i].f),.int .i64 (.ofNat es[i].t),.bool true])=H2 at *;have I:H2.get H.nx=aB 0 [.int .i64 (.ofNat es[i].f),.int .i64 (.ofNat es[i].t),.bool true]:=by rw[<-z,dN]
     have J:H2.get c=aB 0 [lv,iv]:=(a.keep E).trans s;have K:bX (H2.get b1) o2=.val (.int .i64 (.ofNat (ins.getD es[i].f 0))):=by rw[a.keep e5];exact U
     have L:bX (H2.get b2) o3=.val (.int .i64 (.ofNat (ins.getD es[i].t 0))):=by rw[a.keep e8];exact W
     have y:Gl 1 (aI H2 (aB 0 [.int .i64 (.ofNat (ins.getD es[i].f 0))])) v (jK ins (es.take i)).length (aJ (jK ins (es.take i))):=(hg.no a).no ((Fm.refl _ _).push _);obtain⟨H',X,R,_,Y,a5⟩:=y.append (w:=8) (k:=1) (x:=[.int .i64 (.ofNat (ins.getD es[i].f 0))]) om rfl om om;rw[m]at X R Y y;simp(disch:=go_size)only[go_sem,rB,rI,rK,rL,rN,rS,r6,N,P,Edge.cells,l,z,I,J,T,K,V,L,m,X];unfold qfh;refine aT ?_;have M:aJ (jK ins (es.take i))++[.int .i64 (.ofNat (ins.getD es[i].t 0))]=aJ (jK ins (es.take (i+1))):=by rw[g,m];simp[aJ]
     rw[M,<-u]at R;rw[<-u];have hn1:=hF.nx;have hn2:=a.nx;refine qhy d A B o p f C k (i+1) _ H' om om R (fun b Z=>?_) (((hF.trans a).trans ((Fm.refl _ _).push _)).then Y fun c p h=>by have:=hnew c h;omega);obtain⟨_,_,_,_,h⟩:=Z;cases h;omega
    ·have t:vJ ins es[i]=false:=by unfold vJ;rw[l,ql m];rfl
     rw[t]at g;simp(disch:=first|omega|exact ti rfl)only[go_sem,seval,N,P,Edge.cells,l,s,T,U,V,W,m];unfold qfh;refine aT ?_;rw[pg g3,uf]at g;refine qhy d A B o p f C k (i+1) v _ om om (by rw[g];exact hg.no a) hnew (hF.trans a)
  ·simp only[go_sem,j];have:i=es.length:=om;simp_all
theorem zuq(t:pJ C)(F:qbv C)(hR:oL LA LO C){k:Nat}(hk:1000<=k){es:List Edge}(G:qf4 n es)(hn:n<=256)(W:es.length<900)(X:lV H gv es):Ok (C k (.f 192) [.agg [.int .i64 (.ofNat n),gv]] H) fun r u=>∃(w:AV) (a:List (List Nat)) (ins R:List Nat),r=.bA [w,.int .i64 (.ofNat 0)]/\qJ n (j6 es) [] a/\(∀(j:Nat) (o:List Nat) (x:Nat),a[j]? =some o->x∈o->ins[x]? =some j) /\ R.Pairwise (· < ·)/\(∀x,x∈R↔x∈jK ins es)/\Rl u w (aJ R)/\dU w=.val (.int .i64 (.ofNat R.length))/\R.length<=900/\Fm No H u:=by
 obtain⟨j,rfl⟩:=aP hk;rw[lk (zqj ..)];unfold zBp z03;simp(disch:=omega)only[go_sem,seval];have Y:Fm No H (aI H (aB 0 [.int .i64 (.ofNat n),gv])):=(Fm.refl _ _).push _;refine Ok.ve (z98 t F hR (k:=j) om G hn om (X.fm Y)) ?_;rintro r H1 ⟨lv,iv,os,s,out,ins,a,rfl,S,B,T⟩;have I:=S.ord G.rng;have J:H1.get H.nx=aB 0 [.int .i64 (.ofNat n),gv]:=(T.keep gx).trans (jG _ _);have K:∀ x y:AV,aZ [AV.aA,AV.aA] 0 [x,y]=[x,y]:=fun _ _=>rfl;have n1:H.nx+1<=H1.nx:=T.nx;simp(disch:=omega)only[go_sem,seval,K,pq,uo];generalize p:(aI H1 (aB 0 [AV.aA,AV.aA])).put H1.nx (aB 0 [lv,iv])=H2;have M:Fm No H1 H2:=by rw[<-p];exact((Fm.refl _ _).push _).aG _ _ (lu _)
 have g2:H2.get H1.nx=aB 0 [lv,iv]:=by rw[<-p,dN]
 have l2:H1.nx<H2.nx:=by rw[<-p];show H1.nx<H1.nx+1;omega
 have N:H2.get H.nx=aB 0 [.int .i64 (.ofNat n),gv]:=(M.keep om).trans J;have Z:Fm No H H2:=(Y.trans T).trans M;have z:lV H2 gv es:=X.fm Z;rw[kE qms];unfold qms;have e0:=z.len;simp(disch:=go_size)only[go_sem,rB,rI,rK,rL,rN,rS,r6,N,e0];unfold zfq;rw[dD];refine qhy om G.rng z (B.gi.no M) g2 l2 (fun v f D f3 g=>?_) bZ 0 .aA H2 lf (gp _) (by simpa [jK,aJ] using Gl.nil 1 H2) (fun b hb=>by obtain⟨_,_,_,_,h⟩:=hb;cases h) (Fm.refl _ _);have hml:=zko s es;have d:Ok (C j (.f 225) [v] f) fun r u=>r=.bA []/\∃ R:List Nat,R.Perm (jK s es)/\R.Pairwise (· <= ·)/\Gl 1 u v (jK s es).length (aJ R)/\Fm (In v) f u:=by
  rcases Nat.eq_zero_or_pos (jK s es).length with U|U
  ·have O:jK s es=[]:=tu.1 U;rw[O]at D ⊢;rcases D.is with⟨rfl,_⟩|⟨b,o,e,q,L,rfl,g1,g2,g3,g4,g5⟩
   ·exact⟨_,_,zm3 t F om f,rfl,[],List.Perm.refl _,List.Pairwise.nil,D,Fm.refl _ _⟩
   ·obtain⟨j,rfl⟩:∃ i,j=i+1:=⟨j-1,om⟩;have g2:o<=L.length:=g2;have A:storeAt f b o [] (.bA [])=.ok (.bA []) (f.put b (aB q (aZ L o []))):=qb3 _ _ _ _ _ _ _ g1 g2;have hL:aZ L o []=L:=by unfold aZ;simp
    rw[hL]at A;have hs:qxo f b o 0=some (.ok (.bA []) (f.put b (aB q L))):=by
     unfold qxo;have hr:fD (f.get b) o 0=some []:=by rw[g1,yU,qj (show o+0<=L.length from g2)];rfl
     rw[hr];have O:qjk []=[]:=by unfold qjk;simp
     simp only[qpx,O,List.map_nil,A];rfl
    refine⟨_,_,(t j).srt _ _ _ _ _ _ _ hs,rfl,[],List.Perm.refl _,List.Pairwise.nil,?_,(Fm.refl _ _).put _ _ fun _=>⟨_,_,_,_,rfl⟩⟩;exact⟨rfl,.inr ⟨b,o,e,q,L,rfl,dN _ _ _,g2,g3,g4,g5⟩⟩
  ·exact q9n t F (k:=j) om U om D
 refine Ok.ve d ?_;rintro r H4 ⟨rfl,R,hp,V,h4,f4⟩;refine Ok.ve (q4v t (k:=j) om V om h4) ?_;rintro r5 H5 ⟨E,l,m,h5,hin,f5⟩;obtain⟨w,w1,w2,w3,_⟩:=zuw (k:=j) om h5;simp only[go_sem,w1];have P:E.length<=900:=by have Q:E.Nodup:=l.imp fun h=>lEL h;have:E.length<=R.length:=Q.length_le_of_subset fun x hx=>(m x).1 hx;rw[hp.length_eq]at this;omega
 refine Ok.ret ⟨w,a,s,E,rfl,I,B.ins,l,fun x=>(m x).trans hp.mem_iff,w2,w3,P,((Z.trans f3).then f4 fun c hc h=>?_).then f5 fun c hc h=>?_⟩
 ·have:=g c h;omega
 ·have:=g c h;omega
theorem zsu{a:List (List Nat)}(h:qJ n aV [] a):a.length<=n:=by
 obtain⟨i,j,k,e,l⟩:=h.all;have b:∀(o:List (List Nat)),(∀c∈o,c≠[])->o.length<=o.flatten.length:=fun o=>by
  induction o with
  |nil=>intro _;exact lu _
  |cons c o ih=>intro h;have f:=ih fun c d=>h c (uk _ d);have g:0<c.length:=aj.2 (h c ug);rw[dE,lL,pq];omega
 have:=b a e;omega
theorem aIc(a b:Nat):max (Int.ofNat a) (Int.ofNat b)=Int.ofNat (max a b):=by simp only[ut];omega
theorem qsm{O:Ev.Call}{H:Hp}{v:AV}{l:List Nat}(c:Rl H v (aJ l))(e:l.length<900000){q:pD}{Q:pL}(g:Ok (q (.int .i64 (.ofNat (jU l))) H) Q):∀(f i:Nat),l.length-i<f->i<=l.length->Ok (q56 O q v (.int .i64 (.ofNat l.length)) f (.int .i64 (.ofNat (jU (l.take i)))) (.int .i64 (.ofNat i)) H) Q
 |0,i,h,_=>om
 |f+1,i,h,hi=>by
  show Ok (zf8 O _ _ _ (q56 O _ _ _ f) _ _ H) Q;unfold zf8;by_cases a:i<l.length
  ·obtain⟨b,o,m,_,d⟩:=c.at' i (by rw[mP];exact a);rw[qiq]at d;have j:=aIc (jU (l.take i)) l[i];have k:jU (l.take (i+1))=max (jU (l.take i)) l[i]:=by
    unfold jU;rw[lh a,List.foldl_append];rfl
   simp only[go_sem,a];unfold zwu;simp only[go_sem,m,d,qp1,j];unfold qln;refine aT ?_;rw[<-k];exact qsm c e g f (i+1) om om
  ·simp only[go_sem,a];have:i=l.length:=om;simp_all
theorem q8t{k:Nat}(e:1<=k){v:AV}{l:List Nat}(b:Rl H v (aJ l))(f:l.length<900000):C k (.f 169) [v] H=.ok (.int .i64 (.ofNat (jU l))) H:=by
 obtain⟨j,rfl⟩:=aP e;have a:Ok (C (j+1) (.f 169) [v] H) fun r c=>r=.int .i64 (.ofNat (jU l))/\c=H:=by rw[lk (zqw ..)];unfold zBc z1e;have d:=b.len;rw[mP]at d;simp only[go_sem,d];unfold zwv;rw[dD];refine qsm b f ?_ bZ 0 lf (gp _);exact Ok.ret ⟨rfl,rfl⟩
 obtain⟨r,c,h,rfl,rfl⟩:=a;exact h
theorem step_ok{k:Nat}(b:1<=k)(e:Edge)(H:Hp):Ok (C k (.f 193) [.agg e.cells] H) fun r c=>r=.int .i64 (.ofNat (stN e))/\Fm No H c:=by
 obtain⟨j,rfl⟩:=aP b;rw[lk (zqi ..)];unfold zBq z02 Edge.cells stN;cases a:e.s with
 |true=>refine eP a ?_;exact Ok.ret ⟨rfl,fm⟩
 |false=>refine eP a ?_;exact Ok.ret ⟨rfl,fm⟩
theorem qpo{j:Nat}{H1:Hp}{n c ob i:Nat}{gv lv iv:AV}{es:List Edge}{ins o:List Nat}{m:Nat}(I:1<=j)(J:lV H1 gv es)(s:es.length<200000)(K:∀ e∈es,e.f<n/\e.t<n)(E:H1.get c=aB 0 [lv,iv])(d:c<H1.nx)(a:Gl 1 H1 iv n (aJ ins))(L:H1.get ob=aB 0 (aJ o))(g:ob<H1.nx)(F:Smo n m o)(Z:m<=1000){q:pD}{Q:pL}(M:∀ w H l,Gl 1 H w l.length (aJ l)->l.length<=es.length->(∀x∈l,x<=m+1)->Fm No H1 H->(∀b,In w b->H1.nx<=b)->Ok (q w H) Q):∀(f k:Nat) (w:AV) (H:Hp) (l:List Nat),es.length-k<f->k<=es.length->Gl 1 H w l.length (aJ l)->l.length<=k->(∀x∈l,x<=m+1)->(∀b,In w b->H1.nx<=b)->Fm No H1 H -> Ok (qki (C j) q (.ptr c 0) (.sl ob 0 n n true) (.int .i64 (.ofNat i)) gv (.int .i64 (.ofNat es.length)) f w (.int .i64 (.ofNat k)) H) Q
 |0,k,w,H,l,h,_,_,_,_,_,_=>om
 |f+1,k,w,H,l,h,hk,hw,hle,hlm,hnew,hF=>by
  show Ok (q19 (C j) _ _ _ _ _ _ (qki (C j) _ _ _ _ _ _ f) _ _ H) Q;unfold q19;by_cases t:k<es.length
  ·obtain⟨b,p,U,e2,V⟩:=(J.fm hF).at t;obtain⟨r1,r2⟩:=K es[k] (lg _);have hil:ins.length=n:=by have:=a.len;rw[mP]at this;omega
   obtain⟨b1,o1,W,c2,_,X⟩:=(a.no hF).at (qyr ins es[k].f om);obtain⟨b2,o2,c4,c5,_,c6⟩:=(a.no hF).at (qyr ins es[k].t om);have N:H.get c=aB 0 [lv,iv]:=(hF.keep d).trans E;have hcH:c<H.nx:=ku d hF.nx;have k2:H.get ob=aB 0 (aJ o):=(hF.keep g).trans L;have O:ob<H.nx:=ku g hF.nx;have wfl:=wV hw.flat 63;refine eP t ?_;rw[kE qmw];unfold qmw;have v:Fm No H ((aI H (aB 0 [.int .i64 (.ofNat 0),.int .i64 (.ofNat 0),.bool false])).put H.nx (aB 0 es[k].cells)):=fm;have hol:=F.len;have B:Ok (qod (C j) (qki (C j) q (.ptr c 0) (.sl ob 0 n n true) (.int .i64 (.ofNat i)) gv (.int .i64 (.ofNat es.length)) f) w (.int .i64 (.ofNat k)) ((aI H (aB 0 [.int .i64 (.ofNat 0),.int .i64 (.ofNat 0),.bool false])).put H.nx (aB 0 es[k].cells))) Q:=by unfold qod;refine aT ?_;exact qpo I J s K E d a L g F Z M f (k+1) w _ l om om (hw.no v) om hlm hnew (hF.trans v)
   by_cases Y:ins.getD es[k].f 0=i
   ·by_cases h2:ins.getD es[k].t 0=i
    ·simp(disch:=go_size)only[go_sem,seval,U,V,Edge.cells,N,W,X,c4,c6,Y,h2];have:=B;unfold Edge.cells at this;exact this
    ·have v4:=qyr o es[k].t om;have ho4:=F.bd es[k].t r2;simp(disch:=go_size)only[go_sem,seval,U,V,Edge.cells,N,k2,W,X,c4,c6,Y,h2,v4];generalize u:(Hp.mk ((aI H (aB 0 [.int .i64 (.ofNat 0),.int .i64 (.ofNat 0),.bool false])).put H.nx (aB 0 [.int .i64 (.ofNat es[k].f),.int .i64 (.ofNat es[k].t),.bool es[k].s])).t (H.nx+1+12))=Hx at *;have v:Fm No H Hx:=by rw[<-u];exact Fm.up2 v om
     have nx:Hx.nx=H.nx+1+12:=by rw[<-u]
     have kx:Hx.get H.nx=aB 0 [.int .i64 (.ofNat es[k].f),.int .i64 (.ofNat es[k].t),.bool es[k].s]:=by rw[<-u];exact dN _ _ _
     refine Ok.iD (step_ok (k:=j) I es[k] Hx) ?_;rintro r y ⟨rfl,G⟩;have P:y.get H.nx=aB 0 [.int .i64 (.ofNat es[k].f),.int .i64 (.ofNat es[k].t),.bool es[k].s]:=(G.keep om).trans kx;have R:y.get ob=aB 0 (aJ o):=((v.trans G).keep O).trans k2;have hst:stN es[k]<=1:=by unfold stN;split<;>omega
     refine iG P R v4 ?_;generalize hz:o.getD es[k].t 0+stN es[k]=z at *;have fP:Fm No H (y.put (H.nx+1+9) (aB 0 [AV.int .i64 (.ofNat z)])):=(v.trans G).aG _ _ om;have S:Gl 1 (y.put (H.nx+1+9) (aB 0 [AV.int .i64 (.ofNat z)])) w _ _:=hw.no fP;obtain⟨H3,a1,a2,_,a4,a5⟩:=S.append (w:=8) (k:=1) (x:=[AV.int .i64 (.ofNat z)]) om rfl om om;refine Ok.uU a1 ?_;refine aT ?_;unfold qod;refine aT ?_;have T:aJ l++[AV.int .i64 (.ofNat z)]=aJ (l++[z]):=by simp[aJ]
     have D:(l++[z]).length=l.length+1:=g3;rw[T,<-D]at a2;rw[<-D];have hn1:=hF.nx;have hn2:=G.nx;have hpn:(y.put (H.nx+1+9) (aB 0 [AV.int .i64 (.ofNat z)])).nx=y.nx:=rfl;refine qpo I J s K E d a L g F Z M f (k+1) _ H3 _ om om a2 om (fun x A=>?_) (fun b hb=>?_) ((hF.trans fP).then a4 fun c E h=>by have:=hnew c h;omega)
     ·rw[qi,qf]at A;rcases A with A|A
      ·exact hlm x A
      ·omega
     obtain⟨_,_,_,_,h⟩:=hb;cases h;omega
   ·simp(disch:=go_size)only[go_sem,seval,U,V,Edge.cells,N,W,X,Y];have:=B;unfold Edge.cells at this;exact this
  ·refine eP t ?_;exact M w H l hw om hlm hF hnew
theorem qyo{j:Nat}(A:1<=j){H1:Hp}{n ob:Nat}{w m:AV}{l c o:List Nat}(B:Gl 1 H1 w l.length (aJ l))(D:l.length<900000)(d:∀ b,In w b->b≠ob)(E:Gl 1 H1 m c.length (aJ c))(r:c.length<900000)(e:∀ b,In m b->b≠ob)(g:∀ x∈c,x<n)(i:o.length=n){q:pH}{Q:pL}(F:∀ H,H.get ob=aB 0 (aJ (qit o (jU l) c))->Fm (fun b=>b=ob) H1 H->Ok (q H) Q):∀(f k:Nat) (H:Hp),c.length-k<f->k<=c.length->H.get ob=aB 0 (aJ (qit o (jU l) (c.take k)))->Fm (fun b=>b=ob) H1 H -> Ok (qt0 (C j) q (.sl ob 0 n n true) w m (.int .i64 (.ofNat c.length)) f (.int .i64 (.ofNat k)) H) Q
 |0,k,H,h,_,_,_=>om
 |f+1,k,H,h,hk,hg,hF=>by
  show Ok (q2a (C j) _ _ _ _ _ (qt0 (C j) _ _ _ _ _ f) _ H) Q;unfold q2a;by_cases a:k<c.length
  ·have s:Gl 1 H m c.length (aJ c):=E.fm hF e;have t:Rl H w (aJ l):=(B.fm hF d).rl;obtain⟨b,p,I,_,_,J⟩:=s.at (show(aJ c)[k]? =some (.int .i64 (.ofNat c[k]))from qnp c k a);have K:=g c[k] (lg _);have u:=q8t (k:=j) A t D;have G:(qit o (jU l) (c.take k)).length=n:=by rw[qp4,i]
   have v:=qjy (qit o (jU l) (c.take k)) c[k] (jU l) om;have y:c[k]+1<=(aJ (qit o (jU l) (c.take k))).length:=by rw[mP];omega
   have z:(qit o (jU l) (c.take k)).set c[k] (jU l)=qit o (jU l) (c.take (k+1)):=by rw[lh a,qsp]
   simp only[go_sem,a];unfold zgf;simp(disch:=omega)only[go_sem,seval,I,J,u,hg,v,y,qm,qg,pq,uo];unfold zgg;refine aT ?_;rw[z];exact qyo A B D d E r e g i F f (k+1) _ om om (dN _ _ _) (hF.put _ _ fun _=>rfl)
  ·simp only[go_sem,a];have:k=c.length:=om;simp_all
theorem qyp{j:Nat}(D:1<=j){HB H0 H1:Hp}{n u c:Nat}{gv lv iv:AV}{p:List AV}{es:List Edge}{ins:List Nat}{a:List (List Nat)}(V:n<=256)(M:lV H0 gv es)(r:es.length<200000)(N:∀ e∈es,e.f<n/\e.t<n)(O:H0.get u=aB 0 [.int .i64 (.ofNat n),gv])(v:u<H0.nx)(P:H0.get c=aB 0 [lv,iv])(s:c<H0.nx)(k:CR HB H0 n lv iv p a ins)(d:∀ o∈a,∀x∈o,x<n)(E:a.length<=n)(y:∀ o∈a,o.length<=n)(z:Fm No H0 H1)(F:H0.nx<H1.nx){q:pH}{Q:pL}(R:∀ o H,Smo n a.length o->H.get H0.nx=aB 0 (aJ o)->Fm (fun b=>b=H0.nx) H1 H->Ok (q H) Q):∀(f i:Nat) (o:List Nat) (H:Hp),a.length-i<f->i<=a.length->Smo n i o->H.get H0.nx=aB 0 (aJ o)->Fm (fun b=>b=H0.nx) H1 H -> Ok (qkj (C j) q (.ptr u 0) (.ptr c 0) (.sl H0.nx 0 n n true) lv (.int .i64 (.ofNat a.length)) f (.int .i64 (.ofNat i)) H) Q
 |0,i,o,H,h,_,_,_,_=>om
 |f+1,i,o,H,h,hi,hO,hgo,hF=>by
  show Ok (qoe (C j) _ _ _ _ _ _ (qkj (C j) _ _ _ _ _ _ f) _ H) Q;unfold qoe;by_cases hil:i<a.length
  ·have t:∀ b,b<H0.nx->H.get b=H0.get b:=fun b g=>(hF.get b om om).trans (z.keep g);have m:H0.nx<=H.nx:=by have:=hF.nx;omega
   have aF2:=k.len;have T:lV H gv es:=M.keep m fun b g d=>t b d;have gI:Gl 1 H iv n (aJ ins):=k.gi.keep m fun b g d=>t b d;have gL:Gl 1 H lv p.length p:=k.gl.keep m fun b g d=>t b d;obtain⟨U,_,_⟩:=k.at' i (p[i]'om) (a[i]'hil) g3 g3;have gC:Gl 1 H (p[i]'om) (a[i]'hil).length (aJ (a[i]'hil)):=U.keep m fun b g d=>t b d;have J:∀ b,In (p[i]'om) b->b<H0.nx:=fun b g=>U.lt g;obtain⟨b1,o1,e1,_,_,e2⟩:=gL.at (i:=i) (x:=p[i]'om) g3;have K:=d _ (lg hil);have cDF:=y _ (lg hil);have k1:H.get u=aB 0 [.int .i64 (.ofNat n),gv]:=(t u v).trans O;have k2:H.get c=aB 0 [lv,iv]:=(t c s).trans P;have e0:=T.len;generalize p[i]'om=cw at *;generalize a[i]'hil=co at *;refine eP hil ?_;unfold zge;refine jD e1 e2 k1 e0 ?_;unfold zgi;rw[dD];refine qpo D T r N k2 (ku s m) gI hgo (by have:=hF.nx;omega) hO om (fun w S l W X G I A=>?_) bZ 0 .aA H [] lf (gp _) (by simpa [aJ] using Gl.nil 1 H) (gp _) (fun x h=>by cases h) (fun b g=>by obtain⟨_,_,_,_,h⟩:=g;cases h) (Fm.refl _ _);unfold qt1;have B:=gC.no I;have e3:=B.bM;refine eP e3 ?_;unfold zgj;rw[dD];have L:H0.nx<H.nx:=by have:=hF.nx;omega
   refine qyo D (H1:=S) (o:=o) W om (fun b g=>by have:=A b g;omega) B om (fun b g=>by have:=J b g;omega) K hO.len (fun Y g3 Z=>?_) bZ 0 S lf (gp _) ((I.keep L).trans hgo) (Fm.refl _ _);unfold qko;refine aT ?_;exact qyp D V M r N O v P s k d E y z F R f (i+1) _ Y om om (hO.fill (z3g G)) g3 ((hF.then I fun _ _ h=>h.elim).then Z fun _ _ h=>h)
  ·refine eP hil ?_;have:i=a.length:=om;subst this;exact R o H hO hgo hF
theorem aNR{a:List (List Nat)}(c:qJ n aV [] a)(d:∀(j:Nat) (o:List Nat) (x:Nat),a[j]? =some o->x∈o->ins[x]? =some j):NmC n a ins:=⟨fun j o y e f=>by
  rw[gy,d j o y e f];rfl,fun y g=>by
  obtain⟨l,m,h,p,q⟩:=c.all;obtain⟨o,i,b⟩:=oq.1 (h y g);obtain⟨j,k⟩:=lAO.1 i;exact⟨j,o,k,b⟩⟩
theorem zbr(W:pJ C)(X:qbv C)(Y:oL LA LO C){k:Nat}(hk:1002<=k){es:List Edge}(m:qf4 n es)(B:n<=256)(p:es.length<900)(D:lV H gv es):Ok (C k (.f 142) [.agg [.int .i64 (.ofNat n),gv]] H) fun r Z=>Fm No H Z /\ ((∃w o,r=.bA [w,.int .i64 (.ofNat 0)]/\Gl 1 Z w n (aJ o)/\dU w=.val (.int .i64 (.ofNat n))/\Smo n n o) \/ (r=.bA [.aA,.int .i64 (.ofNat 12)]/\∃ e∈es,e.s=true/\Rc (j6 es) e.t e.f)):=by
 obtain⟨j,rfl⟩:=aP hk;rw[lk (zq4 ..)];unfold zAu z1l;simp(disch:=go_size)only[go_sem,seval];have F:Fm No H (aI H (aB 0 [.int .i64 (.ofNat n),gv])):=fm;refine Ok.ve (z98 W X Y (k:=j) om m B om (D.fm F)) ?_;rintro r H1 ⟨lv,iv,os,gU,out,ins,s,rfl,P,Q,A⟩;have hF:=P.ord m.rng;have n1:H.nx+1<=H1.nx:=A.nx;have g1:H1.get H.nx=aB 0 [.int .i64 (.ofNat n),gv]:=(A.keep gz).trans (jG _ _);have G:∀ x y a b:AV,aZ [a,b] 0 [x,y]=[x,y]:=fun _ _ _ _=>rfl;have z:Fm No H1 ((aI H1 (aB 0 [.aA,.aA])).put H1.nx (aB 0 [lv,iv])):=by(repeat(first|exact Fm.refl _ _|assumption|refine Fm.push ?_ _|refine Fm.up2 ?_ (by go_size)|refine Fm.aG ?_ _ _ (by go_size)))
 simp(disch:=go_size)only[go_sem,seval,G,pq,uo];generalize v:(aI H1 (aB 0 [AV.aA,AV.aA])).put H1.nx (aB 0 [lv,iv])=H2 at *;have c2:H2.get H1.nx=aB 0 [lv,iv]:=by rw[<-v,dN]
 have n2:H2.nx=H1.nx+1:=by rw[<-v];rfl
 have g2:H2.get H.nx=aB 0 [.int .i64 (.ofNat n),gv]:=(z.keep om).trans g1;rw[kE qmu];unfold qmu;refine eP g2 ?_;refine Ok.ve (zuq W X Y (k:=j) om m B p (((D.fm F).fm A).fm z)) ?_;rintro r d ⟨wx,bZz,cFb,R,rfl,t,S,bRx,T,U,cEy,hRl,u⟩;have n3:=u.nx;have q:=((F.trans A).trans z).trans u;have I:=U.len;rw[mP]at I;have J:=aNR t S;by_cases V:R=[]
 ·subst V;have K:aD wx=.val (.int .i64 (.ofNat 0)):=I;refine eF K xx ?_;rw[kE qmv];unfold qmv;have g3:d.get H.nx=aB 0 [.int .i64 (.ofNat n),gv]:=(u.keep om).trans g2;have L:d.get H1.nx=aB 0 [lv,iv]:=(u.keep om).trans c2;have hL:=zsu hF;have i:=Q.no (z.trans u);obtain⟨z1,z2,z3,z4,z5⟩:=hF.all;have l:=i.gl.bM;rw[i.len]at l;by_cases h0:0<n
  ·have mk:=qc9 [.int .i64 (.ofNat 0)] 8 d.nx n om om;rw[qdj,qno]at mk;refine iG g3 h0 mk ?_;rw[kE qfi];unfold qfi;have c4:(aI d (aB 0 (aJ (List.replicate n 0)))).get H1.nx=aB 0 [lv,iv]:=by rw[qbs _ _ _ om];exact L
   refine eF c4 l ?_;unfold q2b;rw[dD];refine qyp (j:=j) om (HB:=aI H (aB 0 [.int .i64 (.ofNat n),gv])) (H0:=d) (H1:=aI d (aB 0 (aJ (List.replicate n 0)))) B (D.fm q) om m.rng g3 om L om i (fun o E x f=>z2 x (oq.2 ⟨o,E,f⟩)) hL (fun o E=>?_) ((Fm.refl _ _).push _) (ig _) (fun o H4 g g4 f4=>?_) bZ 0 (List.replicate n 0) _ lf (gp _) (Smo.start n 0) (jG _ _) (Fm.refl _ _)
   ·have:o.length<=s.flatten.length:=(List.sublist_flatten_of_mem E).length_le;omega
   ·unfold qct;have n4:=f4.nx;have n4':d.nx+1<=H4.nx:=n4;refine Ok.ret ⟨(q.push _).then f4 fun c hc h=>by have:=q.nx;omega,Or.inl ⟨_,o,rfl,⟨by rw[mP,g.len,qm],.inr ⟨d.nx,0,true,0,_,rfl,g4,gp _,lA4,Or.inl rfl,om⟩⟩,rfl,g.len,fun x f=>by have:=g.bd x f;omega⟩⟩
  ·have M:n=0:=om;subst M;refine eF g3 xx ?_;rw[kE qfi];unfold qfi;have N:s=[]:=tu.1 om;subst N;have O:aD lv=.val (.int .i64 (.ofNat 0)):=l;refine iG L O xx ?_;unfold q2b;rw[dD];show Ok (qoe (C j) _ _ _ _ _ _ (qkj (C j) _ _ _ _ _ _ 999999) _ d) _;unfold qoe;refine eP xx ?_;unfold qct;exact Ok.ret ⟨q,Or.inl ⟨_,[],rfl,Gl.nil _ _,rfl,rfl,fun x f=>absurd f (lAD _)⟩⟩
 ·have hp:0<R.length:=aj.2 V;refine eF I hp ?_;obtain⟨x,f⟩:=List.exists_mem_of_ne_nil R V;obtain⟨e,he,hs,h1,_⟩:=zs5.1 ((T x).1 f);obtain⟨l1,l2⟩:=m.rng e he;exact Ok.ret ⟨q,Or.inr ⟨rfl,e,he,hs,((J.eq t l1 l2).1 h1).2⟩⟩
def lvN(s:SS):Nat:=lvl ((s.a-12402) / 256)
theorem qps(n:Nat):lvN (fO n)=lvl n:=by unfold lvN fO lvl;simp
def aAI(n:Nat)(s:SS)(neg:Bool):Prop:=lvN s<lvl n\/(neg=false/\lvN s=lvl n)
theorem zlh{n k:Nat}{neg:Bool}(h:ql0 n k neg=true):aAI n (fO k) neg:=by unfold ql0 at h;unfold aAI;rw[qps];simpa using h
def NdL(n:Nat)(y:Nd):Prop:=(y.k=1->y.neg=false)/\(y.k=2->aAI n y.rl y.neg)/\(y.k=3->aAI n y.to y.neg)
theorem qvo{n:Nat}{neg:Bool}(a:neg=true->0<lvl n):∀ y∈(qjz neg).nodes neg,NdL n y:=by
 unfold qjz;cases neg
 ·intro y b;simp[Ru.nodes]at b;subst b;exact⟨fun _=>rfl,fun h=>by simp at h,fun h=>by simp at h⟩
 ·intro y b;simp[Ru.nodes]at b;subst b;refine⟨fun h=>by simp at h,fun _=>.inl ?_,fun h=>by simp at h⟩;rw[qps];exact a rfl
theorem q3l{L:List (List Nat)}{n:Nat}(f:n<bS L):∀(d i:Nat) (neg:Bool),(neg=true->0<lvl n)->∀ y∈(fM L n d i neg).1.nodes neg,NdL n y
 |0,i,neg,h=>by unfold fM;exact qvo h
 |d+1,i,neg,hneg=>by
  have l:At (bS L) n neg:=⟨f,uy _ _,hneg⟩;unfold fM;split
  ·exact qvo hneg
  split
  ·exact qvo hneg
  split
  ·have c:=qv7 l;have g:=qen (d:=sE) (xq (fJ L n i / 8) c);intro y a;simp[aBE,Ru.nodes]at a;subst a;refine⟨fun h=>by simp at h,fun _=>?_,fun h=>by simp at h⟩;have:∀ s∈cmpL (bS L) n neg,aAI n s neg:=fun s b=>by
    obtain⟨k,e,rfl⟩:=uC.1 b;exact zlh (xF.1 e).2
   simp_all
  split
  ·unfold xI;split
   ·exact qvo hneg
   ·rename_i h;have g:=qen (d:=(⟨sE,sE⟩:ArS)) (xq (fJ L n i / 8) (show 0<(l9 L n neg).length by omega));intro y a;simp only[Ru.nodes,qf]at a;subst a;refine⟨fun h=>by simp at h,fun h=>by simp at h,fun _=>?_⟩;have:∀ s∈l9 L n neg,aAI n s.to neg:=fun s b=>by
     obtain⟨i,_,b⟩:=xm.1 b;obtain⟨t,_,b⟩:=xm.1 b;obtain⟨j,m,rfl⟩:=uC.1 b;have c:=(xF.1 m).2;unfold arP at c;rw[qh]at c;exact zlh c.2
    exact this _ g
  ·intro y a;rw[Ru.nodes,su,qi]at a;have e:xX n (fJ L n i)≠1/\xX n (fJ L n i)≠2/\xX n (fJ L n i)≠3:=by unfold xX;split<;>(try split)<;>omega
   rcases a with rfl|a|a
   ·exact⟨fun h=>absurd h e.1,fun h=>absurd h e.2.1,fun h=>absurd h e.2.2⟩
   ·exact q3l f d _ _ hneg _ a
   ·refine q3l f d _ _ (fun h=>?_) _ a;rw[ah,yl]at h;rcases h with h|h
    ·exact hneg h
    ·unfold xX at h;split at h
     ·omega
     split at h
     ·omega
     ·omega
theorem zrq{L:List (List Nat)}{n:Nat}(b:n<bS L){t:jL}(h:t∈lK L n)(e:t.rl≠sE):lvN t.rl<=lvl n:=by
 unfold lK at h;rw[qi]at h;rcases h with h|h
 ·unfold wK at h;rw[su]at h;rcases h with rfl|h
  ·trivial
  ·rw[uC]at h;obtain⟨i,_,rfl⟩:=h;trivial
 ·split at h
  ·rw[qf]at h;have a:=qen (d:=(⟨sE,sE⟩:jL)) (xq (fJ L n 1 / 2) (qun b));rw[<-h]at a;unfold sS at a;rw[uC]at a;obtain⟨k,c,rfl⟩:=a;rw[xF]at c;rw[qps];simp_all
  ·cases h
variable {L:List (List Nat)} {X:List aQ}
theorem qK.len(h:qK L X):(aF X).length=bS L:=by rw[h.all];simp
theorem qK.aHx(h:qK L X){a b:SS}(d:cB X a b<(aF X).length):lvl (cB X a b)=lvN b:=by
 have g:(aF X)[cB X a b]=(a,b):=by have:=lEF (w:=d);exact of_decide_eq_true this
 have f:(aF X)[cB X a b]=prN (cB X a b):=by
  have:∀(l:List (SS×SS)) (c:cB X a b<l.length),l=(List.range (bS L)).map prN->l[cB X a b]=prN (cB X a b):=fun l c e=>by subst e;simp
  exact this _ d h.all
 rw[g]at f;have i:=congrArg Prod.snd f;have j:b=fO (cB X a b):=i
 calc lvl (cB X a b)=lvN (fO (cB X a b)):=(qps _).symm
  _=lvN b:=by rw[<-j]
theorem qK.lev(h:qK L X){e:Edge}(b:e∈goE X X)(u:e.f<(aF X).length)(v:e.t<(aF X).length):lvl e.t<=lvl e.f/\(e.s=true->lvl e.t<lvl e.f):=by
 obtain⟨g,B,b⟩:=xm.1 b;obtain⟨x,C,b⟩:=xm.1 b;obtain⟨y,q,b⟩:=xm.1 b;obtain⟨p,a,rfl⟩:=uC.1 b;obtain⟨i,n,_,_,_,_,r,l⟩:=h.x B C;have k:x.r.name=fO n:=by rw[l,qeb];rfl
 have w:lvl (cB X g.name x.r.name)=lvl n:=by rw[h.aHx u,k,qps]
 have z:lvl (cB X p.1 p.2)=lvN p.2:=h.aHx v;show lvl (cB X p.1 p.2)<=lvl (cB X g.name x.r.name)/\(y.neg=true->lvl (cB X p.1 p.2)<lvl (cB X g.name x.r.name));rw[w,z];have A:x.r.rule=(fM L n 6 2 false).1:=by rw[l,qb8];rfl
 rw[A]at q;obtain⟨q1,q2,q3⟩:=q3l r 6 2 false (fun h=>by cases h) y q;have c:∀ s,aAI n s y.neg->lvN s<=lvl n/\(y.neg=true->lvN s<lvl n):=fun s j=>by
  rcases j with j|⟨e,j⟩
  ·omega
  ·simp_all
 unfold ndT at a;split at a
 ·rename_i d;obtain⟨t,m,rfl⟩:=uC.1 a;obtain⟨f,o⟩:=xF.1 m;have:t∈lK L n:=by
   rw[l]at f;exact qg0 _ _ t f
  exact⟨zrq r this (by simpa using o),fun h=>by rw[q1 d]at h;cases h⟩
 split at a
 ·rename_i d;rw[qf]at a;subst a;exact c _ (q2 d)
 split at a
 ·rename_i d;obtain⟨s,_,rfl⟩:=uC.1 a;exact c _ (q3 d)
 ·cases a
theorem z3c{n:Nat}{es:List Edge}{lv:Nat->Nat}(h:∀ e∈es,lv e.t<=lv e.f/\(e.s=true->lv e.t<lv e.f)):¬ ∃e∈es,e.s=true/\Rc (j6 es) e.t e.f:=by
 rintro ⟨e,f,g,i⟩;have c:∀ a b,Rc (j6 es) a b->lv b<=lv a:=fun a b d=>by
  induction d with
  |refl=>exact lu _
  |step _ hc ih=>obtain⟨j,k,l,m⟩:=qg3.1 hc;have:=(h j k).1;rw[l,m]at this;omega
 have:=c _ _ i;have:=(h e f).2 g;omega
def esG(X:List aQ):List Edge:=jO (sortE (goE X X))
theorem z3d{α:Type}[DecidableEq α]:∀{l U:List α},l.Nodup->(∀x∈l,x∈U)->l.length<=U.length
 | [],_,_,_=>gp _
 |x::l,U,h,hs=>by rw[lAC]at h;have b:x∈U:=hs x ug;have:=z3d (l:=l) (U:=U.erase x) h.2 fun y a=>(List.mem_erase_of_ne fun e=>h.1 (by rw[<-e];exact a)).2 (hs y (uk _ a));rw[List.length_erase_of_mem b]at this;have:=List.length_pos_of_mem b;rw[pq];omega
theorem dB.aY8(d:dB X){e:Edge}(a:e∈goE X X):e.f<(aF X).length/\e.t<(aF X).length:=by obtain⟨g,b,a⟩:=xm.1 a;obtain⟨x,c,a⟩:=xm.1 a;obtain⟨y,f,a⟩:=xm.1 a;obtain⟨p,h,rfl⟩:=uC.1 a;exact⟨qpn (qd0.2 ⟨g,b,x,c,rfl,rfl⟩),qpn (d.ndt ⟨b,c⟩ f p h)⟩
theorem z4t{n:Nat}{l:List Edge}(h:Asc l)(d:∀ e∈l,e.f<n/\e.t<n)(m:n<13):l.length<900:=by
 have i:(l.map fun e=>e.f*32+e.t*2+bn e.s).Pairwise (· < ·):=by
  rw[List.pairwise_map];refine h.imp_of_mem fun{a b} g c h=>?_;have:=d a g;have:=d b c;have c:∀ s,bn s<=1:=fun s=>by cases s<;>decide
  have:=c a.s;have:=c b.s;unfold wZ at h;omega
 have j:∀ x∈l.map fun e=>e.f*32+e.t*2+bn e.s,x<512:=fun x f=>by
  obtain⟨e,k,rfl⟩:=uC.1 f;have:=d e k;have:bn e.s<=1:=by cases e.s<;>decide
  omega
 have:=z3d (i.imp lEL) fun x f=>xg.2 (j x f);rw[pz,lAR]at this;omega
theorem qK.es(h:qK L X):qf4 (aF X).length (esG X)/\(esG X).length<900:=by have a:Asc (esG X):=z4e (zr2 _);have b:∀ e∈esG X,e.f<(aF X).length/\e.t<(aF X).length:=fun e c=>h.val.aY8 (qxp.1 (qv3.1 c));exact⟨a.ok b,z4t a b (by rw[h.len];exact qkz L)⟩
theorem qK.nb(h:qK L X):¬ ∃e∈esG X,e.s=true/\Rc (j6 (esG X)) e.t e.f:=z3c (n:=0) (lv:=lvl) fun e a=>by have b:=h.es.1.rng e a;exact h.lev (qxp.1 (qv3.1 a)) b.1 b.2
abbrev aHU(X:List aQ)(o:List Nat):Prop:=Smo (aF X).length (aF X).length o
structure SOK(X:List aQ):Prop where
 val:dB X
 es:qf4 (aF X).length (esG X)/\(esG X).length<900
 len:(aF X).length<13
 nb:¬ ∃e∈esG X,e.s=true/\Rc (j6 (esG X)) e.t e.f
theorem qK.sok(h:qK L X):SOK X:=⟨h.val,h.es,by rw[h.len];exact qkz L,h.nb⟩
theorem zm5(c:pJ C)(d:qbv C)(e:oL LA LO C){k:Nat}(f:1002<=k)(h:SOK X){gv:AV}{H:Hp}(g:lV H gv (esG X)):Ok (C k (.f 142) [.agg [iN ((aF X).length),gv]] H) fun r a=>Fm No H a /\ ∃w o,r=.bA [w,iN 0]/\Gl 1 a w (aF X).length (aJ o)/\dU w=.val (iN ((aF X).length))/\aHU X o:=by
 have j:=h.len;refine(zbr c d e f h.es.1 om h.es.2 g).mono fun r a b=>⟨b.1,?_⟩;rcases b.2 with h|⟨_,i⟩
 ·exact h
 ·exact absurd i h.nb
theorem z95(b:iQ C)(c:qer C)(d:pJ C)(e:qbv C)(g:oL LA LO C){k:Nat}(i:1003<=k){H:Hp}{sv:AV}(l:bY H sv X)(h:SOK X):Ok (C k (.f 83) [.agg [sv]] H) fun r m=>r=iN 0/\Fm No H m:=by
 obtain⟨j,rfl⟩:=aP i;rw[lk (zri ..)];unfold zAe z1z;refine aT ?_;have f:Fm No H (aI H (aB 0 [sv])):=by exact jF
 refine Ok.ve (zyd b c (k:=j) om (l.fm f) h.val) ?_;rintro _ H1 ⟨gv,rfl,n,_,p,_⟩;refine aT ?_;have a:Fm No H1 ((aI H1 (aB 0 [iN 0,.aA])).put H1.nx (aB 0 [iN ((aF X).length),gv])):=by exact kP
 refine Ok.ve (zm5 d e g (k:=j) om h (n.fm a)) ?_;rintro _ s ⟨q,w,o,rfl,_⟩;exact Ok.ret ⟨rfl,((f.trans p).trans a).trans q⟩
variable {b j:Nat}
theorem ztc(n a:Nat):lG (.str n a)=.val (iN n):=id rfl
attribute [go_sem] ztc
def okB(x:Nat):Bool:=(decide (97<=x)&&decide (x<=122))||(decide (48<=x)&&decide (x<=57))
def okI(s:SS)(i:Nat):Bool:=(List.range i).all fun j=>okB (qeq s.a j)
def iO(s:SS):Bool:=decide (0<s.n)&&(decide (s.n<=16)&&okI s s.n)
def nmE(s:SS):Nat:=if iO s then 0 else 6
theorem qy4(s:SS)(h:i<s.n):qdp (.str s.n s.a) (iN i)=.val (uN ((qeq s.a i))):=by unfold qdp;simp only[blt_eq,qc h,uB]
theorem qnn(s:SS)(i:Nat):okI s (i+1)=(okI s i&&okB (qeq s.a i)):=by unfold okI;rw[lAM,List.all_append];simp
theorem zxu{s:SS}(h:i<=j)(a:okI s j=true):okI s i=true:=by unfold okI at a ⊢;rw[vk]at a ⊢;exact fun x b=>a x (xg.2 (by have:=xg.1 b;omega))
theorem qpq{O:Ev.Call}{s:SS}{H:Hp}{Q:pL}{qr:pD}{q:pH}(m:s.n<=16)(j:okI s s.n=false->Ok (qr (iN 6) H) Q)(n:okI s s.n=true->Ok (q H) Q):∀(k i:Nat),i<=s.n->s.n-i<k->okI s i=true->Ok (qwk O qr q s.v (iN (s.n)) k (iN i) H) Q
 |0,i,_,h,_=>om
 |k+1,i,hi,hk,ho=>by
  show Ok (zdc O _ _ _ _ (qwk O _ _ _ _ k) _ H) Q;unfold zdc;by_cases c:i<s.n
  ·simp only[go_sem,c];unfold zdb SS.v;have d:=qy4 s c;have b:okB (qeq s.a i)=false->Ok (qr (iN 6) H) Q:=fun h=>j (by
    cases o:okI s s.n with
    |false=>rfl
    |true=>have:=zxu (show i+1<=s.n by omega) o;rw[qnn,h,Bool.and_false]at this;cases this)
   have a:okB (qeq s.a i)=true->Ok (kQ O (qwk O qr q s.v (iN (s.n)) k) (iN i) H) Q:=fun h=>by unfold kQ;refine aT ?_;exact qpq m j n k (i+1) om om (by rw[qnn,ho,h];rfl)
   generalize qeq s.a i=x at *;unfold okB at b a;by_cases f:x<97
   ·by_cases e:x<48
    ·simp only[go_sem,d,f,e];exact b g2
    ·by_cases g:57<x
     ·simp only[go_sem,d,f,e,g];exact b g2
     ·simp only[go_sem,d,f,e,g];exact a g2
   ·by_cases l:122<x
    ·have e:¬ x<48:=om;have g:57<x:=om;simp only[go_sem,d,f,l,e,g];simp_all
    ·simp only[go_sem,d,f,l];exact a g2
  ·simp only[go_sem,c];have p:i=s.n:=om;simp_all
theorem zkk{k:Nat}(c:1<=k)(s:SS)(H:Hp):Ok (C k (.f 179) [s.v] H) fun r d=>r=iN ((nmE s))/\Fm No H d:=by
 obtain⟨j,rfl⟩:=aP c;rw[lk (zom ..)];unfold zEy zzd SS.v;by_cases a:s.n<1
 ·simp only[go_sem,a];refine Ok.ret ⟨?_,Fm.refl _ _⟩;unfold nmE iO;simp_all
 ·by_cases b:16<s.n
  ·simp only[go_sem,a,b];refine Ok.ret ⟨?_,Fm.refl _ _⟩;unfold nmE iO;rw[ql (show ¬s.n<=16 by omega),Bool.false_and,Bool.and_false];rfl
  ·simp only[go_sem,a,b];unfold zda;simp only[go_sem];unfold zvk;rw[dD];have e:iO s=okI s s.n:=by unfold iO;rw[qc om,qc om,Bool.true_and,Bool.true_and]
   refine qpq om (fun h=>?_) (fun h=>?_) bZ 0 (gp _) lf rfl
   ·exact Ok.ret ⟨by unfold nmE;rw[e,h];rfl,Fm.refl _ _⟩
   ·unfold jW;exact Ok.ret ⟨by unfold nmE;rw[e,h];rfl,Fm.refl _ _⟩
def nmA(l:List SS):Bool:=l.all iO
def wD(b:Bool):Nat:=if b then 0 else 6
theorem zsz(s:SS):nmE s=wD (iO s):=rfl
theorem qys{j:Nat}(f:1<=j){v:AV}{l:List SS}{H0:Hp}(b:Rs 1 sC H0 v l)(g:l.length<1000){Q:pL}{qr:pD}{q:pH}(c:∀ H,Fm No H0 H->nmA l=false->Ok (qr (iN 6) H) Q)(m:∀ H,Fm No H0 H->nmA l=true->Ok (q H) Q):∀(k i:Nat) (H:Hp),i<=l.length->l.length-i<k->nmA (l.take i)=true->Fm No H0 H->Ok (q5a (C j) qr q v (iN (l.length)) k (iN i) H) Q
 |0,i,_,_,h,_,_=>om
 |k+1,i,H,hi,hk,ho,hf=>by
  show Ok (zde (C j) _ _ _ _ (q5a (C j) _ _ _ _ k) _ H) Q;unfold zde;by_cases a:i<l.length
  ·simp only[go_sem,a];unfold zdd;obtain⟨o,p,r,u,_,_,s⟩:=(b.fm hf).at' i a;have n:bX (H.get o) p=.val l[i].v:=s 0 (by rw[qlp];omega);simp only[go_sem,r,n];refine Ok.ve (zkk (k:=j) om l[i] H) ?_;rintro _ H1 ⟨rfl,d⟩;rw[zsz];cases e:iO l[i]with
   |false=>refine c H1 (hf.trans d) ?_;unfold nmA;rw[List.all_eq_false];exact⟨l[i],lg a,by rw[e];simp⟩
   |true=>unfold kQ;refine aT ?_;refine qys f b g c m k (i+1) H1 om om ?_ (hf.trans d);unfold nmA at ho ⊢;rw[lh a,List.all_append,ho];simp[e]
  ·simp only[go_sem,a];have t:i=l.length:=om;simp_all
theorem zkl{k:Nat}(c:2<=k){v:AV}{l:List SS}(b:Rs 1 sC H v l)(d:l.length<1000):Ok (C k (.f 131) [v] H) fun r e=>r=iN ((wD (nmA l)))/\Fm No H e:=by
 obtain⟨j,rfl⟩:=aP c;rw[lk (zoo ..)];unfold zEw zzf;have f:=b.len;simp only[go_sem,f];unfold zvl;rw[dD];refine qys (j:=j) om b d (fun H1 a h=>?_) (fun H1 a h=>?_) bZ 0 H (gp _) lf rfl (Fm.refl _ _)
 ·exact Ok.ret ⟨by rw[h];rfl,a⟩
 ·unfold jW;exact Ok.ret ⟨by rw[h];rfl,a⟩
theorem rs2{x y:SS}(h:H.get b=aB 0 [x.v,y.v])(a:b<H.nx):Rs 1 sC H (.sl b 0 2 2 true) [x,y]:=
 Gl.rs qlp ⟨rfl,.inr ⟨b,0,true,0,_,rfl,h,gp _,rfl,.inl rfl,a⟩⟩
theorem rs3{x y z:SS}(h:H.get b=aB 0 [x.v,y.v,z.v])(a:b<H.nx):Rs 1 sC H (.sl b 0 3 3 true) [x,y,z]:=
 Gl.rs qlp ⟨rfl,.inr ⟨b,0,true,0,_,rfl,h,gp _,rfl,.inl rfl,a⟩⟩
theorem zav{k:Nat}(a:3<=k)(x y:SS)(H:Hp):Ok (C k (.f 84) [.agg [x.v,y.v]] H) fun r b=>r=iN ((wD (iO x&&iO y)))/\Fm No H b:=by
 obtain⟨j,rfl⟩:=aP a;rw[lk (zon ..)];unfold zEx zze SS.v;refine aT ?_;have f:Fm No H (aI (aI H (aB 0 [.str x.n x.a,.str y.n y.a])) (aB 0 [.str x.n x.a,.str y.n y.a])):=by exact qO
 refine Ok.ve (zkl (k:=j) om (l:=[x,y]) (rs2 (by simp(disch:=go_size)only[go_sem,SS.v]) gx) g3) ?_;rintro _ H1 ⟨rfl,c⟩;refine Ok.ret ⟨by simp[nmA],f.trans c⟩
theorem qvi{k:Nat}(a:3<=k)(x y z:SS)(H:Hp):Ok (C k (.f 69) [.agg [x.v,y.v,z.v]] H) fun r b=>r=iN ((wD (iO x&&(iO y&&iO z))))/\Fm No H b:=by
 obtain⟨j,rfl⟩:=aP a;rw[lk (zos ..)];unfold zEs zzm SS.v;refine aT ?_;have f:Fm No H (aI (aI H (aB 0 [.str x.n x.a,.str y.n y.a,.str z.n z.a])) (aB 0 [.str x.n x.a,.str y.n y.a,.str z.n z.a])):=by exact qO
 refine Ok.ve (zkl (k:=j) om (l:=[x,y,z]) (rs3 (by simp(disch:=go_size)only[go_sem,SS.v]) gx) g3) ?_;rintro _ H1 ⟨rfl,c⟩;refine Ok.ret ⟨by simp[nmA],f.trans c⟩
def sbB(x y z:SS):Bool:=iO x&&(iO y&&(z.n==0||iO z))
theorem q3y{k:Nat}(b:4<=k)(x y z:SS)(c:z.n=0->z.a=0)(H:Hp):Ok (C k (.f 205) [.agg [x.v,y.v,z.v]] H) fun r d=>r=iN ((wD (sbB x y z)))/\Fm No H d:=by
 obtain⟨j,rfl⟩:=aP b;rw[lk (zor ..)];unfold zEt zzl SS.v sbB;by_cases h:z.n=0
 ·have e:=c h;refine eF h e ?_;refine Ok.ve (zav (k:=j) om x y _) ?_;rintro _ H1 ⟨rfl,a⟩;refine Ok.ret ⟨g3,?_⟩;exact Fm.trans (by exact jF) a
 ·have f:(z.n==0)=false:=by simp[h]
  refine eF h f ?_;unfold zvq;simp(disch:=omega)only[go_sem];refine Ok.ve (qvi (k:=j) om x y z _) ?_;rintro _ H1 ⟨rfl,a⟩;refine Ok.ret ⟨g3,?_⟩;exact Fm.trans (by exact jF) a
structure Tu where
 a:SS
 b:SS
 c:SS
 x:SS
 y:SS
 z:SS
 o:z.n=0->z.a=0
def Tu.cells(t:Tu):List AV:=[t.a.v,t.b.v,t.c.v,t.x.v,t.y.v,t.z.v]
def Tu.ok(t:Tu):Bool:=(iO t.a&&(iO t.b&&iO t.c))&&sbB t.x t.y t.z
theorem zio{k:Nat}(b:5<=k)(t:Tu)(H:Hp):Ok (C k (.f 165) [.agg t.cells] H) fun r c=>r=iN ((wD t.ok))/\Fm No H c:=by
 obtain⟨j,rfl⟩:=aP b;rw[lk (zox ..)];unfold zEn zzr Tu.cells Tu.ok SS.v;refine aT ?_;refine Ok.ve (qvi (k:=j) om t.a t.b t.c _) ?_;rintro _ H1 ⟨rfl,a⟩;have g1:H1.get H.nx=aB 0 [.str t.a.n t.a.a,.str t.b.n t.b.a,.str t.c.n t.c.a,.str t.x.n t.x.a,.str t.y.n t.y.a,.str t.z.n t.z.a]:=by rw[a.keep gx];simp(disch:=omega)only[go_sem]
 cases f:(iO t.a&&(iO t.b&&iO t.c))with
 |false=>refine Ok.ret ⟨rfl,?_⟩;exact Fm.trans (by exact jF) a
 |true=>unfold zvt;simp only[go_sem,g1];refine Ok.ve (q3y (k:=j) om t.x t.y t.z t.o _) ?_;rintro _ e ⟨rfl,d⟩;refine Ok.ret ⟨by simp[wD],?_⟩;exact Fm.trans (Fm.trans (by exact jF) a) d
def gX:List SS:=[sE,⟨1,49⟩,⟨1,50⟩,⟨1,51⟩,⟨1,52⟩,dJ 0,dJ 1,dJ 2,fO 0,fO 1,fO 2,fO 3,⟨4,1953460082⟩,sU]
def rk(s:SS):Nat:=gX.idxOf s
theorem qil{s:SS}(h:s∈gX):rk s<16:=by have:∀ s∈gX,rk s<16:=g4;exact this s h
theorem q7u{s t:SS}(h:s∈gX)(g:t∈gX)(e:rk s=rk t):s=t:=by have:∀ s∈gX,∀t∈gX,rk s=rk t->s=t:=g4;exact this s h t g e
def sgN(a b:Nat):Int:=if a<b then .negSucc 0 else if b<a then .ofNat 1 else .ofNat 0
theorem z6l(a b:Nat):sgN a b< .ofNat 0↔a<b:=by
 unfold sgN;split
 ·simp[*]
 ·split<;>simp[*]
def SgK(a b:Nat)(H:Hp)(r:AV)(H':Hp):Prop:=(∃i:Int,r=.int .i64 i/\(i< .ofNat 0↔a<b))/\Fm No H H'
theorem SgK.of{a b c d:Nat}{H H1 g:Hp}{r:AV}(h:SgK a b H1 r g)(f:Fm No H H1)(e:a<b↔c<d):SgK c d H r g:=⟨h.1.imp fun _ h=>⟨h.1,h.2.trans e⟩,f.trans h.2⟩
theorem aMn:wg=fun g r k H=>vg0 g r H k:=by funext g r k H;unfold wg;rw[zro]
theorem zj5(O:Ev.Call)(H:Hp):∀ s∈gX,∀t∈gX,zEv O s.v t.v H=.ok (.int .i64 (sgN (rk s) (rk t))) H:=by
 have h:gX.map (fun s=>gX.map fun t=>zEv O s.v t.v H)=gX.map fun s=>gX.map fun t=>.ok (.int .i64 (sgN (rk s) (rk t))) H:=by
  unfold zEv zzj zvo zdf zvn;rw[dD,aMn]
  kernel_rfl
 simp_all
theorem qnm{k:Nat}(a:1<=k){s t:SS}(b:s∈gX)(c:t∈gX)(H:Hp):Ok (C k (.f 162) [s.v,t.v] H) (SgK (rk s) (rk t) H):=by obtain⟨j,rfl⟩:=aP a;rw[lk (zop ..),zj5 _ _ s b t c];exact Ok.ret ⟨⟨_,rfl,z6l _ _⟩,Fm.refl _ _⟩
def k2(x y:SS):Nat:=rk x*16+rk y
theorem zmm{k:Nat}(i:2<=k){x y u v:SS}(c:x∈gX)(d:y∈gX)(f:u∈gX)(g:v∈gX)(H:Hp):Ok (C k (.f 161) [.agg [x.v,y.v],.agg [u.v,v.v]] H) (SgK (k2 x y) (k2 u v) H):=by
 obtain⟨j,rfl⟩:=aP i;rw[lk (zoq ..)];unfold zEu zzk k2;have l:=qil d;have m:=qil g;by_cases h:x=u
 ·have b:=(oD _ _).1 h;unfold SS.v;simp only[go_sem,q8k,b,and_self];unfold zvp;refine aT ?_;exact Ok.ve (qnm (k:=j) om d g _) fun r H1 a=>Ok.ret (a.of fm (by rw[h];omega))
 ·have n:rk x≠rk u:=fun e=>h (q7u c f e);have b:¬(x.n=u.n/\x.a=u.a):=fun e=>h ((oD _ _).2 e);unfold SS.v;refine eF q8k b ?_;exact Ok.ve (qnm (k:=j) om c f _) fun r H1 a=>Ok.ret (a.of fm om)
theorem qg1(n b:Bool):jT n (some b)=.val (.bool (bif n then !b else b)):=by cases n<;>rfl
theorem eqO(x y u v:SS):dQ (eqFields [(p1,⟨bL⟩,0),(p1,⟨bL⟩,1)]) (.agg [.str x.n x.a,.str y.n y.a]) (.agg [.str u.n u.a,.str v.n v.a])=some (decide ((x,y)=(u,v))):=qvz (x,y) (u,v)
theorem qdb{o p:Option Bool}{a b:Bool}(h:o=some a)(g:p=some b):andThen o p=some (a&&b):=by rw[h,g];cases a<;>cases b<;>rfl
def gG(x y z u v w:SS):Bool:=decide (x=u)&&(decide (y=v)&&true)&&(decide (z=w)&&true)
theorem eqG(x y z u v w:SS):dQ (eqFields [((pA 2),⟨dQ (eqFields [(p1,⟨bL⟩,0),(p1,⟨bL⟩,1)])⟩,0),(p1,⟨bL⟩,2)]) (.agg [.str x.n x.a,.str y.n y.a,.str z.n z.a]) (.agg [.str u.n u.a,.str v.n v.a,.str w.n w.a])=some (gG x y z u v w):=by exact qdb (qdb (qcj _ _) (qdb (qcj _ _) rfl)) (qdb (qcj _ _) rfl)
theorem q8w{x y z u v w:SS}:gG x y z u v w=true↔x=u/\y=v/\z=w:=by unfold gG;simp[and_assoc]
def k3(x y z:SS):Nat:=k2 x y*16+rk z
theorem q8l{x y z u v w:SS}(e:x∈gX)(a:y∈gX)(b:z∈gX)(f:u∈gX)(c:v∈gX)(d:w∈gX)(h:k3 x y z=k3 u v w):x=u/\y=v/\z=w:=by unfold k3 k2 at h;have:=qil a;have:=qil c;have:=qil b;have:=qil d;exact⟨q7u e f om,q7u a c om,q7u b d om⟩
theorem zaz{x y z:SS}(a:x∈gX)(b:y∈gX)(c:z∈gX):k3 x y z<4096:=by unfold k3 k2;have:=qil a;have:=qil b;have:=qil c;omega
theorem zmn{k:Nat}(n:3<=k){x y z u v w:SS}(c:x∈gX)(d:y∈gX)(b:z∈gX)(f:u∈gX)(g:v∈gX)(i:w∈gX)(H:Hp):Ok (C k (.f 114) [.agg [x.v,y.v,z.v],.agg [u.v,v.v,w.v]] H) (SgK (k3 x y z) (k3 u v w) H)/\Ok (C k (.f 115) [.agg [x.v,y.v,z.v],.agg [u.v,v.v,w.v]] H) (SgK (k3 x y z) (k3 u v w) H):=by
 obtain⟨j,rfl⟩:=aP n;rw[lk (zow ..),lk (zov ..)];unfold zEo zzq zEp zzp k3;have e:=eqO x y u v;have o:=qil b;have p:=qil i;by_cases h:(x,y)=(u,v)
 ·rw[qc h]at e;injection h with l m;unfold SS.v;constructor
  ·refine eF e qg1 ?_;unfold zvs;refine aT ?_;exact Ok.ve (qnm (k:=j) om b i _) fun r H1 a=>Ok.ret (a.of fm (by rw[l,m];omega))
  ·refine eF e qg1 ?_;unfold zvr;refine aT ?_;exact Ok.ve (qnm (k:=j) om b i _) fun r H1 a=>Ok.ret (a.of fm (by rw[l,m];omega))
 ·rw[ql h]at e;have s:k2 x y≠k2 u v:=fun q=>by
   obtain⟨l,m,_⟩:=q8l c d b f g b (show k3 x y z=k3 u v z by unfold k3;rw[q]);simp_all
  unfold SS.v;constructor
  ·refine eF e qg1 ?_;exact Ok.ve (zmm (k:=j) om c d f g _) fun r H1 a=>Ok.ret (a.of fm om)
  ·refine eF e qg1 ?_;exact Ok.ve (zmm (k:=j) om c d f g _) fun r H1 a=>Ok.ret (a.of fm om)
structure Tu.lo(t:Tu):Prop where
 a:t.a∈gX
 b:t.b∈gX
 c:t.c∈gX
 x:t.x∈gX
 y:t.y∈gX
 z:t.z∈gX
def Tu.key(t:Tu):Nat:=k3 t.a t.b t.c*4096+k3 t.x t.y t.z
theorem Tu.lo.inj{t u:Tu}(h:t.lo)(g:u.lo)(e:t.key=u.key):t=u:=by unfold Tu.key at e;have a:=zaz h.x h.y h.z;have b:=zaz g.x g.y g.z;obtain⟨c,d,f⟩:=q8l h.a h.b h.c g.a g.b g.c om;obtain⟨i,j,k⟩:=q8l h.x h.y h.z g.x g.y g.z om;cases t;simp_all
theorem z4g{k:Nat}(c:4<=k){t u:Tu}(h:t.lo)(g:u.lo)(H:Hp):Ok (C k (.f 61) [.agg t.cells,.agg u.cells] H) (SgK t.key u.key H):=by
 obtain⟨j,rfl⟩:=aP c;rw[lk (zoz ..)];unfold zEk zzt Tu.cells SS.v Tu.key;have e:=eqG t.a t.b t.c u.a u.b u.c;have f:=zaz h.x h.y h.z;have i:=zaz g.x g.y g.z;by_cases a:gG t.a t.b t.c u.a u.b u.c=true
 ·rw[a]at e;obtain⟨q1,q2,q3⟩:=q8w.1 a;have d:k3 t.a t.b t.c=k3 u.a u.b u.c:=by rw[q1,q2,q3]
  refine eF e qg1 ?_;unfold zvu;refine aT ?_;refine Ok.ve (zmn (k:=j) om h.x h.y h.z g.x g.y g.z _).2 ?_;intro r H1 b;exact Ok.ret (b.of (by exact qO) om)
 ·have d:k3 t.a t.b t.c≠k3 u.a u.b u.c:=fun q=>a (q8w.2 (q8l h.a h.b h.c g.a g.b g.c q));rw[Bool.not_eq_true]at a;rw[a]at e;refine eF e qg1 ?_;refine Ok.ve (zmn (k:=j) om h.a h.b h.c g.a g.b g.c _).1 ?_;intro r H1 b;exact Ok.ret (b.of (by exact qO) om)
theorem eqT(t u:Tu):dQ (eqFields [((pA 3),⟨dQ (eqFields [((pA 2),⟨dQ (eqFields [(p1,⟨bL⟩,0),(p1,⟨bL⟩,1)])⟩,0),(p1,⟨bL⟩,2)])⟩,0),((pA 3),⟨dQ (eqFields [((pA 2),⟨dQ (eqFields [(p1,⟨bL⟩,0),(p1,⟨bL⟩,1)])⟩,0),(p1,⟨bL⟩,2)])⟩,3)]) (.agg t.cells) (.agg u.cells)=some (gG t.a t.b t.c u.a u.b u.c&&(gG t.x t.y t.z u.x u.y u.z&&true)):=by
 show andThen (andThen (andThen (bL t.a.v u.a.v) (andThen (bL t.b.v u.b.v) (some true))) (andThen (bL t.c.v u.c.v) (some true)))
  (andThen (andThen (andThen (bL t.x.v u.x.v) (andThen (bL t.y.v u.y.v) (some true))) (andThen (bL t.z.v u.z.v) (some true))) (some true))=_
 exact qdb (qdb (qdb (qcj _ _) (qdb (qcj _ _) rfl)) (qdb (qcj _ _) rfl))
  (qdb (qdb (qdb (qcj _ _) (qdb (qcj _ _) rfl)) (qdb (qcj _ _) rfl)) rfl)
theorem z3w{t u:Tu}:(gG t.a t.b t.c u.a u.b u.c&&gG t.x t.y t.z u.x u.y u.z)=true↔t=u:=by
 rw[qh,q8w,q8w];constructor
 ·rintro ⟨⟨a,b,c⟩,d,e,f⟩;cases t;simp_all
 ·simp_all
theorem yF(t:Tu):t.cells.length=6:=id rfl
theorem zk8{O:Ev.Call}{v:AV}{l:List Tu}{t:Tu}{cb:Nat}{H:Hp}(c:Rs 6 Tu.cells H v l)(d:fD (H.get cb) 0 6=some t.cells)(j:l.length<1000000){Q:pL}{qr:pD}{q:pH}(e:t∈l->Ok (qr (iN 1) H) Q)(f:t∉l->Ok (q H) Q):∀(k i:Nat),i<=l.length->l.length-i<k->t∉l.take i->Ok (q5c O qr q v (.ptr cb 0) k (iN i) H) Q
 |0,i,_,h,_=>om
 |k+1,i,hi,hk,hm=>by
  show Ok (zdh O _ _ _ _ (q5c O _ _ _ _ k) _ H) Q;unfold zdh;have g:=c.len;by_cases a:i<l.length
  ·simp only[go_sem,g,a];unfold zvv;obtain⟨b,o,r,_,s⟩:=c.oZ a;have n:=eqT l[i] t;simp only[go_sem,r,s,d,n,qg1];have p:=z3w (t:=l[i]) (u:=t);cases w:(gG l[i].a l[i].b l[i].c t.a t.b t.c&&gG l[i].x l[i].y l[i].z t.x t.y t.z)with
   |true=>exact e (by rw[<-p.1 w];exact lg a)
   |false=>unfold kQ;refine aT ?_;refine zk8 c d j e f k (i+1) om om fun m=>?_;rw[lh a,qi,qf]at m;simp_all
  ·simp only[go_sem,g,a];exact f (by rw[tq om]at hm;exact hm)
theorem aPG{k:Nat}(a:1<=k){v:AV}{l:List Tu}(b:Rs 6 Tu.cells H v l)(d:l.length<1000000)(t:Tu):Ok (C k (.f 60) [v,.agg t.cells] H) fun r g=>(∃i:Int,r=.int .i64 i/\(i=.ofNat 1↔t∈l))/\Fm No H g:=by
 obtain⟨j,rfl⟩:=aP a;rw[lk (zo0 ..)];unfold zEj zzu;have f:Fm No H (aI H (aB 0 t.cells)):=by exact jF
 have e:qI 6 H.nx (.agg t.cells)=.new (.ptr H.nx 0) (aB 0 t.cells):=id rfl;simp only[go_sem,e];unfold zvw;rw[dD];refine zk8 (t:=t) (b.fm f) ?_ d (fun h=>Ok.ret ⟨⟨_,rfl,fun _=>h,fun _=>rfl⟩,f⟩) (fun h=>?_) bZ 0 (gp _) lf g3
 ·rw[jG];rfl
 ·unfold jW;exact Ok.ret ⟨⟨_,rfl,fun e=>by simp at e,fun c=>absurd c h⟩,f⟩
def idL:List SS:=[⟨1,49⟩,⟨1,50⟩,⟨1,51⟩,⟨1,52⟩,⟨4,1953460082⟩]
theorem z8x{k:Nat}(a:1<=k)(n:Nat)(H:Hp):Ok (C k (.f 59) [uN n] H) fun r b=>(∃s:SS,r=s.v/\s∈idL/\s∈gX)/\Fm No H b:=by
 obtain⟨j,rfl⟩:=aP a;rw[lk (zo1 ..)];unfold zEi zzv;have d:n%5<5:=xq _ om;have e:∀ m,m<5->∃ s:SS,([AV.str 1 49,.str 1 50,.str 1 51,.str 1 52,.str 4 1953460082]:List AV)[m]? =some s.v/\s∈idL/\s∈gX:=fun m c=>by
  match m,c with
  |0,_=>exact⟨⟨1,49⟩,rfl,g4,g4⟩
  |1,_=>exact⟨⟨1,50⟩,rfl,g4,g4⟩
  |2,_=>exact⟨⟨1,51⟩,rfl,g4,g4⟩
  |3,_=>exact⟨⟨1,52⟩,rfl,g4,g4⟩
  |4,_=>exact⟨⟨4,1953460082⟩,rfl,g4,g4⟩
 obtain⟨s,g,h,i⟩:=e _ d;have f:(bH (aS [zS] 5) [(0,1,(.str 1 49)),(1,1,(.str 1 50)),(2,1,(.str 1 51)),(3,1,(.str 1 52)),(4,1,(.str 4 1953460082))])=some [.str 1 49,.str 1 50,.str 1 51,.str 1 52,.str 4 1953460082]:=id rfl;rw[f];refine eP g ?_;refine Ok.ret ⟨⟨s,rfl,h,i⟩,?_⟩;exact jF
theorem qkr(t:Tu):List.take 6 t.cells=t.cells:=id rfl
abbrev kY(l:List Tu):Prop:=l.Pairwise fun a b=>a.key<b.key
theorem kY.add{l:List Tu}{t:Tu}(h:kY l)(g:∀ a∈l,a.key<t.key):kY (l++[t]):=
 zq.2 ⟨h,bf _ _,fun a d b c=>by rw[qf]at c;subst c;exact g a d⟩
def b2n(b:Bool):Nat:=bif b then 1 else 0
theorem aPd{j:Nat}(hj:4<=j){P:Tu->Prop}(N:∀ t,P t->t.lo){v w:AV}{l m:List Tu}{i:Nat}(J:i<l.length)(hl:l.length<1000)(hm:m.length<1000)(pl:∀ t∈l,P t)(O:∀ t∈m,P t)(am:kY m)(z:∀ u∈m,u.key≠l[i].key){H0:Hp}(hv:Rs 6 Tu.cells H0 v l)(K:Rs 6 Tu.cells H0 w m){Q:pL}{q:AV->pD}(hq:∀ u n f H,Ac 6 Tu.cells H0 H u n->n.length=m.length+b2n f->(∀t∈n,P t)->kY n->(f=false->∀ a∈n,a.key<l[i].key)->Ok (q u (.bool f) H) Q):∀(k e:Nat) (f:Bool) (u:AV) (n:List Tu) (H:Hp),e<=m.length->m.length-e<k->n.length=e+b2n f->(∀t∈n,P t)->kY n->(∀a∈n,∀u∈m.drop e,a.key<u.key)->(f=false->∀ a∈n,a.key<l[i].key)->Ac 6 Tu.cells H0 H u n -> Ok (qnz (C j) q v w (iN i) k u (.bool f) (iN e) H) Q
 |0,e,_,_,_,_,_,h,_,_,_,_,_,_=>om
 |k+1,e,f,u,n,H,he,hk,hn,pn,an,lt,no,ha=>by
  show Ok (q0y (C j) _ _ _ _ (qnz (C j) _ _ _ _ k) _ _ _ H) Q;unfold q0y;have e0:=K.len;by_cases r:e<m.length
  ·refine eF e0 r ?_;have hd:=uq r;have d:kY (m.drop e):=am.drop;rw[hd]at d lt;rw[kY,lE2]at d;have c:∀(x:Bool) (R:AV) (p:List Tu) (L:Hp),p.length=e+b2n x->(∀t∈p,P t)->kY p->(∀a∈p,∀u∈m[e]::m.drop (e+1),a.key<u.key)->(x=false->m[e].key<l[i].key/\∀ a∈p,a.key<l[i].key)->Ac 6 Tu.cells H0 L R p ->
     Ok (qtb (C j) (qnz (C j) q v w (iN i) k) w R (.bool x) (iN e) L) Q:=fun x R p L S T U A B D=>by
    unfold qtb;have hb':b2n x<=1:=by cases x<;>decide
    obtain⟨b,o,V,e2,M⟩:=(K.fm D.fm).oZ r;refine jD V M yF qkr ?_;refine Ok.ve ((D.no ((Fm.refl No L).push (aB 0 m[e].cells))).add m[e] 96 rfl om om) ?_;intro W X y;unfold zdr;refine aT ?_;refine aPd hj N J hl hm pl O am z hv K hq k (e+1) x W (p++[m[e]]) X om om (by simp[S];omega) ?_ (U.add fun a h=>A a h _ ug) ?_ ?_ y
    all_goals simp only[qi,qf]
    ·rintro t (Y|rfl)
     ·exact T t Y
     ·exact O _ (lg r)
    ·rintro a (h|rfl) u F
     ·exact A a h u (uk _ F)
     ·exact d.1 u F
    ·rintro hf a (h|rfl)
     ·exact(B hf).2 a h
     ·exact(B hf).1
   unfold zdq;cases f with
   |true=>simp only[go_sem];exact c true u n H hn pn an lt (fun h=>by cases h) ha
   |false=>
    obtain⟨b,o,V,e2,M⟩:=(hv.fm ha.fm).oZ J;obtain⟨b',o',Z,e2',G⟩:=(K.fm ha.fm).oZ r;simp only[go_sem,V,M,Z,G];refine Ok.iD (z4g (k:=j) om (N _ (pl _ (lg J))) (N _ (O _ (lg r))) _) ?_;rintro _ H1 ⟨⟨s,rfl,hsk⟩,f1⟩;have hnk:=z _ (lg r);have g:fD (H1.get b) o 6=some l[i].cells:=by rw[f1.keep e2];exact M
    have g':fD (H1.get b') o' 6=some m[e].cells:=by rw[f1.keep e2'];exact G
    have E:=ha.no f1;by_cases I:s<Int.ofNat 0
    ·refine nI g g' I yF qkr ?_;refine Ok.ve ((E.no ((Fm.refl No H1).push (aB 0 l[i].cells))).add l[i] 96 rfl (by unfold b2n at hn;simp at hn;omega) (by unfold b2n at hn;simp at hn;omega)) ?_;intro W X y;rw[hsk]at I;refine c true W (n++[l[i]]) X (by unfold b2n at hn ⊢;simp at hn ⊢;omega) ?_ (an.add (no rfl)) ?_ (fun h=>by cases h) y
     all_goals simp only[qi,su,lEE,or_false]
     ·rintro t (Y|rfl)
      ·exact pn t Y
      ·exact pl _ (lg J)
     ·rintro a (h|rfl) u (rfl|F)
      ·exact lt a h _ ug
      ·exact lt a h u (uk _ F)
      ·exact I
      ·exact lE5 I (d.1 u F)
    ·simp only[go_sem,g,g',I,yF,qkr];exact c false u n H1 hn pn an lt (fun _=>⟨om,no rfl⟩) E
  ·simp only[go_sem,e0,r];have:e=m.length:=om;subst this;exact hq u n f H ha hn pn an no
theorem aFd{j:Nat}(A:4<=j){P:Tu->Prop}(r:∀ t,P t->t.lo){v:AV}{l:List Tu}(B:l.length<1000)(pl:∀ t∈l,P t){H0:Hp}(x:Rs 6 Tu.cells H0 v l){Q:pL}{q:pD}(D:∀ w m H,Ac 6 Tu.cells H0 H w m->m.length<=l.length->(∀t∈m,P t)->kY m->Ok (q w H) Q):∀(k i:Nat) (w:AV) (m:List Tu) (H:Hp),i<=l.length->l.length-i<k->m.length<=i->(∀t∈m,P t)->kY m->Ac 6 Tu.cells H0 H w m -> Ok (qwo (C j) q v k w (iN i) H) Q
 |0,i,_,_,_,_,h,_,_,_,_=>om
 |k+1,i,w,m,H,hi,hk,hm,pm,am,ha=>by
  show Ok (zds (C j) _ _ (qwo (C j) _ _ k) _ _ H) Q;unfold zds;have K:=x.len;by_cases z:i<l.length
  ·simp only[go_sem,K,z];unfold zdo;obtain⟨b,o,L,M,N⟩:=(x.fm ha.fm).oZ z;simp only[go_sem,L,N];refine Ok.ve (aPG (k:=j) om (ha.rs yF) om l[i]) ?_;rintro _ H1 ⟨⟨s,rfl,E⟩,F⟩;have c:=ha.no F;by_cases I:s=Int.ofNat 1
   ·simp only[go_sem,I];unfold qn0;refine aT ?_;exact aFd A r B pl x D k (i+1) w m H1 om om om pm am c
   ·simp only[go_sem,I];unfold zdp zdt;rw[dD];have T:∀ g,Fm No H1 g->fD (g.get b) o 6=some l[i].cells:=fun g S=>by rw[S.keep (ku M F.nx),F.keep M];exact N
    refine aPd A r z B om pl pm am (fun u J e=>I (E.2 ((r _ (pm u J)).inj (r _ (pl _ (lg z))) e▸J))) ((x.fm c.fm)) (c.rs yF) ?_ bZ 0 false .aA [] H1 (gp _) lf rfl (fun t y=>by cases y) List.Pairwise.nil (fun a h=>by cases h) (fun _ a h=>by cases h) (Ac.nil 6 _ (Fm.refl _ _));intro u n f g p d O R no;unfold q0x;have U:=T g p.fm;cases f with
    |true=>unfold q5d qn0;refine aT ?_;exact aFd A r B pl x D k (i+1) u n g om om (by unfold b2n at d;simp at d;omega) O R (Ac.trans c.fm p)
    |false=>
     refine jD L U yF qkr ?_;refine Ok.ve ((p.no ((Fm.refl No g).push (aB 0 l[i].cells))).add l[i] 96 rfl (by unfold b2n at d;simp at d;omega) (by unfold b2n at d;simp at d;omega)) ?_;intro V W G;unfold q5d qn0;refine aT ?_;refine aFd A r B pl x D k (i+1) V (n++[l[i]]) W om om (by unfold b2n at d;simp at d ⊢;omega) ?_ (R.add (no rfl)) (Ac.trans c.fm G);intro t y;rw[qi,qf]at y;rcases y with y|rfl
     ·exact O t y
     ·simp_all
  ·simp only[go_sem,K,z];exact D w m H ha om pm am
theorem zi4{k:Nat}(a:5<=k){P:Tu->Prop}(b:∀ t,P t->t.lo){v:AV}{l:List Tu}(c:l.length<1000)(pl:∀ t∈l,P t)(d:Rs 6 Tu.cells H v l):Ok (C k (.f 18) [v] H) fun r e=>∃ m,Ac 6 Tu.cells H e r m/\m.length<=l.length/\(∀t∈m,P t)/\kY m:=by obtain⟨j,rfl⟩:=aP a;rw[lk (zo4 ..)];unfold zEd zzy zvy;rw[dD];refine aFd (j:=j) om b c pl d ?_ bZ 0 .aA [] H (gp _) lf (gp _) (fun t f=>by cases f) List.Pairwise.nil (Ac.nil 6 _ (Fm.refl _ _));intro w m H1 g h i n;exact Ok.ret ⟨m,g,h,i,n⟩
theorem aN6{s:SS}(h:s∈gX):s.n=0->s.a=0:=by have:∀ s∈gX,s.n=0->s.a=0:=g4;exact this s h
def rC(X:List aQ)(t:Tu):Prop:=t.b∈idL/\t.y∈idL/\(t.a,t.c)∈aF X/\∃ g,lF X t.a t.c=some g/\(⟨t.x,t.z⟩:jL)∈g.r.types
def TuR(X:List aQ)(r:AV):Prop:=∃(t:Tu) (b:Bool),r=.bA [.agg t.cells,.bool b]/\t.lo/\(b=true->rC X t)
theorem aMe(hj:1<=j){a h m x8 p q r s:Nat}{tv:AV}{ts:List jL}{pr:SS×SS}{l1 l3 l4 l5 l6:AV}(n:H.get a=aB 0 [uN p,uN q,uN r,uN s])(F:H.get h=aB 0 [zS,zS,zS,zS,zS,zS])(v:H.get m=aB 0 [.str pr.1.n pr.1.a,.str pr.2.n pr.2.a])(O:H.get x8=aB 0 [l1,tv,l3,l4,l5,l6])(I:a<H.nx)(J:h<H.nx)(K:m<H.nx)(n8:x8<H.nx)(r4:r<256)(L:Rs 2 tC H tv ts)(hn:ts.length≠0)(P:ts.length<=100)(M:pr.1∈gX/\pr.2∈gX)(Q:∀ t∈ts,t.sp∈gX/\t.rl∈gX){g:bB}(x:pr∈aF X)(R:lF X pr.1 pr.2=some g)(y:ts=g.r.types):Ok (kA qfg (C j) (.ptr a 0) (.ptr h 0) (.ptr m 0) (.ptr x8 0) H) fun r S=>Fm (· =h) H S/\TuR X r:=by
 have V:=L.len;have z:r%ts.length<ts.length:=xq _ om;obtain⟨b,o,e1,e2,D⟩:=L.oZ z;have W:gQ 4 1 (.ptr a 0) (iN 1)=.val (.ptr a 1):=id rfl;have Y:gQ 4 1 (.ptr a 0) (iN 2)=.val (.ptr a 2):=id rfl;have Z:gQ 4 1 (.ptr a 0) (iN 3)=.val (.ptr a 3):=id rfl;unfold tC SS.v at D;have d:=Q _ (lg z);have e:ts[r%ts.length]∈g.r.types:=by rw[<-y];exact lg z
 generalize ts[r%ts.length]=ty at D d e;rw[kE qfg];unfold qfg;simp(maxSteps:=2000000) (disch:=first|omega|exact ti rfl|(simp only[np,nq];done)|(simp only[np,nq];omega))only[go_sem,Nat.reduceAdd,Nat.reduceMul,Nat.reduceSub,Nat.reduceLeDiff,Nat.reduceEqDiff,Nat.reduceShiftRight,Nat.reduceAnd,n,v,O,W,Y,Z,V,e1,D];generalize E:(Hp.mk _ (H.nx+13))=G;have fG:Fm No H G:=by rw[<-E];exact(((Fm.refl No H).up 13).aG _ _ om).aG _ _ om
 have gG:G.get (H.nx+11)=aB 0 [.str ty.sp.n ty.sp.a,.str ty.rl.n ty.rl.a]:=by rw[<-E];exact dN _ _ _
 have nG:G.nx=H.nx+13:=by rw[<-E]
 refine Ok.iD (z8x (k:=j) om q _) ?_;rintro _ H1 ⟨⟨u,rfl,u1,u2⟩,l⟩;have n1:=l.nx;have i:=fG.trans l;have a3:=(i.keep I).trans n;have a4:=(i.keep J).trans F;have a7:=(i.keep K).trans v;have bF:=(l.keep (b:=H.nx+11) om).trans gG;unfold SS.v;refine iG a3 a7 bF ?_;refine Ok.iD (z8x (k:=j) om s _) ?_;rintro _ H2 ⟨⟨w,rfl,w1,w2⟩,N⟩;have A:=l.trans N;have f:=i.trans N;have b3:=(f.keep I).trans n;have b4:=(f.keep J).trans F;have b7:=(f.keep K).trans v;have B:=(A.keep (b:=H.nx+11) om).trans gG;unfold SS.v;refine jD b3 b4 b7 B ?_;refine Ok.ret ⟨?_,⟨pr.1,u,pr.2,ty.sp,w,ty.rl,aN6 d.2⟩,true,rfl,⟨M.1,u2,M.2,d.1,w2,d.2⟩,fun _=>⟨u1,w1,x,g,R,e⟩⟩;exact⟨f.nx,fun c T U=>(dO _ _ _ _ U).trans (f.keep T)⟩
end Go.Di
end
