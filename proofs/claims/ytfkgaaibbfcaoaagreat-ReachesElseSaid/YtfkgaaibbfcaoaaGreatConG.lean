/-
 For ReachesElse: functions in direct style, their contracts, and the plain mathematics, part 7 of 7. No conditions beyond those that each theorem states.
-/
import Derived.Test.YtfkgaaibbfcaoaaGreatConA
import Derived.Test.YtfkgaaibbfcaoaaGreatConF
import Derived.Test.YtfkgaaibbfcaoaaGreatConD
import Derived.Test.YtfkgaaibbfcaoaaGreatEv2
import Derived.Test.YtfkgaaibbfcaoaaGreatConE
import Derived.ChangeArms
import Derived.DataReads
set_option linter.all false
open Nat renaming reduceAdd->rB,reduceMul->rI,reduceSub->rK,reduceLeDiff->rL,reduceEqDiff->rN,reduceShiftRight->rS,reduceAnd->r6
noncomputable section
namespace Go.Di
open Go.Ev
variable {LA LO:LP} {X:List aP} {l:List Tu}
variable{I:Hp}{T h:Nat}{sv:AV}{α:Type}
theorem Gl.part{f:α->List AV}{n:Nat}(d:∀x,(f x).length=T){l:List α}(i:Gl T I sv l.length (l.flatMap f))(a:h<l.length)(g:n<=T):∃b o,aG T sv (iN h)=.val (.ptr b o)/\b<I.nx/\eY (I.get b) o n=some ((f l[h]).take n):=by
 have m:=i.len;rcases i.is with⟨_,s⟩|⟨b,o,e,q,L,rfl,j,t,c,u,k⟩
 ·omega
 ·have p:h*T+T<=l.length*T:=by
   have:(h+1)*T<=l.length*T:=vL T a;rw[bz,ut]at this;exact this
  have r:L.length=o+l.length*T:=by have:=congrArg List.length c;rw[oz]at this;omega
  refine⟨b,o+h*T,sD _ _ _ _ _ _ _ _ a,k,?_⟩;rw[j,y7,sB om,<-oA d l h a,<-c,su,List.take_take,lh g]
theorem PR{O:Ev.Call}{H:Hp}{v tv:AV}{tb:List G3}{i:Nat}(f:Gl 6 H v l.length (l.flatMap Tu.cells))(g:i<l.length)(b:Gl 3 H tv tb.length (tb.flatMap gC))(p:tb.length<=1000){Q:pL}{q:pD}(j:Ok (q (.bool (b8 tb l[i])) H) Q):∀(k m:Nat) (c:Bool),m<=tb.length->tb.length-m<k->c=b8 (tb.take m) l[i]->Ok (BI O q v tv (iN i) k (.bool c) (iN m) H) Q
 |0,m,_,_,h,_=>om
 |k+1,m,c,hm,hk,hc=>by
  show Ok (Jw O _ _ _ _ (BI O _ _ _ _ k) _ _ H) Q;unfold Jw;have o:=b.bF;by_cases a:m<tb.length
  ·obtain⟨t,u,w,A,d⟩:=b.part (n:=2) vV a om;obtain⟨x,y,z,B,e⟩:=f.part (n:=2) yZ g om;have r:b8 (tb.take (m+1)) l[i]=(c||decide (tb[m].1=(l[i].a,l[i].b))):=by
    rw[hc];unfold b8;rw[nh a,pg];simp
   have next:=PR (O:=O) f g b p j k (m+1) _ om om r.symm
   replace d:eY (H.get t) u 2=some [.str tb[m].1.1.n tb[m].1.1.a,.str tb[m].1.2.n tb[m].1.2.a]:=d;replace e:eY (H.get x) y 2=some [.str l[i].a.n l[i].a.a,.str l[i].b.n l[i].b.a]:=e;have s:dL (eqFields [(p1,⟨bH⟩,0),(p1,⟨bH⟩,1)]) (.agg [.str tb[m].1.1.n tb[m].1.1.a,.str tb[m].1.2.n tb[m].1.2.a]) (.agg [.str l[i].a.n l[i].a.a,.str l[i].b.n l[i].b.a])=some (decide (tb[m].1=(l[i].a,l[i].b))):=y9 tb[m].1 (l[i].a,l[i].b);refine dS o a ?_;rw[kE xj];unfold xj;rw[kE FP];unfold FP;cases c with
   |true=>
    refine aS ?_;rw[kE xk];unfold xk;refine aS ?_;rw[Bool.true_or]at next
    exact next
   |false=>
    rw[uk]at next
    refine cF w d z e s dk ?_;rw[kE xk];unfold xk;refine aS ?_;exact next
  ·refine dS o a ?_;rw[kE xj];unfold xj;rw[AQ om]at hc;subst hc;exact j
variable{ov:AV}
theorem I7{O:Ev.Call}{tb:List G3}{d:List Tu}(e:Gl 6 I sv l.length (l.flatMap Tu.cells))(u:l.length<=20)(m:Gl 3 I ov tb.length (tb.flatMap gC))(r:tb.length<=1000){Q:pL}{q:pD}(s:∀w H,Ac 6 Tu.cells I H w d->Ok (q w H) Q):∀(k i n:Nat) (w:AV) (p:List Tu) (H:Hp),i<=l.length->l.length-i<k->p.length<=i->n<=8->p++cn tb n (l.drop i)=d->Ac 6 Tu.cells I H w p -> Ok (ya O q sv ov k w (iN n) (iN i) H) Q
 |0,i,_,_,_,_,_,h,_,_,_,_=>om
 |k+1,i,n,w,p,H,hi,hk,hp,hn8,a,hA=>by
  show Ok (Jx O _ _ _ (ya O _ _ _ k) _ _ _ H) Q;unfold Jx;have j:=hA.fm;have x:=(e.no j).bF;by_cases c:i<l.length
  ·have z:l.drop i=l[i]::l.drop (i+1):=iP c;refine dS x c ?_;rw[kE xd];unfold xd;refine aS ?_;rw[kE FO];unfold FO;rw[dD];refine PR (e.no j) c (m.no j) r ?_ bT 0 false (vy _) lf rfl;rw[kE Bp];unfold Bp;have f:p++[l[i]]++cn tb n (l.drop (i+1))=d->Ok ((kA Bq) O (ya O q sv ov k) sv w (iN n) (iN i) H) Q:=λa=>by
    rw[kE Bq];unfold Bq;obtain⟨b,o,C,G,y⟩:=((e.no j).rs yZ).oG c;have A:l[i].cells=[.str l[i].a.n l[i].a.a,.str l[i].b.n l[i].b.a,.str l[i].c.n l[i].c.a,.str l[i].x.n l[i].x.a,.str l[i].y.n l[i].y.a,.str l[i].z.n l[i].z.a]:=rfl;rw[A]at y;refine dS C y ?_;refine Ok.ve ((hA.no ((Fm.refl No H).push (aB 0 l[i].cells))).add l[i] 96 rfl om om) ?_;intro D E F;rw[kE tI];unfold tI;refine aS ?_;exact I7 e u m r s k (i+1) n D _ E om om (by rw[nj,xx];omega) hn8 a F
   rw[z]at a;unfold cn at a;cases t:b8 tb l[i]with
   |true=>rw[t,sy g3]at a;refine aS ?_;rw[kE nY];unfold nY;refine aS ?_;exact f (by rw[sR];exact a)
   |false=>
    by_cases g:0<n
    ·rw[t,sB ⟨rfl,g⟩]at a;refine dI g ?_;rw[kE nY];unfold nY;have B:=zye n 1 g om;refine dI B ?_;rw[kE tI];unfold tI;refine aS ?_;exact I7 e u m r s k (i+1) (n-1) w p H om om om om a hA
    ·rw[t,sy (λh=>g h.2)]at a;refine dI g ?_;rw[kE nY];unfold nY;refine aS ?_;exact f (by rw[sR];exact a)
  ·refine dS x c ?_;rw[kE xd];unfold xd;refine aS ?_;rw[List.drop_of_length_le om]at a;unfold cn at a;rw[DN]at a;exact s w H (a▸hA)
theorem FOK.sub(h:FOK X l){m:List Tu}(a:List.Sublist m l):FOK X m:=
 ⟨h.ok,AL a.length_le h.n,λt b=>h.lo t (a.subset b),λt b=>h.fit t (a.subset b),List.Pairwise.sublist a h.asc⟩
theorem xbj(a b s p e c:Nat):dL (eqFields [(p1,⟨pI⟩,0),(p1,⟨pI⟩,1),(p1,⟨pI⟩,2),(p1,⟨pI⟩,3),(p1,⟨pI⟩,4),(p1,⟨pI⟩,5)]) (.agg [iN a,iN b,iN s,iN p,iN e,iN c]) (.agg [iN a,iN b,iN s,iN p,iN e,iN c])=some true:=by
 have d:∀n:Nat,pI (iN n) (iN n)=some true:=λn=>by show(bif cH .i64 .i64 then some (uI (.ofNat n) (.ofNat n))else none)=_;rw[eI];simp;rfl
 show andThen (pI (iN a) (iN a)) (andThen (pI (iN b) (iN b)) (andThen (pI (iN s) (iN s)) (andThen (pI (iN p) (iN p)) (andThen (pI (iN e) (iN e)) (andThen (pI (iN c) (iN c)) (some true))))))=_;simp only[d,andThen]
variable{D b7 b9:Nat}
theorem aX1(N:iO C)(O:fG C)(P:qM C)(Q:pP C)(R:pZ LA LO C)(S:uK C)(hk:1100<=h)(A:∀h I,1<=h->C h (.f 35) [] I=.ok (.bool true) I)(k:FOK X l){v av gv tv pw:AV}(f:Env X l I sv v av ov gv b7 b9){g:G3}{u:SS×SS}(K:I.get T=aB 0 (ip g u))(hb:T<I.nx)(n:ef X g=true)(hu:(l9 u.1&&l9 u.2)=true)(ht:Rs 3 gC I tv (iU (gK X l) g))(hp:Gl 6 I pw (cn (iU (gK X l) g) D l).length ((cn (iU (gK X l) g) D l).flatMap Tu.cells)):Ok ((kA xn) (C h) (.ptr b7 0) v (.ptr T 0) tv pw I) λr _=>r=.bool true:=by
 have eq:ip g u=[uN 1,.str g.1.1.n g.1.1.a,.str g.1.2.n g.1.2.a,.str g.2.n g.2.a,.str u.1.n u.1.a,.str u.2.n u.2.a]:=rfl;have eg:gC g=[.str g.1.1.n g.1.1.a,.str g.1.2.n g.1.2.a,.str g.2.n g.2.a]:=rfl;have B:∀(m:List Tu) t,t∈m↔t∈m:=om;have i:=k.sub (KV (iU (gK X l) g) D l);have hn:=k.n;have F:=i.n;obtain⟨u1,u2,u3⟩:=k.stk n;obtain⟨v1,v2,v3⟩:=i.stk n;have k7:=f.k7;have o1:=Uh (u:=u) N O P Q R S (k:=h) om f.sH k.ok f.gl om k.lo k.asc (B _) hn (k.fb (B _)) k.fit u1 u2 n hu;rw[eq]at K o1;rw[kE xn];unfold xn;refine dS k7 K ?_;refine Ok.ve o1 ?_;rintro _ H1 ⟨o,hst,rfl,f1⟩;obtain⟨q,nb,w,d,x,y,H⟩:∃a b s p e c,vc X o l u g=p8 a b s p e c:=⟨_,_,_,_,_,_,rfl⟩;have j:∀E,lG X E->vc X E (cn (iU (gK X l) g) D l) u g=p8 q nb w d x y:=λE h'=>by rw[<-h'.uniq hst |>.symm,z00,H]
 rw[H];unfold p8 at j ⊢;have n1:=om;have fa:Fm No H1 ((aH H1 (aB 0 [iN 0,iN 0,iN 0,iN 0,iN 0,iN 0])).put H1.nx (aB 0 [iN q,iN nb,iN w,iN d,iN x,iN y])):=fm;refine aS ?_;rw[kE FQ];unfold FQ;generalize hHa:((aH H1 (aB 0 [iN 0,iN 0,iN 0,iN 0,iN 0,iN 0])).put H1.nx (aB 0 [iN q,iN nb,iN w,iN d,iN x,iN y]))=Ha at *;have ka:Ha.get H1.nx=aB 0 [iN q,iN nb,iN w,iN d,iN x,iN y]:=om;have nA:Ha.nx=H1.nx+1:=om;have L:=f1.trans fa;have EA:=f.fm L;have U:=EA.k7;have qa:=(L.keep hb).trans K;have o2:=Uh (u:=u) N O P Q R S (k:=h) om EA.sH k.ok (hp.no L) om i.lo i.asc (B _) F (i.fb (B _)) i.fit v1 v2 n hu;rw[eq]at o2;refine dS U qa ?_;refine Ok.ve o2 ?_;rintro _ z ⟨E,J,rfl,f2⟩;rw[j E J];have n2:=f2.nx;have G:Fm No z ((aH z (aB 0 [iN 0,iN 0,iN 0,iN 0,iN 0,iN 0])).put z.nx (aB 0 [iN q,iN nb,iN w,iN d,iN x,iN y])):=fm;refine aS ?_;rw[kE FR];unfold FR;generalize hHb:((aH z (aB 0 [iN 0,iN 0,iN 0,iN 0,iN 0,iN 0])).put z.nx (aB 0 [iN q,iN nb,iN w,iN d,iN x,iN y]))=Hb at *;have kb:Hb.get z.nx=aB 0 [iN q,iN nb,iN w,iN d,iN x,iN y]:=om;have nB:Hb.nx=z.nx+1:=om;have M:=L.trans (f2.trans G);have EB:=f.fm M;have V:=EB.k7;have qb:=(M.keep hb).trans K;have W:=((f2.trans G).keep (show H1.nx<Ha.nx by omega)).trans ka;have o3:=zk4 N O P Q R S (k:=h) om EB.sH k.ok (hp.no M) om i.lo i.asc (B _) F (i.fb (B _)) g λ_=>⟨v1,v2⟩;rw[eg]at o3;refine dS V qb ?_;refine Ok.ve o3 ?_;rintro _ H3 ⟨cw,rfl,h3,c3⟩;simp only[n,ai,KU]at h3 c3 ⊢;have Y:=h3.fm;have Z:=(Y.keep (show H1.nx<Hb.nx by omega)).trans W;have kb3:=(Y.keep (show z.nx<Hb.nx by omega)).trans kb;have q1:=zl5 (k:=h) om h3.gl c3 (ht.fm (M.trans Y)) (by have:=MR u1 u2;omega) 0;have q2:=A h H3 om;refine aS ?_;rw[kE FS];unfold FS;have e6:=xbj q nb w d x y;refine cF Z kb3 e6 dk q1 q2 ?_;exact Ok.ret rfl
variable {L:List (List Nat)}
theorem qrm(hN:iO C)(hE:fG C)(hO:qM C)(hS:pP C)(hR:pZ LA LO C)(hT:uK C){k:Nat}(hk:1100<=k)(i:∀k I,1<=k->C k (.f 35) [] I=.ok (.bool true) I){ls:List Q4}(hv:iD I sv L)(hq:Rs 4 Q4.cells I ov ls)(hn:T<256)(hp:b7<256)(F:b9<256)(hr:h<256):Ok (Pu (C k) (.agg [sv,ov]) (.agg [uN b7,uN b9,uN h]) (uN T) I) λh _=>h=.bool true:=by
 unfold Pu;have f0:Fm No I (aH (aH I (aB 0 [sv,ov])) (aB 0 [uN b7,uN b9,uN h])):=fm;simp(disch:=first|go_size|omega)only[go_sem,rB,rI,rK,rL,rN,rS,r6];refine Ok.ve (xbb (k:=k) om om (hq.fm f0) λX hX=>have r:=qZ.val (L:=L) ⟨hX⟩;⟨r.pr.sml,r.lo⟩) ?_;rintro _ H1 ⟨E,X,v,l,rfl,hs,O,hl,j,hlf,D,f1⟩;have h0:qZ L X:=⟨O⟩;have r:FOK X l:=⟨h0.sok,j,om,om,D⟩;have n1:=f1.nx;have k1:H1.get (I.nx+1)=aB 0 [uN b7,uN b9,uN h]:=(f1.keep gz).trans om;have f2:Fm No H1 ((aH H1 (aB 0 [.aA])).put H1.nx (aB 0 [E])):=fm;simp(disch:=first|go_size|omega)only[go_sem,rB,rI,rK,rL,rN,rS,r6];rw[kE Fj];unfold Fj;simp(disch:=first|go_size|omega)only[go_sem,rB,rI,rK,rL,rN,rS,r6];refine Ok.ve (z0p (k:=k) om om r.ok om j) ?_;rintro _ t ⟨av,lv,gv,rfl,P,Q⟩;have H:=f2.trans Q;have n3:=Q.nx;have k7:t.get H1.nx=aB 0 [E]:=(Q.keep gz).trans om;have k2:=(H.keep (b:=I.nx+1) om).trans k1;simp(disch:=first|go_size|omega)only[go_sem,rB,rI,rK,rL,rN,rS,r6];rw[kE Fk];unfold Fk;generalize hG:(Hp.put (aH t _) _ _)=G;have f4:Fm No t G:=om;have nG:G.nx=t.nx+1:=om;have k9:G.get t.nx=aB 0 [E,v,av,lv,gv]:=om;have J:Env X l G E v av lv gv H1.nx t.nx:=⟨om,k9,om,om,om,om⟩;have kq:=(f4.keep (b:=I.nx+1) om).trans k2;simp(disch:=go_size)only[go_sem,rB,rI,rK,rL,rN,rS,r6,k9,kq];refine Ok.ve (xb6 (k:=k) om (P.fm f4) hp F hr) ?_;rintro qr o ⟨R,f5⟩;have E3:=J.fm f5;have m:=λI=>i k I om;have B:∀a b c d e f x y z v w s:AV,aY [a,b,c,d,e,f] 0 [x,y,z,v,w,s]=[x,y,z,v,w,s]:=λ_ _ _ _ _ _ _ _ _ _ _ _=>rfl;rcases R with⟨cs,S,rfl⟩|⟨c1,c2,c3,c4,c5,rfl⟩|⟨g,hg,s,n,rfl⟩
 ·obtain⟨V,W,Y,Z,d4,d5,rfl⟩:∃V W Y Z d4 d5,cs=[V,W,Y,Z,d4,d5]:=by
   match cs,S with
   | [a,b,c,d,e,f],_=>exact⟨_,_,_,_,_,_,rfl⟩
  simp(disch:=go_size)only[go_sem,rB,rI,rK,rL,rN,rS,r6,B,nk,DP];rw[kE nO];unfold nO;simp(disch:=go_size)only[go_sem,rB,rI,rK,rL,rN,rS,r6];rw[kE nX];unfold nX;simp(disch:=go_size)only[go_sem,rB,rI,rK,rL,rN,rS,r6,m];exact Ok.ret rfl
 ·simp(disch:=go_size)only[go_sem,rB,rI,rK,rL,rN,rS,r6,B,nk,DP];rw[kE nO];unfold nO;simp(disch:=go_size)only[go_sem,rB,rI,rK,rL,rN,rS,r6];rw[kE nX];unfold nX;simp(disch:=go_size)only[go_sem,rB,rI,rK,rL,rN,rS,r6,m];exact Ok.ret rfl
 ·have hd:=xbp r.ok.val r.fit hg;have hu:(l9 Df&&l9 s)=true:=by rw[IL s n];decide
  have eq:ip g (Df,s)=[uN 1,.str g.1.1.n g.1.1.a,.str g.1.2.n g.1.2.a,.str g.2.n g.2.a,.str 4 1919251317,.str s.n s.a]:=rfl;obtain⟨u1,u2,u3⟩:=r.stk hd;have fq:Fm No o ((aH o (aB 0 [uN 0,zS,zS,zS,zS,zS])).put o.nx (aB 0 (ip g (Df,s)))):=fm;rw[eq]at fq ⊢;simp(disch:=go_size)only[go_sem,rB,rI,rK,rL,rN,rS,r6];rw[kE nO];unfold nO;simp(disch:=go_size)only[go_sem,rB,rI,rK,rL,rN,rS,r6];rw[kE nX];unfold nX;simp(disch:=go_size)only[go_sem,rB,rI,rK,rL,rN,rS,r6];rw[kE FL];unfold FL;generalize hHq:((aH o (aB 0 [uN 0,zS,zS,zS,zS,zS])).put o.nx (aB 0 [uN 1,.str g.1.1.n g.1.1.a,.str g.1.2.n g.1.2.a,.str g.2.n g.2.a,.str 4 1919251317,.str s.n s.a]))=Hq at *;have nq':Hq.nx=o.nx+1:=om;have qk:Hq.get o.nx=aB 0 [uN 1,.str g.1.1.n g.1.1.a,.str g.1.2.n g.1.2.a,.str g.2.n g.2.a,.str 4 1919251317,.str s.n s.a]:=om;have K:=E3.fm fq;have M:=K.k9;have tc:=zky (k:=k) om K.wd r.ok.val j r.ok.val.aBK u1 u2;have eg:gC g=[.str g.1.1.n g.1.1.a,.str g.1.2.n g.1.2.a,.str g.2.n g.2.a]:=rfl;rw[eg]at tc;simp(disch:=go_size)only[go_sem,rB,rI,rK,rL,rN,rS,r6,M,qk];refine Ok.ve tc ?_;rintro _ H4 ⟨tv,tc',rfl,U⟩;have N:=U.fm;have E4:=K.fm N;simp(disch:=go_size)only[go_sem,rB,rI,rK,rL,rN,rS,r6];rw[kE FM];unfold FM;have hn8:T%8<256:=om;simp(disch:=go_size)only[go_sem,rB,rI,rK,rL,rN,rS,r6];rw[kE FN];unfold FN;rw[dD];refine I7 E4.gl j U.gl (by have:=MR u1 u2;omega) (λw H5 A=>?_) bT 0 (T%8) .aA [] H4 om (by rw[rO];omega) om om rfl (Ac.nil 6 _ om);refine aX1 hN hE hO hS hR hT hk i r (E4.fm A.fm) (u:=(Df,s)) (by rw[eq];exact(A.fm.keep (by have:=N.nx;omega)).trans om) (by have:=A.fm.nx;have:=N.nx;omega) hd hu ((U.rs vV).fm A.fm) A.gl
def sq(e:Edge):Eg:=⟨.ofNat e.f,.ofNat e.t,e.s⟩
theorem K8(S:List Edge):(cS S).length=S.length*3:=by
 induction S with
 |nil=>rfl
 |cons a S ih=>unfold cS at *;rw[DM,nj,ih,cT,nk];omega
theorem z19(es:List Edge):(es.map sq).flatMap gS=cS es:=by
 induction es with
 |nil=>rfl
 |cons a l ih=>rw[og,DM,ih];rfl
theorem zna:∀es:List Edge,qqq (cS es)=some (es.map sq)
 | []=>rfl
 |a::l=>by show qqq (iN (a.f)::iN (a.t):: .bool a.s::cS l)=_;rw[qqq,zna l];rfl
theorem xbq(x y:Edge):kK (sq x) (sq y)=yC x y:=by unfold kK yC or3 sq sgB uW cI;simp only[s9,qI];by_cases h:qI (.ofNat x.f) (.ofNat y.f)=0<;>by_cases a:qI (.ofNat x.t) (.ofNat y.t)=0<;>unfold qI at h a<;>simp only[h,a,ai,pz]<;>(try split)<;>simp_all
theorem zka(es:List Edge):ph (es.map sq)=(sortE es).map sq:=
 (List.map_mergeSort λa _ b _=>by show(!decide (yC b a<0))=_;rw[xbq]).symm
theorem q4u(f c:FuncId)(e:cj){es:List Edge}(h:Gl 3 I sv es.length (cS es))(y:es.length<=1000000):∃r,xG f c e f [sv,.fn c [] []] I=some r/\Ok r λr d=>r=.aX []/\Gl 3 d sv es.length (cS (sortE es))/\Fm (In sv) I d:=by
 have g:∀n:Nat,Nat.beq n n=true:=λn=>uo n;rcases h.is with⟨rfl,s⟩|⟨b,o,x,q,L,rfl,i,t,j,u,w⟩
 ·have:es=[]:=lE5.1 s;subst this;refine⟨.ok (.aX []) I,?_,?_⟩
  ·unfold xG;simp only[g,AN]
  ·have k:sortE []=[]:=by simp[sortE]
   rw[k];exact Ok.ret ⟨rfl,h,Fm.refl _ _⟩
 ·have m:o+es.length*3=L.length:=by
   have:=congrArg List.length j;rw[oz,K8]at this;omega
  have a:(cS (sortE es)).length=es.length*3:=by rw[K8,UI]
  have p:C2 I b o es.length=some (.ok (.aX []) (I.put b (aB q (aY L o (cS (sortE es)))))):=by
   unfold C2;rw[i,y7,sB om,j,AQ (by rw[K8];omega)];simp only[zna,zka,z19];rw[h7 I b o _ _ q L i om];have:Nat.blt es.length 4611686018427387904=true:=by rw[Nat.blt_eq];omega
   simp only[this,AN]
  refine⟨_,by unfold xG;simp only[g,AN];exact p,Ok.ret ⟨rfl,⟨by rw[a],.inr ⟨b,o,x,q,aY L o (cS (sortE es)),rfl,gX _ _ _,?_,?_,u,w⟩⟩,(Fm.refl _ _).put b _ λ_=>⟨_,_,_,_,rfl⟩⟩⟩
  ·rw[A7 _ _ _ om];exact t
  ·unfold aY;rw[List.drop_of_length_le (l:=L) om,DN,oh (by rw[sY];omega),List.drop_of_length_le (by rw[sY];omega),au]
def IE(l:List AV):cZ:=.cells (gY l.length) l.length (cellsOf l) true 0
theorem zku(l:List AV)(o z:Nat)(h:o+z<=l.length):eY (IE l) o z=some ((l.drop o).take z):=by
 show(bif Nat.ble (o+z) l.length then some (Ev.xI (cellsOf l) z o)else none)=_;rw[ble_eq,j7 h,AN];congr 1
 induction z generalizing o with
 |zero=>simp;rfl
 |succ z ih=>show(dV _ o).f (cellsOf l)::Ev.xI (cellsOf l) z (o+1)=_;rw[ih (o+1) om,tz _ _ (AE (show o<l.length by omega) (gj _)),iP (show o<l.length by omega),qx];simp[vt,show o<l.length by omega]
theorem Uv(l:List AV)(o:Nat):cB (IE l) o=match l[o]? with|some v=>.val v|none=>.bad:=by
 show(bif Nat.blt o l.length then R0.val ((dV _ o).f (cellsOf l))else .bad)=_;rw[blt_eq];by_cases h:o<l.length
 ·rw[j7 h,tz _ _ (AE h (gj _))];simp[h]
 ·rw[sT h];simp[uz h]
theorem Ft(b:Nat):Hp.empty.get b=.dead:=by show(bif Nat.blt b 2097152 then(dV HD b).f (same cZ.dead HD)else cZ.dead)=cZ.dead;rw[wR];cases Nat.blt b 2097152<;>rfl
theorem d7(a:Addr)(x y:Nat):(a.add x).add y=a.add (x+y):=by
 unfold Addr.add;by_cases b:x=0
 ·subst b;simp
 ·by_cases c:y=0
  ·subst c;simp
  ·simp[b,c,af]
theorem Yc{a:Addr}(h:a.spot=none)(x:Nat):a.add x=⟨a.block,a.off+x,none⟩:=by
 obtain⟨c,d,e⟩:=a;cases h;unfold Addr.add;by_cases b:x=0
 ·subst b;simp
 ·simp[b]
variable{E:World}{J:Value}
theorem Me{a:Addr}(h:E.cell? a=some J):a.spot=none/\a.block<E.heap.size:=by
 unfold World.cell? at h;rcases hx:E.heap[a.block]? with _|o
 ·rw[hx]at h;cases h
 ·refine⟨?_,(lIU.1 hx).1⟩;rw[hx]at h;cases o with
  |cells c e z=>
   rcases hs:a.spot with _|s
   ·rfl
   ·rw[hs]at h;cases h
  |_=>cases h
structure Ro where
 l:List AV
 (b o:Nat)
def Ro.blk(k:Ro):cZ:=if k.l=[]then .dead else IE k.l
def ml(ks:List Ro):Hp:=ks.foldl (λH k=>aH H k.blk) Hp.empty
def Ay(ks:List Ro):Im:=λb=>(ks[b]?).map λk=>⟨k.b,k.o,0,0⟩
theorem Uq:∀(ks:List Ro) (H:Hp),(∀b,H.nx<=b->H.get b=.dead) -> (ks.foldl (λH k=>aH H k.blk) H).nx=H.nx+ks.length/\∀b,(ks.foldl (λH k=>aH H k.blk) H).get b=if b<H.nx then H.get b else match ks[b-H.nx]? with|some k=>k.blk|none=>.dead
 | [],H,h=>⟨rfl,λb=>by
  by_cases a:b<H.nx
  ·rw[sB a];rfl
  ·rw[sy a];exact h b om⟩
 |k::ks,H,h=>by
  obtain⟨e,f⟩:=Uq ks (aH H k.blk) (λb a=>by have:H.nx+1<=b:=a;rw[Nj,sy om];exact h b om);have d:(aH H k.blk).nx=H.nx+1:=rfl;rw[uh];refine⟨by rw[e,d,nk];omega,λb=>?_⟩;rw[f,d,Nj];by_cases a:b<H.nx
  ·rw[sB om,sy om,sB a]
  ·by_cases c:b=H.nx
   ·subst c;rw[sB (qh _),sB rfl,sy (dC _),gq];rfl
   ·rw[sy om,sy a,show b-H.nx=(b-(H.nx+1))+1 by omega,xu]
theorem nM(ks:List Ro):(ml ks).nx=ks.length/\∀b,(ml ks).get b=match ks[b]? with|some k=>k.blk|none=>.dead:=by obtain⟨a,c⟩:=Uq ks Hp.empty λb _=>Ft b;refine⟨by show(ks.foldl _ Hp.empty).nx=_;rw[a];exact nr _,λb=>?_⟩;show(ks.foldl _ Hp.empty).get b=_;rw[c,sy (show ¬b<Hp.empty.nx from ui b)];rfl
def aOB(w:World)(ι:Im)(k:Ro):Prop:=∀j (hj:j<k.l.length),∃V,w.cell? ⟨k.b,k.o+j,none⟩=some V/\aQ ι k.l[j] V/\V.oneCell=true
variable{ks:List Ro}
theorem xcd{w:World}(h:∀k∈ks,aOB w (Ay ks) k):HR (Ay ks) (ml ks) w/\∀b,((ml ks).get b).wr=false:=by
 have l:∀b,((ml ks).get b).wr=false:=λb=>by
  rw[(nM ks).2];split
  ·unfold Ro.blk;split<;>rfl
  ·rfl
 refine⟨⟨vG,λb _=>?_,λb m _ f e=>?_,λb c m p _ _ h=>?_,λb h=>?_,λb h _=>?_⟩,l⟩
 ·rw[(nM ks).2];by_cases a:b<ks.length
  ·rw[j0 a];show BR _ _ _ ks[b].blk;unfold Ro.blk;by_cases d:ks[b].l=[]
   ·rw[sB d];trivial
   rw[sy d];refine⟨⟨ks[b].b,ks[b].o,0,0⟩,by unfold Ay;rw[j0 a];rfl,⟨gj _,rfl⟩,λi g=>?_,λh=>by cases h⟩;obtain⟨V,j,n,o⟩:=h _ (sx a) i g;refine⟨V,j,?_,o,λh=>by cases h⟩;rw[tz _ _ (AE g (gj _))];simpa [g] using n
  ·rw[qp om];trivial
 ·unfold Ay at e;by_cases a:b<ks.length
  ·rw[(nM ks).2,j0 a]at f;rw[j0 a]at e;cases e;have d:ks[b].l≠[]:=λd=>by
    have:ks[b].blk=.dead:=by unfold Ro.blk;rw[sB d]
    simp only[this]at f;cases f
   obtain⟨V,j,_⟩:=h _ (sx a) 0 (lIO.2 d);exact(Me j).2
  ·rw[qp om]at e;cases e
 ·rw[l b]at h;cases h
 ·rw[(nM ks).1]at h;unfold Ay;rw[qp h];rfl
 ·rw[(nM ks).1]at h;rw[(nM ks).2,qp h]
variable{R:Ro}
theorem RH(h:ks[T]? =some R)(a:R.l≠[]):(ml ks).get T=IE R.l/\T<(ml ks).nx:=by rw[(nM ks).2,(nM ks).1,h];exact⟨sy a,(lAL.1 h).1⟩
theorem cA{f:α->List AV}(a:∀x,(f x).length=T)(l:List α){i j:Nat}(b:i<l.length)(c:j<T):(l.flatMap f)[i*T+j]? =(f l[i])[j]?:=by rw[<-oA a l i b,tu,sB c,iq]
structure Fl{α:Type}(w:World)(z:Nat)(f:α->List AV)(v:Value)(k:Nat)(y:AV)(l:List α)(r:Ro):Prop where
 one:v.oneCell=true
 rep:∀ι:Im,ι k=some ⟨r.b,r.o,0,0⟩->aQ ι y v
 eq:r.l=l.flatMap f
 ok:∀ι,aOB w ι r
 sl:((y=.aA\/y=.sle)/\l=[])\/∃m,y=.sl k 0 l.length m true
theorem Fl.rs{z:Nat}{f:α->List AV}{l:List α}(b:∀x,(f x).length=z)(p:0<z)(h:Fl E z f J T sv l R)(g:ks[T]? =some R):Rs z f (ml ks) sv l:=by
 rcases h.sl with⟨rfl|rfl,rfl⟩|⟨m,rfl⟩
 ·exact⟨rfl,λi a=>by simp at a⟩
 ·exact⟨rfl,λi a=>by simp at a⟩
 ·refine⟨rfl,λi a=>?_⟩;have e:=dN b l;have q:i*z+z<=l.length*z:=by
   have:(i+1)*z<=l.length*z:=vL z a;rw[bz,ut]at this;exact this
  obtain⟨d,n⟩:=RH g (by rw[h.eq];intro o;rw[o]at e;simp only[DP]at e;omega);rw[h.eq]at d;refine⟨T,0+i*z,sD _ _ _ _ _ _ _ _ a,n,⟨_,_,_,_,rfl⟩,?_,λj c=>?_⟩
  ·rw[d,nr,zku _ _ _ om,oA b l i a]
  ·rw[d,nr,Uv,cA b l a (by rw[b]at c;exact c),j0 c]
variable{M N:TypeId}{O:List Value}{P:Program}
theorem Vr{z:Nat}{f:α->List AV}(e:∀x,(f x).length=z)(cs:0<z){w:Type}{enc:TypeId×Value->w}{x:DataW w×List MemPlace}(U:P.underlying M=some (.slice N))(F:P.cellsOf N=z)(W:∀{n:Nat} {O:List Value} {x:DataW w×List MemPlace},DataW.trod enc P E 0 (λ_=>true) true n N O=some x->∃a:α,∀j,j<z->∃u V,(f a)[j]? =some u/\O[j]? =some V/\(∀ι:Im,aQ ι u V)/\V.oneCell=true)(h:DataW.trod enc P E 0 (λ_=>true) true T M O=some x)(k:Nat):∃v y l r,O=[v]/\Fl E z f v k y l r:=by
 rcases DataW.trod_slice U h with⟨q,_⟩|⟨a,len,A,H,S,n,_,B,_,_,Y,_,s,I,_⟩
 ·exact⟨_,.aA,[],⟨[],0,0⟩,q,rfl,λ_ _=>by simp only[aQ],rfl,λ_ j m=>by simp at m,.inl ⟨.inl rfl,rfl⟩⟩
 ·rcases Nat.eq_zero_or_pos len with q|q
  ·subst q;exact⟨_,.sle,[],⟨[],0,0⟩,B,rfl,λ_ _=>by simp only[aQ];exact⟨_,_,rfl⟩,rfl,λ_ j m=>by simp at m,.inl ⟨.inr rfl,rfl⟩⟩
  ·have c:∀i,i<len->∃b:α,∀j,j<z->∃u V,(f b)[j]? =some u/\E.cell? (a.add (i*z+j))=some V/\(∀ι:Im,aQ ι u V)/\V.oneCell=true:=by
    intro i p;have Q:=I i p;rw[j0 om,F,Option.bind_eq_some_iff]at Q;obtain⟨Z,h2,h3⟩:=Q;obtain⟨b,K⟩:=W h3;refine⟨b,λj m=>?_⟩;obtain⟨u,V,L,o,t⟩:=K j m;have D:=(World.cells?_some h2).2.2 j m;rw[d7,o]at D;exact⟨u,V,L,D,t⟩
   have d:a.spot=none:=by obtain⟨b,K⟩:=c 0 q;obtain⟨u,V,_,o,_⟩:=K 0 cs;rw[sL]at o;exact(Me (a:=a) o).1
   obtain⟨g,hg⟩:∃g:Nat->α,∀i,i<len->∀j,j<z->∃u V,(f (g i))[j]? =some u/\E.cell? (a.add (i*z+j))=some V/\(∀ι:Im,aQ ι u V)/\V.oneCell=true:=
    ⟨λi=>if h:i<len then Classical.choose (c i h)else Classical.choose (c 0 q),λi p=>by simp only[p,dif_pos];exact sZ (c i p)⟩
   refine⟨_,.sl k 0 len A true,(List.range len).map g,⟨((List.range len).map g).flatMap f,a.block,a.off⟩,B,rfl,λι X=>?_,rfl,λι J C=>?_,.inr ⟨A,g3⟩⟩
   ·simp only[aQ];refine⟨Y,_,X,?_⟩;obtain⟨ab,ao,az⟩:=a;cases d;rfl
   ·have G:J<len*z:=by
     have:=dN e ((List.range len).map g);simp only at C;rw[this]at C;simpa using C
    have p:J / z<len:=Nat.div_lt_of_lt_mul (by rw[uC];exact G);have m:=ah J cs;have N:J / z*z+J%z=J:=by rw[uC];exact Nat.div_add_mod J z
    obtain⟨u,V,L,o,t,D⟩:=hg _ p _ m;have R:=cA e ((List.range len).map g) (i:=J / z) (j:=J%z) (by simpa using p) m;rw[N]at R o;rw[Yc d]at o;refine⟨V,o,?_,D⟩;have:(((List.range len).map g).flatMap f)[J]? =some u:=by rw[R,<-L];simp
    rw[j0 C]at this;injection this with this;simp only[this];exact t ι
def AC(x:Fin 256):List AV:=[.int .u8 (.ofNat x.val)]
structure Nq where
 v:Value
 y:AV
 l:List (Fin 256)
 r:Ro
def Nq.Z(q:Nq):List Nat:=q.l.map Fin.val
structure Ns(w:World)(v:Value)(k b0:Nat)(y:AV)(qs:List Nq)(r:Ro):Prop where
 one:v.oneCell=true
 rep:∀ι:Im,ι k=some ⟨r.b,r.o,0,0⟩->aQ ι y v
 eq:r.l=qs.map Nq.y
 at':∀j (h:j<qs.length),w.cell? ⟨r.b,r.o+j,none⟩=some qs[j].v/\Fl w 1 AC qs[j].v (b0+j) qs[j].y qs[j].l qs[j].r
 sl:((y=.aA\/y=.sle)/\qs=[])\/∃m,y=.sl k 0 qs.length m true
theorem zb{enc:TypeId×Value->α}(d:P.underlying M=some (.int .u8)){x:DataW α×List MemPlace}(h:DataW.trod enc P E 0 (λ_=>true) true T M O=some x):∃a:Fin 256,O=[.int .u8 (.ofNat a.val)]:=by obtain⟨y,e,_,b⟩:=DataW.trod_int d h;simp only[Lit.wf,sA,mE]at b;have f:0<=y/\y<=255:=⟨b.1,b.2⟩;refine⟨⟨y.toNat,om⟩,?_⟩;rw[e];congr 2;show y=((y.toNat:Nat):Int);omega
variable{F:TypeId}
theorem aM9{enc:TypeId×Value->α}{x:DataW α×List MemPlace}(t:P.underlying M=some (.slice N))(e:P.underlying N=some (.slice F))(cs:P.underlying F=some (.int .u8))(C:P.cellsOf N=1)(D:P.cellsOf F=1)(h:DataW.trod enc P E 0 (λ_=>true) true T M O=some x)(k A:Nat):∃v y R r,O=[v]/\Ns E v k A y R r:=by
 rcases DataW.trod_slice t h with⟨m,_⟩|⟨a,len,p,u,K,n,_,s,_,_,S,_,L,G,_⟩
 ·exact⟨_,.aA,[],⟨[],0,0⟩,m,rfl,λ_ _=>by simp only[aQ],rfl,λj d=>by simp at d,.inl ⟨.inl rfl,rfl⟩⟩
 ·rcases Nat.eq_zero_or_pos len with m|m
  ·subst m;exact⟨_,.sle,[],⟨[],0,0⟩,s,rfl,λ_ _=>by simp only[aQ];exact⟨_,_,rfl⟩,rfl,λj d=>by simp at d,.inl ⟨.inr rfl,rfl⟩⟩
  ·have b:∀i,i<len->∃q:Nq,E.cell? (a.add i)=some q.v/\Fl E 1 AC q.v (A+i) q.y q.l q.r:=by
    intro i B;have I:=G i B;rw[j0 om,C,Option.bind_eq_some_iff,vx]at I;obtain⟨o,U,V⟩:=I;obtain⟨v,y,l,r,rfl,W⟩:=Vr (z:=1) (f:=AC) (λ_=>rfl) Nat.one_pos e D (λh=>by obtain⟨a,rfl⟩:=zb cs h;refine⟨a,λj d=>?_⟩;obtain rfl:j=0:=om;exact⟨_,_,rfl,rfl,λι=>by simp only[aQ],rfl⟩) V (A+i);have J:=(World.cells?_some U).2.2 0 om;rw[d7]at J;exact⟨⟨v,y,l,r⟩,J,W⟩
   have c:a.spot=none:=by obtain⟨q,X,_⟩:=b 0 m;exact(Me (a:=a) X).1
   obtain⟨g,Y⟩:∃g:Nat->Nq,∀i,i<len->E.cell? (a.add i)=some (g i).v/\Fl E 1 AC (g i).v (A+i) (g i).y (g i).l (g i).r:=
    ⟨λi=>if h:i<len then Classical.choose (b i h)else Classical.choose (b 0 m),λi B=>by simp only[B,dif_pos];exact sZ (b i B)⟩
   refine⟨_,.sl k 0 len p true,(List.range len).map g,⟨((List.range len).map g).map Nq.y,a.block,a.off⟩,s,rfl,λι Q=>?_,rfl,λj d=>?_,.inr ⟨p,g3⟩⟩
   ·simp only[aQ];refine⟨S,_,Q,?_⟩;obtain⟨Z,ao,az⟩:=a;cases c;rfl
   ·have w:j<len:=by simpa using d
    have:=Y j w;rw[Yc c]at this;simpa using this
theorem Ns.arg{c:List Nq}(h:Ns E J T b7 sv c R)(u:ks[T]? =some R)(A:∀j (e:j<c.length),ks[b7+j]? =some c[j].r):iD (ml ks) sv (c.map Nq.Z):=by
 refine⟨?_,⟨c.map Nq.y,⟨?_,λi g=>?_⟩,g3,λi g d=>?_⟩,λl B x n=>?_⟩
 ·rcases h.sl with⟨rfl|rfl,_⟩|⟨m,rfl⟩<;>rfl
 ·rw[vu];rcases h.sl with⟨rfl|rfl,rfl⟩|⟨m,rfl⟩<;>rfl
 ·have d:i<c.length:=by simpa using g
  rcases h.sl with⟨_,rfl⟩|⟨m,rfl⟩
  ·simp at d
  ·obtain⟨F,n⟩:=RH u (by rw[h.eq];intro t;rw[List.map_eq_nil_iff]at t;rw[t]at d;simp at d);refine⟨T,0+i*1,sD _ _ _ _ _ _ _ _ d,n,?_⟩;rw[F,Uv,h.eq,nr,vx,j0 g]
 ·have e:i<c.length:=by simpa using g
  have s:=(h.at' i e).2.rs (z:=1) (f:=AC) (λ_=>rfl) Nat.one_pos (A i e);have C:(c.map Nq.y)[i]=c[i].y:=g3;have D:cQ ((c.map Nq.Z)[i])=c[i].l.map λx=>.int .u8 (.ofNat x.val):=by simp[cQ,Nq.Z]
  rw[C,D];refine⟨by rw[s.len,vu],λj e=>?_⟩;obtain⟨b,o,G,H,_,_,I⟩:=s.at' j (by simpa using e);have w:=I 0 Nat.one_pos;exact⟨b,o,G,H,by rw[yw];exact w⟩
 ·obtain⟨q,_,rfl⟩:=lEA.1 B;obtain⟨a,_,rfl⟩:=lEA.1 n;exact a.isLt
theorem xbl{enc:TypeId×Value->α}{u y:TypeId}{Q:List Value}{U x2:DataW α×List MemPlace}(W:P.underlying M=some (.slice F))(X:P.underlying F=some (.slice u))(Y:P.underlying u=some (.int .u8))(A:P.cellsOf F=1)(B:P.cellsOf u=1)(C:P.underlying N=some (.slice y))(D:P.cellsOf y=4)(el2:∀{n:Nat} {cs:List Value} {x:DataW α×List MemPlace},DataW.trod enc P E 0 (λ_=>true) true n y cs=some x->∃a:Q4,∀j,j<4->∃u V,a.cells[j]? =some u/\cs[j]? =some V/\(∀ι:Im,aQ ι u V)/\V.oneCell=true)(w:DataW.trod enc P E 0 (λ_=>true) true b7 M O=some U)(o:DataW.trod enc P E 0 (λ_=>true) true T N Q=some x2):∃ι H i l p r,∃(L:List (List Nat)) (e:List Q4),O=[i]/\Q=[l]/\i.oneCell=true/\l.oneCell=true/\HR ι H E/\aQ ι p i/\aQ ι r l /\ iD H p L/\Rs 4 Q4.cells H r e/\∀b,(H.get b).wr=false:=by
 obtain⟨i,p,c,G,rfl,d⟩:=aM9 W X Y A B w 0 2;obtain⟨l,r,e,s,rfl,t⟩:=Vr (f:=Q4.cells) (λ_=>rfl) g4 C D el2 o 1;have R:∀j (g:j<c.length),([G,s]++c.map Nq.r)[2+j]? =some c[j].r:=λj g=>by rw[AM g3,AS,show 2+j-[G,s].length=j by simp,j0 g];rfl
 obtain⟨I,J⟩:=xcd (w:=E) (ks:=[G,s]++c.map Nq.r) (λk h=>by
  rw[lAJ,lEA]at h;rcases h with h|⟨q,K,rfl⟩
  ·simp only[lE4,List.not_mem_nil,or_false]at h;rcases h with rfl|rfl
   ·intro j g;have m:j<c.length:=by have:=g;rw[d.eq]at this;simpa using this
    obtain⟨w,o⟩:=d.at' j m;refine⟨_,w,?_,o.one⟩;have:k.l[j]=c[j].y:=by simp only[d.eq,yw]
    rw[this];refine o.rep _ ?_;show(([k,s]++c.map Nq.r)[2+j]?).map _=_;rw[R j m];rfl
   ·exact t.ok _
  ·obtain⟨j,g,rfl⟩:=ku K;exact(d.at' j g).2.ok _)
 exact⟨_,_,i,l,p,r,_,e,rfl,rfl,d.one,t.one,I,d.rep _ rfl,t.rep _ rfl,d.arg rfl R,t.rs (z:=4) (f:=Q4.cells) (λ_=>rfl) g4 rfl,J⟩
end Go.Di
end
