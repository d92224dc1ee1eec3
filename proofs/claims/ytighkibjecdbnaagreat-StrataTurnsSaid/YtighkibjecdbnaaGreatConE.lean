/-
 For StrataTurns: functions in direct style, their contracts, and the plain mathematics, part 5 of 10. No conditions beyond those that each theorem states.
-/
import Derived.Test.YtighkibjecdbnaaGreatConD
set_option linter.unusedSimpArgs false
set_option linter.unusedVariables false
open Nat renaming reduceAdd->rB,reduceMul->rI,reduceSub->rK,reduceLeDiff->rL,reduceEqDiff->rN,reduceShiftRight->rS,reduceAnd->r6
section
namespace Go.Di
open Go.Ev
variable {C:Nat->Ev.Call}
variable {H H' H0 Hb:Hp} {N gb i k n sb z:Nat} {X:List aM} {O:Ev.Call} {g:aM} {l:List AV} {sv:AV}
structure vS(X:List aM):Prop where
 n:X.length<=16
 r:∀ g∈X,g.gs.length<=16/\Nm g.name
 x:∀ g∈X,∀x∈g.gs,x.r.types.length<=8/\Nm x.r.name/\x.r.rule.Rt/\∀ t∈x.r.types,Nm t.sp/\(t.rl=sE\/Nm t.rl)
theorem vS.sml(h:vS X):vV X:=⟨by have:=h.n;omega,fun g a=>by have:=(h.r g a).1;omega,fun g a x b=>by have:=(h.x g a x b).1;omega⟩
structure PrB(X:List aM):Prop where
 n:X.length<=16
 r:∀ g∈X,g.gs.length<=16/\Nm g.name
 x:∀ g∈X,∀x∈g.gs,x.r.types.length<=8/\Nm x.r.name/\x.r.rule.Rb/\∀ t∈x.r.types,Nm t.sp/\(t.rl=sE\/Nm t.rl)
def Dp(X:List aM):Prop:=∀ g∈X,∀x∈g.gs,x.r.rule.depth<=8
theorem vS.dp(h:vS X):Dp X:=fun g a x b=>(h.x g a x b).2.2.1.dp
theorem vS.b(h:vS X):PrB X:=⟨h.n,h.r,fun g e x f=>by obtain⟨a,b,c,d⟩:=h.x g e x f;exact⟨a,b,⟨c.fit,fun _=>c.sz,by have:=c.dp;omega,by have:=c.sz;omega⟩,d⟩⟩
theorem qo9(d:kH C){j:Nat}(p:1<=j){ts:List jP}{tv:AV}{Hb:Hp}(e:Rs 2 tC Hb tv ts)(c:ts.length<=8)(b:∀ t∈ts,Nm t.sp/\(t.rl=sE\/Nm t.rl)){Q:pH}{q:pD}{qr:pB}(f:∀ H,Fm No Hb H->Ok (q H) Q):∀(k i:Nat) (H:Hp),i<=ts.length->ts.length-i<k->Fm No Hb H->Ok (q8a (C j) qr q tv (iN (ts.length)) k (iN i) H) Q
 |0,i,_,_,h,_=>by omega
 |k+1,i,H,hi,hk,hf=>by
  show Ok (zf4 (C j) _ _ _ _ (q8a (C j) _ _ _ _ k) _ H) Q;unfold zf4;obtain⟨m,rfl⟩:∃ m,j=m+1:=⟨j-1,by omega⟩;by_cases a:i<ts.length
  ·simp only[go_sem,a];unfold zf3;have v:=e.fm hf;obtain⟨w,x,u,y,_,n,z⟩:=v.at' i a;have r:=b ts[i] (lg a);have g:=(d m).p _ r.1;unfold tC SS.v at n;unfold SS.v at g;by_cases o:ts[i].rl.n=0/\ts[i].rl.a=0
   ·have l:=zg o;simp(disch:=first|omega|exact ti rfl)only[go_sem,seval,u,n,g,l];unfold q4e;simp(disch:=go_size)only[go_sem,rB,rI,rK,rL,rN,rS,r6];exact qo9 d p e c b f k (i+1) _ (by omega) (by omega) (hf.trans (by(repeat(first|exact Fm.refl _ _|assumption|refine Fm.push ?_ _|refine Fm.fC ?_ (by go_size)|refine Fm.aD ?_ _ _ (by go_size)))))
   ·have s:=(d m).p ts[i].rl (by
     rcases r.2 with h|h
     ·exact absurd ((mZ _ _).1 h) o
     ·exact h)
    unfold SS.v at s;simp(disch:=first|omega|exact ti rfl)only[go_sem,seval,u,n,g,o,s];unfold q4e;simp(disch:=go_size)only[go_sem,rB,rI,rK,rL,rN,rS,r6];exact qo9 d p e c b f k (i+1) _ (by omega) (by omega) (hf.trans (by(repeat(first|exact Fm.refl _ _|assumption|refine Fm.push ?_ _|refine Fm.fC ?_ (by go_size)|refine Fm.aD ?_ _ _ (by go_size)))))
  ·simp only[go_sem,a];exact f H hf
theorem z4j(n:aV C)(c:kH C)(x:18<=k){g:aT}(d:pG H g)(b:g.r.types.length<=8/\Nm g.r.name/\g.r.rule.Rb/\∀ t∈g.r.types,Nm t.sp/\(t.rl=sE\/Nm t.rl)):Ok (C k (.f 91) [.agg (eP g)] H) fun v H'=>v=iN ((if g.r.rule.depth<=8 then 0 else 3))/\Fm No H H':=by
 obtain⟨j,rfl⟩:∃ j,k=j+1+1:=⟨k-2,by omega⟩;rw[(n (j+1)).zCi];unfold zCi zzs;obtain⟨c0,i,l,m,a⟩:=d.ru.four;have h:eP g=[.str g.r.name.n g.r.name.a,g.tv,c0,i,l,m]:=by unfold eP;rw[a];rfl
 rw[h];have o:=(c j).p _ b.2.1;unfold SS.v at o;have u:¬ 8<g.r.types.length:=by omega
 have f:Fm No H (aN H (aB 0 [.str g.r.name.n g.r.name.a,g.tv,c0,i,l,m])):=by exact mG
 have p:=d.ty.fm f;have q:=p.len;simp(disch:=go_size)only[go_sem,rB,rI,rK,rL,rN,rS,r6,o,q,u];unfold zf2;simp(disch:=go_size)only[go_sem,rB,rI,rK,rL,rN,rS,r6,q];unfold zwg;rw[bW];refine qo9 c (by omega) p b.1 b.2.2.2 (fun s e=>?_) bL 0 _ (gy _) (by rw[bZ];omega) (Fm.refl _ _);unfold zf1;have k2:s.get H.nx=aB 0 [.str g.r.name.n g.r.name.a,g.tv,c0,i,l,m]:=(e.keep (by simp only[np,nq];omega)).trans (jA _ _);simp only[go_sem,k2];have r:=d.ru.fm (f.trans e);rw[a]at r;refine Ok.ve (zd0 n c (k:=j+1) (by omega) r b.2.2.1) ?_;rintro _ y ⟨rfl,w⟩;exact Ok.ret ⟨rfl,(f.trans e).trans w⟩
theorem qpc(n:aV C)(o:kH C){j:Nat}(p:18<=j){g:aM}{Hb:Hp}(r:yS Hb g)(d:g.gs.length<=16)(s:∀ x∈g.gs,x.r.types.length<=8/\Nm x.r.name/\x.r.rule.Rb/\∀ t∈x.r.types,Nm t.sp/\(t.rl=sE\/Nm t.rl)){Q:pH}{q:pD}{qr:pB}(y:(∀x∈g.gs,x.r.rule.depth<=8)->∀ H,Fm No Hb H->Ok (q H) Q)(u:(∃x∈g.gs,¬x.r.rule.depth<=8)->∀ H,Fm No Hb H->Ok (qr (iN 3) H) Q):∀(k i:Nat) (H:Hp),i<=g.gs.length->g.gs.length-i<k->(∀x∈g.gs.take i,x.r.rule.depth<=8)->Fm No Hb H->Ok (qu5 (C j) qr q g.rv (iN (g.gs.length)) k (iN i) H) Q
 |0,i,_,_,h,_,_=>by omega
 |k+1,i,H,hi,hk,hb,hf=>by
  show Ok (q4k (C j) _ _ _ _ (qu5 (C j) _ _ _ _ k) _ H) Q;unfold q4k;by_cases a:i<g.gs.length
  ·simp only[go_sem,a];unfold zgt;have v:=r.fm hf;obtain⟨G,I,z,J,_,_,_,w⟩:=v.at' i a;have e:=lg a;have c:=v.rel _ e;obtain⟨c0,A,B,D,m⟩:=c.ru.four;have f:eP g.gs[i]=[.str g.gs[i].r.name.n g.gs[i].r.name.a,g.gs[i].tv,c0,A,B,D]:=by unfold eP;rw[m];rfl
   have l:Fm No H ((aN H (aB 0 [.str 0 0,.aA,.int .u8 (.ofNat 0),.str 0 0,.str 0 0,.aA])).put H.nx (aB 0 (eP g.gs[i]))):=by exact nA
   have O:=z4j n o (k:=j) p (c.fm l) (s _ e);rw[f]at w l O;simp(disch:=omega)only[go_sem,seval,z,w];refine Ok.ve O ?_;rintro _ E ⟨rfl,F⟩;have fB:=(hf.trans l).trans F;by_cases hd:g.gs[i].r.rule.depth<=8
   ·rw[kz hd];unfold zgu;simp(disch:=go_size)only[go_sem,rB,rI,rK,rL,rN,rS,r6];refine qpc n o p r d s y u k (i+1) _ (by omega) (by omega) (fun x b=>?_) fB;rw[lw a]at b;rcases pg.1 b with b|b
    ·exact hb x b
    ·simp_all
   ·rw[lu hd];exact u ⟨_,e,hd⟩ E fB
  ·simp only[go_sem,a];rw[uh (by omega)]at hb;simp_all
theorem qs2(u:aV C)(o:kH C){j:Nat}(v:18<=j){sv:AV}{X:List aM}{Hb:Hp}(w:bM Hb sv X)(l:PrB X){Q:pH}{q:pD}{qr:pB}(E:Dp X->∀ H,Fm No Hb H->Ok (q H) Q)(d:¬ Dp X->∀ H,Fm No Hb H->Ok (qr (iN 3) H) Q):∀(k i:Nat) (H:Hp),i<=X.length->X.length-i<k->Dp (X.take i)->Fm No Hb H->Ok (qym (C j) qr q sv (iN (X.length)) k (iN i) H) Q
 |0,i,_,_,h,_,_=>by omega
 |k+1,i,H,hi,hk,hb,hf=>by
  show Ok (zgw (C j) _ _ _ _ (qym (C j) _ _ _ _ k) _ H) Q;unfold zgw;obtain⟨m,rfl⟩:∃ m,j=m+1:=⟨j-1,by omega⟩;have I:=l.n;by_cases c:i<X.length
  ·simp only[go_sem,c];unfold zgr;have p:=w.fm hf;obtain⟨J,K,G,L,_,D,_⟩:=p.rs.at' i c;have n:=lg c;unfold sI SS.v at D;have z:=l.r _ n;have A:=(o m).p _ z.2;unfold SS.v at A;have f:=p.sp _ n;have B:=f.len;have s:¬ 16<X[i].gs.length:=by omega
   simp(disch:=go_size)only[go_sem,rB,rI,rK,rL,rN,rS,r6,G,D,A,B,s];unfold zgs;simp(disch:=go_size)only[go_sem,rB,rI,rK,rL,rN,rS,r6,B];unfold zgx;rw[bW];have t:Fm No H ((aN H (aB 0 [.str 0 0,.aA])).put H.nx (aB 0 [.str X[i].name.n X[i].name.a,X[i].rv])):=by exact nA
   refine qpc u o v (f.fm t) z.1 (l.x _ n) (fun p y r=>?_) (fun⟨x,a,b⟩ y r=>d (fun F=>b (F _ n x a)) y ((hf.trans t).trans r)) bL 0 _ (gy _) (by rw[bZ];omega) (fun _ h=>by cases h) (Fm.refl _ _);unfold zgp;simp(disch:=go_size)only[go_sem,rB,rI,rK,rL,rN,rS,r6];refine qs2 u o v w l E d k (i+1) _ (by omega) (by omega) (fun g e=>?_) ((hf.trans t).trans r);rw[lw c]at e;rcases pg.1 e with e|e
   ·exact hb g e
   ·simp_all
  ·simp only[go_sem,c];rw[uh (by omega)]at hb;simp_all
open Classical in
theorem qtx(d:aV C)(l:kH C)(m:19<=k)(e:bM H sv X)(g:PrB X):Ok (C k (.f 62) [.agg [sv]] H) fun v H'=>v=iN ((if Dp X then 0 else 3))/\Fm No H H':=by
 obtain⟨j,rfl⟩:=aU m;rw[(d j).zBu];unfold zBu zz1;have f:Fm No H (aN H (aB 0 [sv])):=by exact mG
 have i:=e.rs.len;have o:=g.n;have c:¬ 16<X.length:=by omega
 simp(disch:=go_size)only[go_sem,rB,rI,rK,rL,rN,rS,r6,i,c];unfold zgq;simp(disch:=go_size)only[go_sem,rB,rI,rK,rL,rN,rS,r6,i];unfold zwl;rw[bW];refine qs2 d l (by omega) (e.fm f) g (fun a n b=>?_) (fun a n b=>?_) bL 0 _ (gy _) (by rw[bZ];omega) (fun _ h=>by cases h) (Fm.refl _ _)
 ·rw[kz a];exact Ok.ret ⟨rfl,f.trans b⟩
 ·rw[lu a];exact Ok.ret ⟨rfl,f.trans b⟩
theorem zou(b:aV C)(c:kH C)(d:19<=k)(e:bM H sv X)(a:vS X):Ok (C k (.f 62) [.agg [sv]] H) fun v H'=>v=iN 0/\Fm No H H':=(qtx b c d e a.b).mono fun _ _ h=>⟨by rw[h.1,kz a.dp],h.2⟩
theorem zmz(e:AV->AV->Option Bool)(k:AV)(i:Nat):qjm e k [] i=some none:=rfl
theorem zc5(e:AV->AV->Option Bool)(k:AV)(x:mD)(a:List mD)(i:Nat):qjm e k (x::a) i=match e k x.key with|some true=>some (some ⟨i,x⟩)|some false=>qjm e k a (i+1)|none=>none:=rfl
def eqPr:AV->AV->Option Bool:=l8 (eqFields [(p1,⟨iE⟩,0),(p1,⟨iE⟩,1)])
theorem qxt(s t:SS):iE s.v t.v=some (decide (s=t)):=by show some (Nat.beq s.n t.n&&Nat.beq s.a t.a)=_;rw[beq_eq,beq_eq,<-Bool.decide_and];congr 1;exact decide_eq_decide.2 (mZ s t).symm
theorem q67(p q:SS×SS):eqPr (.agg (pC p)) (.agg (pC q))=some (decide (p=q)):=by
 show andThen (iE p.1.v q.1.v) (andThen (iE p.2.v q.2.v) (some true))=_;rw[qxt,qxt];obtain⟨a,b⟩:=p;obtain⟨c,d⟩:=q;by_cases e:a=c
 ·by_cases f:b=d
  ·simp[e,f,andThen]
  ·simp[e,f,andThen]
 ·simp[e,andThen]
theorem qxr{α:Type}[DecidableEq α]{e:AV->AV->Option Bool}{d:α->AV}(g:∀ p q,e (d p) (d q)=some (decide (p=q)))(p:α):∀(c:List mD) (a:List α) (i:Nat),c.map mD.key=a.map d -> (p∉a->qjm e (d p) c i=some none)/\(p∈a->∃ x,c[a.findIdx fun q=>decide (q=p)]? =some x/\qjm e (d p) c i=some (some ⟨i+a.findIdx (fun q=>decide (q=p)),x⟩))
 | [],[],i,_=>⟨fun _=>zmz _ _ _,fun h=>by cases h⟩
 | [],_::_,_,h=>by cases h
 |_::_,[],_,h=>by cases h
 |x::c,q::a,i,h=>by
  injection h with h1 h2;obtain⟨n,k⟩:=qxr g p c a (i+1) h2;rw[zc5,h1,g];by_cases b:p=q
  ·subst b;refine⟨fun h=>absurd qy h,fun _=>⟨x,?_,?_⟩⟩
   ·simp[List.findIdx_cons]
   ·simp[List.findIdx_cons]
  ·have f:¬ q=p:=fun h=>b h.symm;refine⟨fun h=>?_,fun h=>?_⟩
   ·simp_all
   ·have j:p∈a:=by
     simp_all
    obtain⟨y,l,m⟩:=k j;refine⟨y,?_,?_⟩
    ·simp[List.findIdx_cons,f];exact l
    ·simp only[b,decide_false];rw[m];simp only[List.findIdx_cons,f,decide_false,aj];congr 3;omega
structure lS{α:Type}(ky:α->AV)(vl:Nat->Nat)(H:Hp)(b:Nat)(ps:List α):Prop where
 ex:∃ es c,H.get b=.map es c/\es.map mD.key=ps.map ky/\es.map mD.val=(List.range ps.length).map fun i=>iN ((vl i))
theorem lS.eq{α:Type}{a:α->AV}{vl:Nat->Nat}{b:Nat}{d:List α}(h:lS a vl H b d)(e:H'.get b=H.get b):lS a vl H' b d:=by obtain⟨f,c,g,i,j⟩:=h.ex;exact⟨f,c,e.trans g,i,j⟩
theorem lS.len{α:Type}{e:α->AV}{vl:Nat->Nat}{b:Nat}{a:List α}(h:lS e vl H b a):aAy H (.map b)=.val (iN (a.length)):=by
 obtain⟨d,c,g,i,j⟩:=h.ex;have f:d.length=a.length:=by have:=congrArg List.length i;simpa using this
 show(match H.get b with| .map d _=>R0.val (i64 d.length)|_=>.bad)=_;rw[g,<-f];rfl
theorem lS.look{α:Type}[DecidableEq α]{d:α->AV}{vl:Nat->Nat}{b:Nat}{a:List α}(h:lS d vl H b a){e:AV->AV->Option Bool}{s:Option Nat}(j:∀ p q,e (d p) (d q)=some (decide (p=q)))(k:∀ p,qie s (d p)=true)(z:AV)(g:Bool)(p:α):sK ⟨e,s⟩ z g H (.map b) (d p)=if p∈a then .val (bif g then .aX [iN ((vl (a.findIdx fun q=>decide (q=p)))),.bool true]else iN ((vl (a.findIdx fun q=>decide (q=p)))))else .val (bif g then .aX [z,.bool false]else z):=by
 obtain⟨f,c,n,o,w⟩:=h.ex;obtain⟨r,t⟩:=qxr j p f a 0 o;show(match(match H.get b with| .map f _=>some f|_=>none)with|some f=>z2i g z (bif qie s (d p)then qjm e (d p) f 0 else none)|none=>.bad)=_;rw[n,k];simp only[uC];by_cases i:p∈a
 ·rw[kz i];obtain⟨x,u,x2⟩:=t i;rw[x2];have l:x.val=iN ((vl (a.findIdx fun q=>decide (q=p)))):=by
   have m:(a.findIdx fun q=>decide (q=p))<a.length:=by rw[List.findIdx_lt_length];exact⟨p,i,by simp⟩
   have v:(f.map mD.val)[a.findIdx fun q=>decide (q=p)]? =some x.val:=by rw[xw,u];rfl
   simp_all
  show R0.val (bif g then .aX [x.val,.bool true]else x.val)=_;rw[l]
 ·rw[lu i,r i];rfl
theorem lS.upd{α:Type}[DecidableEq α]{a:α->AV}{vl:Nat->Nat}{b:Nat}{d:List α}(h:lS a vl H b d){e:AV->AV->Option Bool}{s:Option Nat}(g:∀ p q,e (a p) (a q)=some (decide (p=q)))(l:∀ p,qie s (a p)=true){p:α}(m:p∉d):∃k,qW ⟨e,s⟩ H (.map b) (a p) (iN ((vl d.length)))=.ok .undef (H.put b k)/\lS a vl (H.put b k) b (d++[p]):=by
 obtain⟨f,c,o,i,j⟩:=h.ex;obtain⟨r,_⟩:=qxr g p f d 0 i;refine⟨.map (f++[⟨a p,iN ((vl d.length)),c⟩]) (c+1),?_,⟨_,_,dL _ _ _,?_,?_⟩⟩
 ·have n:qxs ⟨e,s⟩ (a p) f=some none:=by
   show(bif qie s (a p)then qjm e (a p) f 0 else none)=_;simp_all
  unfold qW;simp_all
 ·simp_all
 ·rw[uj,j,ku,List.length_singleton,oz,uj];rfl
theorem lS.nil{α:Type}(a:α->AV)(vl:Nat->Nat){b c:Nat}(h:H.get b=.map [] c):lS a vl H b ([]:List α):=⟨[],c,h,rfl,rfl⟩
def kyP(p:SS×SS):AV:=.agg [.str p.1.n p.1.a,.str p.2.n p.2.a]
def kyS(s:SS):AV:=.str s.n s.a
theorem q0o(p q:SS×SS):l8 (eqFields [(p1,⟨iE⟩,0),(p1,⟨iE⟩,1)]) (kyP p) (kyP q)=some (decide (p=q)):=q67 p q
theorem zmg(p q:SS):iE (kyS p) (kyS q)=some (decide (p=q)):=qxt p q
abbrev iZ(H:Hp)(b:Nat)(ps:List (SS×SS)):Prop:=lS kyP id H b ps
abbrev rY(H:Hp)(b:Nat)(ss:List SS):Prop:=lS kyS (fun _=>1) H b ss
theorem iZ.find{b:Nat}{a:List (SS×SS)}(h:iZ H b a)(z:AV)(x y:SS)(c:(x,y)∈a):sK ⟨l8 (eqFields [(p1,⟨iE⟩,0),(p1,⟨iE⟩,1)]),some 2⟩ z true H (.map b) (.agg [.str x.n x.a,.str y.n y.a])=.val (.aX [iN ((a.findIdx fun q=>decide (q=(x,y)))),.bool true]):=by have:=h.look (s:=some 2) q0o (fun _=>rfl) z true (x,y);rw[kz c]at this;exact this
theorem iZ.aMv{b:Nat}{a:List (SS×SS)}(h:iZ H b a)(z:AV)(x y:SS)(c:(x,y)∈a):sK ⟨l8 (eqFields [(p1,⟨iE⟩,0),(p1,⟨iE⟩,1)]),some 2⟩ z false H (.map b) (.agg [.str x.n x.a,.str y.n y.a])=.val (iN ((a.findIdx fun q=>decide (q=(x,y))))):=by have:=h.look (s:=some 2) q0o (fun _=>rfl) z false (x,y);rw[kz c]at this;exact this
theorem iZ.miss{b:Nat}{a:List (SS×SS)}(h:iZ H b a)(z:AV)(x y:SS)(c:(x,y)∉a):sK ⟨l8 (eqFields [(p1,⟨iE⟩,0),(p1,⟨iE⟩,1)]),some 2⟩ z true H (.map b) (.agg [.str x.n x.a,.str y.n y.a])=.val (.aX [z,.bool false]):=by have:=h.look (s:=some 2) q0o (fun _=>rfl) z true (x,y);rw[lu c]at this;exact this
theorem iZ.put{b:Nat}{a:List (SS×SS)}(h:iZ H b a)(x y:SS)(c:(x,y)∉a):∃k,qW ⟨l8 (eqFields [(p1,⟨iE⟩,0),(p1,⟨iE⟩,1)]),some 2⟩ H (.map b) (.agg [.str x.n x.a,.str y.n y.a]) (iN (a.length))=.ok .undef (H.put b k)/\iZ (H.put b k) b (a++[(x,y)]):=
 h.upd (s:=some 2) q0o (fun _=>rfl) c
theorem rY.find{b:Nat}{a:List SS}(h:rY H b a)(z:AV)(x:SS)(c:x∈a):sK ⟨iE,none⟩ z false H (.map b) (.str x.n x.a)=.val (iN 1):=by have:=h.look (s:=none) zmg (fun _=>rfl) z false x;rw[kz c]at this;exact this
theorem rY.miss{b:Nat}{a:List SS}(h:rY H b a)(z:AV)(x:SS)(c:x∉a):sK ⟨iE,none⟩ z false H (.map b) (.str x.n x.a)=.val z:=by have:=h.look (s:=none) zmg (fun _=>rfl) z false x;rw[lu c]at this;exact this
theorem rY.put{b:Nat}{a:List SS}(h:rY H b a)(x:SS)(c:x∉a):∃k,qW ⟨iE,none⟩ H (.map b) (.str x.n x.a) (iN 1)=.ok .undef (H.put b k)/\rY (H.put b k) b (a++[x]):=
 h.upd (s:=none) zmg (fun _=>rfl) c
def ptC(q:Nat×Nat):List AV:=[.ptr q.1 q.2]
theorem q6q(q:Nat×Nat):(ptC q).length=1:=rfl
def nmC(q:SS×aT):List AV:=[q.1.v]
def kq(q:SS×aT):SS×SS:=(q.1,q.2.r.name)
def gM(X:List aM):List (SS×aT):=X.flatMap fun g=>g.gs.map fun x=>(g.name,x)
theorem qbw(X:List aM):(gM X).map kq=aJ X:=by unfold gM aJ;rw[List.map_flatMap];congr 1;funext g;rw[nz];rfl
structure PtR(H:Hp)(q:Nat×Nat)(x:aT):Prop where
 lt:q.1<H.nx
 nm:bK (H.get q.1) q.2=.val (.str x.r.name.n x.r.name.a)
 tv:bK (H.get q.1) (q.2+1)=.val x.tv
 ru:jG (H.get q.1) (q.2+2) 4=some x.cs
 all:jG (H.get q.1) q.2 6=some (eP x)
theorem PtR.fm{q:Nat×Nat}{x:aT}(h:PtR H q x)(f:Fm No H H'):PtR H' q x:=by have e:=f.keep h.lt;exact⟨lq h.lt f.nx,by rw[e];exact h.nm,by rw[e];exact h.tv,by rw[e];exact h.ru,by rw[e];exact h.all⟩
theorem yS.pt(h:yS H g)(a:i<g.gs.length):∃ b o,aG 6 g.rv (iN i)=.val (.ptr b o)/\PtR H (b,o) g.gs[i]:=by obtain⟨b,o,c,d,e,f,j,k⟩:=h.at' i a;exact⟨b,o,c,d,e,f,j,k⟩
structure IxI(H0 H:Hp)(ib mb nb:Nat)(sv av iv:AV)(ss:List SS)(rs:List (SS×aT))(qs:List (Nat×Nat)):Prop where
 blk:H.get ib=aB 0 [sv,.map mb,.map nb,av,iv]
 ms:rY H mb ss
 mn:iZ H nb (rs.map kq)
 a:Gl 1 H av qs.length (qs.flatMap ptC)
 i:Gl 1 H iv rs.length (rs.flatMap nmC)
 len:qs.length=rs.length
 pt:∀ i (h:i<qs.length) (h':i<rs.length),PtR H0 qs[i] rs[i].2
 o:H0.nx<=mb/\mb<nb/\nb<ib/\ib<H.nx
 an:∀ c,In av c->ib<c/\¬ In iv c
 rQ:∀ c,In iv c->ib<c
 fm:Fm No H0 H
theorem zb6(H:Hp)(b o x y:Nat):jX H (.ptr b o) (.ptr x y)=storeAt H b o [.ptr x y] .undef:=id rfl
theorem zdl(a b:Nat):zT (.ptr a b)=some [.ptr a b]:=id rfl
theorem z5v(a b c d e x:AV):aY [a,b,c,d,e] 3 [x]=[a,b,c,x,e]:=id rfl
theorem z5u(a b c d e x:AV):aY [a,b,c,d,e] 4 [x]=[a,b,c,d,x]:=id rfl
attribute [go_sem] zb6 zdl z5v z5u
theorem z2q{y:pB}{ib mb nb pb:Nat}{sv av iv:AV}{Y:List SS}{e:List (SS×aT)}{f:List (Nat×Nat)}(d:IxI H0 H ib mb nb sv av iv Y e f){x:aT}{i b o:Nat}(K:aG 6 g.rv (iN i)=.val (.ptr b o))(z:PtR H0 (b,o) x)(r:(g.name,x.r.name)∉e.map kq)(hi:i<1000)(n:H.get pb=aB 0 [.str g.name.n g.name.a,g.rv])(hpl:pb<H.nx)(hrl:e.length<=1000)(L:¬ In av pb/\¬ In iv pb/\ib<pb){Q:pH}(hg:∀ H' A B,IxI H0 H' ib mb nb sv A B Y (e++[(g.name,x)]) (f++[(b,o)])->Fm (fun c=>c=nb\/c=ib\/In av c\/In iv c) H H'->(∀c,In A c\/In B c->H.nx<=c)->Ok (y (iN ((i+1))) H') Q):Ok (q4l O y (.ptr ib 0) (.ptr pb 0) (iN i) H) Q:=by
 unfold q4l;obtain⟨o1,o2,o3,o4⟩:=d.o;have C:=d.blk;have p1:=z.fm d.fm;have r0:bK (H.get b) o=.val (.str x.r.name.n x.r.name.a):=p1.nm;have em:=d.mn.miss (iN 0) g.name x.r.name r;have la:=d.a.bS;have D:=d.len;have N:=qck (Gl.flat d.i) 63;simp(disch:=go_size)only[go_sem,rB,rI,rK,rL,rN,rS,r6,n,K,C,r0,em];obtain⟨k,eu,mu⟩:=d.mn.put g.name x.r.name r;rw[pz,<-D]at eu;simp(disch:=go_size)only[go_sem,rB,rI,rK,rL,rN,rS,r6,n,C,r0,la];refine Ok.xW eu ?_;unfold q4m;have p:∀ c,c≠nb->(H.put nb k).get c=H.get c:=fun c h=>eB _ _ _ _ h;have e1:(H.put nb k).get ib=aB 0 [sv,.map mb,.map nb,av,iv]:=(p _ (by omega)).trans C;have q1:(H.put nb k).get pb=aB 0 [.str g.name.n g.name.a,g.rv]:=(p _ (by omega)).trans n;simp only[go_sem,seval,e1,q1];have P:∀ c,In iv c->c<H.nx:=fun c a=>d.i.lt a;have g2:Gl 1 ((Hp.mk (H.put nb k).t (H.nx+23)).put (H.nx+7) (aB 0 [.ptr b o])) av f.length (f.flatMap ptC):=by refine d.a.keep (show H.nx<=H.nx+23 by omega) fun c a F=>?_;have:=(d.an c a).1;rw[eB _ _ _ _ (by omega)];exact p c (by omega)
 obtain⟨l,e2,a2,_,X,n2⟩:=g2.append (k:=1) (w:=8) (x:=[.ptr b o]) (by omega) rfl (by omega) (by omega);simp only[nq]at e2 a2 X n2;refine Ok.xW e2 ?_;have s:∀ c,c<H.nx->c≠nb->¬ In av c->l.get c=H.get c:=fun c Z M h3=>by refine(X.get c (show c<H.nx+23 by omega) h3).trans ?_;rw[eB _ _ _ _ (by omega)];exact p c M
 have E:¬ In av ib:=fun h=>by have:=(d.an ib h).1;omega
 have R:¬ In iv ib:=fun h=>by have:=d.rQ ib h;omega
 have S:=(s ib (by omega) (by omega) E).trans C;have T:=(s pb (by omega) (by omega) L.1).trans n;simp only[go_sem,seval,S,T,N];have g3:Gl 1 (l.put (H.nx+15) (aB 0 [.str g.name.n g.name.a])) iv e.length (e.flatMap nmC):=by refine d.i.keep (show H.nx<=l.nx by omega) fun c a F=>?_;have:=d.rQ c a;rw[eB _ _ _ _ (by omega)];exact s c F (by omega) fun h=>(d.an c h).2 a
 obtain⟨I,e3,a3,_,J,n3⟩:=g3.append (k:=1) (w:=16) (x:=[.str g.name.n g.name.a]) (by omega) rfl (by omega) (by omega);simp only[nq]at e3 a3 J n3;refine Ok.xW e3 ?_;have t:∀ c,c<H.nx->c≠nb->¬ In av c->¬ In iv c->I.get c=H.get c:=fun c Z M h3 h4=>by refine(J.get c (show c<l.nx by omega) h4).trans ?_;rw[eB _ _ _ _ (by omega)];simp_all
 have U:=(t ib (by omega) (by omega) E R).trans C;simp only[go_sem,seval,U];unfold zg3;simp(disch:=go_size)only[go_sem,rB,rI,rK,rL,rN,rS,r6];have u:∀ c,In (.sl (H.nx+23) 0 (f.length+1) (f.length+1) false) c->c=H.nx+23:=fun c a=>by obtain⟨_,_,_,_,a⟩:=a;simp_all
 have q:∀ c,In (.sl l.nx 0 (e.length+1) (e.length+1) false) c->c=l.nx:=fun c a=>by obtain⟨_,_,_,_,a⟩:=a;simp_all
 generalize v:((I.put ib (aB 0 [sv,.map mb,.map nb,.sl (H.nx+23) 0 (f.length+1) (f.length+1) false,iv])).put ib (aB 0 [sv,.map mb,.map nb,.sl (H.nx+23) 0 (f.length+1) (f.length+1) false,.sl l.nx 0 (e.length+1) (e.length+1) false]))=H4;have n4:H4.nx=I.nx:=by rw[<-v];rfl
 have j:∀ c,c≠ib->H4.get c=I.get c:=fun c h=>by rw[<-v,eB _ _ _ _ h,eB _ _ _ _ h]
 have b4:H4.get ib=aB 0 [sv,.map mb,.map nb,.sl (H.nx+23) 0 (f.length+1) (f.length+1) false,.sl l.nx 0 (e.length+1) (e.length+1) false]:=by rw[<-v];exact dL _ _ _
 have V:H4.get mb=H.get mb:=(j mb (by omega)).trans (t mb (by omega) (by omega) (fun h=>by have:=(d.an mb h).1;omega) (fun h=>by have:=d.rQ mb h;omega));have W:H4.get nb=(H.put nb k).get nb:=by refine(j nb (by omega)).trans ((J.get nb (show nb<l.nx by omega) (fun h=>by have:=d.rQ nb h;omega)).trans ?_);rw[eB _ _ _ _ (by omega)];refine(X.get nb (show nb<H.nx+23 by omega) (fun h=>by have:=(d.an nb h).1;omega)).trans ?_;rw[eB _ _ _ _ (by omega)];rfl
 have fF:Fm (fun c=>c=nb\/c=ib\/In av c\/In iv c) H H4:=⟨by omega,fun c a G=>(j c fun h=>G (.inr (.inl h))).trans (t c a (fun h=>G (.inl h)) (fun h=>G (.inr (.inr (.inl h)))) fun h=>G (.inr (.inr (.inr h))))⟩;refine hg H4 (.sl (H.nx+23) 0 (f.length+1) (f.length+1) false) (.sl l.nx 0 (e.length+1) (e.length+1) false) ⟨b4,d.ms.eq V,?_,?_,?_,?_,?_,⟨o1,o2,o3,by omega⟩,?_,?_,?_⟩ fF ?_
 ·rw[uj];exact mu.eq W
 ·rw[ku,vk,vw];refine a2.keep (by omega) fun c a F=>?_;have:=u c a;rw[j c (by omega),J.get c (show c<l.nx by omega) (fun h=>by have:=P c h;omega),eB _ _ _ _ (by omega)]
 ·rw[ku,vk,vw];refine a3.keep (by omega) fun c a F=>?_;have:=q c a;exact j c (by omega)
 ·simp[D]
 ·intro m Z M;rw[List.getElem_append,List.getElem_append];split
  ·rename_i h;rw[dif_pos (by omega)];exact d.pt m h (by omega)
  ·rename_i h;rw[dif_neg (by omega)];simpa using z
 ·intro c a;have:=u c a;refine⟨by omega,fun h=>?_⟩;have:=q c h;omega
 ·intro c a;have:=q c a;omega
 ·refine d.fm.then fF fun c a h=>?_;rcases h with h|h|h|h
  ·omega
  ·omega
  ·have:=(d.an c h).1;omega
  ·have:=d.rQ c h;omega
 ·intro c a;rcases a with a|a
  ·have:=u c a;omega
  ·have:=q c a;omega
theorem qlo{α:Type}{l:List α}(h:l.Nodup)(b:i<l.length):l[i]∉l.take i:=fun c=>by obtain⟨j,a,e⟩:=yj c;rw[List.getElem_take]at e;exact uf.1 h j i (by simp at a;omega) b (by simp at a;omega) e
theorem qcg{α β:Type}(g:α->List β)(c:Nat):∀ l:List α,(∀x∈l,(g x).length<=c)->(l.flatMap g).length<=c*l.length
 | [],_=>by simp
 |a::l,h=>by rw[xF,ku,gz,Nat.mul_add,qg];have:=qcg g c l fun x b=>h x (uu _ b);have:=h a qy;omega
theorem vS.len(h:vS X):(gM X).length<=256:=by
 have:=qcg (fun g:aM=>g.gs.map fun x=>(g.name,x)) 16 X fun g a=>by rw[pz];exact(h.r g a).1
 have:=h.n;unfold gM;omega
def dY(X:List aM)(s:Nat):List (SS×aT):=gM (X.take s)
theorem q99(X:List aM)(s:Nat):(dY X s).length<=(gM X).length:=by
 unfold dY gM
 conv=>rhs;rw[<-oq s X,vk,ku]
 omega
theorem zlh{s i:Nat}(a:s<X.length)(b:i<X[s].gs.length):∃ Z,gM X=(dY X s++(X[s].gs.take i).map fun x=>(X[s].name,x))++(X[s].name,X[s].gs[i])::Z:=by
 refine⟨(X[s].gs.drop (i+1)).map (fun x=>(X[s].name,x))++gM (X.drop (s+1)),?_⟩;have c:X=X.take s++X[s]::X.drop (s+1):=by rw[<-uo a,oq]
 have d:X[s].gs=X[s].gs.take i++X[s].gs[i]::X[s].gs.drop (i+1):=by rw[<-uo b,oq]
 unfold dY gM
 conv=>lhs;rw[c,vk,xF]
 conv=>lhs;rw[d,uj,au]
 simp
theorem q98(a:(aJ X).Nodup){s i:Nat}(b:s<X.length)(c:i<X[s].gs.length):(X[s].name,X[s].gs[i].r.name)∉(dY X s++(X[s].gs.take i).map fun x=>(X[s].name,x)).map kq:=by obtain⟨Z,h⟩:=zlh b c;rw[<-qbw,h,uj,au]at a;intro d;exact(yh.1 a).2.2 _ d (kq (X[s].name,X[s].gs[i])) qy rfl
theorem zaq{O:Ev.Call}{H0 Hb:Hp}{ib mb nb pb:Nat}{sv:AV}{p:List SS}{X:List aM}(r:bM H0 sv X)(t:(aJ X).Nodup)(v:(gM X).length<=256){s:Nat}(e:s<X.length)(f:X[s].gs.length<=16){Q:pH}{q:pD}(u:∀ H av iv c,IxI H0 H ib mb nb sv av iv p (dY X s++X[s].gs.map fun x=>(X[s].name,x)) c->Hb.nx<=H.nx->Ok (q H) Q):∀(k i:Nat) (H:Hp) (av iv:AV) (c:List (Nat×Nat)),i<=X[s].gs.length->X[s].gs.length-i<k->IxI H0 H ib mb nb sv av iv p (dY X s++(X[s].gs.take i).map fun x=>(X[s].name,x)) c -> H.get pb=aB 0 [.str X[s].name.n X[s].name.a,X[s].rv]->pb<H.nx->(¬In av pb/\¬ In iv pb/\ib<pb)->Hb.nx<=H.nx -> Ok (qu6 O q (.ptr ib 0) (.ptr pb 0) (iN (X[s].gs.length)) k (iN i) H) Q
 |0,i,_,_,_,_,_,h,_,_,_,_,_=>by omega
 |k+1,i,H,av,iv,c,hi,hk,hI,hpb,hpl,hpn,hbn=>by
  show Ok (q4o O _ _ _ _ (qu6 O _ _ _ _ k) _ H) Q;unfold q4o;by_cases a:i<X[s].gs.length
  ·simp only[go_sem,a];obtain⟨b,o,y,p1⟩:=(r.sp _ (lg e)).pt a;have n:(dY X s++(X[s].gs.take i).map fun x=>(X[s].name,x)).length<=1000:=by
    have:=q99 X s;rw[ku,pz,ry];omega
   obtain⟨z,A,B,C⟩:=hI.o;refine z2q hI y p1 (q98 t e a) (by omega) hpb hpl n hpn fun H' g j l m d=>?_;refine zaq r t v e f u k (i+1) H' g j (c++[(b,o)]) (by omega) (by omega) ?_ ((m.get pb hpl fun h=>?_).trans hpb) (lq hpl m.nx) ⟨fun h=>?_,fun h=>?_,hpn.2.2⟩ (rq hbn m.nx)
   ·rw[lw a,uj,ah,<-rf];exact l
   ·rcases h with h|h|h|h
    ·omega
    ·omega
    ·exact hpn.1 h
    ·exact hpn.2.1 h
   ·have:=d pb (.inl h);omega
   ·have:=d pb (.inr h);omega
  ·simp only[go_sem,a];have w:i=X[s].gs.length:=by omega
   rw[w,uz]at hI;exact u H av iv c hI hbn
theorem zao{O:Ev.Call}{H0:Hp}{ib mb nb:Nat}{sv:AV}{X:List aM}(m:bM H0 sv X)(C:(aJ X).Nodup)(D:(X.map aM.name).Nodup)(n:vS X){Q:pH}{q:pD}(E:∀ H av iv d,IxI H0 H ib mb nb sv av iv (X.map aM.name) (gM X) d->Ok (q H) Q):∀(k s:Nat) (H:Hp) (av iv:AV) (d:List (Nat×Nat)),s<=X.length->X.length-s<k->IxI H0 H ib mb nb sv av iv ((X.take s).map aM.name) (dY X s) d -> Ok (qn0 O q (.ptr ib 0) sv (iN (X.length)) k (iN s) H) Q
 |0,s,_,_,_,_,_,h,_=>by omega
 |k+1,s,H,av,iv,d,hs,hk,hI=>by
  show Ok (q4p O _ _ _ _ (qn0 O _ _ _ _ k) _ H) Q;unfold q4p;have hn:=n.n;by_cases a:s<X.length
  ·simp only[go_sem,a];unfold zg1;have o:=m.fm hI.fm;obtain⟨b1,J,V,e2,_,K,_⟩:=o.rs.at' s a;unfold sI SS.v at K;have G:=lg a;obtain⟨J,W,Y,L⟩:=hI.o;have I:=hI.blk;have b:X[s].name∉(X.take s).map aM.name:=by
    have F:=qlo D (i:=s) (by simpa using a);simp_all
   have u:Fm No H ((aN H (aB 0 [.str 0 0,.aA])).put H.nx (aB 0 [.str X[s].name.n X[s].name.a,X[s].rv])):=by exact nA
   have j:rY ((aN H (aB 0 [.str 0 0,.aA])).put H.nx (aB 0 [.str X[s].name.n X[s].name.a,X[s].rv])) mb ((X.take s).map aM.name):=hI.ms.eq (u.keep (by omega));have S:=j.miss (iN 0) X[s].name b;have v:=(u.keep L).trans I;have w:sK ⟨iE,none⟩ (iN 0) false ⟨((aN H (aB 0 [.str 0 0,.aA])).put H.nx (aB 0 [.str X[s].name.n X[s].name.a,X[s].rv])).t,H.nx+1⟩ (.map mb) (.str X[s].name.n X[s].name.a)=.val (iN 0):=S;simp(disch:=go_size)only[go_sem,rB,rI,rK,rL,rN,rS,r6,V,K,v,w];obtain⟨Z,eu,M⟩:=j.put X[s].name b;refine Ok.xW eu ?_;have y:=m.sp _ G;have g:=y.len;have z:=(n.r _ G).1;simp(disch:=omega)only[go_sem,seval,g];unfold zg4;rw[bW];generalize e:((aN H (aB 0 [.str 0 0,.aA])).put H.nx (aB 0 [.str X[s].name.n X[s].name.a,X[s].rv])).put mb Z=H2 at M;have n2:H2.nx=H.nx+1:=by rw[<-e];rfl
   have l:∀ c,c<H.nx->c≠mb->H2.get c=H.get c:=fun c o F=>by rw[<-e,eB _ _ _ _ F];exact u.keep o
   have A:H2.get H.nx=aB 0 [.str X[s].name.n X[s].name.a,X[s].rv]:=by rw[<-e,eB _ _ _ _ (by omega)];exact dL _ _ _
   have B:IxI H0 H2 ib mb nb sv av iv ((X.take s).map aM.name++[X[s].name]) (dY X s++(X[s].gs.take 0).map fun x=>(X[s].name,x)) d:=by
    rw[lAP,lE7,ut];refine⟨(l ib L (by omega)).trans I,M,hI.mn.eq (l nb (by omega) (by omega)),hI.a.keep (by omega) fun c f g=>l c g ?_,hI.i.keep (by omega) fun c f g=>l c g ?_,hI.len,hI.pt,⟨J,W,Y,by omega⟩,hI.an,hI.rQ,?_⟩
    ·have:=(hI.an c f).1;omega
    ·have:=hI.rQ c f;omega
    ·exact⟨by have:=hI.fm.nx;omega,fun c f _=>(l c (lq f hI.fm.nx) (by omega)).trans (hI.fm.keep f)⟩
   refine zaq m C n.len a z (Hb:=H2) (fun N p r t P R=>?_) bL 0 H2 av iv d (gy _) (by rw[bZ];omega) B A (by omega) ⟨fun h=>?_,fun h=>?_,by omega⟩ (lh _)
   ·unfold q4n;simp(disch:=go_size)only[go_sem,rB,rI,rK,rL,rN,rS,r6];refine zao m C D n E k (s+1) N p r t (by omega) (by omega) ?_;have T:dY X (s+1)=dY X s++X[s].gs.map fun x=>(X[s].name,x):=by
     unfold dY gM;rw[lw a,vk,vw]
    rw[lw a,uj,ah,T];exact P
   ·have:=hI.a.lt h;omega
   ·have:=hI.i.lt h;omega
  ·simp only[go_sem,a];have U:s=X.length:=by omega
   rw[U,uz]at hI;refine E H av iv d ?_;have:dY X X.length=gM X:=by unfold dY;rw[uz]
   simp_all
structure yK(H:Hp)(ib:Nat)(sv:AV)(X:List aM):Prop where
 ex:∃ mb nb av iv qs,H.get ib=aB 0 [sv,.map mb,.map nb,av,iv]/\rY H mb (X.map aM.name)/\iZ H nb (aJ X)/\Rs 1 ptC H av qs/\Rs 1 nmC H iv (gM X)/\vL av=true/\vL iv=true/\qs.length=(gM X).length /\
  (∀i (h:i<qs.length) (h':i<(gM X).length),PtR H qs[i] (gM X)[i].2)/\mb<H.nx/\nb<H.nx
 lt:ib<H.nx
theorem yK.fm{ib:Nat}(h:yK H ib sv X)(f:Fm No H H'):yK H' ib sv X:=by obtain⟨mb,nb,av,iv,e,g,j,k,l,m,n,o,p,q,c,d⟩:=h.ex;exact⟨⟨mb,nb,av,iv,e,(f.keep h.lt).trans g,j.eq (f.keep c),k.eq (f.keep d),l.fm f,m.fm f,n,o,p,fun i a b=>(q i a b).fm f,lq c f.nx,lq d f.nx⟩,lq h.lt f.nx⟩
theorem z2c(q:SS×aT):(nmC q).length=1:=rfl
theorem zye(p:aV C)(q:1<=k)(l:bM H sv X)(m:vS X)(s:(aJ X).Nodup)(t:(X.map aM.name).Nodup):Ok (C k (.f 61) [.agg [sv]] H) fun r H'=>∃ ib,r=.ptr ib 0/\yK H' ib sv X/\Fm No H H':=by
 obtain⟨j,rfl⟩:=aU q;rw[(p j).zBr];unfold zBr zz3;have n:=l.rs.len;have A:=m.n;have f:zT sv=some [sv]:=by cases sv<;>first|rfl|(exfalso;revert n;exact fun h=>by cases h)
 have g:∀ b,zT (.map b)=some [.map b]:=fun b=>rfl;simp(disch:=first|go_size|omega)only[go_sem,seval,f,n,g];unfold zg5;rw[bW];generalize e:aN (aN (aN (aN H (aB 0 [sv])) (.map [] 0)) (.map [] 0)) (aB 0 [sv,.map (H.nx+1),.map (H.nx+1+1),.aA,.aA])=H1;have v:Fm No H H1:=by rw[<-e];exact fP4
 have B:H1.nx=H.nx+4:=by rw[<-e];rfl
 have w:H1.get (H.nx+1)=.map [] 0:=by rw[<-e];simp(disch:=first|go_size|omega)only[go_sem,rB,rI,rK,rL,rN,rS,r6]
 have k2:H1.get (H.nx+1+1)=.map [] 0:=by rw[<-e];simp(disch:=first|go_size|omega)only[go_sem,rB,rI,rK,rL,rN,rS,r6]
 have x:H1.get (H.nx+1+1+1)=aB 0 [sv,.map (H.nx+1),.map (H.nx+1+1),.aA,.aA]:=by rw[<-e];simp(disch:=go_size)only[go_sem,rB,rI,rK,rL,rN,rS,r6]
 have o:∀ c,¬In AV.aA c:=fun c h=>by obtain⟨_,_,_,_,h⟩:=h;cases h
 refine zao l s t m (fun z av iv u d=>?_) bL 0 H1 .aA .aA [] (gy _) (by rw[bZ];omega) ⟨x,lS.nil _ _ w,lS.nil _ _ k2,Gl.nil 1 _,Gl.nil 1 _,rfl,fun i h=>by simp at h,⟨by omega,by omega,by omega,by omega⟩,fun c h=>absurd h (o c),fun c h=>absurd h (o c),v⟩;obtain⟨D,E,F,y⟩:=d.o;refine Ok.ret ⟨_,rfl,⟨⟨_,_,av,iv,u,d.blk,d.ms,?_,d.a.rs q6q,d.i.rs z2c,Gl.flat d.a,Gl.flat d.i,d.len,fun i a b=>(d.pt i a b).fm d.fm,by omega,by omega⟩,y⟩,d.fm⟩;have:=d.mn;rw[qbw]at this;exact this
structure bX(X:List aM):Prop where
 pr:vS X
 al:(aJ X).Nodup
 sp:(X.map aM.name).Nodup
 ty:∀ g∈X,∀x∈g.gs,x.r.types.Nodup/\∀ t∈x.r.types,t.sp∈X.map aM.name/\(t.rl=sE\/(t.sp,t.rl)∈aJ X)
 nd:∀ g∈X,∀x∈g.gs,∀y∈x.r.rule.nodes false,(y.k=2\/y.k=3->(g.name,y.rl)∈aJ X)/\(y.k=3->pE X g.name y.rl y.to≠[])
 us:∀ g∈X,∀x∈g.gs,((x.r.rule.nodes false).any (fun n=>decide (n.k=1))=true->x.r.types≠[])/\((x.r.rule.nodes false).any (fun n=>decide (n.k=1))=false->x.r.types≠[]->(g.gs.any fun z=>dV z.r.rule 3 x.r.name)=true)
theorem qjb{a:SS}{x:aT}:(a,x)∈gM X↔∃ g∈X,x∈g.gs/\g.name=a:=by
 unfold gM;rw[dE];constructor
 ·rintro ⟨g,b,h⟩;rw[qj]at h;obtain⟨y,c,e⟩:=h;injection e with e1 e2;subst e2;exact⟨g,b,c,e1⟩
 ·simp
theorem qg6{a b:SS}:(a,b)∈aJ X↔∃ g∈X,∃x∈g.gs,g.name=a/\x.r.name=b:=by
 rw[<-qbw,qj];constructor
 ·rintro ⟨⟨f,x⟩,h,e⟩;injection e with e1 e2;subst e1;obtain⟨g,c,d,e⟩:=qjb.1 h;exact⟨g,c,x,d,e,e2⟩
 ·rintro ⟨g,c,x,d,rfl,rfl⟩;exact⟨(g.name,x),qjb.2 ⟨g,c,d,rfl⟩,rfl⟩
theorem qpn{α β:Type}{f:α->β}:∀{l:List α},(l.map f).Nodup->∀{x y:α},x∈l->y∈l->f x=f y->x=y
 | [],_,_,_,h,_,_=>by cases h
 |a::l,hn,x,y,hx,hy,e=>by
  rw[au,lAY]at hn;rcases qm.1 hx with c|c
  ·rcases qm.1 hy with b|b
   ·rw[c,b]
   ·exact absurd (by rw[<-c,e];exact zo b) hn.1
  ·rcases qm.1 hy with b|b
   ·simp_all
   ·exact qpn hn.2 c b e
theorem qpv{α:Type}[DecidableEq α]{l:List α}(h:l.Nodup)(a:i<l.length):(l.findIdx fun q=>decide (q=l[i]))=i:=by rw[List.findIdx_eq a];refine⟨by simp,fun j b=>?_⟩;have:=uf.1 h j i (by omega) a b;simp_all
theorem qgh(f:(aJ X).Nodup)(j:(X.map aM.name).Nodup){a b:SS}(h:(a,b)∈aJ X):∃ x,mF X a b=some x/\(gM X)[bR X a b]? =some (a,x):=by
 obtain⟨g,m,x,w,rfl,rfl⟩:=qg6.1 h;have r:X.find? (fun p=>decide (p.name=g.name))=some g:=by
  cases c:X.find? (fun p=>decide (p.name=g.name))with
  |none=>rw[lAG]at c;exact absurd (c g m) (by simp)
  |some p=>
   have e:p.name=g.name:=by simpa using lE0 c
   rw[qpn j (zq c) m e]
 obtain⟨y,o⟩:∃ y,g.gs.find? (fun z=>decide (z.r.name=x.r.name))=some y:=by
  cases c:g.gs.find? (fun z=>decide (z.r.name=x.r.name))with
  |none=>rw[lAG]at c;exact absurd (c x w) (by simp)
  |some y=>exact⟨y,rfl⟩
 have k:mF X g.name x.r.name=some y:=by unfold mF;rw[r];exact o
 have s:y.r.name=x.r.name:=by simpa using lE0 o
 refine⟨y,k,?_⟩;have t:(g.name,y)∈gM X:=qjb.2 ⟨g,m,zq o,rfl⟩;obtain⟨n,q,e⟩:=yj t;have u:(gM X).length=(aJ X).length:=by rw[<-qbw,pz]
 have v:(aJ X)[n]'(by omega)=(g.name,x.r.name):=by
  have d:(aJ X)[n]? =some (kq (gM X)[n]):=by rw[<-qbw,xw,lL q];rfl
  rw[lL (by omega)]at d;injection d with d;rw[d,e];show(g.name,y.r.name)=_;rw[s]
 have l:bR X g.name x.r.name=n:=by have:=qpv f (i:=n) (by omega);rw[v]at this;exact this
 rw[l,lL q,e]
theorem qe9(c:(aJ X).Nodup)(d:(X.map aM.name).Nodup)(a b:SS):(mF X a b).isSome=decide ((a,b)∈aJ X):=by
 by_cases h:(a,b)∈aJ X
 ·obtain⟨x,k,_⟩:=qgh c d h;simp_all
 ·rw[uA h];cases j:mF X a b with
  |none=>rfl
  |some x=>obtain⟨p,e,f,g,i⟩:=qg2 j;exact absurd (qg6.2 ⟨p,e,x,f,g,i⟩) h
theorem zt8(a b:Nat):qp4 (.ptr a b) .cK=some false:=id rfl
theorem zt9:qp4 .cK .cK=some true:=id rfl
theorem zds(n b:Bool):pX n (some b)=.val (.bool (bif n then !b else b)):=id rfl
attribute [go_sem] zt8 zt9 zds
theorem qg7(m:aV C)(n:1<=k){ib:Nat}(o:yK H ib sv X)(d:(aJ X).Nodup)(e:(X.map aM.name).Nodup){a b:SS}(h:(a,b)∈aJ X):∃q x,mF X a b=some x/\C k (.f 65) [.ptr ib 0,.str a.n a.a,.str b.n b.a] H=.ok (.ptr q.1 q.2) H/\PtR H q x:=by
 obtain⟨j,rfl⟩:=aU n;obtain⟨x,t,D⟩:=qgh d e h;obtain⟨mb,nb,av,iv,c,l,E,u,v,F,G,I,J,w,K,L⟩:=o.ex;have p:=q0g h;have r:(gM X).length=(aJ X).length:=by rw[<-qbw,pz]
 have g:bR X a b<c.length:=by omega
 obtain⟨y,z,A,M,_,_,B⟩:=v.at' _ g;have s:bK (H.get y) z=.val (.ptr c[bR X a b].1 c[bR X a b].2):=B 0 (by rw[q6q];omega);refine⟨c[bR X a b],x,t,?_,?_⟩
 ·rw[(m j).zBx];unfold zBx zqw;have i:=u.find (iN 0) a b h;have f:(List.findIdx (fun q=>decide (q=(a,b))) (aJ X))=bR X a b:=rfl;rw[f]at i;simp(disch:=go_size)only[go_sem,rB,rI,rK,rL,rN,rS,r6,l,i];unfold zgm;simp only[go_sem,l,A,s]
 ·have:=w _ g (by omega);simp_all
theorem zvf(c:aV C)(d:1<=k){ib:Nat}(e:yK H ib sv X){a b:SS}(h:(a,b)∉aJ X):C k (.f 65) [.ptr ib 0,.str a.n a.a,.str b.n b.a] H=.ok .cK H:=by obtain⟨j,rfl⟩:=aU d;obtain⟨mb,nb,av,iv,l,g,m,i,n,o,p,q,r,s,t,u⟩:=e.ex;rw[(c j).zBx];unfold zBx zqw;have f:=i.miss (iN 0) a b h;simp(disch:=go_size)only[go_sem,rB,rI,rK,rL,rN,rS,r6,g,f]
theorem qw9(m:aV C){j:Nat}(n:1<=j){H0:Hp}{ib:Nat}{sv tv:AV}{X:List aM}(t:yK H0 ib sv X)(b:(aJ X).Nodup)(c:(X.map aM.name).Nodup){ts:List jP}(u:Rs 2 tC H0 tv ts)(f:ts.length<=1000)(to:SS){Q:pH}{q:pB}(D:∀ w H,Ac 1 sC H0 H w (tgL X to ts)->Ok (q w H) Q):∀(k i:Nat) (w:AV) (H:Hp),i<=ts.length->ts.length-i<k->Ac 1 sC H0 H w (tgL X to (ts.take i)) -> Ok (qyl (C j) q (.ptr ib 0) to.v tv (iN (ts.length)) k w (iN i) H) Q
 |0,i,_,_,_,h,_=>by omega
 |k+1,i,w,H,hi,hk,hw=>by
  show Ok (zgl (C j) _ _ _ _ _ (qyl (C j) _ _ _ _ _ k) _ _ H) Q;unfold zgl;by_cases d:i<ts.length
  ·simp only[go_sem,d];unfold zgk;have v:=u.fm hw.fm;obtain⟨L,M,B,N,_,r,_⟩:=v.at' i d;unfold tC SS.v at r;have p:=q9e X to d;have y:=qwr X to (ts.take i);rw[ry]at y;have a:∀ o,Fm No H o->tgP X to ts[i]=false->Ok (qnz (C j) (qyl (C j) q (.ptr ib 0) (.str to.n to.a) tv (iN (ts.length)) k) w (iN i) o) Q:=fun o F h=>by
    unfold qnz;simp(disch:=go_size)only[go_sem,rB,rI,rK,rL,rN,rS,r6];refine qw9 m n t b c u f to D k (i+1) w o (by omega) (by omega) ?_;rw[p,h];simpa using hw.no F
   have E:Fm No H ((aN H (aB 0 [.str 0 0,.str 0 0])).put H.nx (aB 0 [.str ts[i].sp.n ts[i].sp.a,.str ts[i].rl.n ts[i].rl.a])):=by exact nA
   have g:=(t.fm hw.fm).fm E;unfold SS.v;unfold tgP at a p;by_cases s:ts[i].rl.n=0/\ts[i].rl.a=0
   ·have z:ts[i].rl=sE:=(mZ _ _).2 s;have l:=zg s;rw[qw z,qe9 b c]at a p;by_cases e:(ts[i].sp,to)∈aJ X
    ·obtain⟨O,x,_,A,_⟩:=qg7 m (k:=j) n g b c e;rw[qw e]at p;simp(disch:=go_size)only[go_sem,seval,B,r,l,A];refine Ok.ve ((hw.no (E.trans (by(repeat(first|exact Fm.refl _ _|assumption|refine Fm.push ?_ _|refine Fm.fC ?_ (by go_size)|refine Fm.aD ?_ _ _ (by go_size)))))).add ts[i].sp 16 rfl (by omega) (by omega)) ?_;intro G I J;unfold qnz;simp(disch:=go_size)only[go_sem,rB,rI,rK,rL,rN,rS,r6];refine qw9 m n t b c u f to D k (i+1) G I (by omega) (by omega) ?_;simp_all
    ·have A:=zvf m (k:=j) n g e;rw[uA e]at a;simp(disch:=first|omega|exact ti rfl)only[go_sem,seval,B,r,l,A];simp_all
   ·rw[uA (fun h=>s ((mZ _ _).1 h))]at a;simp(disch:=first|omega|exact ti rfl)only[go_sem,seval,B,r,s];simp_all
  ·simp only[go_sem,d];have K:i=ts.length:=by omega
   simp_all
theorem zvk(a:aV C)(c:1<=k){v:AV}(h:Gl 1 H v n l):∃w,C k (.f 103) [v] H=.ok w H/\Gl 1 H w n l/\(∀b,In w b->In v b):=by obtain⟨j,rfl⟩:=aU c;obtain⟨w,e,d,g,f⟩:=h.clip;refine⟨w,?_,d,f⟩;rw[(a j).zCq];unfold zCq zzl;simp only[go_sem,h.bS,e]
theorem qqi(l:aV C)(u:2<=k){ib:Nat}(v:bM H sv X)(y:vV X)(o:yK H ib sv X)(d:(aJ X).Nodup)(f:(X.map aM.name).Nodup)(a b to:SS)(m:(a,b)∈aJ X):Ok (C k (.f 66) [.ptr ib 0,.str a.n a.a,.str b.n b.a,.str to.n to.a] H) fun r H'=>Ac 1 sC H H' r (pE X a b to):=by obtain⟨j,rfl⟩:=aU u;rw[(l j).zBy];unfold zBy zzz;obtain⟨q,x,s,E,F⟩:=qg7 l (k:=j) (by omega) o d f m;have A:=F.tv;obtain⟨p,i,t,_,_⟩:=qg2 s;have h:=((v.sp p i).rel x t).ty;have B:=y.t p i x t;have D:=h.len;simp only[go_sem,E,A,D];unfold zwk;rw[bW];refine qw9 l (by omega) o d f h (by omega) to (fun w I n=>?_) bL 0 .aA H (gy _) (by rw[bZ];omega) (Ac.nil _ _ (Fm.refl _ _));unfold q8e;obtain⟨w',e,g,G⟩:=zvk l (k:=j) (by omega) n.gl;simp only[go_sem,e];unfold pE;rw[s];exact Ok.ret ⟨g,n.fm,fun c z=>n.nw c (G c z)⟩
theorem q1d(n m i:Nat)(h:i<=m):bounds n m none (some (iN i)) none=some ⟨0,i,m⟩:=by show(match(bif Nat.ble i m then some i else none)with|none=>none|some h=>match(some 0:Option Nat)with|none=>none|some l=>some (Bd.mk l h m))=_;rw[ble_eq,qw h];rfl
theorem Rs.pre{α:Type}{f:α->List AV}{v:AV}{l:List α}(h:Rs z f H v l)(k:v=.aA\/∃ b o n m e,v=.sl b o n m e/\n<=m/\0<n)(y:i<l.length):∃w,kL z v none (some (iN i)) none=.val w/\Rs z f H w (l.take i):=by
 have a:=h.len;rcases k with rfl|⟨b,o,n,m,e,rfl,t⟩
 ·exfalso;have:l.length=0:=by
   have p:aF .aA=R0.val (iN 0):=rfl;injection a with a;injection a with _ a;injection a with a;omega
  omega
 ·have q:n=l.length:=by
   have p:aF (.sl b o n m e)=R0.val (iN n):=rfl;injection a with a;injection a with _ a;injection a
  subst q;have r:kL z (.sl b o l.length m e) none (some (iN i)) none=iI b o z ⟨0,i,m⟩ e:=by show(match bounds l.length m none (some (iN i)) none with|some bd=>iI b o z bd e|none=>R0.bad)=_;rw[q1d _ _ _ (by omega)]
  have s:iI b o z ⟨0,i,m⟩ e=.val (.sl b o i m e):=by unfold iI;simp only[beq_eq];rw[uA (by omega),aj];simp
  refine⟨.sl b o i m e,r.trans s,?_,fun j hj=>?_⟩
  ·rw[ry,yz (by omega)];rfl
  ·have d:j<i:=by rw[ry]at hj;omega
   obtain⟨A,B,c,u,C,D,x⟩:=h.at' j (by omega);rw[uT _ _ _ _ _ _ _ _ (by omega)]at c;injection c with c;injection c with c i6;subst c i6;refine⟨b,_,uT _ _ _ _ _ _ _ _ d,u,⟨_,_,_,_,rfl⟩,?_,fun m g=>?_⟩
   ·simp_all
   ·have:((l.take i)[j]'hj)=l[j]'(by omega):=List.getElem_take ..;simp only[this]at g ⊢;exact x m g
def kyT(t:jP):SS×SS:=(t.sp,t.rl)
theorem z2o{t u:jP}(h:kyT t=kyT u):t=u:=by injection h with h1 h2;cases t;simp_all
theorem q9d{O:Ev.Call}{H:Hp}{tv:AV}{ts:List jP}(g:Rs 2 tC H tv ts)(d:ts.length<=1000){t:jP}{pb:Nat}(e:H.get pb=aB 0 [.str t.sp.n t.sp.a,.str t.rl.n t.rl.a]){Q:pH}{q:pD}{qr:pB}(j:t∉ts->Ok (q H) Q)(l:t∈ts->∀ i:Nat,Ok (qr (iN i) H) Q):∀(k i:Nat),i<=ts.length->ts.length-i<k->t∉ts.take i->Ok (q71 O qr q tv (.ptr pb 0) (iN (ts.length)) k (iN i) H) Q
 |0,i,_,h,_=>by omega
 |k+1,i,hi,hk,hn=>by
  show Ok (ze9 O _ _ _ _ _ (q71 O _ _ _ _ _ k) _ H) Q;unfold ze9;by_cases a:i<ts.length
  ·simp only[go_sem,a];unfold ze7;obtain⟨n,o,m,p,_,f,_⟩:=g.at' i a;unfold tC SS.v at f;have c:l8 (eqFields [(p1,⟨iE⟩,0),(p1,⟨iE⟩,1)]) (.agg [.str t.sp.n t.sp.a,.str t.rl.n t.rl.a]) (.agg [.str ts[i].sp.n ts[i].sp.a,.str ts[i].rl.n ts[i].rl.a])=some (decide (kyT t=kyT ts[i])):=q0o (kyT t) (kyT ts[i]);by_cases b:kyT t=kyT ts[i]
   ·rw[qw b]at c;simp only[go_sem,seval,e,m,f,c];exact l (by rw[z2o b];exact lg a) i
   ·rw[uA b]at c;simp only[go_sem,seval,e,m,f,c];unfold zvu;simp(disch:=omega)only[go_sem];refine q9d g d e j l k (i+1) (by omega) (by omega) fun h=>?_;rw[lw a,pg,gq]at h;simp_all
  ·simp only[go_sem,a];exact j (by rw[uh (by omega)]at hn;exact hn)
theorem q1m(b:aV C)(g:2<=k){tv:AV}{ts:List jP}(c:Rs 2 tC H tv ts)(a:ts.length<=1000)(t:jP):Ok (C k (.f 124) [tv,.agg [.str t.sp.n t.sp.a,.str t.rl.n t.rl.a]] H) fun r H'=>r=.bool (decide (t∈ts))/\Fm No H H':=by
 obtain⟨j,rfl⟩:∃ j,k=j+1+1:=⟨k-2,by omega⟩;rw[(b (j+1)).zDf];unfold zDf zy9;simp(disch:=go_size)only[go_sem,rB,rI,rK,rL,rN,rS,r6];rw[(b j).zDm];unfold zDm zy4;have e:=c.len;simp only[go_sem,e];have f:Fm No H (aN (aN H (aB 0 [.str t.sp.n t.sp.a,.str t.rl.n t.rl.a])) (aB 0 [.str t.sp.n t.sp.a,.str t.rl.n t.rl.a])):=by exact fP2
 unfold zvv;rw[bW];refine Ok.ve (R:=fun r H'=>((t∉ts/\r=.int .i64 (.negSucc 0))\/(t∈ts/\∃ i:Nat,r=iN i))/\Fm No H H') (q9d (c.fm f) a (t:=t) (pb:=H.nx+1) (by simp(disch:=go_size)only[go_sem]) (fun h=>?_) (fun h i=>Ok.ret ⟨.inr ⟨h,i,rfl⟩,f⟩) bL 0 (gy _) (by rw[bZ];omega) (by rw[lAP];exact List.not_mem_nil)) ?_
 ·unfold ze8;exact Ok.ret ⟨.inl ⟨h,rfl⟩,f⟩
 ·rintro _ l ⟨⟨h,rfl⟩|⟨h,i,rfl⟩,d⟩
  ·simp only[go_sem];exact Ok.ret ⟨by rw[uA h],d⟩
  ·simp only[go_sem];exact Ok.ret ⟨by rw[qw h,qw (gy i)],d⟩
theorem q1n(b:aV C)(c:2<=k){tv:AV}{ts:List jP}(d:Rs 2 tC H tv ts)(a:ts.length<=1000){t:jP}(e:t∉ts):Ok (C k (.f 124) [tv,.agg [.str t.sp.n t.sp.a,.str t.rl.n t.rl.a]] H) fun r H'=>r=.bool false/\Fm No H H':=
 (q1m b c d a t).mono fun _ _ h=>by rw[uA e]at h;exact h
theorem q97(s:aV C){j:Nat}(I:2<=j){Hb:Hp}{ib:Nat}{sv:AV}{X:List aM}(J:yK Hb ib sv X)(u:bX X){e:Nat×Nat}{x:aT}(f:PtR Hb e x)(g:pG Hb x)(v:x.r.types.length<=8)(l:x.r.types.Nodup)(m:∀ t∈x.r.types,t.sp∈X.map aM.name/\(t.rl=sE\/(t.sp,t.rl)∈aJ X)){Q:pH}{q:pD}{qr:pB}(K:∀ H,Fm No Hb H->Ok (q H) Q):∀(k i:Nat) (H:Hp),i<=x.r.types.length->x.r.types.length-i<k->Fm No Hb H->Ok (qrx (C j) qr q (.ptr ib 0) (.ptr e.1 e.2) x.tv (iN (x.r.types.length)) k (iN i) H) Q
 |0,i,_,_,h,_=>by omega
 |k+1,i,H,hi,hk,hf=>by
  show Ok (zfo (C j) _ _ _ _ _ _ (qrx (C j) _ _ _ _ _ _ k) _ H) Q;unfold zfo;by_cases b:i<x.r.types.length
  ·simp only[go_sem,b];rw[qry];unfold quw;have L:=g.fm hf;obtain⟨Y,Z,P,e2,_,F,_⟩:=L.ty.at' i b;unfold tC SS.v at F;have z:=J.fm hf;have M:=m _ (lg b);have n:Fm No H ((aN H (aB 0 [.str 0 0,.str 0 0])).put H.nx (aB 0 [.str x.r.types[i].sp.n x.r.types[i].sp.a,.str x.r.types[i].rl.n x.r.types[i].rl.a])):=by exact nA
   have o:=z.fm n;obtain⟨mb,nb,av,iv,qs,R,U,g3,_⟩:=o.ex;have N:sK ⟨iE,none⟩ (iN 0) false ⟨((aN H (aB 0 [.str 0 0,.str 0 0])).put H.nx (aB 0 [.str x.r.types[i].sp.n x.r.types[i].sp.a,.str x.r.types[i].rl.n x.r.types[i].rl.a])).t,H.nx+1⟩ (.map mb) (.str x.r.types[i].sp.n x.r.types[i].sp.a)=.val (iN 1):=U.find _ _ M.1;have A:=(f.fm hf).fm n;have O:=A.tv;have p:=L.fm n;obtain⟨w,S,V⟩:=p.ty.pre p.tc b;have c:∀ a,Fm No ((aN H (aB 0 [.str 0 0,.str 0 0])).put H.nx (aB 0 [.str x.r.types[i].sp.n x.r.types[i].sp.a,.str x.r.types[i].rl.n x.r.types[i].rl.a])) a->Ok (C j (.f 124) [w,.agg [.str x.r.types[i].sp.n x.r.types[i].sp.a,.str x.r.types[i].rl.n x.r.types[i].rl.a]] a) fun r H'=>r=.bool false/\Fm No a H':=fun a d=>
    q1n s I (V.fm d) (by rw[ry];omega) (t:=x.r.types[i]) (qlo l b)
   have fin:∀ a,Fm No H a->Ok (zfl (C j) (qrx (C j) qr q (.ptr ib 0) (.ptr e.1 e.2) x.tv (iN (x.r.types.length)) k) (iN i) a) Q:=fun a d=>by rw[qyh];unfold q37;simp(disch:=omega)only[go_sem];exact q97 s I J u f g v l m K k (i+1) a (by omega) (by omega) (hf.trans d)
   by_cases G:x.r.types[i].rl.n=0/\x.r.types[i].rl.a=0
   ·have B:=zg G;simp(disch:=first|go_size|omega)only[go_sem,rB,rI,rK,rL,rN,rS,r6,P,F,R,N,B,O,S];refine Ok.kF (c _ (Fm.refl _ _)) ?_;rintro _ a ⟨rfl,d⟩;simp only[go_sem];exact fin a (n.trans d)
   ·have D:(x.r.types[i].sp,x.r.types[i].rl)∈aJ X:=by
     rcases M.2 with h|h
     ·exact absurd ((mZ _ _).1 h) G
     ·exact h
    obtain⟨T,y,_,W,_⟩:=qg7 s (k:=j) (by omega) o u.al u.sp D;have E:C j (.f 65) [.ptr ib 0,.str x.r.types[i].sp.n x.r.types[i].sp.a,.str x.r.types[i].rl.n x.r.types[i].rl.a] ⟨((aN H (aB 0 [.str 0 0,.str 0 0])).put H.nx (aB 0 [.str x.r.types[i].sp.n x.r.types[i].sp.a,.str x.r.types[i].rl.n x.r.types[i].rl.a])).t,H.nx+1⟩=.ok (.ptr T.1 T.2) ((aN H (aB 0 [.str 0 0,.str 0 0])).put H.nx (aB 0 [.str x.r.types[i].sp.n x.r.types[i].sp.a,.str x.r.types[i].rl.n x.r.types[i].rl.a])):=W;simp(disch:=first|go_size|omega)only[go_sem,rB,rI,rK,rL,rN,rS,r6,P,F,R,N,G,E,O,S];refine Ok.kF (c _ (Fm.refl _ _)) ?_;rintro _ a ⟨rfl,d⟩;simp only[go_sem];exact fin a (n.trans d)
  ·simp only[go_sem,b];exact K H hf
theorem zot(g:aV C)(h:3<=k){ib:Nat}(i:yK H ib sv X)(l:bX X){c:Nat×Nat}{x:aT}(a:PtR H c x)(b:pG H x)(d:x.r.types.length<=8)(e:x.r.types.Nodup)(f:∀ t∈x.r.types,t.sp∈X.map aM.name/\(t.rl=sE\/(t.sp,t.rl)∈aJ X)):Ok (C k (.f 95) [.ptr ib 0,.ptr c.1 c.2] H) fun r H'=>r=iN 0/\Fm No H H':=by obtain⟨j,rfl⟩:=aU h;rw[(g j).zCy];unfold zCy zzf;have n:=a.tv;have o:=b.ty.len;simp only[go_sem,n,o];unfold zv3;rw[bW];refine q97 g (by omega) i l a b d e f (fun p m=>?_) bL 0 H (gy _) (by rw[bZ];omega) (Fm.refl _ _);rw[qyi];exact Ok.ret ⟨rfl,m⟩
theorem zuy(nm n a:Nat):l9 nm (.str n a)=.new (.ptr nm 0) (aB 0 [.str n a]):=id rfl
theorem zuz(nm n a:Nat):l9 nm (.ptr n a)=.new (.ptr nm 0) (aB 0 [.ptr n a]):=id rfl
attribute [go_sem] zuy zuz
theorem qkv(g:aV C){j:Nat}(L:2<=j){Hb:Hp}{ib:Nat}{sv w:AV}{X:List aM}(x:bM Hb sv X)(z:yK Hb ib sv X)(c:bX X)(s:SS){l:List (Nd×AV)}(A:Rs 5 jL Hb w l)(m:l.length<=1000)(d:∀ y∈l,(y.1.k=2\/y.1.k=3->(s,y.1.rl)∈aJ X)/\(y.1.k=3->pE X s y.1.rl y.1.to≠[])){Q:pH}{q:pB}{qr:AV->pB}(B:∀ H,Fm No Hb H->Ok (q (.bool (l.any fun y=>decide (y.1.k=1))) H) Q):∀(k i:Nat) (u:Bool) (H:Hp),i<=l.length->l.length-i<k->Fm No Hb H->u=((l.take i).any fun y=>decide (y.1.k=1))->Ok (qyf (C j) qr q (.ptr ib 0) (.str s.n s.a) w (iN (l.length)) k (.bool u) (iN i) H) Q
 |0,i,_,_,_,h,_,_=>by omega
 |k+1,i,u,H,hi,hk,hf,hu=>by
  show Ok (zfh (C j) _ _ _ _ _ _ (qyf (C j) _ _ _ _ _ _ k) _ _ H) Q;unfold zfh;by_cases b:i<l.length
  ·simp only[go_sem,b];unfold zfg;have O:=A.fm hf;obtain⟨W,Y,K,Z,_,t,_⟩:=O.at' i b;unfold jL SS.v at t;have E:=d _ (lg b);have o:Fm No H ((aN H (aB 0 [.int .u8 (.ofNat 0),.str 0 0,.str 0 0,.aA,.bool false])).put H.nx (aB 0 [.int .u8 (.ofNat l[i].1.k),.str l[i].1.rl.n l[i].1.rl.a,.str l[i].1.to.n l[i].1.to.a,l[i].2,.bool l[i].1.neg])):=by exact nA
   obtain⟨H1,a⟩:∃ H1,H1=(aN H (aB 0 [.int .u8 (.ofNat 0),.str 0 0,.str 0 0,.aA,.bool false])).put H.nx (aB 0 [.int .u8 (.ofNat l[i].1.k),.str l[i].1.rl.n l[i].1.rl.a,.str l[i].1.to.n l[i].1.to.a,l[i].2,.bool l[i].1.neg]):=⟨_,rfl⟩;rw[<-a]at o;have pb:H1.get H.nx=aB 0 [.int .u8 (.ofNat l[i].1.k),.str l[i].1.rl.n l[i].1.rl.a,.str l[i].1.to.n l[i].1.to.a,l[i].2,.bool l[i].1.neg]:=by rw[a];exact dL _ _ _
   have P:H.nx<H1.nx:=by rw[a];simp only[np,nq];omega
   have e:=(z.fm hf).fm o;have M:((l.take (i+1)).any fun y=>decide (y.1.k=1))=(((l.take i).any fun y=>decide (y.1.k=1))||decide (l[i].1.k=1)):=by rw[lw b,ik];simp
   have fin:∀ n,Fm No H1 n->Ok (q35 (C j) (qyf (C j) qr q (.ptr ib 0) (.str s.n s.a) w (iN (l.length)) k) (.bool u) (.ptr H.nx 0) (iN i) n) Q:=fun n D=>by
    unfold q35;have R:=(D.keep P).trans pb;cases u with
    |true=>unfold zff;simp(disch:=go_size)only[go_sem,rB,rI,rK,rL,rN,rS,r6];exact qkv g L x z c s A m d B k (i+1) true n (by omega) (by omega) (hf.trans (o.trans D)) (by rw[M,<-hu];rfl)
    |false=>simp only[go_sem,R];unfold zff;simp(disch:=go_size)only[go_sem,rB,rI,rK,rL,rN,rS,r6];exact qkv g L x z c s A m d B k (i+1) _ n (by omega) (by omega) (hf.trans (o.trans D)) (by rw[M,<-hu];rfl)
   by_cases v:l[i].1.k=2
   ·have F:=zg v;obtain⟨U,y,_,r,_⟩:=qg7 g (k:=j) (by omega) e c.al c.sp (E.1 (.inl v));have f:¬ l[i].1.k=3:=by omega
    rw[a]at r;simp(disch:=go_size)only[go_sem,rB,rI,rK,rL,rN,rS,r6,K,t,F,f,r];rw[<-a];exact fin H1 (Fm.refl _ _)
   ·by_cases f:l[i].1.k=3
    ·have G:=zg f;have p:=E.1 (.inr f);obtain⟨U,y,_,r,_⟩:=qg7 g (k:=j) (by omega) e c.al c.sp p;have S:=qqi g (k:=j) (by omega) ((x.fm hf).fm o) c.pr.sml e c.al c.sp s l[i].1.rl l[i].1.to p;rw[a]at r;simp(disch:=go_size)only[go_sem,rB,rI,rK,rL,rN,rS,r6,K,t,G,v,r];rw[<-a];refine Ok.ve S ?_;intro tv V N;have I:=N.bS;have J:¬(pE X s l[i].1.rl l[i].1.to).length=0:=fun h=>E.2 f (tq.1 h);simp only[go_sem,I,J];exact fin V N.fm
    ·simp(disch:=go_size)only[go_sem,rB,rI,rK,rL,rN,rS,r6,K,t,v,f];rw[<-a];exact fin H1 (Fm.refl _ _)
  ·simp only[go_sem,b];have T:i=l.length:=by omega
   rw[T,uz]at hu;rw[hu];exact B H hf
theorem zve(d:aV C)(g:3<=k){ib:Nat}{sv e:AV}(h:bM H sv X)(i:yK H ib sv X)(m:bX X)(s:SS){l:List (Nd×AV)}(f:Rs 5 jL H e l)(a:l.length<=1000)(b:∀ y∈l,(y.1.k=2\/y.1.k=3->(s,y.1.rl)∈aJ X)/\(y.1.k=3->pE X s y.1.rl y.1.to≠[])):Ok (C k (.f 97) [.ptr ib 0,.str s.n s.a,e] H) fun r H'=>r=.aX [.bool (l.any fun y=>decide (y.1.k=1)),iN 0]/\Fm No H H':=by obtain⟨j,rfl⟩:=aU g;rw[(d j).zCz];unfold zCz zze;have c:=f.len;simp only[go_sem,c];unfold zv1;rw[bW];refine qkv d (by omega) h i m s f a b (fun o n=>?_) bL 0 false H (gy _) (by rw[bZ];omega) (Fm.refl _ _) rfl;exact Ok.ret ⟨rfl,n⟩
theorem zak(u:aV C){j:Nat}(B:1<=j){Hb:Hp}{o:AV}{l:List (Nd×AV)}(v:Rs 5 jL Hb o l)(p:l.length<=1000){s:SS}{sb:Nat}(w:Hb.get sb=aB 0 [.str s.n s.a])(d:sb<Hb.nx){Q:pH}{q:pD}{qr:pB}(x:∀ i H,l.any (fun y=>dZ 3 s y.1)=true->Fm No Hb H->Ok (qr (iN i) H) Q)(D:∀ H,l.any (fun y=>dZ 3 s y.1)=false->Fm No Hb H->Ok (q H) Q):∀(k i:Nat) (H:Hp),i<=l.length->l.length-i<k->Fm No Hb H->(l.take i).any (fun y=>dZ 3 s y.1)=false->Ok (qye (C j) qr q o (.fn 128 [] [.ptr sb 0]) (iN (l.length)) k (iN i) H) Q
 |0,i,_,_,h,_,_=>by omega
 |k+1,i,H,hi,hk,hf,hn=>by
  show Ok (ze2 (C j) _ _ _ _ _ (qye (C j) _ _ _ _ _ k) _ H) Q;unfold ze2;obtain⟨m,rfl⟩:∃ m,j=m+1:=⟨j-1,by omega⟩;by_cases a:i<l.length
  ·simp only[go_sem,a];unfold zvn;have E:=v.fm hf;obtain⟨J,K,I,L,_,A,_⟩:=E.at' i a;unfold jL SS.v at A;have e:=(hf.keep d).trans w;have F:=hf.nx;simp only[go_sem,I,A];rw[(u m).zDn];unfold zDn zy3;have z:Fm No H (aN H (aB 0 [.int .u8 (.ofNat l[i].1.k),.str l[i].1.rl.n l[i].1.rl.a,.str l[i].1.to.n l[i].1.to.a,l[i].2,.bool l[i].1.neg])):=by exact mG
   have r:(l.take (i+1)).any (fun y=>dZ 3 s y.1)=dZ 3 s l[i].1:=by rw[lw a,ik,hn];simp
   have b:dZ 3 s l[i].1=false->Ok (ze0 (C (m+1)) (qye (C (m+1)) qr q o (.fn 128 [] [.ptr sb 0]) (iN (l.length)) k) (iN i) (aN H (aB 0 [.int .u8 (.ofNat l[i].1.k),.str l[i].1.rl.n l[i].1.rl.a,.str l[i].1.to.n l[i].1.to.a,l[i].2,.bool l[i].1.neg]))) Q:=fun c=>by unfold ze0;simp(disch:=go_size)only[go_sem,rB,rI,rK,rL,rN,rS,r6];exact zak u B v p w d x D k (i+1) _ (by omega) (by omega) (hf.trans z) (by rw[r,c])
   by_cases g:l[i].1.k=3
   ·have f:=zg g;by_cases n:l[i].1.rl.n=s.n/\l[i].1.rl.a=s.a
    ·have t:=zg n;have c:dZ 3 s l[i].1=true:=by unfold dZ;rw[qw g,qw ((mZ _ _).2 n)];rfl
     simp(disch:=go_size)only[go_sem,rB,rI,rK,rL,rN,rS,r6,f,e,t];exact x i _ (zt.2 ⟨_,lg a,c⟩) (hf.trans z)
    ·have c:dZ 3 s l[i].1=false:=by unfold dZ;rw[uA (fun h=>n ((mZ _ _).1 h))];simp
     simp(disch:=go_size)only[go_sem,rB,rI,rK,rL,rN,rS,r6,f,e,n];exact b c
   ·have c:dZ 3 s l[i].1=false:=by unfold dZ;rw[uA g];simp
    simp(disch:=go_size)only[go_sem,rB,rI,rK,rL,rN,rS,r6,g];exact b c
  ·simp only[go_sem,a];have G:i=l.length:=by omega
   rw[G,uz]at hn;simp_all
theorem q1s(a:aV C)(p:3<=k){e:AV}{l:List (Nd×AV)}(g:Rs 5 jL H e l)(b:l.length<=1000){s:SS}(o:H.get sb=aB 0 [.str s.n s.a])(c:sb<H.nx):Ok (C k (.f 127) [e,.fn 128 [] [.ptr sb 0]] H) fun r H'=>r=.bool (l.any fun y=>dZ 3 s y.1)/\Fm No H H':=by
 obtain⟨j,rfl⟩:∃ j,k=j+1+1:=⟨k-2,by omega⟩;rw[(a (j+1)).zDo];unfold zDo zy2;simp only[go_sem];rw[(a j).zDs];unfold zDs zyz;have d:=g.len;simp only[go_sem,d];unfold zvo;rw[bW];refine Ok.ve (R:=fun r H'=>Fm No H H'/\((l.any (fun y=>dZ 3 s y.1)=true/\∃ i,r=iN i)\/(l.any (fun y=>dZ 3 s y.1)=false/\r=.int .i64 (.negSucc 0)))) (zak a (by omega) g b o c (fun i m h f=>Ok.ret ⟨f,.inl ⟨h,i,rfl⟩⟩) (fun m h f=>?_) bL 0 H (gy _) (by rw[bZ];omega) (Fm.refl _ _) rfl) ?_
 ·unfold ze1;exact Ok.ret ⟨f,.inr ⟨h,rfl⟩⟩
 ·rintro r m ⟨n,⟨h,i,rfl⟩|⟨h,rfl⟩⟩
  ·simp only[go_sem,gy];exact Ok.ret ⟨by rw[h],n⟩
  ·simp only[go_sem];exact Ok.ret ⟨by rw[h],n⟩
theorem qfh{x:aT}(h:pG H x):∃ c0 b c d,x.cs=[c0,b,c,d]/\eP x=[.str x.r.name.n x.r.name.a,x.tv,c0,b,c,d]:=by obtain⟨c0,b,c,d,a⟩:=h.ru.four;exact⟨c0,b,c,d,a,by unfold eP;rw[a];rfl⟩
theorem zod(c:aV C)(n:kH C)(o:14<=k){x:aT}(g:pG H x)(h:x.r.rule.Rt){s:SS}(p:H.get sb=aB 0 [.str s.n s.a])(a:sb<H.nx):Ok (C k (.f 126) [.agg (eP x),.ptr sb 0] H) fun r H'=>r=.bool (dV x.r.rule 3 s)/\Fm No H H':=by
 obtain⟨j,rfl⟩:=aU o;rw[(c j).zDg];unfold zDg zy8;obtain⟨c0,t,u,v,d,e⟩:=qfh g;rw[e];have f:Fm No H (aN H (aB 0 [.str x.r.name.n x.r.name.a,x.tv,c0,t,u,v])):=by exact mG
 have i:=g.ru.fm f;rw[d]at i;simp(disch:=omega)only[go_sem,seval];refine Ok.ve (qqj c n (k:=j) (by omega) i h) ?_;rintro _ y ⟨z,l,rfl,b,m⟩;have q:l.length<=32:=by have:=congrArg List.length m;simp only[pz,qby]at this;have:=h.sz;omega
 refine Ok.ve (q1s c (k:=j) (by omega) (b.rs vK) (by omega) (s:=s) ((b.fm.keep (show sb<(aN H _).nx by simp only[np,nq];omega)).trans ((f.keep a).trans p)) (lq a (rq f.nx b.fm.nx))) ?_;rintro _ A ⟨rfl,w⟩;refine Ok.ret ⟨?_,f.trans (b.fm.trans w)⟩;unfold dV;rw[<-m,lAF];rfl
theorem q9y(m:aV C)(n:kH C){j:Nat}(p:14<=j){Hb:Hp}{g:aM}(r:yS Hb g)(e:g.gs.length<=16)(t:∀ x∈g.gs,x.r.rule.Rt){s:SS}{sb:Nat}(u:Hb.get sb=aB 0 [.str s.n s.a])(c:sb<Hb.nx){Q:pH}{q:pD}{qr:pB}(d:∀ i H,g.gs.any (fun x=>dV x.r.rule 3 s)=true->Fm No Hb H->Ok (qr (iN i) H) Q)(z:∀ H,g.gs.any (fun x=>dV x.r.rule 3 s)=false->Fm No Hb H->Ok (q H) Q):∀(k i:Nat) (H:Hp),i<=g.gs.length->g.gs.length-i<k->Fm No Hb H->(g.gs.take i).any (fun x=>dV x.r.rule 3 s)=false->Ok (q70 (C j) qr q g.rv (.fn 126 [] [.ptr sb 0]) (iN (g.gs.length)) k (iN i) H) Q
 |0,i,_,_,h,_,_=>by omega
 |k+1,i,H,hi,hk,hf,hn=>by
  show Ok (ze6 (C j) _ _ _ _ _ (q70 (C j) _ _ _ _ _ k) _ H) Q;unfold ze6;by_cases a:i<g.gs.length
  ·simp only[go_sem,a];unfold zvr;have v:=r.fm hf;obtain⟨b,o,A,_,_,_,_,B⟩:=v.at' i a;have f:=lg a;simp only[go_sem,A,B];refine Ok.ve (zod m n p (v.rel _ f) (t _ f) ((hf.keep c).trans u) (lq c hf.nx)) ?_;rintro _ E ⟨rfl,w⟩;have l:(g.gs.take (i+1)).any (fun x=>dV x.r.rule 3 s)=dV g.gs[i].r.rule 3 s:=by
    rw[lw a,ik,hn];simp
   cases y:dV g.gs[i].r.rule 3 s with
   |true=>exact d i _ (zt.2 ⟨_,f,y⟩) (hf.trans w)
   |false=>unfold zvs;simp(disch:=go_size)only[go_sem,rB,rI,rK,rL,rN,rS,r6];exact q9y m n p r e t u c d z k (i+1) _ (by omega) (by omega) (hf.trans w) (by rw[l,y])
  ·simp only[go_sem,a];have D:i=g.gs.length:=by omega
   simp_all
theorem zov(b:aV C)(m:kH C)(o:17<=k)(l:yS H g)(c:g.gs.length<=16)(n:∀ x∈g.gs,x.r.rule.Rt)(s:SS):Ok (C k (.f 99) [.agg [.str g.name.n g.name.a,g.rv],.str s.n s.a] H) fun r H'=>r=.bool (g.gs.any fun x=>dV x.r.rule 3 s)/\Fm No H H':=by
 obtain⟨j,rfl⟩:∃ j,k=j+1+1+1:=⟨k-3,by omega⟩;rw[(b (j+1+1)).zDa];unfold zDa zzd;simp(disch:=first|go_size|omega)only[go_sem,rB,rI,rK,rL,rN,rS,r6];have f:Fm No H (aN (aN H (aB 0 [.str g.name.n g.name.a,g.rv])) (aB 0 [.str s.n s.a])):=by exact fP2
 rw[(b (j+1)).zDh];unfold zDh zy7;simp only[go_sem];rw[(b j).zDp];unfold zDp zy1;have e:=l.len;simp only[go_sem,e];unfold zvt;rw[bW];refine Ok.ve (R:=fun r H'=>r=.bool (g.gs.any fun x=>dV x.r.rule 3 s)/\Fm No H H') (Ok.ve (R:=fun r H'=>Fm No H H'/\((g.gs.any (fun x=>dV x.r.rule 3 s)=true/\∃ i,r=iN i)\/(g.gs.any (fun x=>dV x.r.rule 3 s)=false/\r=.int .i64 (.negSucc 0)))) (q9y b m (j:=j) (by omega) (l.fm f) c n (s:=s) (sb:=H.nx+1) (by simp(disch:=go_size)only[go_sem,seval]) (by go_size) (fun i d h a=>Ok.ret ⟨f.trans a,.inl ⟨h,i,rfl⟩⟩) (fun d h a=>?_) bL 0 _ (gy _) (by rw[bZ];omega) (Fm.refl _ _) rfl) ?_) ?_
 ·unfold ze5;exact Ok.ret ⟨f.trans a,.inr ⟨h,rfl⟩⟩
 ·rintro r d ⟨a,⟨h,i,rfl⟩|⟨h,rfl⟩⟩
  ·simp only[go_sem,gy];exact Ok.ret ⟨by rw[h],a⟩
  ·simp only[go_sem];exact Ok.ret ⟨by rw[h],a⟩
 ·rintro _ d ⟨rfl,a⟩;exact Ok.ret ⟨rfl,a⟩
structure RlI(H:Hp)(X:List aM)(g:aM)(x:aT)(sv:AV)(ib n A0 A1 AR A2:Nat)(q:Nat×Nat):Prop where
 vN:bM H sv X
 id:yK H ib sv X
 mem:g∈X/\x∈g.gs
 a0:H.get A0=aB 0 [.ptr ib 0]
 a1:H.get A1=aB 0 [.str g.name.n g.name.a,g.rv]
 ar:H.get AR=aB 0 [.ptr q.1 q.2]
 a2:H.get A2=aB 0 [iN n]
 lt:A0<H.nx/\A1<H.nx/\AR<H.nx/\A2<H.nx
 pt:PtR H q x
 nu:bR X g.name x.r.name=n
theorem RlI.fm{x:aT}{ib n a b c d:Nat}{q:Nat×Nat}(h:RlI H X g x sv ib n a b c d q)(f:Fm No H H'):RlI H' X g x sv ib n a b c d q:=by obtain⟨e,i,j,k⟩:=h.lt;have:=f.nx;exact⟨h.vN.fm f,h.id.fm f,h.mem,(f.keep e).trans h.a0,(f.keep i).trans h.a1,(f.keep j).trans h.ar,(f.keep k).trans h.a2,⟨by omega,by omega,by omega,by omega⟩,h.pt.fm f,h.nu⟩
theorem z1p(i:aV C)(l:1<=k){x:aT}{ib n b c d e:Nat}{q:Nat×Nat}(h:RlI H X g x sv ib n b c d e q):C k (.f 93) [.ptr b 0,.ptr c 0,.ptr d 0,.ptr e 0] H=.ok (iN 0) H:=by obtain⟨j,rfl⟩:=aU l;rw[(i j).zCj];unfold zCj zzr;have m:=h.a0;have o:=h.a1;have p:=h.ar;have r:=h.a2;have s:=h.pt.nm;obtain⟨mb,nb,av,iv,v,t,w,u,_⟩:=h.id.ex;have f:=u.aMv (iN 0) g.name x.r.name (qg6.2 ⟨g,h.mem.1,x,h.mem.2,rfl,rfl⟩);have a:(List.findIdx (fun q=>decide (q=(g.name,x.r.name))) (aJ X))=n:=h.nu;rw[a]at f;simp(disch:=go_size)only[go_sem,rB,rI,rK,rL,rN,rS,r6,m,o,p,r,s,t,f];rfl
theorem z1o(b:aV C)(f:4<=k){x:aT}{ib n c i d l:Nat}{q:Nat×Nat}(h:RlI H X g x sv ib n c i d l q)(a:bX X):Ok (C k (.f 94) [.ptr c 0,.ptr d 0] H) fun r H'=>r=iN 0/\Fm No H H':=by obtain⟨j,rfl⟩:=aU f;rw[(b j).zCk];unfold zCk zzq;have m:=h.a0;have o:=h.ar;simp only[go_sem,m,o];have e:=a.ty _ h.mem.1 _ h.mem.2;refine Ok.ve (zot b (k:=j) (by omega) h.id a h.pt ((h.vN.sp _ h.mem.1).rel _ h.mem.2) (a.pr.x _ h.mem.1 _ h.mem.2).1 e.1 e.2) ?_;rintro _ s ⟨rfl,p⟩;exact Ok.ret ⟨rfl,p⟩
theorem z1n(o:aV C)(w:4<=k){x:aT}{sv p:AV}{ib n s t z A c a:Nat}{q:Nat×Nat}(h:RlI H X g x sv ib n s t z A q)(d:bX X){l:List (Nd×AV)}(B:Rs 5 jL H p l)(b:l.map Prod.fst=x.r.rule.nodes false)(e:H.get c=aB 0 [p]){u:Bool}(f:H.get a=aB 0 [.bool u])(i:a<H.nx):Ok (C k (.f 96) [.ptr s 0,.ptr t 0,.ptr c 0,.ptr a 0] H) fun r H'=>r=iN 0/\∃ H1,Fm No H H1/\H'=H1.put a (aB 0 [.bool ((x.r.rule.nodes false).any fun y=>decide (y.k=1))]):=by
 obtain⟨j,rfl⟩:=aU w;rw[(o j).zCl];unfold zCl zzp;have E:=h.a0;have F:=h.a1;simp only[go_sem,E,F,e];have G:l.length<=32:=by have:=congrArg List.length b;simp only[pz,qby]at this;have:=(d.pr.x _ h.mem.1 _ h.mem.2).2.2.1.sz;omega
 refine Ok.ve (zve o (k:=j) (by omega) h.vN h.id d g.name B (by omega) fun y D=>?_) ?_
 ·exact d.nd _ h.mem.1 _ h.mem.2 y.1 (by rw[<-b];exact zo D)
 rintro _ I ⟨rfl,v⟩;have m:=(v.keep i).trans f;simp only[go_sem,m];refine Ok.ret ⟨rfl,I,v,?_⟩;rw[<-b,lAF];rfl
theorem z1m(s:aV C)(w:kH C)(z:18<=k){x:aT}{ib n A t u B c:Nat}{q:Nat×Nat}(h:RlI H X g x sv ib n A t u B q)(f:bX X)(a:H.get c=aB 0 [.bool ((x.r.rule.nodes false).any fun y=>decide (y.k=1))]):Ok (C k (.f 98) [.ptr c 0,.ptr u 0,.ptr t 0] H) fun r H'=>r=iN 0/\Fm No H H':=by
 obtain⟨j,rfl⟩:=aU z;rw[(s j).zCm];unfold zCm zzo;have E:=h.a1;have i:=h.ar;have F:=h.pt.nm;have l:=h.pt.tv;have d:=h.vN.sp _ h.mem.1;have m:=((d.rel _ h.mem.2).ty).len;have v:=f.us _ h.mem.1 _ h.mem.2;cases e:(x.r.rule.nodes false).any fun y=>decide (y.k=1)with
 |true=>rw[e]at a;have o:¬ x.r.types.length=0:=fun b=>v.1 e (tq.1 b);simp only[go_sem,a,i,l,m,o];exact Ok.ret ⟨rfl,Fm.refl _ _⟩
 |false=>
  rw[e]at a;by_cases b:0<x.r.types.length
  ·have p:=v.2 e (fun h=>by rw[h]at b;exact absurd b (by simp));simp(disch:=go_size)only[go_sem,rB,rI,rK,rL,rN,rS,r6,a,i,l,m,b,E,F];refine Ok.kF (zov s w (k:=j) (by omega) d (f.pr.r _ h.mem.1).1 (fun y D=>(f.pr.x _ h.mem.1 y D).2.2.1) x.r.name) ?_;rintro _ I ⟨rfl,G⟩;rw[p];simp only[go_sem];exact Ok.ret ⟨rfl,G⟩
  ·simp only[go_sem,a,i,l,m,b];exact Ok.ret ⟨rfl,Fm.refl _ _⟩
theorem sf2(O:Ev.Call)(qr:pB)(q:pD)(a b:AV)(n:Nat):q79 O qr q a b (n+1)=qnx O qr q a b (q79 O qr q a b n):=rfl
theorem zn2(f:FuncId)(x y:List AV):zT (.fn f x y)=some [.fn f x y]:=id rfl
attribute [go_sem] zn2
theorem z8g(v:aV C)(w:1<=k){b:Nat}{g h i l:FuncId}{n o p q:List AV}(c:H.get b=aB 0 [.fn g [] n,.fn h [] o,.fn i [] p,.fn l [] q]){R1' R2' R3' a:Hp->Prop}(x:Ok (C (k-1) (.f g) n H) fun r H'=>r=iN 0/\R1' H')(y:∀ H',R1' H'->H'.get b=H.get b)(z:∀ H1,R1' H1->Ok (C (k-1) (.f h) o H1) fun r H'=>r=iN 0/\R2' H')(A:∀ H',R2' H'->H'.get b=H.get b)(B:∀ H1,R2' H1->Ok (C (k-1) (.f i) p H1) fun r H'=>r=iN 0/\R3' H')(D:∀ H',R3' H'->H'.get b=H.get b)(E:∀ H1,R3' H1->Ok (C (k-1) (.f l) q H1) fun r H'=>r=iN 0/\a H'):Ok (C k (.f 92) [.sl b 0 4 4 true] H) fun r H'=>r=iN 0/\a H':=by obtain⟨j,rfl⟩:=aU w;rw[(v j).zCn];unfold zCn zzn;simp only[go_sem];unfold zwf;obtain⟨m,F⟩:∃ m,bL=m+5:=⟨999995,by rw[bZ]⟩;rw[bW,F,sf2];unfold qnx;unfold qnw;simp(disch:=omega)only[go_sem,c];refine Ok.ve x ?_;rintro _ H1 ⟨rfl,s⟩;unfold qyk;rw[sf2];unfold qnx;unfold qnw;have d:=(y _ s).trans c;simp(disch:=omega)only[go_sem,d];refine Ok.ve (z _ s) ?_;rintro _ I ⟨rfl,t⟩;unfold qyk;rw[sf2];unfold qnx;unfold qnw;have e:=(A _ t).trans c;simp(disch:=omega)only[go_sem,e];refine Ok.ve (B _ t) ?_;rintro _ J ⟨rfl,u⟩;unfold qyk;rw[sf2];unfold qnx;unfold qnw;have f:=(D _ u).trans c;simp(disch:=omega)only[go_sem,f];refine Ok.ve (E _ u) ?_;rintro _ K ⟨rfl,G⟩;unfold qyk;rw[sf2];unfold qnx;exact Ok.ret ⟨rfl,G⟩
theorem q1q(s:aV C)(R:kH C)(G:20<=k){x:aT}{ib n:Nat}(I:bM H sv X)(J:yK H ib sv X)(t:bX X)(hn:(gM X)[n]? =some (g.name,x))(p:g∈X/\x∈g.gs):Ok (C k (.f 63) [.ptr ib 0,.agg [.str g.name.n g.name.a,g.rv],iN n] H) fun r H'=>r=iN 0/\Fm No H H':=by
 obtain⟨j,rfl⟩:=aU G;rw[(s j).zBv];unfold zBv zz0;obtain⟨mb,nb,av,iv,z,g1,g2,g3,g4,g5,g6,g7,g8,g9,_⟩:=J.ex;have o:n<(gM X).length:=by
  rcases xe n (gM X).length with h|h
  ·exact h
  ·simp_all
 have B:(gM X)[n]=(g.name,x):=by simp_all
 have K:=g9 n (by omega) o;rw[B]at K;obtain⟨b1,o1,e1,e2,_,_,e4⟩:=g4.at' n (by omega);have W:bK (H.get b1) o1=.val (.ptr (z[n]'(by omega)).1 (z[n]'(by omega)).2):=e4 0 (by rw[q6q];omega);have il:=J.lt;simp(disch:=first|go_size|omega)only[go_sem,rB,rI,rK,rL,rN,rS,r6,g1,e1,W];have Y:=t.pr.x _ p.1 _ p.2;generalize m:(((Hp.mk (aN (aN (aN H (aB 0 [.ptr ib 0])) (aB 0 [.str g.name.n g.name.a,g.rv])) (aB 0 [iN n])).t (H.nx+1+1+1+9)).put (H.nx+1+1+1+7) (aB 0 [.cK])).put (H.nx+1+1+1+7) (aB 0 [.ptr (z[n]'(by omega)).1 (z[n]'(by omega)).2]))=Ha;have w:Fm No H Ha:=by rw[<-m];exact(((((Fm.refl No H).push _).push _).push _).fC (n:=H.nx+1+1+1+9) (by omega)).aD _ _ (by omega) |>.aD _ _ (by omega)
 have na:Ha.nx=H.nx+12:=by rw[<-m];rfl
 have S:RlI Ha X g x sv ib n H.nx (H.nx+1) (H.nx+1+1+1+7) (H.nx+1+1) (z[n]'(by omega)):=by
  refine⟨I.fm w,J.fm w,p,?_,?_,?_,?_,⟨by omega,by omega,by omega,by omega⟩,K.fm w,?_⟩
  ·rw[<-m];simp(disch:=first|omega|exact ti rfl|simp only[np,nq];first|done|omega)only[go_sem]
  ·rw[<-m];simp(disch:=first|omega|exact ti rfl|simp only[np,nq];first|done|omega)only[go_sem]
  ·rw[<-m];exact dL _ _ _
  ·rw[<-m];simp(disch:=first|omega|exact ti rfl|simp only[np,nq];first|done|omega)only[go_sem]
  ·obtain⟨y,_,hy⟩:=qgh t.al t.sp (qg6.2 ⟨g,p.1,x,p.2,rfl,rfl⟩);have D:=qpv t.al (i:=n) (by rw[<-qbw,pz];exact o);have G:(aJ X)[n]'(by rw[<-qbw,pz];exact o)=(g.name,x.r.name):=by
    have T:(aJ X)[n]? =some (kq (gM X)[n]):=by rw[<-qbw,xw,lL o];rfl
    rw[lL (by rw[<-qbw,pz];exact o),B]at T;exact Option.some.inj T
   rw[G]at D;exact D
 have Z:=(K.fm w).ru;obtain⟨c0,c1,c2,c3,hcs,_⟩:=qfh ((I.sp _ p.1).rel _ p.2);have jH:=(((I.sp _ p.1).rel _ p.2).ru).fm w;simp only[go_sem,Z];refine Ok.ve (qqj s R (k:=j) (by omega) jH Y.2.2.1) ?_;rintro _ a ⟨Q,l,rfl,E,hl⟩;have n2:=E.fm.nx;obtain⟨c,d⟩:∃ c,c=aN ((aN ((aN a (aB 0 [.aA])).put a.nx (aB 0 [Q])) (aB 0 [.bool false])).put (a.nx+1) (aB 0 [.bool false])) (aB 0 [.fn 93 [] [.ptr H.nx 0,.ptr (H.nx+1) 0,.ptr (H.nx+1+1+1+7) 0,.ptr (H.nx+1+1) 0],.fn 94 [] [.ptr H.nx 0,.ptr (H.nx+1+1+1+7) 0],.fn 96 [] [.ptr H.nx 0,.ptr (H.nx+1) 0,.ptr a.nx 0,.ptr (a.nx+1) 0],.fn 98 [] [.ptr (a.nx+1) 0,.ptr (H.nx+1+1+1+7) 0,.ptr (H.nx+1) 0]]):=⟨_,rfl⟩;have U:Fm No a c:=by rw[d];repeat first|exact Fm.refl _ _|assumption|refine Fm.push ?_ _|refine Fm.aD ?_ _ _ (by omega)
 have nf:c.nx=a.nx+3:=by rw[d];rfl
 have L:c.get a.nx=aB 0 [Q]:=by rw[d];simp(disch:=first|go_size|omega)only[go_sem]
 have M:c.get (a.nx+1)=aB 0 [.bool false]:=by rw[d];simp(disch:=first|go_size|omega)only[go_sem]
 have N:c.get (a.nx+1+1)=aB 0 [.fn 93 [] [.ptr H.nx 0,.ptr (H.nx+1) 0,.ptr (H.nx+1+1+1+7) 0,.ptr (H.nx+1+1) 0],.fn 94 [] [.ptr H.nx 0,.ptr (H.nx+1+1+1+7) 0],.fn 96 [] [.ptr H.nx 0,.ptr (H.nx+1) 0,.ptr a.nx 0,.ptr (a.nx+1) 0],.fn 98 [] [.ptr (a.nx+1) 0,.ptr (H.nx+1+1+1+7) 0,.ptr (H.nx+1) 0]]:=by rw[d];simp(disch:=go_size)only[go_sem]
 have u:Fm No Ha c:=E.fm.trans U;have v:=S.fm u;have O:Rs 5 jL c Q l:=(E.rs vK).fm U;have q:Ok (C j (.f 92) [.sl (a.nx+1+1) 0 4 4 true] c) fun r H'=>r=iN 0/\∃ b,Fm No c b/\Fm No (b.put (a.nx+1) (aB 0 [.bool ((x.r.rule.nodes false).any fun y=>decide (y.k=1))])) H':=by
  refine z8g s (k:=j) (by omega) N (R1':=fun H'=>H'=c) (R2':=fun H'=>Fm No c H') (R3':=fun H'=>∃ b,Fm No c b/\H'=b.put (a.nx+1) (aB 0 [.bool ((x.r.rule.nodes false).any fun y=>decide (y.k=1))])) ?_ ?_ ?_ ?_ ?_ ?_ ?_
  ·rw[z1p s (by omega) v];exact Ok.ret ⟨rfl,rfl⟩
  ·simp
  ·rintro _ rfl;exact z1o s (by omega) v t
  ·intro H' f;exact f.keep (by omega)
  ·intro H1 A;exact z1n s (by omega) (v.fm A) t (O.fm A) hl ((A.keep (by omega)).trans L) ((A.keep (by omega)).trans M) (by have:=A.nx;omega) |>.mono fun r H' ⟨e,b,f,h⟩=>⟨e,b,A.trans f,h⟩
  ·rintro _ ⟨b,F,rfl⟩;rw[eB _ _ _ _ (by omega)];exact F.keep (by omega)
  ·rintro _ ⟨b,F,rfl⟩;have P:RlI (b.put (a.nx+1) (aB 0 [.bool ((x.r.rule.nodes false).any fun y=>decide (y.k=1))])) X g x sv ib n H.nx (H.nx+1) (H.nx+1+1+1+7) (H.nx+1+1) (z[n]'(by omega)):=S.fm ((u.trans F).aD _ _ (by omega));exact(z1m s R (by omega) P t (dL _ _ _)).mono fun r H' ⟨e,f⟩=>⟨e,b,F,f⟩
 have done:∀ r H',r=AV.int .i64 (.ofNat 0)/\(∃b,Fm No c b/\Fm No (b.put (a.nx+1) (aB 0 [.bool ((x.r.rule.nodes false).any fun y=>decide (y.k=1))])) H')->Ok (.ok r H') fun r H'=>r=iN 0/\Fm No H H':=fun r H' ⟨e,b,f,V⟩=>
  Ok.ret ⟨e,(((w.trans u).trans f).aD (a.nx+1) _ (by omega)).trans V⟩
 rcases E.gl.is with⟨h,_⟩|⟨_,_,_,_,_,h,_⟩
 ·subst h;simp(disch:=first|omega|exact ti rfl)only[go_sem,rB,rI,rK,rL,rN,rS,r6];simp(disch:=first|go_size|omega)only[go_sem,rB,rI,rK,rL,rN,rS,r6];rw[<-d];exact Ok.ve q done
 ·subst h;simp(disch:=first|omega|exact ti rfl)only[go_sem,rB,rI,rK,rL,rN,rS,r6];simp(disch:=first|go_size|omega)only[go_sem,rB,rI,rK,rL,rN,rS,r6];rw[<-d];exact Ok.ve q done
theorem ztc{s i:Nat}(b:s<X.length)(a:i<X[s].gs.length):(gM X)[(dY X s).length+i]? =some (X[s].name,X[s].gs[i]):=by obtain⟨Z,h⟩:=zlh b a;rw[h,ug (by simp;omega)];simp[yz (yu a)]
theorem qtp(f:aV C)(g:kH C){j:Nat}(l:20<=j){sv:AV}{X:List aM}{ib pb:Nat}{Hb:Hp}(m:bM Hb sv X)(n:yK Hb ib sv X)(c:bX X){s:Nat}(d:s<X.length)(o:Hb.get pb=aB 0 [.str X[s].name.n X[s].name.a,X[s].rv])(b:pb<Hb.nx){Q:pH}{q:pB}{qr:pB}(p:∀ H,Fm No Hb H->Ok (q (iN (((dY X s).length+X[s].gs.length))) H) Q):∀(k i:Nat) (H:Hp),i<=X[s].gs.length->X[s].gs.length-i<k->Fm No Hb H->Ok (qu9 (C j) qr q (.ptr ib 0) (.ptr pb 0) (iN (X[s].gs.length)) k (iN (((dY X s).length+i))) (iN i) H) Q
 |0,i,_,_,h,_=>by omega
 |k+1,i,H,hi,hk,hf=>by
  show Ok (q40 (C j) _ _ _ _ _ (qu9 (C j) _ _ _ _ _ k) _ _ H) Q;unfold q40;have w:=c.pr.len;have r:=q99 X s;by_cases a:i<X[s].gs.length
  ·have t:=(c.pr.r _ (lg d)).1;simp only[go_sem,a];unfold zhf;have e:=(hf.keep b).trans o;simp only[go_sem,e];refine Ok.ve (q1q f g l (m.fm hf) (n.fm hf) c (ztc d a) ⟨lg d,lg a⟩) ?_;rintro _ u ⟨rfl,v⟩;unfold zhg;unfold zhh;simp(disch:=go_size)only[go_sem,rB,rI,rK,rL,rN,rS,r6];exact qtp f g l m n c d o b p k (i+1) u (by omega) (by omega) (hf.trans v)
  ·simp only[go_sem,a];have x:i=X[s].gs.length:=by omega
   simp_all
theorem q07(f:aV C)(g:kH C){j:Nat}(l:20<=j){sv:AV}{X:List aM}{ib:Nat}{Hb:Hp}(m:bM Hb sv X)(n:yK Hb ib sv X)(b:bX X){Q:pH}{q:pD}{qr:pB}(o:∀ H,Fm No Hb H->Ok (q H) Q):∀(k s:Nat) (H:Hp),s<=X.length->X.length-s<k->Fm No Hb H->Ok (qyn (C j) qr q (.ptr ib 0) sv (iN (X.length)) k (iN ((dY X s).length)) (iN s) H) Q
 |0,i,_,_,h,_=>by omega
 |k+1,s,H,hi,hk,hf=>by
  show Ok (zhi (C j) _ _ _ _ _ (qyn (C j) _ _ _ _ _ k) _ _ H) Q;unfold zhi;have y:=b.pr.n;by_cases a:s<X.length
  ·simp only[go_sem,a];unfold zhe;have c:=m.fm hf;obtain⟨z,A,x,B,_,p,_⟩:=c.rs.at' s a;unfold sI SS.v at p;have d:=c.sp _ (lg a);have u:=d.len;have v:=(b.pr.r _ (lg a)).1;simp(disch:=first|omega|exact ti rfl)only[go_sem,seval,x,p,u];have e:Fm No H ((aN H (aB 0 [.str 0 0,.aA])).put H.nx (aB 0 [.str X[s].name.n X[s].name.a,X[s].rv])):=by exact nA
   unfold zhj;rw[bW];refine qtp f g l (c.fm e) ((n.fm hf).fm e) b a (pb:=H.nx) (dL _ _ _) (by go_size) (fun r t=>?_) bL 0 _ (gy _) (by rw[bZ];omega) (Fm.refl _ _);unfold q4y;simp(disch:=go_size)only[go_sem,rB,rI,rK,rL,rN,rS,r6];have w:(dY X s).length+X[s].gs.length=(dY X (s+1)).length:=by unfold dY gM;rw[lw a,vk,vw,ku,pz]
   rw[w];exact q07 f g l m n b o k (s+1) r (by omega) (by omega) ((hf.trans e).trans t)
  ·simp only[go_sem,a];exact o H hf
theorem q1o(e:aV C)(l:kH C)(s:21<=k)(m:bM H sv X)(a:bX X):Ok (C k (.f 40) [.agg [sv]] H) fun r H'=>r=iN 0/\Fm No H H':=by
 obtain⟨j,rfl⟩:=aU s;rw[(e j).zBj];unfold zBj zrd;simp(disch:=omega)only[go_sem,seval];have f:Fm No H (aN H (aB 0 [sv])):=by exact mG
 refine Ok.ve (zou e l (k:=j) (by omega) (m.fm f) a.pr) ?_;rintro _ H1 ⟨rfl,g⟩;unfold zhc;have u:=g.nx;simp only[np]at u;have n:H1.get H.nx=aB 0 [sv]:=(g.keep (by simp only[np,nq];omega)).trans (jA _ _);simp only[go_sem,seval,n];have b:=(m.fm f).fm g;refine Ok.ve (zye e (k:=j) (by omega) b a.pr a.al a.sp) ?_;rintro _ v ⟨ib,rfl,p,i⟩;have k2:=(i.keep (by omega)).trans n;have c:=b.fm i;obtain⟨mb,nb,av,iv,B,w,x,_⟩:=p.ex;have h:=x.len;have d:=c.rs.len;have z:=a.pr.n;simp only[go_sem,w,h,k2,d,xq];unfold zhd;simp only[go_sem,k2,d];unfold zwo;rw[bW];have A:(0:Nat)=(dY X 0).length:=by unfold dY gM;simp
 have o:=q07 e l (j:=j) (by omega) c p a (Q:=fun r H'=>r=iN 0/\Fm No H H') (q:=fun H=>q8g (C j) H) (qr:=fun x2 H=>.ok x2 H) (fun y t=>by exact Ok.ret ⟨rfl,((f.trans g).trans i).trans t⟩) bL 0 v (gy _) (by rw[bZ];omega) (Fm.refl _ _);trivial
theorem q7o(d:aV C)(s:kH C)(t:22<=k)(m:bM H sv X)(c:bX X)(a b to:SS)(e:(a,b)∈aJ X)(l:pE X a b to≠[]):Ok (C k (.f 43) [.agg [sv],.str a.n a.a,.str b.n b.a,.str to.n to.a] H) fun r H'=>∃ tv,r=.aX [tv,iN 0]/\Ac 1 sC H H' tv (pE X a b to):=by
 obtain⟨j,rfl⟩:=aU t;rw[(d j).zBm];unfold zBm zz7;simp(disch:=omega)only[go_sem,seval];have f:Fm No H (aN H (aB 0 [sv])):=by exact mG
 refine Ok.ve (q1o d s (k:=j) (by omega) (m.fm f) c) ?_;rintro _ H1 ⟨rfl,i⟩;unfold zhb;have z:=i.nx;have u:H1.get H.nx=aB 0 [sv]:=(i.keep (by simp only[np,nq];omega)).trans (jA _ _);simp only[go_sem,u];have g:=(m.fm f).fm i;refine Ok.ve (zye d (k:=j) (by omega) g c.pr c.al c.sp) ?_;rintro _ A ⟨ib,rfl,n,o⟩;obtain⟨q,x,_,y,_⟩:=qg7 d (k:=j) (by omega) n c.al c.sp e;simp only[go_sem,y];refine Ok.ve (qqi d (k:=j) (by omega) (g.fm o) c.pr.sml n c.al c.sp a b to e) ?_;intro tv B p;have v:=p.bS;have w:¬(pE X a b to).length=0:=fun h=>l (tq.1 h);simp only[go_sem,v,w];exact Ok.ret ⟨tv,rfl,p.trans ((f.trans i).trans o)⟩
theorem zmh(p q:SS×SS):l8 (fun xs a=>zX p1 ⟨iE⟩ 1 xs a 2 0) (kyP p) (kyP q)=some (decide (p=q)):=q67 p q
theorem iZ.aFy{b:Nat}{a:List (SS×SS)}(h:iZ H b a)(z:AV)(x y:SS)(c:(x,y)∈a):sK ⟨l8 fun xs d=>zX p1 ⟨iE⟩ 1 xs d 2 0,some 2⟩ z false H (.map b) (.agg [.str x.n x.a,.str y.n y.a])=.val (iN ((a.findIdx fun q=>decide (q=(x,y))))):=by have:=h.look (s:=some 2) zmh (fun _=>rfl) z false (x,y);rw[kz c]at this;exact this
theorem iZ.aZ7{b:Nat}{a:List (SS×SS)}(h:iZ H b a)(x y:SS)(c:(x,y)∉a):∃k,qW ⟨l8 fun xs d=>zX p1 ⟨iE⟩ 1 xs d 2 0,some 2⟩ H (.map b) (.agg [.str x.n x.a,.str y.n y.a]) (iN (a.length))=.ok .undef (H.put b k)/\iZ (H.put b k) b (a++[(x,y)]):=
 h.upd (s:=some 2) zmh (fun _=>rfl) c
structure qP(Hb:Hp)(iX:AV)(H:Hp)(gb N:Nat)(ev:AV)(es:List Edge):Prop where
 blk:H.get gb=aB 0 [iN N,ev]
 lt:gb<Hb.nx
 gl:Gl 3 H ev es.length (es.flatMap Edge.cells)
 fm:Fm (fun c=>c=gb\/In iX c) Hb H
 nw:∀ c,In ev c->In iX c\/Hb.nx<=c
 nin:∀ c,In ev c->gb<c
theorem qP.no{iX a:AV}{b:List Edge}(h:qP Hb iX H gb N a b)(f:Fm No H H'):qP Hb iX H' gb N a b:=
 ⟨(f.keep (lq h.lt h.fm.nx)).trans h.blk,h.lt,h.gl.no f,h.fm.then f fun _ _ h=>absurd h id,h.nw,h.nin⟩
theorem qP.base{iX a:AV}{b:List Edge}(h:qP Hb iX H gb N a b)(f:Fm No H H'):qP H' a H' gb N a b:=
 ⟨(f.keep (lq h.lt h.fm.nx)).trans h.blk,lq h.lt (rq h.fm.nx f.nx),h.gl.no f,Fm.refl _ _,fun _ h=>.inl h,h.nin⟩
theorem qP.comp{Hb H H1 g:Hp}{iX i a:AV}{l b:List Edge}(h:qP Hb iX H gb N i l)(f:Fm No H H1)(d:qP H1 i g gb N a b):qP Hb iX g gb N a b:=
 ⟨d.blk,h.lt,d.gl,(h.fm.then f fun _ _ h=>absurd h id).then d.fm fun c j e=>by
  rcases e with e|e
  ·omega
  ·rcases h.nw c e with h|h
   ·exact .inr h
   ·omega,fun c j=>by
  have m:=h.fm.nx;have n:=f.nx;rcases d.nw c j with k|k
  ·exact h.nw c k
  ·exact .inr (by omega),d.nin⟩
structure ToR(X:List aM)(g:aM)(x:aT)(y:Nd×AV)(nb mb pb rb yb:Nat)(H:Hp):Prop where
 n:H.get nb=aB 0 [.map mb]
 m:iZ H mb (aJ X)
 p:H.get pb=aB 0 [.str g.name.n g.name.a,g.rv]
 r:∃ c1 c2 c3 c4 c5,H.get rb=aB 0 [.str x.r.name.n x.r.name.a,c1,c2,c3,c4,c5]
 y:H.get yb=aB 0 (jL y)
theorem z08(G:aV C)(I:1<=k){iX m:AV}{l:List Edge}(e:qP Hb iX H gb N m l)(J:l.length<=1000000){x:aT}{y:Nd×AV}{nb mb pb rb z:Nat}(i:ToR X g x y nb mb pb rb z H)(f:(g.name,x.r.name)∈aJ X){a b:SS}(n:(a,b)∈aJ X)(T:(aJ X).length<=256):Ok (C k (.f 42) [.str a.n a.a,.str b.n b.a,.ptr gb 0,.ptr nb 0,.ptr pb 0,.ptr rb 0,.ptr z 0] H) fun _ H'=>∃ p,qP Hb iX H' gb N p (l++[⟨bR X g.name x.r.name,bR X a b,y.1.neg⟩]):=by
 obtain⟨j,rfl⟩:=aU I;rw[(G j).zBl];unfold zBl zz8;have A:=e.blk;have K:=i.n;have L:=i.p;obtain⟨W,Y,Z,c4,c5,Q⟩:=i.r;have B:=i.y;have M:=i.m.aFy (iN 0) g.name x.r.name f;have O:=i.m.aFy (iN 0) a b n;have U:(List.findIdx (fun q=>decide (q=(g.name,x.r.name))) (aJ X))=bR X g.name x.r.name:=rfl;have V:(List.findIdx (fun q=>decide (q=(a,b))) (aJ X))=bR X a b:=rfl;have r:sK ⟨l8 fun xs o=>zX p1 ⟨iE⟩ 1 xs o 2 0,some 2⟩ (iN 0) false ⟨H.t,H.nx+21⟩ (.map mb) (.agg [.str g.name.n g.name.a,.str x.r.name.n x.r.name.a])=.val (iN ((bR X g.name x.r.name))):=M;have s:sK ⟨l8 fun xs o=>zX p1 ⟨iE⟩ 1 xs o 2 0,some 2⟩ (iN 0) false ⟨H.t,H.nx+21⟩ (.map mb) (.agg [.str a.n a.a,.str b.n b.a])=.val (iN ((bR X a b))):=O;unfold jL SS.v at B;simp(disch:=go_size)only[go_sem,rB,rI,rK,rL,rN,rS,r6,A,K,L,Q,B,r,s];have t:=lq e.lt e.fm.nx;have u:Fm No H ((Hp.mk H.t (H.nx+21)).put (H.nx+17) (aB 0 [iN ((bR X g.name x.r.name)),iN ((bR X a b)),.bool y.1.neg])):=by(repeat(first|exact Fm.refl _ _|assumption|refine Fm.push ?_ _|refine Fm.fC ?_ (by go_size)|refine Fm.aD ?_ _ _ (by go_size)))
 obtain⟨R,D,E,_,F,S⟩:=(e.gl.no u).append (k:=1) (w:=24) (x:=Edge.cells ⟨bR X g.name x.r.name,bR X a b,y.1.neg⟩) (by omega) rfl (by omega) (by omega);simp only[nq]at D E S;refine Ok.xW D ?_;have v:¬ In m gb:=fun h=>by have:=e.nin gb h;omega
 have k2:R.get gb=aB 0 [iN N,m]:=(F.get gb (show gb<H.nx+21 by omega) v).trans ((u.keep t).trans A);simp only[go_sem,seval,k2];have P:=e.fm.nx;refine Ok.ret ⟨.sl (H.nx+21) 0 (l.length+1) (l.length+1) false,dL _ _ _,e.lt,?_,?_,?_,?_⟩
 ·rw[ku,vk,vw];refine E.keep (lh _) fun c d _=>?_;obtain⟨_,_,_,_,d⟩:=d;injection d with d;rw[eB _ _ _ _ (by omega)]
 ·refine((e.fm.then u fun _ _ h=>absurd h id).then F fun c d h=>?_).put _ _ fun _=>.inl rfl;rcases e.nw c h with h|h
  ·exact .inr h
  ·omega
 ·rintro c ⟨_,_,_,_,d⟩;injection d with d;omega
 ·rintro c ⟨_,_,_,_,d⟩;injection d with d;omega
def eE(X:List aM)(n:Nat)(neg:Bool)(p:SS×SS):Edge:=⟨n,bR X p.1 p.2,neg⟩
def toF(gb nb pb rb yb:Nat):AV:=.fn 42 [] [.ptr gb 0,.ptr nb 0,.ptr pb 0,.ptr rb 0,.ptr yb 0]
theorem q54(l:List jP):(yP l).length<=l.length:=by unfold yP;rw[pz];exact bu _ _
theorem qxo(o:aV C){j:Nat}(r:1<=j){Hb:Hp}{iX tv:AV}{gb N nb mb pb rb I:Nat}{X:List aM}{g:aM}{x:aT}{y:Nd×AV}(s:∀ H,Fm (fun c=>c=gb\/In iX c) Hb H->ToR X g x y nb mb pb rb I H)(t:∀ H,Fm (fun c=>c=gb\/In iX c) Hb H->Rs 2 tC H tv x.r.types)(f:x.r.types.length<=8)(a:(g.name,x.r.name)∈aJ X)(u:(aJ X).length<=256)(d:∀ p∈yP x.r.types,p∈aJ X){E:List Edge}(J:E.length<=900000){Q:pH}{q:pD}(v:∀ H e,qP Hb iX H gb N e (E++(yP x.r.types).map (eE X (bR X g.name x.r.name) y.1.neg))->Ok (q H) Q):∀(k i:Nat) (H:Hp) (e:AV),i<=x.r.types.length->x.r.types.length-i<k->qP Hb iX H gb N e (E++(yP (x.r.types.take i)).map (eE X (bR X g.name x.r.name) y.1.neg)) -> Ok (qvp (C j) q (toF gb nb pb rb I) tv (iN (x.r.types.length)) k (iN i) H) Q
 |0,i,_,_,_,h,_=>by omega
 |k+1,i,H,e,hi,hk,hG=>by
  show Ok (q5i (C j) _ _ _ _ (qvp (C j) _ _ _ _ k) _ H) Q;unfold q5i;by_cases b:i<x.r.types.length
  ·simp only[go_sem,b];unfold zh8;obtain⟨M,O,K,P,_,D,_⟩:=(t H hG.fm).at' i b;unfold tC SS.v at D;have m:=q9b b;have w:Fm No H ((aN H (aB 0 [.str 0 0,.str 0 0])).put H.nx (aB 0 [.str x.r.types[i].sp.n x.r.types[i].sp.a,.str x.r.types[i].rl.n x.r.types[i].rl.a])):=by exact nA
   have z:=q54 (x.r.types.take i);rw[ry]at z;by_cases n:x.r.types[i].rl.n=0/\x.r.types[i].rl.a=0
   ·have A:=zg n;rw[kz ((mZ _ _).2 n),ut]at m;simp(disch:=first|omega|exact ti rfl)only[go_sem,seval,K,D,A];unfold qvq;simp(disch:=go_size)only[go_sem,rB,rI,rK,rL,rN,rS,r6];exact qxo o r s t f a u d J v k (i+1) _ e (by omega) (by omega) (by rw[m];exact hG.no w)
   ·have l:¬ x.r.types[i].rl=sE:=fun h=>n ((mZ _ _).1 h);rw[lu l]at m;have B:(x.r.types[i].sp,x.r.types[i].rl)∈aJ X:=d _ (by
     unfold yP;rw[qj];exact⟨x.r.types[i],by rw[xg];exact⟨lg b,by simpa using l⟩,rfl⟩)
    simp(disch:=first|omega|exact ti rfl)only[go_sem,seval,K,D,n];refine Ok.ve (z08 o r (hG.no w) (by rw[ku,pz];omega) (s _ (hG.no w).fm) a B u) ?_;rintro _ R ⟨F,G⟩;unfold qvq;simp(disch:=go_size)only[go_sem,rB,rI,rK,rL,rN,rS,r6];refine qxo o r s t f a u d J v k (i+1) _ F (by omega) (by omega) ?_;rw[m,uj,<-rf];exact G
  ·simp only[go_sem,b];have L:i=x.r.types.length:=by omega
   rw[L,uz]at hG;exact v H e hG
theorem zat(o:aV C){j:Nat}(p:1<=j){Hb:Hp}{iX tv:AV}{gb N nb mb pb rb f:Nat}{X:List aM}{g:aM}{x:aT}{y:Nd×AV}(t:∀ H,Fm (fun c=>c=gb\/In iX c) Hb H->ToR X g x y nb mb pb rb f H){ts:List SS}(u:∀ H,Fm (fun c=>c=gb\/In iX c) Hb H->Rs 1 sC H tv ts)(l:ts.length<=100)(a:(g.name,x.r.name)∈aJ X)(v:(aJ X).length<=256)(d:∀ s∈ts,(s,y.1.to)∈aJ X){E:List Edge}(z:E.length<=900000){Q:pH}{q:pD}(w:∀ H e,qP Hb iX H gb N e (E++(ts.map fun s=>(s,y.1.to)).map (eE X (bR X g.name x.r.name) y.1.neg))->Ok (q H) Q):∀(k i:Nat) (H:Hp) (e:AV),i<=ts.length->ts.length-i<k->qP Hb iX H gb N e (E++((ts.take i).map fun s=>(s,y.1.to)).map (eE X (bR X g.name x.r.name) y.1.neg)) -> Ok (qvo (C j) q (.ptr f 0) (toF gb nb pb rb f) tv (iN (ts.length)) k (iN i) H) Q
 |0,i,_,_,_,h,_=>by omega
 |k+1,i,H,e,hi,hk,hG=>by
  show Ok (q5h (C j) _ _ _ _ _ (qvo (C j) _ _ _ _ _ k) _ H) Q;unfold q5h;by_cases b:i<ts.length
  ·simp only[go_sem,b];unfold q8s;obtain⟨G,I,D,J,F⟩:=(u H hG.fm).at1 (g:=SS.v) (fun _=>rfl) b;have r:=t H hG.fm;have A:=r.y;simp only[go_sem,D,F,A];refine Ok.ve (z08 o p hG (by rw[ku,pz,pz,ry];omega) r a (d ts[i] (lg b)) v) ?_;rintro _ K ⟨m,n⟩;unfold zh7;simp(disch:=go_size)only[go_sem,rB,rI,rK,rL,rN,rS,r6];refine zat o p t u l a v d z w k (i+1) _ m (by omega) (by omega) ?_;rw[lw b,uj,uj,<-rf];exact n
  ·simp only[go_sem,b];have B:i=ts.length:=by omega
   rw[B,uz]at hG;exact w H e hG
def ndF(X:List aM)(g:aM)(x:aT)(y:Nd):List Edge:=(yL X g.name x y).map (eE X (bR X g.name x.r.name) y.neg)
structure NdR(X:List aM)(g:aM)(x:aT)(sv nv:AV)(l:List (Nd×AV))(xb nb mb pb rb:Nat)(H:Hp):Prop where
 vN:bM H sv X
 x1:H.get xb=aB 0 [sv]
 n:H.get nb=aB 0 [.map mb]
 m:iZ H mb (aJ X)
 p:H.get pb=aB 0 [.str g.name.n g.name.a,g.rv]
 r:∃ c2 c3 c4 c5,H.get rb=aB 0 [.str x.r.name.n x.r.name.a,x.tv,c2,c3,c4,c5]
 nd:Rs 5 jL H nv l
theorem z2f(b:vV X){a:SS}{x:aT}(c:x.r.types.length<=100)(y:Nd):(yL X a x y).length<=100:=by
 unfold yL;split
 ·have:=q54 x.r.types;omega
 split
 ·simp
 split
 ·rw[pz];exact qoq b _ _ _
 ·simp
theorem z2g(a:vV X){x:aT}(b:x.r.types.length<=100)(y:Nd):(ndF X g x y).length<=100:=by unfold ndF;rw[pz];exact z2f a b y
theorem zax(J:aV C)(hN:kH C){j:Nat}(hj:22<=j){Hb:Hp}{iX sv nv:AV}{gb N K nb mb pb rb:Nat}{X:List aM}(A:bX X){g:aM}{x:aT}(t:g∈X/\x∈g.gs){l:List (Nd×AV)}(L:∀ H,Fm (fun c=>c=gb\/In iX c) Hb H->NdR X g x sv nv l K nb mb pb rb H)(M:K<Hb.nx/\nb<Hb.nx/\mb<Hb.nx/\pb<Hb.nx/\rb<Hb.nx)(hll:l.length<=32)(O:l.map Prod.fst=x.r.rule.nodes false)(P:∀ y∈l,∀p∈yL X g.name x y.1,p∈aJ X){E:List Edge}(hE:E.length<=800000){Q:pH}{q:pD}(hq:∀ H o,qP Hb iX H gb N o (E++l.flatMap fun y=>ndF X g x y.1)->Ok (q H) Q):∀(k i:Nat) (H:Hp) (o:AV),i<=l.length->l.length-i<k->qP Hb iX H gb N o (E++(l.take i).flatMap fun y=>ndF X g x y.1) -> Ok (qkg (C j) q (.ptr K 0) (.ptr nb 0) (.ptr gb 0) (.ptr pb 0) (.ptr rb 0) nv (iN (l.length)) k (iN i) H) Q
 |0,i,_,_,_,h,_=>by omega
 |k+1,i,H,o,hi,hk,hG=>by
  show Ok (q5j (C j) _ _ _ _ _ _ _ _ (qkg (C j) _ _ _ _ _ _ _ _ k) _ H) Q;unfold q5j;obtain⟨t1,t2,t3,t4,t5⟩:=M;by_cases n:i<l.length
  ·simp only[go_sem,n];unfold q8q;have r:=L H hG.fm;obtain⟨b1,o1,e1,e2,_,W,_⟩:=r.nd.at' i n;unfold jL SS.v at W;have S:=A.pr.sml;have htx:=(A.pr.x _ t.1 _ t.2).1;have m:(g.name,x.r.name)∈aJ X:=qg6.2 ⟨g,t.1,x,t.2,rfl,rfl⟩;have jJ:(aJ X).length<=256:=by have:=A.pr.len;rw[<-qbw,pz];exact this
   have D:Fm No H ((aN H (aB 0 [.int .u8 (.ofNat 0),.str 0 0,.str 0 0,.aA,.bool false])).put H.nx (aB 0 [.int .u8 (.ofNat l[i].1.k),.str l[i].1.rl.n l[i].1.rl.a,.str l[i].1.to.n l[i].1.to.a,l[i].2,.bool l[i].1.neg])):=by exact nA
   obtain⟨H1,d⟩:∃ H1,H1=(aN H (aB 0 [.int .u8 (.ofNat 0),.str 0 0,.str 0 0,.aA,.bool false])).put H.nx (aB 0 [.int .u8 (.ofNat l[i].1.k),.str l[i].1.rl.n l[i].1.rl.a,.str l[i].1.to.n l[i].1.to.a,l[i].2,.bool l[i].1.neg]):=⟨_,rfl⟩;rw[<-d]at D;have kb:H1.get H.nx=aB 0 (jL l[i]):=by rw[d];exact dL _ _ _
   have n1:H1.nx=H.nx+1:=by rw[d];rfl
   have e:=hG.no D;have nx0:=hG.fm.nx;have T:(E++(l.take i).flatMap fun y=>ndF X g x y.1).length<=900000:=by
    have h1:=qcg (fun y:Nd×AV=>ndF X g x y.1) 100 (l.take i) fun y _=>z2g S (by omega) _;rw[ku];have h2:(l.take i).length<=32:=by rw[ry];omega
    omega
   have next:∀ H' f,qP Hb iX H' gb N f ((E++(l.take i).flatMap fun y=>ndF X g x y.1)++ndF X g x l[i].1)->Ok (qhy (C j) (qkg (C j) q (.ptr K 0) (.ptr nb 0) (.ptr gb 0) (.ptr pb 0) (.ptr rb 0) nv (iN (l.length)) k) (iN i) H') Q:=fun H' f h=>by unfold qhy;simp(disch:=go_size)only[go_sem,rB,rI,rK,rL,rN,rS,r6];refine zax J hN hj A t L ⟨t1,t2,t3,t4,t5⟩ hll O P hE hq k (i+1) H' f (by omega) (by omega) ?_;rw[lw n,vk,vw,<-rf];exact h
   have oI:∀ c,In o c->c<H.nx:=fun c R=>hG.gl.lt R;have gbl:=hG.lt;have z:∀ w,Fm No H1 w->∀ H',Fm (fun c=>c=gb\/In o c) w H'->ToR X g x l[i] nb mb pb rb H.nx H':=fun w f2 H' B=>by
    have ft:Fm (fun c=>c=gb\/In iX c) Hb H':=((e.fm).then f2 fun _ _ h=>absurd h id).then B fun c R a=>by
     rcases a with a|a
     ·omega
     ·rcases hG.nw c a with h|h
      ·exact .inr h
      ·omega
    have Z:=L H' ft;refine⟨Z.n,Z.m,Z.p,?_,?_⟩
    ·obtain⟨c2,c3,c4,c5,h⟩:=Z.r;exact⟨_,_,_,_,_,h⟩
    ·have:=f2.nx;refine(B.get H.nx (by omega) fun a=>?_).trans ((f2.keep (by omega)).trans kb);rcases a with a|a
     ·omega
     ·have:=oI _ a;omega
   have r1:=L H1 e.fm;have u:=P _ (lg n);have b:ndF X g x l[i].1=(yL X g.name x l[i].1).map (eE X (bR X g.name x.r.name) l[i].1.neg):=rfl;unfold yL at u b;by_cases G:l[i].1.k=1
   ·have q1t:=zg G;rw[kz G]at u b;obtain⟨c2,c3,c4,c5,hrb⟩:=r.r;have rr:=(D.keep (show rb<H.nx by omega)).trans hrb;rw[d]at rr;have hty:=((r.vN.sp _ t.1).rel _ t.2).ty;have hl:=hty.len;simp(disch:=go_size)only[go_sem,rB,rI,rK,rL,rN,rS,r6,e1,W,q1t,rr,hl];unfold zia;rw[bW,<-d];have v:=e.base (Fm.refl No H1);refine qxo J (by omega) (N:=N) (Hb:=H1) (iX:=o) (y:=l[i]) (z H1 (Fm.refl _ _)) (fun H' B=>?_) htx m jJ u T (fun H' f h=>?_) bL 0 H1 o (gy _) (by rw[bZ];omega) ?_
    ·have ft:Fm (fun c=>c=gb\/In iX c) Hb H':=(e.fm).then B fun c R a=>by
      rcases a with a|a
      ·omega
      ·rcases hG.nw c a with h|h
       ·exact .inr h
       ·omega
     exact(((L H' ft).vN.sp _ t.1).rel _ t.2).ty
    ·refine next H' f ?_
     rw[b];exact e.comp (Fm.refl _ _) h
    ·rw[lAP];simpa [yP] using v
   ·rw[lu G]at u b;by_cases Y:l[i].1.k=2
    ·have q2t:=zg Y;rw[kz Y]at u b;have U:=(D.keep (show pb<H.nx by omega)).trans r.p;rw[d]at U;simp(disch:=go_size)only[go_sem,rB,rI,rK,rL,rN,rS,r6,e1,W,G,q2t,U];rw[<-d];have v:=e.base (Fm.refl No H1);refine Ok.ve (z08 J (by omega) v (by omega) (z H1 (Fm.refl _ _) H1 (Fm.refl _ _)) m (u _ qy) jJ) ?_;rintro _ H3 ⟨ev3,hG3⟩;refine next H3 ev3 ?_
     rw[b];exact e.comp (Fm.refl _ _) hG3
    ·rw[lu Y]at u b;by_cases I:l[i].1.k=3
     ·have q3t:=zg I;rw[kz I]at u b;have U:=(D.keep (show pb<H.nx by omega)).trans r.p;have rx:=(D.keep (show K<H.nx by omega)).trans r.x1;rw[d]at U rx;simp(disch:=go_size)only[go_sem,rB,rI,rK,rL,rN,rS,r6,e1,W,G,Y,q3t,U,rx];rw[<-d];have V:=A.nd _ t.1 _ t.2 l[i].1 (by rw[<-O];exact zo (lg n));refine Ok.ve (q7o J hN (k:=j) (by omega) r1.vN A g.name l[i].1.rl l[i].1.to (V.1 (.inr I)) (V.2 I)) ?_;rintro _ w ⟨tv,rfl,F⟩;have hl:=F.bS;simp only[go_sem,hl];unfold zh9;rw[bW];have v:=e.base F.fm;have htl:=qoq S g.name l[i].1.rl l[i].1.to;refine zat J (by omega) (N:=N) (Hb:=w) (iX:=o) (y:=l[i]) (z w F.fm) (fun H' B=>(F.rs zku).gH B fun c R a=>?_) htl m jJ (fun s a=>u _ (zo a)) T (fun H' f h=>?_) bL 0 w o (gy _) (by rw[bZ];omega) ?_
      ·have:=F.nw c R;rcases a with a|a
       ·omega
       ·have:=oI c a;omega
      ·refine next H' f ?_
       rw[b];exact e.comp F.fm h
      ·simp_all
     ·rw[lu I]at b;simp(disch:=go_size)only[go_sem,rB,rI,rK,rL,rN,rS,r6,e1,W,G,Y,I];rw[<-d];refine next H1 o ?_
      simp_all
  ·simp only[go_sem,n];have he:i=l.length:=by omega
   rw[he,uz]at hG;exact hq H o hG
theorem bX.tg(c:bX X){a b to s:SS}(h:s∈pE X a b to):(s,to)∈aJ X:=by
 unfold pE at h;cases f:mF X a b with
 |none=>rw[f]at h;cases h
 |some x=>rw[f]at h;unfold tgL at h;rw[qj]at h;obtain⟨t,e,rfl⟩:=h;rw[xg]at e;have d:=e.2;unfold tgP at d;rw[qc,qe9 c.al c.sp]at d;simp_all
theorem bX.ndt(c:bX X){x:aT}(b:g∈X/\x∈g.gs){y:Nd}(e:y∈x.r.rule.nodes false):∀ p∈yL X g.name x y,p∈aJ X:=by
 intro p a;unfold yL at a;have f:=c.nd _ b.1 _ b.2 y e;split at a
 ·unfold yP at a;rw[qj]at a;obtain⟨t,d,rfl⟩:=a;rw[xg]at d;rcases((c.ty _ b.1 _ b.2).2 t d.1).2 with h|h
  ·simp[h]at d
  ·exact h
 split at a
 ·simp_all
 split at a
 ·rw[qj]at a;obtain⟨s,i,rfl⟩:=a;exact c.tg i
 ·cases a
theorem zb3(c:vS X)(a b to:SS):(pE X a b to).length<=8:=by
 unfold pE;cases h:mF X a b with
 |none=>simp
 |some g=>refine rq (qwr X to _) ?_;obtain⟨p,d,e,_,_⟩:=qg2 h;exact(c.x p d g e).1
theorem ztl(a:vS X){x:aT}(b:x.r.types.length<=8)(y:Nd):(ndF X g x y).length<=8:=by
 unfold ndF yL;rw[pz];split
 ·have:=q54 x.r.types;omega
 split
 ·simp
 split
 ·rw[pz];exact zb3 a _ _ _
 ·simp
def relE(X:List aM)(g:aM)(x:aT):List Edge:=(x.r.rule.nodes false).flatMap (ndF X g x)
theorem q92(b:vS X){x:aT}(a:g∈X/\x∈g.gs):(relE X g x).length<=256:=by unfold relE;have c:=qcg (ndF X g x) 8 (x.r.rule.nodes false) fun y _=>ztl b (b.x _ a.1 _ a.2).1 y;have d:=qby x.r.rule false;have e:=(b.x _ a.1 _ a.2).2.2.1.sz;omega
def yU(X:List aM)(l:List aM):List Edge:=l.flatMap fun g=>g.gs.flatMap (relE X g)
structure RlR(X:List aM)(sv:AV)(xb nb mb:Nat)(H:Hp):Prop where
 vN:bM H sv X
 x1:H.get xb=aB 0 [sv]
 n:H.get nb=aB 0 [.map mb]
 m:iZ H mb (aJ X)
theorem zav(D:aV C)(F:kH C){j:Nat}(hj:22<=j){Hb:Hp}{iX sv:AV}{gb N G nb mb pb:Nat}{X:List aM}(m:bX X){g:aM}(f:g∈X)(I:∀ H,Fm (fun c=>c=gb\/In iX c) Hb H->RlR X sv G nb mb H/\H.get pb=aB 0 [.str g.name.n g.name.a,g.rv])(o:G<Hb.nx/\nb<Hb.nx/\mb<Hb.nx/\pb<Hb.nx){E:List Edge}(hE:E.length<=100000){Q:pH}{q:pD}(hq:∀ H e,qP Hb iX H gb N e (E++g.gs.flatMap (relE X g))->Ok (q H) Q):∀(k i:Nat) (H:Hp) (e:AV),i<=g.gs.length->g.gs.length-i<k->qP Hb iX H gb N e (E++(g.gs.take i).flatMap (relE X g)) -> Ok (qn8 (C j) q (.ptr G 0) (.ptr nb 0) (.ptr gb 0) (.ptr pb 0) g.rv (iN (g.gs.length)) k (iN i) H) Q
 |0,i,_,_,_,h,_=>by omega
 |k+1,i,H,e,hi,hk,hG=>by
  show Ok (q5k (C j) _ _ _ _ _ _ _ (qn8 (C j) _ _ _ _ _ _ _ k) _ H) Q;unfold q5k;obtain⟨t1,t2,t3,t4⟩:=o;by_cases b:i<g.gs.length
  ·simp only[go_sem,b];unfold q8p;obtain⟨r,rp⟩:=I H hG.fm;have p:=r.vN.sp _ f;obtain⟨b1,o1,e1,e2,_,_,_,e6⟩:=p.at' i b;have n:=lg b;have s:=p.rel _ n;obtain⟨c0,T,U,V,W,Y⟩:=qfh s;have t:=m.pr.x _ f _ n;rw[Y]at e6;have h16:=(m.pr.r _ f).1;obtain⟨H1,d⟩:∃ H1,H1=(aN H (aB 0 [.str 0 0,.aA,.int .u8 (.ofNat 0),.str 0 0,.str 0 0,.aA])).put H.nx (aB 0 [.str g.gs[i].r.name.n g.gs[i].r.name.a,g.gs[i].tv,c0,T,U,V]):=⟨_,rfl⟩;have w:Fm No H H1:=by rw[d];exact nA
   have kb:H1.get H.nx=aB 0 [.str g.gs[i].r.name.n g.gs[i].r.name.a,g.gs[i].tv,c0,T,U,V]:=by rw[d];exact dL _ _ _
   have n1:H1.nx=H.nx+1:=by rw[d];rfl
   have jH:=s.ru.fm w;rw[W]at jH;have O:=qqj D F (k:=j) (by omega) jH t.2.2.1;simp(disch:=go_size)only[go_sem,rB,rI,rK,rL,rN,rS,r6,e1,e6];rw[<-d];refine Ok.ve O ?_;rintro _ H2 ⟨nv,l,rfl,z,A⟩;have L:=z.bS;simp only[go_sem,L];unfold zib;rw[bW];have u:=z.fm;have n2:=u.nx;have nx0:=hG.fm.nx;have gbl:=hG.lt;have oI:∀ c,In e c->c<H.nx:=fun c v=>hG.gl.lt v;have M:l.length<=32:=by have:=congrArg List.length A;simp only[pz,qby]at this;have:=t.2.2.1.sz;omega
   have P:(E++(g.gs.take i).flatMap (relE X g)).length<=800000:=by
    have h1:=qcg (relE X g) 256 (g.gs.take i) fun x n=>q92 m.pr ⟨f,mf n⟩;rw[ku];have h2:(g.gs.take i).length<=16:=by rw[ry];omega
    omega
   have R:=hG.base (w.trans u);refine zax D F hj (N:=N) (Hb:=H2) (iX:=e) (sv:=sv) (mb:=mb) m (x:=g.gs[i]) ⟨f,n⟩ (l:=l) (fun H' J=>?_) ⟨by omega,by omega,by omega,by omega,by omega⟩ M A (fun y hy=>m.ndt ⟨f,n⟩ (by rw[<-A];exact zo hy)) P (fun H' K h=>?_) bL 0 H2 e (gy _) (by rw[bZ];omega) (by simpa using R)
   ·have ft:Fm (fun c=>c=gb\/In iX c) Hb H':=(hG.fm.then (w.trans u) fun _ _ h=>absurd h id).then J fun c v a=>by
     rcases a with a|a
     ·exact .inl a
     ·rcases hG.nw c a with h|h
      ·exact .inr h
      ·omega
    obtain⟨B,Z⟩:=I H' ft;refine⟨B.vN,B.x1,B.n,B.m,Z,⟨c0,T,U,V,?_⟩,(z.rs vK).gH J fun c v a=>?_⟩
    ·refine(J.get H.nx (by omega) fun a=>?_).trans ((u.keep (by omega)).trans kb);rcases a with a|a
     ·omega
     ·have:=oI _ a;omega
    ·have:=z.nw c v;rcases a with a|a
     ·omega
     ·have:=oI c a;omega
   ·unfold q5g;simp(disch:=go_size)only[go_sem,rB,rI,rK,rL,rN,rS,r6];refine zav D F hj m f I ⟨t1,t2,t3,t4⟩ hE hq k (i+1) H' K (by omega) (by omega) ?_;have S:relE X g g.gs[i]=l.flatMap fun y=>ndF X g g.gs[i] y.1:=by
     unfold relE;rw[<-A,lAT]
    rw[lw b,vk,vw,<-rf,S];exact hG.comp (w.trans u) h
  ·simp only[go_sem,b];have he:i=g.gs.length:=by omega
   rw[he,uz]at hG;exact hq H e hG
theorem zaw(b:vS X)(i:Nat):(yU X (X.take i)).length<=65536:=by
 unfold yU;have f:=qcg (fun g:aM=>g.gs.flatMap (relE X g)) 4096 (X.take i) fun g c=>by have a:=mf c;have e:=qcg (relE X g) 256 g.gs fun x d=>q92 b ⟨a,d⟩;have:=(b.r g a).1;omega
 have e:(X.take i).length<=16:=by rw[ry];have:=b.n;omega
 omega
theorem zau(u:aV C)(v:kH C){j:Nat}(w:22<=j){Hb:Hp}{iX sv:AV}{gb N l nb mb:Nat}{X:List aM}(f:bX X)(m:∀ H,Fm (fun c=>c=gb\/In iX c) Hb H->RlR X sv l nb mb H)(g:l<Hb.nx/\nb<Hb.nx/\mb<Hb.nx){Q:pH}{q:pD}(x:∀ H e,qP Hb iX H gb N e (yU X X)->Ok (q H) Q):∀(k s:Nat) (H:Hp) (e:AV),s<=X.length->X.length-s<k->qP Hb iX H gb N e (yU X (X.take s)) -> Ok (qkh (C j) q (.ptr l 0) (.ptr nb 0) (.ptr gb 0) sv (iN (X.length)) k (iN s) H) Q
 |0,i,_,_,_,h,_=>by omega
 |k+1,s,H,e,hi,hk,hG=>by
  show Ok (q5l (C j) _ _ _ _ _ _ (qkh (C j) _ _ _ _ _ _ k) _ H) Q;unfold q5l;obtain⟨L,M,O⟩:=g;have R:=f.pr.n;by_cases a:s<X.length
  ·simp only[go_sem,a];unfold q8o;have r:=m H hG.fm;obtain⟨T,U,P,V,_,A,_⟩:=r.vN.rs.at' s a;unfold sI SS.v at A;have o:=lg a;have B:=(r.vN.sp _ o).len;have D:=(f.pr.r _ o).1;obtain⟨H1,d⟩:∃ H1,H1=(aN H (aB 0 [.str 0 0,.aA])).put H.nx (aB 0 [.str X[s].name.n X[s].name.a,X[s].rv]):=⟨_,rfl⟩;have p:Fm No H H1:=by rw[d];exact nA
   have F:H1.get H.nx=aB 0 [.str X[s].name.n X[s].name.a,X[s].rv]:=by rw[d];exact dL _ _ _
   have S:H1.nx=H.nx+1:=by rw[d];rfl
   simp(disch:=first|omega|exact ti rfl)only[go_sem,seval,P,A,B];rw[<-d];unfold zic;rw[bW];have G:=hG.fm.nx;have I:=hG.lt;have oI:∀ c,In e c->c<H.nx:=fun c y=>hG.gl.lt y;have t:=hG.base p;refine zav u v w (N:=N) (Hb:=H1) (iX:=e) (sv:=sv) (mb:=mb) f o (fun H' z=>?_) ⟨by omega,by omega,by omega,by omega⟩ (E:=yU X (X.take s)) (by have:=zaw f.pr s;omega) (fun H' n h=>?_) bL 0 H1 e (gy _) (by rw[bZ];omega) (by simpa using t)
   ·have J:Fm (fun c=>c=gb\/In iX c) Hb H':=(hG.fm.then p fun _ _ h=>absurd h id).then z fun c y b=>by
     rcases b with b|b
     ·omega
     ·rcases hG.nw c b with h|h
      ·exact .inr h
      ·omega
    refine⟨m H' J,(z.get H.nx (by omega) fun b=>?_).trans F⟩;rcases b with b|b
    ·omega
    ·have:=oI _ b;omega
   ·unfold qvr;simp(disch:=go_size)only[go_sem,rB,rI,rK,rL,rN,rS,r6];refine zau u v w f m ⟨L,M,O⟩ x k (s+1) H' n (by omega) (by omega) ?_;unfold yU at h ⊢;rw[lw a,vk,vw];exact hG.comp p h
  ·simp only[go_sem,a];have K:s=X.length:=by omega
   rw[K,uz]at hG;exact x H e hG
end Go.Di
end
