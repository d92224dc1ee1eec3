/-
 For ReachesGoals: functions in direct style, their contracts, and the plain mathematics, part 5 of 11. No conditions beyond those that each theorem states.
-/
import Derived.Test.YtnojgpkbpnimhaaGreatConA
import Derived.Test.YtnojgpkbpnimhaaGreatConD
set_option linter.unusedSimpArgs false
set_option linter.unusedVariables false
open Nat renaming reduceAdd->rB,reduceMul->rI,reduceSub->rK,reduceLeDiff->rL,reduceEqDiff->rN,reduceShiftRight->rS,reduceAnd->r6
section
namespace Go.Di
open Go.Ev
variable {H H' H0:Hp} {X:List aQ} {av nv sv:AV} {b i j m n o z:Nat} {O:Ev.Call} {cs l:List AV} {g:aQ} {neg:Bool} {qr:pD}
def pC(p:SS×SS):List AV:=[p.1.v,p.2.v]
theorem qpj(p:SS×SS):(pC p).length=2:=rfl
def aF(X:List aQ):List (SS×SS):=X.flatMap fun g=>g.gs.map fun x=>(g.name,x.r.name)
structure sD(X:List aQ):Prop where
 n:X.length<=100
 r:∀ g∈X,g.gs.length<=100
 t:∀ g∈X,∀x∈g.gs,x.r.types.length<=100
theorem sD.all(h:sD X):∀ i,((X.take i).flatMap fun g=>g.gs.map fun x=>(g.name,x.r.name)).length<=10000:=fun i=>by
 have c:∀ l:List aQ,(∀g∈l,g.gs.length<=100)->(l.flatMap fun g=>g.gs.map fun x=>(g.name,x.r.name)).length<=100*l.length:=by
  intro l
  induction l with
  |nil=>intro _;simp
  |cons a l ih=>intro h;rw[uA,lL,pz,pq];have:=ih fun g b=>h g (uk _ b);have:=h a ug;omega
 have d:=c (X.take i) fun g b=>h.r g (oz b);have e:(X.take i).length<=X.length:=by rw[qx];omega
 have:=h.n;omega
theorem qzv{O:Ev.Call}{H0:Hp}{sb:Nat}{sv:AV}{X:List aQ}(l:bY H0 sv X)(m:sD X)(n:H0.get sb=aB 0 [sv])(c:sb<H0.nx){s:Nat}(e:s<X.length){A:List (SS×SS)}(v:A.length<=1000000){Q:pL}{q:pD}(y:∀ w H,Ac 2 pC H0 H w (A++X[s].gs.map fun x=>(X[s].name,x.r.name))->Ok (q w H) Q):∀(k i:Nat) (w:AV) (H:Hp),i<=X[s].gs.length->X[s].gs.length-i<k->Ac 2 pC H0 H w (A++(X[s].gs.take i).map fun x=>(X[s].name,x.r.name)) -> Ok (q6n O q (.ptr sb 0) (iN s) k w (iN i) H) Q
 |0,i,_,_,_,h,_=>om
 |k+1,i,w,H,hi,hk,hw=>by
  show Ok (zg6 O _ _ _ (q6n O _ _ _ k) _ _ H) Q;unfold zg6;have d:=l.fm hw.fm;have b:=(hw.fm.keep c).trans n;obtain⟨r,t,g,G,_,_,u⟩:=d.rs.at' s e;have z:bX (H.get r) t=.val (.str X[s].name.n X[s].name.a):=u 0 (by rw[qev];omega);have f:bX (H.get r) (t+1)=.val X[s].rv:=u 1 (by rw[qev];omega);have o:=d.sp _ (lg e);have p:=o.len;have E:=m.r _ (lg e);by_cases a:i<X[s].gs.length
  ·simp only[go_sem,b,g,f,p,a];unfold zg5;obtain⟨I,J,g1,g2,g3,_,_,_⟩:=o.at' i a;have B:(A++(X[s].gs.take i).map fun x=>(X[s].name,x.r.name)).length<=1001000:=by
    rw[lL,pz,qx];omega
   simp only[go_sem,seval,b,g,z,f,g1,g3];refine Ok.iD ((hw.no (by(repeat(first|exact Fm.refl _ _|assumption|refine Fm.push ?_ _|refine Fm.up2 ?_ (by go_size)|refine Fm.aG ?_ _ _ (by go_size))))).add (X[s].name,X[s].gs[i].r.name) 32 rfl (by omega) (by omega)) ?_;intro C D j;unfold qoh;refine aT ?_;refine qzv l m n c e v y k (i+1) C D om om ?_;rw[lh a,ui,ae,<-qw];exact j
  ·simp only[go_sem,b,g,f,p,a];have F:i=X[s].gs.length:=om;simp_all
theorem q9k{O:Ev.Call}{H0:Hp}{sb:Nat}{sv:AV}{X:List aQ}(e:bY H0 sv X)(c:sD X)(f:H0.get sb=aB 0 [sv])(b:sb<H0.nx){Q:pL}{q:pD}(m:∀ w H,Ac 2 pC H0 H w (aF X)->Ok (q w H) Q):∀(k i:Nat) (w:AV) (H:Hp),i<=X.length->X.length-i<k->Ac 2 pC H0 H w ((X.take i).flatMap fun g=>g.gs.map fun x=>(g.name,x.r.name)) -> Ok (qw1 O q (.ptr sb 0) k w (iN i) H) Q
 |0,i,_,_,_,h,_=>om
 |k+1,i,w,H,hi,hk,hw=>by
  show Ok (zg7 O _ _ (qw1 O _ _ k) _ _ H) Q;unfold zg7;have s:=c.n;have l:=e.fm hw.fm;have d:=(hw.fm.keep b).trans f;have n:=l.rs.len;by_cases a:i<X.length
  ·simp only[go_sem,d,n,a];unfold zg4 zw3;rw[dD];have t:=c.r _ (lg a);refine qzv e c f b a (rq (c.all i) om) (fun o p j=>?_) bZ 0 w H (gp _) lf (by simpa using hw);unfold qln;refine aT ?_;refine q9k e c f b m k (i+1) o p om om ?_;rw[lh a,qy,ry];exact j
  ·simp only[go_sem,d,n,a];have r:i=X.length:=om;rw[r,um]at hw;exact m w H hw
theorem qz7{k:Nat}(b:1<=k)(c:bY H sv X)(a:sD X):Ok (C k (.f 21) [.agg [sv]] H) fun r H'=>Ac 2 pC H H' r (aF X):=by
 obtain⟨j,rfl⟩:=aP b;rw[lk (zrf ..)];unfold zAh z1w;simp only[go_sem];have f:Fm No H (aI H (aB 0 [sv])):=by exact jF
 have g:=a.n;unfold zw4;rw[dD];refine q9k (c.fm f) a (jG _ _) gx (fun w e d=>?_) bZ 0 .aA _ (gp _) lf (Ac.nil _ _ (Fm.refl _ _));exact Ok.ret (d.trans f)
def cB(X:List aQ)(a b:SS):Nat:=(aF X).findIdx fun p=>decide (p=(a,b))
theorem q8h{O:Ev.Call}{H:Hp}{v:AV}{l:List (SS×SS)}(n:Rs 2 pC H v l)(a b:SS){Q:pL}{q:pH}{qr:pD}(B:l.findIdx (fun p=>decide (p=(a,b)))<l.length->Ok (qr (iN ((l.findIdx fun p=>decide (p=(a,b))))) H) Q)(w:(a,b)∉l->Ok (q H) Q)(o:l.length<=1000000000):∀(k i:Nat),i<=l.length->l.length-i<k->(∀m (_:m<i) (d:m<l.length),l[m]≠(a,b))->Ok (qwz O qr q a.v b.v v k (iN i) H) Q
 |0,i,_,h,_=>om
 |k+1,i,hi,hk,hn=>by
  show Ok (zgy O _ _ _ _ _ (qwz O _ _ _ _ _ k) _ H) Q;unfold zgy;have d:=n.len;have next:i<l.length->l[i]? ≠ some (a,b)->Ok (qri O (qwz O qr q a.v b.v v k) (iN i) H) Q:=fun c C=>by
   unfold qri;refine aT ?_;refine q8h n a b B w o k (i+1) om om fun m f d=>?_;by_cases A:m=i
   ·simp_all
   ·exact hn m om d
  by_cases c:i<l.length
  ·simp only[go_sem,d,c];unfold zgx;obtain⟨x,y,u,F,_,_,z⟩:=n.at' i c;have r:bX (H.get x) y=.val (.str l[i].1.n l[i].1.a):=z 0 (by rw[qpj];omega);have s:bX (H.get x) (y+1)=.val (.str l[i].2.n l[i].2.a):=z 1 (by rw[qpj];omega);unfold SS.v;by_cases g:l[i].1.n=a.n/\l[i].1.a=a.a
   ·have e:=yt g;by_cases j:l[i].2.n=b.n/\l[i].2.a=b.a
    ·have t:=yt j;simp only[go_sem,u,r,s,e,t];have D:l[i]=(a,b):=Prod.ext ((oD _ _).2 g) ((oD _ _).2 j);have E:l.findIdx (fun p=>decide (p=(a,b)))=i:=by
      rw[List.findIdx_eq c];simp_all
     simp_all
    ·simp only[go_sem,u,r,s,e,j];refine next c fun h=>j ?_
     simp_all
   ·simp only[go_sem,u,r,s,g];refine next c fun h=>g ?_
    simp_all
  ·simp only[go_sem,d,c];refine w fun f=>?_;obtain⟨m,f,A⟩:=ai f;exact hn m om f A
theorem zna{k:Nat}(e:2<=k)(g:bY H sv X)(d:sD X)(a b:SS):Ok (C k (.f 64) [.agg [sv],a.v,b.v] H) fun r H'=>Fm No H H'/\((cB X a b<(aF X).length/\r=iN ((cB X a b)))\/((a,b)∉aF X/\r=.int .i64 (.negSucc 0))):=by
 obtain⟨j,rfl⟩:=aP e;rw[lk (zrc ..)];unfold zAm z1t;refine aT ?_;have f:Fm No H (aI H (aB 0 [sv])):=by exact jF
 refine Ok.ve (qz7 (k:=j) om (g.fm f) d) ?_;intro w H1 c;have i:(aF X).length<=10000:=by have:=d.all X.length;rwa [um]at this
 unfold zw0;rw[dD];refine q8h (c.rs qpj) a b (fun h=>?_) (fun h=>?_) om bZ 0 (gp _) lf (fun m l=>om)
 ·exact Ok.ret ⟨f.trans c.fm,.inl ⟨h,rfl⟩⟩
 ·unfold qT;exact Ok.ret ⟨f.trans c.fm,.inr ⟨h,rfl⟩⟩
def tgP(X:List aQ)(to:SS)(t:jL):Bool:=decide (t.rl=sE)&&(lF X t.sp to).isSome
def tgL(X:List aQ)(to:SS)(l:List jL):List SS:=(l.filter (tgP X to)).map jL.sp
def iZ(X:List aQ)(a rel to:SS):List SS:=match lF X a rel with
 |none=>[]
 |some g=>tgL X to g.r.types
theorem qni(g:bB):∃ a b c4 c5,gP g=[.str g.r.name.n g.r.name.a,g.tv,a,b,c4,c5]:=⟨_,_,_,_,rfl⟩
theorem qup(X:List aQ)(to:SS)(l:List jL):(tgL X to l).length<=l.length:=by unfold tgL;rw[pz];exact zn _ _
theorem q65(X:List aQ)(to:SS){l:List jL}(h:i<l.length):tgL X to (l.take (i+1))=tgL X to (l.take i)++if tgP X to l[i]then[l[i].sp]else[]:=by unfold tgL;rw[lh h,eQ,ui,ik];split<;>simp
theorem qjh{j:Nat}(D:2<=j){H0:Hp}{sb rb:Nat}{sv tv c0 c2 c3 c4 c5:AV}{X:List aQ}(E:bY H0 sv X)(z:sD X)(F:H0.get sb=aB 0 [sv])(n:sb<H0.nx)(G:H0.get rb=aB 0 [c0,tv,c2,c3,c4,c5])(o:rb<H0.nx){ts:List jL}(I:Rs 2 tC H0 tv ts)(s:ts.length<=1000)(to:SS){Q:pL}{q:pD}(S:∀ w H,Ac 1 sC H0 H w (tgL X to ts)->Ok (q w H) Q):∀(k i:Nat) (w:AV) (H:Hp),i<=ts.length->ts.length-i<k->Ac 1 sC H0 H w (tgL X to (ts.take i)) -> Ok (qoc (C j) q to.v (.ptr sb 0) (.ptr rb 0) k w (iN i) H) Q
 |0,i,_,_,_,h,_=>om
 |k+1,i,w,H,hi,hk,hw=>by
  show Ok (zf9 (C j) _ _ _ _ (qoc (C j) _ _ _ _ k) _ _ H) Q;unfold zf9;have L:=E.fm hw.fm;have M:=(hw.fm.keep n).trans F;have d:=(hw.fm.keep o).trans G;have t:=I.fm hw.fm;have T:=t.len;have nx1:=hw.fm.nx;have hn:=z.n;by_cases l:i<ts.length
  ·simp only[go_sem,d,T,l];rw[kE qmt];unfold qmt;obtain⟨A,B,v,W,_,_,Y⟩:=t.at' i l;have U:bX (H.get A) B=.val (.str ts[i].sp.n ts[i].sp.a):=Y 0 (by rw[qe3];omega);have r1:bX (H.get A) (B+1)=.val (.str ts[i].rl.n ts[i].rl.a):=Y 1 (by rw[qe3];omega);simp only[go_sem,seval,d,M,v,U];have V:Fm No H ⟨H.t,H.nx+15⟩:=fm;refine Ok.iD (qll (k:=j) D (L.fm V) om (fun g hg=>by have:=z.r g hg;omega) ts[i].sp to) ?_;rintro r Z ⟨f2,b⟩;have p:=V.trans f2;have hs:=q65 X to l;have N:=qup X to (ts.take i);rw[qx]at N;have a:∀ m,Fm No H m->tgP X to ts[i]=false->Ok (yP (C j) (qoc (C j) q to.v (.ptr sb 0) (.ptr rb 0) k) w (iN i) m) Q:=fun m J h=>by
    unfold yP;refine aT ?_;refine qjh D E z F n G o I s to S k (i+1) w m om om ?_;rw[hs,h];simpa using hw.no J
   have c:∀ m,Fm No H m->tgP X to ts[i]=true->Ok (ve (iM 1 16 (aI m (aB 0 [.str ts[i].sp.n ts[i].sp.a])) w (some ⟨1,[.str ts[i].sp.n ts[i].sp.a]⟩)) fun K H=>yP (C j) (qoc (C j) q to.v (.ptr sb 0) (.ptr rb 0) k) K (iN i) H) Q:=fun m J h=>by refine Ok.ve ((hw.no (J.trans (by exact jF))).add ts[i].sp 16 rfl om om) ?_;intro w4 H4 hw4;unfold yP;refine aT ?_;refine qjh D E z F n G o I s to S k (i+1) w4 H4 om om ?_;simp_all
   unfold qz3 at b;have e:=(p.keep om).trans d;have O:bX (Z.get A) B=.val (.str ts[i].sp.n ts[i].sp.a):=by rw[p.keep W];exact U
   have f:bX (Z.get A) (B+1)=.val (.str ts[i].rl.n ts[i].rl.a):=by rw[p.keep W];exact r1
   unfold tgP at a c;by_cases x:ts[i].rl.n=0/\ts[i].rl.a=0
   ·have P:ts[i].rl=sE:=(oD _ _).2 x;have u:=yt x;rw[qc P]at a c;cases y:lF X ts[i].sp to with
    |none=>rw[y]at b a;subst b;unfold qqz;refine jD e v f u ?_;exact a _ (((p.aG (H.nx+12) _ om)).aG (H.nx+12) _ om) rfl
    |some g=>rw[y]at b c;subst b;obtain⟨d2,d3,d4,d5,R⟩:=qni g;rw[R];refine nI e v O f u ?_;exact c _ (((p.aG (H.nx+12) _ om)).aG (H.nx+12) _ om) rfl
   ·rw[ql (fun h=>x ((oD _ _).1 h))]at a;cases y:lF X ts[i].sp to with
    |none=>rw[y]at b a;subst b;unfold qqz;refine jD e v f x ?_;exact a _ (((p.aG (H.nx+12) _ om)).aG (H.nx+12) _ om) rfl
    |some g=>rw[y]at b a;subst b;obtain⟨d2,d3,d4,d5,R⟩:=qni g;rw[R];refine jD e v f x ?_;exact a _ (((p.aG (H.nx+12) _ om)).aG (H.nx+12) _ om) rfl
  ·simp only[go_sem,d,T,l];have he:i=ts.length:=om;simp_all
theorem qsz{k:Nat}(v:3<=k)(n:bY H sv X)(l:sD X)(a b to:SS):Ok (C k (.f 30) [.agg [sv],a.v,b.v,to.v] H) fun r H'=>Ac 1 sC H H' r (iZ X a b to):=by
 obtain⟨j,rfl⟩:=aP v;rw[lk (zqx ..)];unfold zBb z1f;refine aT ?_;have f:Fm No H (aI H (aB 0 [sv])):=by exact jF
 have G:=l.n;refine Ok.ve (qll (k:=j) om (n.fm f) om (fun g o=>by have:=l.r g o;omega) a b) ?_;rintro r e ⟨s,c⟩;have y:=s.nx;simp only[np]at y;have m:=f.trans s;have t:e.get H.nx=aB 0 [sv]:=(s.keep gx).trans (jG _ _);unfold qz3 at c;unfold iZ;cases i:lF X a b with
 |none=>
  rw[i]at c;subst c;refine aT ?_;have d:Fm No e ((aI e (aB 0 [zS,.aA,uN 0,zS,zS,.aA])).put e.nx (aB 0 [zS,.aA,uN 0,zS,zS,.aA])):=by exact kP
  unfold zga;rw[dD];refine qjh om (n.fm (m.trans d)) l ((d.keep om).trans t) gz (dN _ _ _) gz (Rs.nil 2 tC _) g3 to (fun w x q=>?_) bZ 0 .aA _ (gp _) (by rw[wH];simp) (Ac.nil _ _ (Fm.refl _ _));exact Ok.ret (q.trans (m.trans d))
 |some g=>
  rw[i]at c;subst c;obtain⟨A,B,D,E,F⟩:=qni g;rw[F];refine aT ?_;have d:Fm No e ((aI e (aB 0 [zS,.aA,uN 0,zS,zS,.aA])).put e.nx (aB 0 [.str g.r.name.n g.r.name.a,g.tv,A,B,D,E])):=by exact kP
  unfold zga;rw[dD];obtain⟨p,u,o⟩:∃ p∈X,g∈p.gs:=by
   unfold lF at i;cases h:X.find? fun g=>decide (g.name=a)with
   |none=>rw[h]at i;cases i
   |some p=>rw[h]at i;exact⟨p,xf h,xf i⟩
  have z:=l.t p u g o;refine qjh om (n.fm (m.trans d)) l ((d.keep om).trans t) gz (dN _ _ _) gz ((((n.sp p u).rel g o).ty).fm (m.trans d)) om to (fun w x q=>?_) bZ 0 .aA _ (gp _) lf (Ac.nil _ _ (Fm.refl _ _));exact Ok.ret (q.trans (m.trans d))
theorem zte{k:Nat}(a:1<=k)(n:Int)(H:Hp):C k (.f 259) [.int .i64 n] H=.ok (.bool false) H:=by obtain⟨j,rfl⟩:=aP a;rw[lk (zpn ..)];unfold zDc z0e;simp only[go_sem]
def pP(a b:Int):Int:=if a<b then -1 else if b<a then 1 else 0
theorem qv6{k:Nat}(d:2<=k)(a b:Int)(H:Hp):C k (.f 244) [.int .i64 a,.int .i64 b] H=.ok (.int .i64 (pP a b)) H:=by
 obtain⟨j,rfl⟩:=aP d;rw[lk (zpx ..)];unfold zCr z0l;simp only[zte (show 1<=j by omega),go_sem];unfold zwg zwh zwi jW pP;by_cases h:a<b
 ·simp only[h,go_sem];rfl
 ·by_cases c:b<a
  ·simp only[h,c,go_sem];rfl
  ·simp only[h,c,go_sem];rfl
def sgn(s:Bool):Int:=if s then 1 else 0
theorem z2g{k:Nat}(c:1<=k)(a b:AV)(s:Bool)(H:Hp):C k (.f 245) [.agg [a,b,.bool s]] H=.ok (.int .i64 (sgn s)) (aI H (aB 0 [a,b,.bool s])):=by obtain⟨j,rfl⟩:=aP c;rw[lk (zpw ..)];unfold zCs z0k jW;cases s<;>simp(disch:=omega)only[go_sem,seval,Nat.beq]<;>rfl
def ints(l:List Int):List AV:=l.map (fun n=>.int .i64 n)
theorem ztg(l:List Int)(i:Nat)(h:i<l.length):(ints l)[i]? =some (.int .i64 l[i]):=by simp[ints,h]
def orI:List Int->Int
 | []=>0
 |x::l=>if x=0 then orI l else x
theorem zm9{O:Ev.Call}{H:Hp}{b m:Nat}{e:Bool}{q:Nat}{l:List Int}(g:H.get b=aB q (ints l))(j:l.length<1000000):∀(k i:Nat),i<=l.length->l.length-i<k->q5q O (fun x2 H=>.ok x2 H) (fun H=>gM O (.int .i64 (.ofNat 0)) H) (.int .i64 (.ofNat 0)) (.sl b 0 l.length m e) (.int .i64 (.ofNat l.length)) k (.int .i64 (.ofNat i)) H=.ok (.int .i64 (orI (l.drop i))) H
 |0,i,_,h=>om
 |k+1,i,hi,hk=>by
  show zeq O _ _ _ _ _ (q5q O _ _ _ _ _ k) _ H=_;unfold zeq;by_cases a:i<l.length
  ·refine eP a ?_;unfold zwe;have d:l.drop i=l[i]::l.drop (i+1):=uq a;refine eF g (ztg _ _ a) ?_;rw[d];show _=R1.ok (.int .i64 (if l[i]=0 then orI (l.drop (i+1))else l[i])) H;by_cases f:l[i]=Int.ofNat 0
   ·have c:l[i]=0:=f;simp only[c,go_sem];unfold kQ;refine aT ?_;exact zm9 g j k (i+1) om om
   ·have c:¬ l[i]=0:=f;simp only[f,c,go_sem]
  ·have d:l.drop i=[]:=xe om;refine eP a ?_;rw[d];rfl
theorem aOa{k:Nat}(a:1<=k){e:Bool}{q n:Nat}{l:List Int}(c:l.length=n)(d:H.get b=aB q (ints l))(f:l.length<1000000):C k (.f 99) [.sl b 0 n m e] H=.ok (.int .i64 (orI l)) H:=by obtain⟨j,rfl⟩:=aP a;subst c;rw[lk (zpv ..)];unfold zCt z0j zwf;simp only[go_sem];rw[dD];exact zm9 d f _ 0 (gp _) lf
structure Edge where
 (f t:Nat)
 s:Bool
deriving DecidableEq
def Edge.cells(e:Edge):List AV:=[.int .i64 (.ofNat e.f),.int .i64 (.ofNat e.t),.bool e.s]
def xP(x y:Edge):Int:=orI [pP (.ofNat x.f) (.ofNat y.f),pP (.ofNat x.t) (.ofNat y.t),pP (sgn x.s) (sgn y.s)]
theorem za9{k:Nat}(a:3<=k)(x y:Edge)(H:Hp):Ok (C k (.f 217) [.agg x.cells,.agg y.cells] H) fun v H'=>v=.int .i64 (xP x y)/\Fm No H H':=by obtain⟨j,rfl⟩:=aP a;rw[lk (zp9 ..)];unfold zBz z0w Edge.cells;simp(disch:=first|go_size|omega)only[go_sem,seval,Nat.beq,qv6 (show 2<=j by omega),z2g (show 1<=j by omega)];refine Ok.uU (aOa (show 1<=j by omega) (l:=[pP (.ofNat x.f) (.ofNat y.f),pP (.ofNat x.t) (.ofNat y.t),pP (sgn x.s) (sgn y.s)]) rfl (dN _ _ _) g3) ?_;simp only[go_sem];exact Ok.ret ⟨rfl,fm⟩
structure qf4(n:Nat)(es:List Edge):Prop where
 rng:∀ e∈es,e.f<n/\e.t<n
 ord:∀ i,(h:i+1<es.length)->xP es[i] es[i+1]<0
theorem q4c(a b:Int)(k:IntKind):qL o7 (.int k a) [.int k b]=.val (.int k (min a b)):=by
 show R0.val (.int k (bif qZ b a then b else a))=_;rw[qel];by_cases h:b<a
 ·rw[qc h,Int.min_eq_right om];rfl
 ·rw[ql h,Int.min_eq_left om];rfl
theorem qp1(a b:Int)(k:IntKind):qL pF (.int k a) [.int k b]=.val (.int k (max a b)):=by
 show R0.val (.int k (bif qZ a b then b else a))=_;rw[qel];by_cases h:a<b
 ·rw[qc h,Int.max_eq_right om];rfl
 ·rw[ql h,Int.max_eq_left om];rfl
structure lV(H:Hp)(v:AV)(es:List Edge):Prop where
 flat:vT v=true
 len:aD v=.val (.int .i64 (.ofNat es.length))
 lt':∀ b,In v b->b<H.nx
 at':∀(i:Nat) (hi:i<es.length),∃b o,aH 3 v (.int .i64 (.ofNat i))=.val (.ptr b o)/\b<H.nx/\fD (H.get b) o 3=some es[i].cells
theorem lV.at{v:AV}{es:List Edge}(h:lV H v es)(a:i<es.length):∃ b o,aH 3 v (.int .i64 (.ofNat i))=.val (.ptr b o)/\b<H.nx/\fD (H.get b) o 3=some es[i].cells:=h.at' i a
theorem lV.fm{v:AV}{es:List Edge}(h:lV H v es)(a:Fm No H H'):lV H' v es:=⟨h.flat,h.len,fun b d=>ku (h.lt' b d) a.nx,fun i e=>by obtain⟨b,o,f,c,g⟩:=h.at' i e;exact⟨b,o,f,ku c a.nx,by rw[a.keep c];exact g⟩⟩
theorem z8v{v:AV}(h:aH z v (.int .i64 (.ofNat i))=.val (.ptr b o)):In v b:=by
 cases v with
 |sl b' o' n m e=>
  have h:(bif Nat.blt i n then R0.val (.ptr b' (o'+i*z))else .bad)=.val (.ptr b o):=h;cases a:Nat.blt i n with
  |true=>rw[a]at h;cases h;exact⟨_,_,_,_,rfl⟩
  |false=>rw[a]at h;cases h
 |_=>cases h
theorem lV.keep{v:AV}{es:List Edge}(h:lV H v es)(a:H.nx<=H'.nx)(e:∀ b,In v b->b<H.nx->H'.get b=H.get b):lV H' v es:=⟨h.flat,h.len,fun b f=>ku (h.lt' b f) a,fun i g=>by obtain⟨b,o,c,d,j⟩:=h.at' i g;exact⟨b,o,c,ku d a,by rw[e b (z8v c) d];exact j⟩⟩
theorem lV.lt{v:AV}{es:List Edge}(h:lV H v es)(a:In v b):b<H.nx:=h.lt' b a
theorem Gl.flat{v:AV}(h:Gl z H v n l):vT v=true:=by rcases h.is with⟨rfl,rfl⟩|⟨b,o,e,q,L,rfl,_⟩<;>rfl
theorem lV.nC{v:AV}{es:List Edge}(h:lV H v es):nC 64 v v=true:=wV h.flat 63
theorem qlm{j:Nat}(r:3<=j){n:Nat}{es:List Edge}(o:qf4 n es){v:AV}{g:Nat}{H0:Hp}(c:es.length<1000000){Q:pL}{u:pH}(s:∀ H,Fm No H0 H->Ok (u H) Q):∀(k i:Nat) (H:Hp),i<=es.length->es.length-i<k->lV H v es->g<H.nx->H.get g=aB 0 [.int .i64 (.ofNat n),v]->Fm No H0 H -> Ok (q5x (C j) (fun x2 H=>.ok x2 H) u (.ptr g 0) v (.int .i64 (.ofNat es.length)) k (.int .i64 (.ofNat i)) H) Q
 |0,i,_,_,h,_,_,_,_=>om
 |k+1,i,H,hi,hk,hv,hg1,hg2,hf=>by
  show Ok (ze7 (C j) _ _ _ _ _ (q5x (C j) _ _ _ _ _ k) _ H) Q;unfold ze7;by_cases a:i<es.length
  ·obtain⟨b,G,x,I,y⟩:=hv.at a;have F:=o.rng es[i] (lg a);simp only[go_sem,a];unfold ze6 z5q;have d:(min (Int.ofNat es[i].f) (Int.ofNat es[i].t)<Int.ofNat 0)=False:=by simp only[ut,eq_iff_iff,iff_false];omega
   have e:(Int.ofNat n<=max (Int.ofNat es[i].f) (Int.ofNat es[i].t))=False:=by simp only[ut,eq_iff_iff,iff_false];omega
   by_cases z:0<i
   ·obtain⟨p,rfl⟩:∃ p,i=p+1:=⟨i-1,om⟩;obtain⟨B,D,t,E,m⟩:=hv.at (show p<es.length by omega);have l:=hv.nC;simp(disch:=go_size)only[go_sem,rB,rI,rK,rL,rN,rS,r6,x,y,Edge.cells,q4c,qp1,d,e,hg2,z,t,m,lAL];refine Ok.iD (za9 r es[p] es[p+1] _) ?_;rintro J H' ⟨rfl,q⟩;have w:H'.get g=aB 0 [.int .i64 (.ofNat n),v]:=(q.keep gz).trans (by simp(disch:=omega)only[go_sem,seval,hg2]);have k2:fD (H'.get B) D 3=some es[p].cells:=by rw[q.keep gz];simp(disch:=omega)only[go_sem,seval,m]
    have k3:H'.get H.nx=aB 0 es[p+1].cells:=(q.keep gx).trans (by simp only[go_sem,seval,Edge.cells]);have A:(Int.ofNat 0<=xP es[p] es[p+1])=False:=by have:=o.ord p a;simp_all
    simp only[go_sem,w,k2,k3,l,Edge.cells,A];unfold wE;refine aT ?_;have f:Fm No H H':=by refine Fm.trans ?_ q;exact kP
    exact qlm r o c s k (p+1+1) H' om om (hv.fm f) (ku hg1 f.nx) w (hf.trans f)
   ·simp(disch:=go_size)only[go_sem,rB,rI,rK,rL,rN,rS,r6,x,y,Edge.cells,q4c,qp1,d,e,hg2,z];unfold wE;refine aT ?_;have f:Fm No H ((aI H (aB 0 [.int .i64 (.ofNat 0),.int .i64 (.ofNat 0),.bool false])).put H.nx (aB 0 [.int .i64 (.ofNat es[i].f),.int .i64 (.ofNat es[i].t),.bool es[i].s])):=by exact kP
    exact qlm r o c s k (i+1) _ om om (hv.fm f) (ku hg1 f.nx) ((f.keep hg1).trans hg2) (hf.trans f)
  ·simp only[go_sem,a];exact s H hf
theorem zux{k:Nat}(d:4<=k){es:List Edge}(e:qf4 n es)(h:n<=256)(a:es.length<1000000){v:AV}(b:lV H v es):Ok (C k (.f 221) [.agg [.int .i64 (.ofNat n),v]] H) fun r H'=>r=.int .i64 (.ofNat 0)/\Fm No H H':=by
 obtain⟨j,rfl⟩:=aP d;rw[lk (zp8 ..)];unfold zCd z0v;have g:(256<n)=False:=by simp only[eq_iff_iff,iff_false];omega
 refine eF g lAD ?_;unfold ze5 zwm;have c:Fm No H (aI H (aB 0 [.int .i64 (.ofNat n),v])):=by exact jF
 refine eP b.len ?_;rw[dD];refine qlm om e a (fun H f=>?_) _ 0 _ (gp _) lf (b.fm c) gz (jG _ _) c;exact Ok.ret ⟨rfl,f⟩
def aJ(l:List Nat):List AV:=l.map (fun n=>.int .i64 (.ofNat n))
theorem ints_set(l:List Int)(i:Nat)(n:Int)(h:i<l.length):aZ (ints l) i [.int .i64 n]=ints (l.set i n):=by
 unfold aZ ints;apply List.ext_getElem
 ·simp;omega
 ·intro j b c;simp only[lAJ,lED];by_cases d:j<i
  ·rw[lAW g2,lAW g2];simp[show ¬i=j by omega]
  ·by_cases a:i=j
   ·subst a;simp[yu (zo h)]
   ·rw[List.getElem_append_right g2];simp[a,yu (zo h)];congr 2;omega
theorem qy2(l:List Nat):ints (l.map Int.ofNat)=aJ l:=by unfold ints aJ;rw[oh];rfl
theorem Gl.at{v:AV}(h:Gl 1 H v n l){x:AV}(a:l[i]? =some x):∃ b o,aH 1 v (.int .i64 (.ofNat i))=.val (.ptr b o)/\b<H.nx/\In v b/\bX (H.get b) o=.val x:=by
 have g:=h.len;have j:i<l.length:=by
  rcases cu i l.length with h|h
  ·exact h
  ·simp_all
 rcases h.is with⟨rfl,rfl⟩|⟨b,o,e,q,L,rfl,c,k,d,m,f⟩
 ·omega
 ·refine⟨b,o+i,?_,f,⟨_,_,_,_,rfl⟩,?_⟩
  ·rw[vL _ _ _ _ _ _ _ _ om,qm]
  ·have:L[o+i]? =some x:=by rw[<-zg,d];exact a
   rw[c,qca,this]
theorem Gl.clip{v:AV}(h:Gl z H v n l):∃ w,kU z v none (some (.int .i64 (.ofNat n))) (some (.int .i64 (.ofNat n)))=.val w/\Gl z H w n l/\dU w=.val (.int .i64 (.ofNat n))/\(∀b,In w b->In v b):=by
 rcases h.is with⟨rfl,rfl⟩|⟨b,o,e,q,L,rfl,f,g,i,r,j⟩
 ·exact⟨.aA,rfl,h,rfl,fun b h=>h⟩
 ·have p:kU z (.sl b o n n e) none (some (.int .i64 (.ofNat n))) (some (.int .i64 (.ofNat n)))=iV b o z ⟨0,n,n⟩ true:=by
   show(match bounds n n none (some (.int .i64 (.ofNat n))) (some (.int .i64 (.ofNat n)))with|some bd=>iV b o z bd true|none=>R0.bad)=_;have:bounds n n none (some (.int .i64 (.ofNat n))) (some (.int .i64 (.ofNat n)))=some ⟨0,n,n⟩:=by show(match(bif Nat.ble n n then some n else none)with|none=>none|some m=>match(bif Nat.ble n m then some n else none)with|none=>none|some h=>match(some 0:Option Nat)with|none=>none|some l=>some (Bd.mk l h m))=_;rw[ble_eq,qc (lu n)];simp only[uB,ble_eq,qc (lu n)]
   rw[this]
  rw[p];unfold iV;simp only[beq_eq];by_cases k:n=0
  ·subst k;exact⟨.sl b o 0 0 true,rfl,⟨h.len,.inr ⟨b,o,true,q,L,rfl,f,g,i,.inl rfl,j⟩⟩,rfl,fun c a=>by obtain⟨_,_,_,_,d⟩:=a;cases d;exact⟨_,_,_,_,rfl⟩⟩
  ·rw[ql k];refine⟨.sl b o n n true,?_,⟨h.len,.inr ⟨b,o,true,q,L,rfl,f,g,i,.inl rfl,j⟩⟩,rfl,fun c a=>by obtain⟨_,_,_,_,d⟩:=a;cases d;exact⟨_,_,_,_,rfl⟩⟩;simp
theorem qwb{k:Nat}(a:1<=k){v:AV}(h:Gl 1 H v n l):∃w,C k (.f 185) [v] H=.ok w H/\Gl 1 H w n l/\dU w=.val (.int .i64 (.ofNat n))/\(∀b,In w b->In v b):=by obtain⟨j,rfl⟩:=aP a;obtain⟨w,e,c,d,f⟩:=h.clip;refine⟨w,?_,c,d,f⟩;rw[lk (q55 ..)];unfold zBd qn4;simp only[go_sem,h.bM,e]
theorem zs2(l:List Nat):(aJ l).length=l.length:=by simp[aJ]
theorem qnp(l:List Nat)(i:Nat)(h:i<l.length):(aJ l)[i]? =some (.int .i64 (.ofNat l[i])):=by simp[aJ,h]
theorem qjy(l:List Nat)(i n:Nat)(h:i<l.length):aZ (aJ l) i [.int .i64 (.ofNat n)]=aJ (l.set i n):=by rw[<-qy2,ints_set _ _ _ (by simpa using h),<-qy2,lEA]
structure MOk(n:Nat)(ms:List Nat):Prop where
 hn:n<=256
 len:ms.length=n*n
 le:∀ x∈ms,x<=3
structure yH(H:Hp)(v:AV)(b n:Nat)(ms:List Nat):Prop where
 hv:v=.agg [.int .i64 (.ofNat n),.sl b 0 (n*n) (n*n) true]
 lt:b<H.nx
 get:H.get b=aB 0 (aJ ms)
 ok:MOk n ms
theorem yH.fm{v:AV}{ms:List Nat}(h:yH H v b n ms)(a:Fm No H H'):yH H' v b n ms:=⟨h.hv,ku h.lt a.nx,(a.keep h.lt).trans h.get,h.ok⟩
theorem q29(h:n<=256):n*n<=65536:=Nat.mul_le_mul h h
theorem zxy{n i k:Nat}(a:i<n)(b:k<n):i*n+k<n*n:=by have:(i+1)*n<=n*n:=xh n a;rw[zk,lA5]at this;omega
theorem xaa{k:Nat}(b:1<=k)(a:n<=256):Ok (C k (.f 62) [.int .i64 (.ofNat n)] H) fun r H'=>yH H' r (H.nx+1) n (List.replicate (n*n) 0)/\Fm No H H':=by
 obtain⟨j,rfl⟩:=aP b;rw[lk (zq1 ..)];unfold zAx z1i;have e:=q29 a;have d:aS [.int .i64 (.ofNat 0)] (n*n)=aJ (List.replicate (n*n) 0):=by rw[qdj];simp[aJ]
 refine eF qc9 d ?_;refine Ok.ret ⟨⟨rfl,?_,?_,⟨a,lAA,fun x c=>by rw[List.eq_of_mem_replicate c];omega⟩⟩,fm⟩
 ·simp only[np,nq];omega
 ·simp(disch:=go_size)only[go_sem,seval]
def aCy(n:Nat)(ms:List Nat)(f t:Nat)(s:Bool):List Nat:=
 if ms.getD (f*n+t) 0 / (if s then 2 else 1)%2=0 then ms.set (f*n+t) (ms.getD (f*n+t) 0+(if s then 2 else 1))else ms
theorem q3s{k:Nat}(m:1<=k){n b f t:Nat}{ms:List Nat}{v:AV}(o:yH H v b n ms)(p:f<n)(q:t<n)(s:Bool):Ok (C k (.f 63) [v,.int .i64 (.ofNat f),.int .i64 (.ofNat t),.bool s] H) fun _ H'=>yH H' v b n (aCy n ms f t s)/\Fm (· =b) H H':=by
 obtain⟨j,rfl⟩:=aP m;obtain⟨rfl,A,g,a⟩:=o;rw[lk (zqy ..)];unfold zBa z1g;have F:=q29 a.hn;have u:=zxy p q;have i:=a.len;have c:=qnp ms (f*n+t) om;have w:=a.le ms[f*n+t] (lg _);have y:f*n+t+1<=n*n:=u;have z:ms.getD (f*n+t) 0=ms[f*n+t]:=by rw[gy,lq om];rfl
 have fin:∀ d:Nat,0<d->d<3->d=(if s then 2 else 1)->(ms[f*n+t] / d%2=0->ms[f*n+t]+d<=3)->Ok (qtw (C j) (.int .i64 (.ofNat f)) (.int .i64 (.ofNat t)) (.ptr H.nx 0) (.int .i64 (.ofNat d)) (aI H (aB 0 [.int .i64 (.ofNat n),.sl b 0 (n*n) (n*n) true]))) fun _ H'=>yH H' (.agg [.int .i64 (.ofNat n),.sl b 0 (n*n) (n*n) true]) b n (aCy n ms f t s)/\Fm (· =b) H H':=by
  intro d B G D E;unfold qtw;by_cases l:ms[f*n+t] / d%2=0
  ·refine siH g c l zs2 i y qjy ?_;have e:aCy n ms f t s=ms.set (f*n+t) (ms[f*n+t]+d):=by
    unfold aCy;simp_all
   rw[e];refine Ok.ret ⟨⟨rfl,gx,dN _ _ _,⟨a.hn,by rw[vw];exact i,fun x r=>?_⟩⟩,fm⟩;rcases lAB r with h|h
   ·exact a.le x h
   ·omega
  ·refine iG g c l ?_;have e:aCy n ms f t s=ms:=by
    unfold aCy;simp_all
   rw[e];exact Ok.ret ⟨⟨rfl,gx,(qbs _ _ _ A).trans g,a⟩,by(repeat refine Fm.push ?_ _);exact Fm.refl _ _⟩
 cases s
 ·simp only[go_sem];exact fin 1 om om rfl (fun h=>om)
 ·simp only[go_sem];exact fin 2 om om rfl (fun h=>om)
structure OfR(X:List aQ)(sv:AV)(cb gb b rb:Nat)(av nv:AV)(N:Nat)(g:bB)(l:List (Nd×AV))(H:Hp):Prop where
 qM:bY H sv X
 x1:H.get cb=aB 0 [sv]
 x3:Rs 2 pC H av (aF X)
 x4:H.get gb=aB 0 [iN N,.sl b 0 (N*N) (N*N) true]
 x6:H.get rb=aB 0 (gP g)
 ty:Rs 2 tC H g.tv g.r.types
 tf:vT g.tv=true
 x8:Rs 5 kR H nv l
theorem qpn{a b:SS}(h:(a,b)∈aF X):cB X a b<(aF X).length:=by unfold cB;simp_all
theorem qqq{k:Nat}(c:2<=k)(d:bY H sv X)(e:sD X){a b:SS}(h:(a,b)∈aF X):Ok (C k (.f 64) [.agg [sv],a.v,b.v] H) fun r H'=>r=iN ((cB X a b))/\Fm No H H':=
 (zna c d e a b).mono fun r H' ⟨f,g⟩=>by simp_all
def tyT(l:List jL):List (SS×SS):=(l.filter fun t=> !decide (t.rl=sE)).map fun t=>(t.sp,t.rl)
theorem zrr{l:List jL}(h:i<l.length):tyT (l.take (i+1))=tyT (l.take i)++if l[i].rl=sE then[]else[(l[i].sp,l[i].rl)]:=by
 unfold tyT;rw[lh h,eQ,ui,ik];by_cases h:l[i].rl=sE
 ·simp[h]
 ·simp[h]
theorem qpm{j:Nat}(s:2<=j){X:List aQ}(t:sD X){sv av nv:AV}{cb u b rb N:Nat}{g:bB}{l:List (Nd×AV)}{Hb:Hp}(v:∀ H,Fm (· =b) Hb H->OfR X sv cb u b rb av nv N g l H)(w:N=(aF X).length){n x:Nat}(y:n<N)(z:x<l.length)(e:cb<Hb.nx/\u<Hb.nx/\rb<Hb.nx)(f:g.r.types.length<=1000)(c:∀ p∈tyT g.r.types,p∈aF X){Q:pL}{q:pH}(A:∀ H ms,yH H (.agg [iN N,.sl b 0 (N*N) (N*N) true]) b N ms->Fm (· =b) Hb H->Ok (q H) Q):∀(k i:Nat) (H:Hp) (ms:List Nat),i<=g.r.types.length->g.r.types.length-i<k->yH H (.agg [iN N,.sl b 0 (N*N) (N*N) true]) b N ms->Fm (· =b) Hb H -> Ok (quc (C j) q (.ptr cb 0) (.ptr u 0) (iN n) (.ptr rb 0) nv (iN x) k (iN i) H) Q
 |0,i,_,_,_,h,_,_=>om
 |k+1,i,H,ms,hi,hk,hM,hf=>by
  show Ok (q2m (C j) _ _ _ _ _ _ _ (quc (C j) _ _ _ _ _ _ _ k) _ H) Q;unfold q2m;have d:=v H hf;have m:=d.x6;obtain⟨d2,d3,d4,d5,Z⟩:=qni g;rw[Z]at m;have J:=d.ty.len;have V:=hf.nx;have hm:=q29 hM.ok.hn;by_cases a:i<g.r.types.length
  ·refine iG m J a ?_;unfold zhe;obtain⟨O,P,R,e2,_,_,S⟩:=d.ty.at' i a;have W:bX (H.get O) P=.val (.str g.r.types[i].sp.n g.r.types[i].sp.a):=S 0 (by rw[qe3];omega);have K:bX (H.get O) (P+1)=.val (.str g.r.types[i].rl.n g.r.types[i].rl.a):=S 1 (by rw[qe3];omega);obtain⟨T,U,g1,g2,_,_,g4⟩:=d.x8.at' x z;have L:bX (H.get T) (U+4)=.val (.bool l[x].1.neg):=g4 4 (by rw[r9];omega);have Y:=d.x1;have M:=d.x4;by_cases I:g.r.types[i].rl.n=0/\g.r.types[i].rl.a=0
   ·have B:=yt I;refine jD m R K B ?_;unfold qud;refine aT ?_;exact qpm s t v w y z e f c A k (i+1) H ms om om hM hf
   ·have D:¬ g.r.types[i].rl=sE:=fun h=>I ((oD _ _).1 h);have o:(g.r.types[i].sp,g.r.types[i].rl)∈aF X:=c _ (by
     unfold tyT;rw[uC];exact⟨g.r.types[i],by rw[xF];exact⟨lg a,by simpa using D⟩,rfl⟩)
    simp(disch:=go_size)only[go_sem,seval,m,Y,M,R,W,K,I,g1,L];refine Ok.iD (qqq (k:=j) s d.qM t o) ?_;rintro _ H2 ⟨rfl,r⟩;have E:=(r.keep om).trans M;have F:bX (H2.get T) (U+4)=.val (.bool l[x].1.neg):=by rw[r.keep g2];exact L
    refine eF E F ?_;refine Ok.iD (q3s (k:=j) om (hM.fm r) y (by rw[w];exact qpn o) l[x].1.neg) ?_;rintro _ H3 ⟨G,f3⟩;refine aT ?_;unfold qud;refine aT ?_;exact qpm s t v w y z e f c A k (i+1) H3 _ om om G ((hf.then r fun _ _ h=>absurd h id).then f3 fun _ _ h=>h)
  ·refine iG m J a ?_;exact A H ms hM hf
theorem qyj{j:Nat}(y:2<=j){X:List aQ}(z:sD X){sv av nv tv:AV}{cb m b rb N:Nat}{g:bB}{l:List (Nd×AV)}{Hb:Hp}(A:∀ H,Fm (· =b) Hb H->OfR X sv cb m b rb av nv N g l H)(B:N=(aF X).length){n x:Nat}(D:n<N)(E:x<l.length)(o:cb<Hb.nx/\m<Hb.nx/\rb<Hb.nx){ts:List SS}(F:∀ H,Fm (· =b) Hb H->Rs 1 sC H tv ts)(p:ts.length<=1000)(c:∀ s∈ts,(s,l[x].1.to)∈aF X){Q:pL}{q:pH}(G:∀ H ms,yH H (.agg [iN N,.sl b 0 (N*N) (N*N) true]) b N ms->Fm (· =b) Hb H->Ok (q H) Q):∀(k i:Nat) (H:Hp) (ms:List Nat),i<=ts.length->ts.length-i<k->yH H (.agg [iN N,.sl b 0 (N*N) (N*N) true]) b N ms->Fm (· =b) Hb H -> Ok (qmz (C j) q (.ptr cb 0) (.ptr m 0) (iN n) nv (iN x) tv k (iN i) H) Q
 |0,i,_,_,_,h,_,_=>om
 |k+1,i,H,ms,hi,hk,hM,hf=>by
  show Ok (quf (C j) _ _ _ _ _ _ _ (qmz (C j) _ _ _ _ _ _ _ k) _ H) Q;unfold quf;have e:=A H hf;have I:=F H hf;have J:=I.len;have O:=hf.nx;have W:=q29 hM.ok.hn;by_cases a:i<ts.length
  ·refine eF J a ?_;unfold q6q;obtain⟨Y,Z,S,e2,M⟩:=I.at1 (g:=SS.v) (fun _=>rfl) a;unfold SS.v at M;obtain⟨u,v,g1,g2,_,_,g4⟩:=e.x8.at' x E;have P:bX (H.get u) (v+2)=.val (.str l[x].1.to.n l[x].1.to.a):=g4 2 (by rw[r9];omega);have K:bX (H.get u) (v+4)=.val (.bool l[x].1.neg):=g4 4 (by rw[r9];omega);have R:=e.x1;have L:=e.x4;have d:=c ts[i] (lg a);refine siH R L S M g1 P K ?_;refine Ok.iD (qqq (k:=j) y e.qM z d) ?_;rintro _ T ⟨rfl,f⟩;have r:=(f.keep om).trans L;have t:bX (T.get u) (v+4)=.val (.bool l[x].1.neg):=by rw[f.keep g2];exact K
   refine eF r t ?_;refine Ok.iD (q3s (k:=j) om (hM.fm f) D (by rw[B];exact qpn d) l[x].1.neg) ?_;rintro _ U ⟨w,V⟩;refine aT ?_;unfold q6s;refine aT ?_;exact qyj y z A B D E o F p c G k (i+1) U _ om om w ((hf.then f fun _ _ h=>absurd h id).then V fun _ _ h=>h)
  ·refine eF J a ?_;exact G H ms hM hf
def ndT(X:List aQ)(a:SS)(g:bB)(x:Nd):List (SS×SS):=
 if x.k=1 then tyT g.r.types else if x.k=2 then[(a,x.rl)]else if x.k=3 then(iZ X a x.rl x.to).map fun s=>(s,x.to)else[]
theorem qji(d:sD X)(a b to:SS):(iZ X a b to).length<=100:=by
 unfold iZ;cases h:lF X a b with
 |none=>simp
 |some g=>
  refine rq (qup X to _) ?_;unfold lF at h;cases c:X.find? fun g=>decide (g.name=a)with
  |none=>rw[c]at h;cases h
  |some p=>rw[c]at h;exact d.t p (xf c) g (xf h)
theorem qyl{j:Nat}(hj:4<=j){X:List aQ}(v:sD X){sv av nv:AV}{cb E b rb N:Nat}{g:bB}{l:List (Nd×AV)}{Hb:Hp}(F:∀ H,Fm (· =b) Hb H->OfR X sv cb E b rb av nv N g l H)(G:N=(aF X).length){n:Nat}(W:n<(aF X).length)(J:cb<Hb.nx/\E<Hb.nx/\rb<Hb.nx)(hb:b<Hb.nx)(K:g.r.types.length<=100)(L:l.length<=100000)(w:∀ y∈l,∀p∈ndT X (aF X)[n].1 g y.1,p∈aF X){Q:pL}{q:pH}(Y:∀ H ms,yH H (.agg [iN N,.sl b 0 (N*N) (N*N) true]) b N ms->Fm (· =b) Hb H->Ok (q H) Q):∀(k i:Nat) (H:Hp) (ms:List Nat),i<=l.length->l.length-i<k->yH H (.agg [iN N,.sl b 0 (N*N) (N*N) true]) b N ms->Fm (· =b) Hb H -> Ok (qkn (C j) q (.ptr cb 0) av (.ptr E 0) (iN n) (.ptr rb 0) nv k (iN i) H) Q
 |0,i,_,_,_,h,_,_=>om
 |k+1,i,H,ms,hi,hk,m,d=>by
  show Ok (q2n (C j) _ _ _ _ _ _ _ (qkn (C j) _ _ _ _ _ _ _ k) _ H) Q;unfold q2n;have u:=F H d;have Z:=u.x8.len;have hnx:=d.nx;have hm:=q29 m.ok.hn;by_cases a:i<l.length
  ·simp(disch:=go_size)only[go_sem,rB,rI,rK,rL,rN,rS,r6,Z,a];unfold q6p;obtain⟨A,B,g1,g2,_,_,g4⟩:=u.x8.at' i a;have I:bX (H.get A) B=.val (uN (l[i].1.k)):=g4 0 (by rw[r9];omega);have r1:bX (H.get A) (B+1)=.val (.str l[i].1.rl.n l[i].1.rl.a):=g4 1 (by rw[r9];omega);have r2:bX (H.get A) (B+2)=.val (.str l[i].1.to.n l[i].1.to.a):=g4 2 (by rw[r9];omega);have r4:bX (H.get A) (B+4)=.val (.bool l[i].1.neg):=g4 4 (by rw[r9];omega);obtain⟨b3,o3,k1,k2,_,_,k4⟩:=u.x3.at' n W;have s0:bX (H.get b3) o3=.val (.str (aF X)[n].1.n (aF X)[n].1.a):=k4 0 (by rw[qpj];omega);have x1:=u.x1;have x4:=u.x4;have M:=lg a;have f:=w _ M;have next:∀ H ms,yH H (.agg [iN N,.sl b 0 (N*N) (N*N) true]) b N ms->Fm (· =b) Hb H ->
     Ok (qie (C j) (qkn (C j) q (.ptr cb 0) av (.ptr E 0) (iN n) (.ptr rb 0) nv k) (iN i) H) Q:=fun H ms m d=>by
    unfold qie;simp(disch:=go_size)only[go_sem,rB,rI,rK,rL,rN,rS,r6];exact qyl hj v F G W J hb K L w Y k (i+1) H ms (by omega) (by omega) m d
   unfold ndT at f;by_cases q1:l[i].1.k=1
   ·have O:=yt q1;rw[qj q1]at f;simp(disch:=go_size)only[go_sem,rB,rI,rK,rL,rN,rS,r6,g1,I,O];unfold zhf;rw[dD];refine qpm (by omega) v (Hb:=H) (fun H' e=>F H' (d.then e fun _ _ h=>h)) G (by omega) a ⟨by omega,by omega,by omega⟩ (by omega) f (fun H' r t e=>next H' r t (d.then e fun _ _ h=>h)) bZ 0 H ms (gp _) (by rw[wH];omega) m (Fm.refl _ _)
   ·rw[pg q1]at f;by_cases q2:l[i].1.k=2
    ·have P:=yt q2;rw[qj q2]at f;have x:=f _ ug;simp(disch:=go_size)only[go_sem,rB,rI,rK,rL,rN,rS,r6,g1,I,q1,P,x1,x4,k1,s0,r1,r4];refine Ok.iD (qqq (k:=j) (by omega) u.qM v x) ?_;rintro _ D ⟨rfl,o⟩;have R:=(o.keep om).trans x4;have S:bX (D.get A) (B+4)=.val (.bool l[i].1.neg):=by rw[o.keep g2];exact r4
     simp(disch:=go_size)only[go_sem,rB,rI,rK,rL,rN,rS,r6,R,S];refine Ok.iD (q3s (k:=j) om (m.fm o) om (by rw[G];exact qpn x) l[i].1.neg) ?_;rintro _ H3 ⟨U,f3⟩;simp(disch:=go_size)only[go_sem,rB,rI,rK,rL,rN,rS,r6];exact next H3 _ U ((d.then o fun _ _ h=>absurd h id).then f3 fun _ _ h=>h)
    ·rw[pg q2]at f;by_cases q3:l[i].1.k=3
     ·have T:=yt q3;rw[qj q3]at f;simp(disch:=go_size)only[go_sem,rB,rI,rK,rL,rN,rS,r6,g1,I,q1,q2,T,x1,k1,s0,r1,r2];refine Ok.iD (qsz (k:=j) (by omega) u.qM v (aF X)[n].1 l[i].1.rl l[i].1.to) ?_;intro tv D V;simp(disch:=go_size)only[go_sem,rB,rI,rK,rL,rN,rS,r6];unfold q6t;rw[dD];have o:=V.fm;have z:Fm (· =b) Hb D:=d.then o fun _ _ h=>absurd h id;have n2:=o.nx;have htl:=qji v (aF X)[n].1 l[i].1.rl l[i].1.to;refine qyj om v (Hb:=D) (fun H' e=>F H' (z.then e fun _ _ h=>h)) G om a ⟨om,om,om⟩ (fun H' e=>(V.rs qlp).dP e fun c hc h=>by have:=V.nw c hc;omega) om (fun s hs=>f _ (xu hs)) (fun H' r t e=>next H' r t (z.then e fun _ _ h=>h)) bZ 0 D ms (gp _) lf (m.fm o) (Fm.refl _ _)
     ·simp(disch:=go_size)only[go_sem,rB,rI,rK,rL,rN,rS,r6,g1,I,q1,q2,q3];exact next H ms m d
  ·simp(disch:=go_size)only[go_sem,rB,rI,rK,rL,rN,rS,r6,Z,a];exact Y H ms m d
theorem qci{a b:SS}{g:bB}(h:lF X a b=some g):∃ p∈X,g∈p.gs/\p.name=a/\g.r.name=b:=by
 unfold lF at h;cases c:X.find? fun g=>decide (g.name=a)with
 |none=>rw[c]at h;cases h
 |some p=>rw[c]at h;exact⟨p,xf c,xf h,by simpa using lEJ c,by simpa using lEJ h⟩
structure OfW(X:List aQ):Prop where
 sm:sD X
 n:(aF X).length<=256
 at':∀ i (h:i<(aF X).length),∃g,lF X (aF X)[i].1 (aF X)[i].2=some g/\g.r.rule.depth<=12/\g.r.rule.size<=10000/\∀ x∈g.r.rule.nodes false,∀p∈ndT X (aF X)[i].1 g x,p∈aF X
theorem qyk{j:Nat}(hj:14<=j){X:List aQ}(d:OfW X){sv av:AV}{cb K b N:Nat}{Hb:Hp}(L:∀ H,Fm (· =b) Hb H->bY H sv X/\H.get cb=aB 0 [sv]/\Rs 2 pC H av (aF X)/\H.get K=aB 0 [iN N,.sl b 0 (N*N) (N*N) true])(hN:N=(aF X).length)(M:cb<Hb.nx/\K<Hb.nx)(hb:b<Hb.nx){Q:pL}{q:pH}(hq:∀ H ms,yH H (.agg [iN N,.sl b 0 (N*N) (N*N) true]) b N ms->Fm (· =b) Hb H->Ok (q H) Q):∀(k i:Nat) (H:Hp) (ms:List Nat),i<=N->N-i<k->yH H (.agg [iN N,.sl b 0 (N*N) (N*N) true]) b N ms->Fm (· =b) Hb H -> Ok (qom (C j) q (.ptr cb 0) av (.ptr K 0) k (iN i) H) Q
 |0,i,_,_,_,h,_,_=>om
 |k+1,i,H,ms,hi,hk,hM,hf=>by
  show Ok (q2o (C j) _ _ _ _ (qom (C j) _ _ _ _ k) _ H) Q;unfold q2o;obtain⟨hX,x1,x3,x4⟩:=L H hf;have hl:=x3.len;have hnx:=hf.nx;have hm:=q29 hM.ok.hn;have aHF:=d.n;have hsn:=d.sm.n;by_cases a:i<(aF X).length
  ·refine eF hl a ?_;unfold q6o;obtain⟨b3,o3,k1,k2,_,_,k4⟩:=x3.at' i a;have s0:bX (H.get b3) o3=.val (.str (aF X)[i].1.n (aF X)[i].1.a):=k4 0 (by rw[qpj];omega);have s1:bX (H.get b3) (o3+1)=.val (.str (aF X)[i].2.n (aF X)[i].2.a):=k4 1 (by rw[qpj];omega);refine jD x1 k1 s0 s1 ?_;have fU:Fm No H ⟨H.t,H.nx+18⟩:=fm;refine Ok.iD (qll (k:=j) om (hX.fm fU) om (fun g J=>by have:=d.sm.r g J;omega) (aF X)[i].1 (aF X)[i].2) ?_;rintro r f ⟨f2,m⟩;obtain⟨g,J,hgd,hgs,W⟩:=d.at' i a;unfold qz3 at m;rw[J]at m;subst m;have gJ:=fU.trans f2;have n2:H.nx+18<=f.nx:=f2.nx;obtain⟨p,D,n,_,_⟩:=qci J;have e:=(((hX.sp p D).rel g n).ru);obtain⟨c0,E,F,G,I⟩:=e.four;have t:gP g=[.str g.r.name.n g.r.name.a,g.tv,c0,E,F,G]:=by unfold gP;rw[I];rfl
   rw[t];refine aT ?_;have f3:Fm No H (f.put (H.nx+15) (aB 0 [.str g.r.name.n g.r.name.a,g.tv,c0,E,F,G])):=gJ.aG (H.nx+15) _ om;have u:Fm No H ((f.put (H.nx+15) (aB 0 [zS,.aA,uN 0,zS,zS,.aA])).put (H.nx+15) (aB 0 [.str g.r.name.n g.r.name.a,g.tv,c0,E,F,G])):=(gJ.aG (H.nx+15) _ om).aG (H.nx+15) _ om;have T:∀ x,¬In AV.aA x:=fun x h=>by obtain⟨_,_,_,_,h⟩:=h;cases h
   refine Ok.ve (qvf g.r.rule j om .aA false _ (l:=[]) (P:=fun _=>True) (cs:=[c0,E,F,G]) (Gl.nil 5 _) ?_ (fun b _=>T b) g2) ?_
   ·rw[I]at e;exact e.fm u
   rintro w o ⟨l,Y,Z⟩;have U:Fm No ((f.put (H.nx+15) (aB 0 [zS,.aA,uN 0,zS,zS,.aA])).put (H.nx+15) (aB 0 [.str g.r.name.n g.r.name.a,g.tv,c0,E,F,G])) o:=Y.fm.mono fun c _ h=>absurd h (T c);have n4:f.nx<=o.nx:=U.nx;have v:=u.trans U;have z:Fm (· =b) Hb o:=hf.then v fun _ _ h=>absurd h id;have A:l.map Prod.fst=g.r.rule.nodes false:=by simpa using Z
   have hln:l.length=g.r.rule.size:=by have:=congrArg List.length A;simpa [qby] using this
   have x6:o.get (H.nx+15)=aB 0 (gP g):=by rw[t];exact(U.keep (show H.nx+15<f.nx by omega)).trans (dN _ _ _)
   have V:∀ c,In w c->f.nx<=c:=fun c O=>by
    rcases Y.nw c O with h|h
    ·exact absurd h (T c)
    ·exact h
   unfold zhg;rw[dD];have cAk:=hM.lt;refine qyl om d.sm (sv:=sv) (Hb:=o) (X:=X) (g:=g) (l:=l) (rb:=H.nx+15) (N:=N) (fun H' s=>?_) hN a ⟨om,om,om⟩ om ?_ om ?_ (fun H' R S s=>?_) bZ 0 o ms (gp _) lf (hM.fm v) (Fm.refl _ _)
   ·obtain⟨y1,y2,y3,y4⟩:=L H' (z.then s fun _ _ h=>h);have B:=(y1.sp p D).rel g n;exact⟨y1,y2,y3,y4,(s.get _ om om).trans x6,B.ty,B.tf,(Y.gl.rs r9).dP s fun c O h=>by have:=V c O;omega⟩
   ·have:=d.sm.t p D g n;omega
   ·intro y hy p D;refine W y.1 ?_ p D;rw[<-A];exact xu hy
   ·unfold qko;refine aT ?_;exact qyk hj d L hN M hb hq k (i+1) H' R om om S (z.then s fun _ _ h=>h)
  ·refine eF hl a ?_;exact hq H ms hM hf
theorem zsc{k:Nat}(B:15<=k)(y:bY H sv X)(q:OfW X):Ok (C k (.f 20) [.agg [sv]] H) fun r H'=>∃ b ms,yH H' r b (aF X).length ms/\Fm No H H':=by
 obtain⟨j,rfl⟩:=aP B;rw[lk (zrh ..)];unfold zAf z1y;refine aT ?_;have f:Fm No H (aI (aI H (aB 0 [sv])) (aB 0 [iN 0,.aA])):=fm;have u:=q.n;refine Ok.ve (qz7 (k:=j) om (y.fm f) q.sm) ?_;intro av H1 p;have o:=p.fm;have D:=o.nx;simp only[np]at D;have E:=p.bM;refine eP E ?_;refine Ok.ve (xaa (k:=j) om u) ?_;rintro r e ⟨G,l⟩;obtain⟨I,x,m,n⟩:=G;subst I;have J:=l.nx;have K:=q29 n.hn;refine aT ?_;generalize d:(aI e (aB 0 [iN 0,.aA])).put e.nx (aB 0 [iN ((aF X).length),.sl (H1.nx+1) 0 ((aF X).length*(aF X).length) ((aF X).length*(aF X).length) true])=H4;have i:Fm No e H4:=by rw[<-d];exact fm
 have L:H4.nx=e.nx+1:=by rw[<-d];rfl
 have k0:H4.get H.nx=aB 0 [sv]:=((o.trans (l.trans i)).keep g1).trans g6;have F:H4.get (H.nx+1)=aB 0 [iN 0,.aA]:=((o.trans (l.trans i)).keep gz).trans g5;have z:H4.get e.nx=aB 0 [iN ((aF X).length),.sl (H1.nx+1) 0 ((aF X).length*(aF X).length) ((aF X).length*(aF X).length) true]:=by rw[<-d];exact dN _ _ _
 have A:=((f.trans o).trans l).trans i;unfold zhh;rw[dD];refine qyk om q (sv:=sv) (Hb:=H4) (b:=H1.nx+1) (N:=(aF X).length) (fun H' a=>⟨y.fm (A.then a fun c s h=>om),(a.get _ om om).trans k0,?_,(a.get _ om om).trans z⟩) rfl ⟨om,om⟩ om (fun H' t g a=>?_) bZ 0 H4 _ (gp _) lf ⟨rfl,om,(i.keep x).trans m,n⟩ (Fm.refl _ _)
 ·refine(((p.rs qpj).fm l).fm i).dP a fun c s h=>?_;have:=p.gl.lt s;omega
 ·unfold que;have v:=(a.get (H.nx+1) om om).trans F;have w:=(a.get e.nx om om).trans z;refine eF v w ?_;have M:=a.nx;refine Ok.ret ⟨H1.nx+1,t,⟨rfl,by(go_size),?_,g.ok⟩,(A.then a fun c s h=>om).aG _ _ om⟩;rw[dO _ _ _ _ om];exact g.get
def nmL:List SS:=[sU,dJ 0,dJ 1,dJ 2,fO 0,fO 1,fO 2,fO 3]
def Nm(s:SS):Prop:=s∈nmL
theorem Nm.ne{s:SS}(h:Nm s):¬(s.n=0/\s.a=0):=by have:∀ s∈nmL,¬(s.n=0/\s.a=0):=g4;exact this s h
structure bEi(c:Ev.Call):Prop where
 r:∀ s,Nm s->∀ H,c (.f 252) [s.v] H=.ok (.bool true) H
 p:∀ s,Nm s->∀ H,c (.f 231) [s.v] H=.ok (.bool true) H
abbrev iQ(C:Nat->Ev.Call):Prop:=∀ k,bEi (C (k+1))
def Ru.Fit:Ru->Prop
 | .leaf k rl to=>(k=1/\rl=sE/\to=sE)\/(k=2/\Nm rl/\to=sE)\/(k=3/\Nm rl/\Nm to)
 | .node k a b=>(k=4\/k=5\/k=6)/\a.Fit/\b.Fit
theorem qdx(a b c d:Bool):jT true (dQ (fun xs e=>qcx p1 ⟨qh5⟩ 1 xs e 2 0) (.agg [.bool a,.bool b]) (.agg [.bool c,.bool d]))=.val (.bool (!(a==c&&b==d))):=by cases a<;>cases b<;>cases c<;>cases d<;>rfl
structure rM(H:Hp)(b o:Nat)(cs:List AV):Prop where
 lt:b<H.nx
 at':∀ j (h:j<cs.length),bX (H.get b) (o+j)=.val cs[j]
theorem rM.keep(h:rM H b o cs)(a:H.nx<=H'.nx)(e:H'.get b=H.get b):rM H' b o cs:=⟨ku h.lt a,fun j c=>by rw[e];exact h.at' j c⟩
theorem rM.fm(h:rM H b o cs)(f:Fm No H H'):rM H' b o cs:=h.keep f.nx (f.keep h.lt)
theorem zui(i:iQ C){k:Nat}(B:2<=k){r:Ru}{P:Nat->Prop}(a:rM H b o cs)(m:jV P H r cs)(n:r.Fit):Ok (C k (.f 228) [.ptr b o] H) fun v H'=>v=iN 0/\Fm No H H':=by
 obtain⟨j,rfl⟩:∃ j,k=j+1+1:=⟨k-2,om⟩;rw[lk (q5l ..)];unfold zDb zpo;have s:=a.lt;cases r with
 |leaf kd rl to=>
  obtain rfl:cs=lfC kd rl to:=m;have c:bX (H.get b) o=.val (uN kd):=a.at' 0 (by simp[lfC]);have d:bX (H.get b) (o+1)=.val (.str rl.n rl.a):=a.at' 1 (by simp[lfC]);have e:bX (H.get b) (o+2)=.val (.str to.n to.a):=a.at' 2 (by simp[lfC]);have f:bX (H.get b) (o+3)=.val .aA:=a.at' 3 (by simp[lfC]);rcases n with⟨rfl,rfl,rfl⟩|⟨rfl,h,rfl⟩|⟨rfl,h,q⟩
  ·unfold sE at d e;refine nI c d e f and_self ?_;unfold qc0;refine iG c qdx and_self ?_;unfold qd3 jW;exact Ok.ret ⟨rfl,fm⟩
  ·have l:=h.ne;have g:=(i j).r rl h;unfold SS.v at g;refine siG c d e f l and_self ?_;unfold qc0;refine jD c d qdx g ?_;unfold qd3 jW;exact Ok.ret ⟨rfl,fm⟩
  ·have l:=h.ne;have t:=q.ne;have g:=(i j).r rl h;have p:=(i j).r to q;unfold SS.v at g p;refine siG c d e f l t ?_;unfold qc0;refine siG c d e qdx g p ?_;unfold qd3 jW;exact Ok.ret ⟨rfl,fm⟩
 |node kd x y=>
  obtain⟨bl,ca,cb,rfl,u,w,D,z,A⟩:=m;have c:bX (H.get b) o=.val (uN kd):=a.at' 0 g3;have d:bX (H.get b) (o+1)=.val zS:=a.at' 1 g3;have e:bX (H.get b) (o+2)=.val zS:=a.at' 2 g3;have f:bX (H.get b) (o+3)=.val (.sl bl 0 2 2 true):=a.at' 3 g3;rcases n.1 with rfl|rfl|rfl<;>(
   refine nI c d e f and_self ?_;unfold qn1;unfold qc0;refine iG c qdx and_self ?_;unfold qd3 jW;exact Ok.ret ⟨rfl,fm⟩)
theorem qxg(H:Hp)(b o:Nat)(f:FuncId)(x y:List AV):j5 H (.ptr b o) (.fn f x y)=storeAt H b o [.fn f x y] .undef:=id rfl
theorem qzk(O:Ev.Call)(f:FuncId)(c args:List AV)(H:Hp):wY O (.fn f [] c) args H=O (.f f) (args++c) H:=id rfl
theorem aL5(a b:Nat):qL pF (iN a) [iN b]=.val (iN ((max a b))):=by
 show R0.val (.int .i64 (bif qZ (.ofNat a) (.ofNat b)then .ofNat b else .ofNat a))=_;rw[qel];by_cases h:a<b
 ·rw[qc (by simp only[ut];omega),Nat.max_eq_right om];rfl
 ·rw[ql (by simp only[ut];omega),Nat.max_eq_left om];rfl
attribute [go_sem] qxg qzk aL5
structure WkI(H:Hp)(nb db fb vb:Nat)(l:List (Nd×AV))(nv:AV)(d:Nat):Prop where
 n:H.get nb=aB 0 [nv]
 d:H.get db=aB 0 [iN d]
 f:H.get fb=aB 0 [iN 0]
 v:H.get vb=aB 0 [.fn 227 [] [.ptr nb 0,.ptr db 0,.ptr fb 0,.ptr vb 0]]
 o:nb<db/\db<fb/\fb<vb/\vb<H.nx
 gl:Gl 5 H nv l.length (l.flatMap kR)
 nin:∀ c,In nv c->vb<c
def WkS(nb db fb:Nat)(nv:AV)(c:Nat):Prop:=c=nb\/c=db\/c=fb\/In nv c
theorem qxb(z:1<=j){nb q fb vb:Nat}{l:List (Nd×AV)}{d:Nat}(a:WkI H nb q fb vb l nv d)(n:i<l.length){x:AV}{xs:List AV}(A:Gl 1 H x m xs):Ok (qgg (C j) (.ptr nb 0) (iN i) x H) fun r H'=>r=.bool true/\∃ t,WkI H' nb q fb vb t nv d/\t.map Prod.fst=l.map Prod.fst/\Fm (In nv) H H':=by
 unfold qgg;obtain⟨w,e,B,_,_⟩:=qwb (k:=j) z A;have s:=a.n;have u:=wV (Gl.flat a.gl) 63;obtain⟨b,o,H',v,y,g,f,nx⟩:=a.gl.set1 n (j:=3) om w;rw[zkj w l i n]at g;obtain⟨D,E,F,I⟩:=a.o;have p:∀ c,c<=vb->¬ In nv c:=fun c G h=>by have:=a.nin c h;omega
 have fin:WkI H' nb q fb vb (l.set i (l[i].1,w)) nv d:=⟨(f.get _ om (p _ om)).trans a.n,(f.get _ om (p _ om)).trans a.d,(f.get _ om (p _ om)).trans a.f,(f.get _ om (p _ om)).trans a.v,
  ⟨D,E,F,om⟩,by rw[vw];exact g,a.nin⟩
 simp only[go_sem,s];refine Ok.uU e ?_;rcases B.is with⟨h,_⟩|⟨_,_,_,_,_,h,_⟩
 ·subst h;simp only[go_sem,s,u,v,y];exact Ok.ret ⟨rfl,_,fin,q3i n _,f⟩
 ·subst h;simp only[go_sem,s,u,v,y];exact Ok.ret ⟨rfl,_,fin,q3i n _,f⟩
def zm0(C:Nat->Ev.Call)(r:Ru)(k:Nat):Prop:=
 ∀(b o lv:Nat) (neg:Bool) (H:Hp) (nb db fb vb:Nat) (l:List (Nd×AV)) (nv:AV) (d:Nat) (cs:List AV),WkI H nb db fb vb l nv d->rM H b o cs->jV (· < nb) H r cs->b<nb->lv+r.depth<=9->l.length+r.size<=32->d<=8 ->
  Ok (C k (.f 227) [.ptr b o,iN lv,.bool neg,.ptr nb 0,.ptr db 0,.ptr fb 0,.ptr vb 0] H) fun v H'=>v=.bool true/\∃ l' sW d',WkI H' nb db fb vb l' sW d' /\
   l'.map Prod.fst=l.map Prod.fst++r.nodes neg/\d'<=8/\Fm (WkS nb db fb nv) H H'/\∀ c,In sW c->In nv c\/H.nx<=c
theorem qor(U:iQ C)(V:2<=j){b o lv:Nat}{nb g fb vb:Nat}{l:List (Nd×AV)}{d:Nat}{r:Ru}{kd:Nat}{rl to:SS}(i:WkI H nb g fb vb l nv d)(p:rM H b o [uN kd,.str rl.n rl.a,.str to.n to.a,av])(W:jV (· < nb) H r [uN kd,.str rl.n rl.a,.str to.n to.a,av])(X:r.Fit)(hb:b<nb)(Y:lv<=8)(Z:l.length<32)(hd:d<=8){Q:pL}(hg:∀ H' w P,WkI H' nb g fb vb (l++[(⟨kd,rl,to,neg⟩,.aA)]) w P->P<=8->Fm (WkS nb g fb nv) H H'->(∀c,In w c->H.nx<=c) -> Ok (vq (aD av) H' fun y H=>qke (C j) (fun z H=>.ok z H) (fun bI H=>qgg (C j) (.ptr nb 0) (iN (l.length)) bI H) (.ptr b o) (iN lv) (.bool neg) (.ptr nb 0) (.ptr vb 0) y .aA (iN 0) H) Q):Ok (q9s (C j) (.ptr b o) (iN lv) (.bool neg) (.ptr nb 0) (.ptr g 0) (.ptr fb 0) (.ptr vb 0) H) Q:=by
 unfold q9s;obtain⟨o1,o2,o3,o4⟩:=i.o;have R:=i.n;have ed:=i.d;have S:=i.f;have v:=i.gl.bM;have B:¬ l.length=32:=om;have h8:¬ 8<lv:=om;have s:∀ c,c<=vb->¬ In nv c:=fun c e h=>by have:=i.nin c h;omega
 refine jD R v B h8 ?_;unfold q1b;refine eF ed S ?_;have D:Fm (fun c=>c=g) H (H.put g (aB 0 [iN ((max d lv))])):=(Fm.refl _ _).put _ _ fun _=>rfl;refine Ok.ve (zui U (k:=j) V (p.keep D.nx (D.get _ om om)) (W.dP D fun c e h=>om) X) ?_;rintro _ a ⟨rfl,N⟩;have n2:H.nx<=a.nx:=N.nx;have d2:a.get g=aB 0 [iN ((max d lv))]:=(N.keep (show g<H.nx by omega)).trans (dN _ _ _);have n:∀ c,c<H.nx->c≠g->a.get c=H.get c:=fun c h1 A=>(N.keep (show c<H.nx by omega)).trans (dO _ _ _ _ A);have E:=(n fb om om).trans S;simp only[go_sem,E];unfold qtj;have t:=(n nb om om).trans R;have F:=(n vb om om).trans i.v;have m:=n b om om;have r0:bX (a.get b) o=.val (uN kd):=by rw[m];exact p.at' 0 g3
 have r1:bX (a.get b) (o+1)=.val (.str rl.n rl.a):=by rw[m];exact p.at' 1 g3
 have r2:bX (a.get b) (o+2)=.val (.str to.n to.a):=by rw[m];exact p.at' 2 g3
 have r3:bX (a.get b) (o+3)=.val av:=by rw[m];exact p.at' 3 g3
 refine nI t v r0 r1 r2 ?_;have g2:Gl 5 ((Hp.mk (a.put fb (aB 0 [iN 0])).t (a.nx+18)).put (a.nx+15) (aB 0 [uN kd,.str rl.n rl.a,.str to.n to.a,.aA,.bool neg])) nv l.length (l.flatMap kR):=by refine i.gl.keep (show H.nx<=a.nx+18 by omega) fun c e v=>?_;have:=i.nin c e;rw[dO _ _ _ _ om];show(a.put fb _).get c=_;rw[dO _ _ _ _ om];exact n c v om
 obtain⟨u,T,g3,q3,O,n3⟩:=g2.append (k:=1) (w:=72) (x:=[uN kd,.str rl.n rl.a,.str to.n to.a,.aA,.bool neg]) om rfl om om;simp only[nq]at T g3 q3 n3 O;refine Ok.uU T ?_;have f:∀ c,c<a.nx->c≠fb->¬ In nv c->u.get c=a.get c:=fun c h1 A h3=>by refine(O.get c (show c<a.nx+18 by omega) h3).trans ?_;rw[dO _ _ _ _ om];show(a.put fb _).get c=_;rw[dO _ _ _ _ A]
 have G:u.get fb=aB 0 [iN 0]:=by refine(O.get fb (show fb<a.nx+18 by omega) (s _ om)).trans ?_;rw[dO _ _ _ _ om];exact dN _ _ _
 have I:=(f nb om om (s _ om)).trans t;have J:=(f g om om (s _ om)).trans d2;have K:=(f vb om om (s _ om)).trans F;have L:=f b om om (s _ om);have M:bX (u.get b) (o+3)=.val av:=by rw[L];exact r3
 refine eF I M ?_;refine hg _ _ (max d lv) ⟨dN _ _ _,?_,?_,?_,⟨o1,o2,o3,show vb<u.nx by omega⟩,?_,?_⟩ om ⟨show H.nx<=u.nx by omega,fun c e q=>?_⟩ ?_
 ·rw[dO _ _ _ _ om];exact J
 ·rw[dO _ _ _ _ om];exact G
 ·rw[dO _ _ _ _ om];exact K
 ·rw[lL,qy,ry];exact g3.keep (lu _) fun c e _=>by obtain⟨_,_,_,_,e⟩:=e;injection e with e;rw[dO _ _ _ _ om]
 ·rintro c ⟨_,_,_,_,e⟩;injection e with e;omega
 ·unfold WkS at q;rw[dO _ _ _ _ (fun h=>q (.inl h))];exact(f c om (fun h=>q (.inr (.inr (.inl h)))) fun h=>q (.inr (.inr (.inr h)))).trans (n c e fun h=>q (.inr (.inl h)))
 ·rintro c ⟨_,_,_,_,e⟩;injection e with e;omega
theorem qru{r:Ru}(hR:zm0 C r j){g:AV->pD}{Q:pL}{b o lv bl kd t d nb z fb vb:Nat}{l:List (Nd×AV)}{nv x:AV}{xs ca cb cc:List AV}(u:WkI H nb z fb vb l nv d)(hx:Gl 1 H x t xs)(ht:t<2)(F:∀ c,In x c->vb<c/\¬ In nv c)(h4:rM H b o [uN kd,zS,zS,.sl bl 0 2 2 true])(hb:b<nb)(L:bl<nb)(kb:H.get bl=aB 0 (ca++cb))(la:ca.length=4)(lb:cb.length=4)(G:cc=if t=0 then ca else cb)(M:jV (· < nb) H r cc)(hlv:lv+1+r.depth<=9)(N:l.length+r.size<=32)(hd:d<=8)(hg:∀(P:AV) (H':Hp) (q:List (Nd×AV)) (p:AV) (s:Nat) (R:List AV),WkI H' nb z fb vb q p s->q.map Prod.fst=l.map Prod.fst++r.nodes (neg||(decide (kd=6)&&decide (t=1)))->s<=8 -> Fm (fun c=>WkS nb z fb nv c\/In x c) H H'->(∀c,In p c->In nv c\/H.nx<=c)->Gl 1 H' P (t+1) R->(∀c,In P c->vb<c/\¬ In p c/\H.nx<=c)->Ok (g P (iN ((t+1))) H') Q):Ok (qtk (C j) qr g (.ptr b o) (iN lv) (.bool neg) (.ptr nb 0) (.ptr vb 0) x (iN t) H) Q:=by
 unfold qtk;obtain⟨o1,o2,o3,o4⟩:=u.o;have e0:=u.n;have U:=u.gl.bM;refine eF e0 U ?_;have fp:Fm No H (aI H (aB 0 [iN (l.length)])):=by exact jF
 obtain⟨y,e2,g2,q2,f2,n2⟩:=(hx.no fp).append (k:=1) (w:=8) (x:=[iN (l.length)]) om rfl om om;simp only[np]at n2;refine Ok.veE e2 ?_;have J:Fm (In x) H y:=(fp.mono (T:=In x) (fun _ _ h=>absurd h id)).then f2 fun _ _ h=>h;have D:∀ c,c<H.nx->¬ In x c->y.get c=H.get c:=fun c S h2=>J.get c S h2;have e:∀ c,c<=vb->¬ In x c:=fun c a h=>by have:=(F c h).1;omega
 have I2:WkI y nb z fb vb l nv d:=⟨(D _ om (e _ om)).trans u.n,(D _ om (e _ om)).trans u.d,(D _ om (e _ om)).trans u.f,(D _ om (e _ om)).trans u.v,⟨o1,o2,o3,om⟩,
  u.gl.keep J.nx (fun c a U=>D c U fun h=>(F c h).2 a),u.nin⟩
 have W:=I2.v;have I:=D b om (e _ om);have X:bX (y.get b) o=.val (uN kd):=by rw[I];exact h4.at' 0 g3
 have Y:bX (y.get b) (o+3)=.val (.sl bl 0 2 2 true):=by rw[I];exact h4.at' 3 g3
 have Z:=(D bl om (e _ om)).trans kb;have a4:rM y bl (t*4) cc:=⟨om,fun i hi=>by
  rw[Z,qca];have:(ca++cb)[t*4+i]? =some cc[i]:=by
   by_cases h0:t=0
   ·subst h0;subst G;rw[lAV,qg,uj om,lq hi]
   ·have S:t=1:=om;subst S;subst G;rw[uh om,show 1*4+i-ca.length=i by omega,lq hi]
  rw[this]⟩
 have aUz:jV (· < nb) y r cc:=M.dP J fun c a=>e c om;have O:∀ n:Bool,Ok (C j (.f 227) [.ptr bl (t*4),iN ((lv+1)),.bool n,.ptr nb 0,.ptr z 0,.ptr fb 0,.ptr vb 0] y) _:=fun n=>hR bl (t*4) (lv+1) n y nb z fb vb l nv d cc I2 a4 aUz L om N hd;have fin:∀(n:Bool),n=(neg||(decide (kd=6)&&decide (t=1)))->∀(v:Hp) (q:List (Nd×AV)) (p:AV) (s:Nat),WkI v nb z fb vb q p s->q.map Prod.fst=l.map Prod.fst++r.nodes n->s<=8->Fm (WkS nb z fb nv) y v->(∀c,In p c->In nv c\/y.nx<=c) ->
   Ok (g (.sl (aI H (aB 0 [iN (l.length)])).nx 0 (t+1) (t+1) false) (iN ((t+1))) v) Q:=by
  rintro _ rfl v q p s E f m A B;have hnew:¬ WkS nb z fb nv (H.nx+1):=fun h=>by
   rcases h with h|h|h|h
   ·omega
   ·omega
   ·omega
   ·have:=u.gl.lt h;omega
  refine hg _ v q p s _ E f m ((J.mono fun _ _ h=>.inr h).then A fun _ _ h=>.inl h) (fun c a=>?_) (g2.keep A.nx fun c a V=>A.get c V fun h=>?_) fun c a=>?_
  ·rcases B c a with h|h
   ·exact .inl h
   ·omega
  ·obtain⟨_,_,_,_,a⟩:=a;injection a with a;rw[np]at a;simp_all
  ·obtain⟨_,_,_,_,a⟩:=a;injection a with a;rw[np]at a;refine⟨om,fun h=>?_,om⟩;rcases B c h with h|h
   ·have:=u.gl.lt h;omega
   ·omega
 cases neg
 ·by_cases K:kd=6
  ·have h6t:=yt K;refine jD W X Y h6t ?_;refine Ok.iD (O (decide (t=1))) ?_;rintro _ v ⟨rfl,q,p,s,E,f,m,A,B⟩;simp only[go_sem];unfold qh9;refine aT ?_;exact fin (decide (t=1)) (by simp[K]) v q p s E f m A B
  ·refine jD W X Y K ?_;refine Ok.iD (O false) ?_;rintro _ v ⟨rfl,q,p,s,E,f,m,A,B⟩;unfold qh9;refine aT ?_;exact fin false (by simp[K]) v q p s E f m A B
 ·refine iG W X Y ?_;refine Ok.iD (O true) ?_;rintro _ v ⟨rfl,q,p,s,E,f,m,A,B⟩;unfold qh9;refine aT ?_;exact fin true g3 v q p s E f m A B
theorem w37(O:Ev.Call)(qr:pD)(q:pD)(a b c d e f:AV)(n:Nat):qgf O qr q a b c d e f (n+1)=qeu O qr q a b c d e f (qgf O qr q a b c d e f n):=rfl
theorem zrn(hN:iQ C):∀(r:Ru) (k:Nat),r.Fit->r.depth+2<=k->zm0 C r k:=by
 intro r
 induction r with
 |leaf kd rl to=>intro k E U b o lv neg H nb V fb vb l nv d cs F G I n q s W;unfold Ru.depth at U q;unfold Ru.size at s;obtain⟨j,rfl⟩:∃ j,k=j+1:=⟨k-1,om⟩;rw[lk (qti ..)];have S:cs=lfC kd rl to:=I;subst S;refine qor hN (r:=.leaf kd rl to) om F G I E n om om W fun H' w d' P Q f' A=>?_;unfold qke;obtain⟨m,X⟩:∃ m,bZ=m+1:=⟨999999,by rw[wH]⟩;rw[dD,X];simp only[go_sem];rw[w37];unfold qeu;refine(qxb (j:=j) om P (i:=l.length) g3 (Gl.nil 1 H')).mono ?_;rintro r H2 ⟨rfl,Y,u,g,v⟩;refine⟨rfl,Y,w,d',u,by rw[g];simp[Ru.nodes],Q,f'.then v fun c a h=>?_,fun c a=>.inr (A c a)⟩;have:=A c h;omega
 |node kd x y ihx ihy=>
  intro k E U b o lv neg H nb V fb vb l nv d cs F G I n q s W;unfold Ru.depth at U q;unfold Ru.size at s;obtain⟨j,rfl⟩:∃ j,k=j+1:=⟨k-1,om⟩;rw[lk (qti ..)];have T:=I;obtain⟨bl,ca,cb,rfl,J,e,kb,K,L⟩:=I;have la:ca.length=4:=by obtain⟨_,_,_,_,h⟩:=K.four;rw[h];rfl
  have lb:cb.length=4:=by obtain⟨_,_,_,_,h⟩:=L.four;rw[h];rfl
  refine qor hN (r:=.node kd x y) (rl:=sE) (to:=sE) om F G T E n om om W fun H1 w d1 B R f A=>?_;obtain⟨o1,o2,o3,o4⟩:=F.o;have nS:∀ c,c<nb->¬ WkS nb V fb nv c:=fun c a h=>by
   rcases h with h|h|h|h
   ·omega
   ·omega
   ·omega
   ·have:=F.nin c h;omega
  unfold qke;obtain⟨m,X⟩:∃ m,bZ=m+3:=⟨999997,by rw[wH]⟩;rw[dD,X];simp only[go_sem];rw[w37];unfold qeu;simp only[go_sem];have nn:∀ c,¬In AV.aA c:=fun c h=>by obtain⟨_,_,_,_,h⟩:=h;cases h
  have l1:(l++[((⟨kd,sE,sE,neg⟩:Nd),AV.aA)]).length=l.length+1:=g3;refine qru (r:=x) (t:=0) (ca:=ca) (cb:=cb) (cc:=ca) (ihx j E.2.1 om) B (Gl.nil 1 H1) om (fun c h=>absurd h (nn c)) (G.keep f.nx (f.get _ om (nS _ n))) n e ((f.get _ J (nS _ e)).trans kb) la lb rfl (K.dP f fun c a=>nS c a) om (by rw[l1];omega) R ?_;intro x2 H2 l2 nv2 d2 xs2 u g Z v M gx2 z;have l2n:l2.length=l.length+1+x.size:=by have:=congrArg List.length g;simp only[pz,lL,pq,uo,qby]at this;omega
  have n1:=f.nx;have n2:=v.nx;have p:∀ c,c<nb->¬(WkS nb V fb w c\/In AV.aA c):=fun c a h=>by
   rcases h with(h|h|h|h)|h
   ·omega
   ·omega
   ·omega
   ·have:=B.nin c h;omega
   ·exact nn c h
  rw[w37];unfold qeu;simp only[go_sem];refine qru (r:=y) (t:=1) (ca:=ca) (cb:=cb) (cc:=cb) (ihy j E.2.2 om) u gx2 om (fun c h=>⟨(z c h).1,(z c h).2.1⟩) ((G.keep f.nx (f.get _ om (nS _ n))).keep n2 (v.get _ om (p _ n))) n e ((v.get _ om (p _ e)).trans ((f.get _ J (nS _ e)).trans kb)) la lb rfl ((L.dP f fun c a=>nS c a).dP v fun c a=>p c a) om om Z ?_;intro x3 H3 l3 N d3 xs3 qQ O hd3 f3 rE gx3 hx3;rw[w37];unfold qeu;have l3n:l3.length=l2.length+y.size:=by have:=congrArg List.length O;simp only[pz,lL,qby]at this;omega
  have D:∀ c,In N c->H.nx<=c:=fun c a=>by
   rcases rE c a with h|h
   ·rcases M c h with h|h
    ·exact A c h
    ·omega
   ·omega
  refine(qxb (j:=j) om qQ (i:=l.length) om gx3).mono ?_;rintro r H4 ⟨rfl,Y,hI4,hl4,f4⟩;refine⟨rfl,Y,N,d3,hI4,?_,hd3,((f.then v fun c a h=>?_).then f3 fun c a h=>?_).then f4 fun c a h=>?_,fun c a=>.inr (D c a)⟩
  ·rw[hl4,O,g];simp[Ru.nodes]
  ·rcases h with(h|h|h|h)|h
   ·exact .inl h
   ·exact .inr (.inl h)
   ·exact .inr (.inr (.inl h))
   ·have:=A c h;omega
   ·simp_all
  ·rcases h with(h|h|h|h)|h
   ·exact .inl h
   ·exact .inr (.inl h)
   ·exact .inr (.inr (.inl h))
   ·rcases M c h with h|h
    ·have:=A c h;omega
    ·omega
   ·have:=(z c h).2.2;omega
  ·have:=D c h;omega
theorem q9o{k:Nat}(a:1<=k){v:AV}(h:Gl 5 H v n l):∃w,C k (.f 229) [v] H=.ok w H/\Gl 5 H w n l/\dU w=.val (iN n)/\(∀b,In w b->In v b):=by obtain⟨j,rfl⟩:=aP a;obtain⟨w,e,c,d,f⟩:=h.clip;refine⟨w,?_,c,d,f⟩;rw[lk (zpy ..)];unfold zCp z0m;simp only[go_sem,h.bM,e]
structure Ru.Rt(r:Ru):Prop where
 fit:r.Fit
 dp:r.depth<=8
 sz:r.size<=32
theorem zh4(J:iQ C){k:Nat}(K:12<=k){r:Ru}{P:Nat->Prop}(D:rM H b 0 cs)(L:jV P H r cs)(o:r.Rt):Ok (C k (.f 195) [.ptr b 0] H) fun v H'=>∃ nv l d,v=.bA [nv,iN d,iN 0]/\Ac 5 kR H H' nv l/\l.map Prod.fst=r.nodes false:=by
 obtain⟨j,rfl⟩:=aP K;rw[lk (q52 ..)];unfold zBw zqc;refine aT ?_;generalize a:(aI ((aI (aI (aI H (aB 0 [.aA])) (aB 0 [iN 0])) (aB 0 [iN 0])).put (H.nx+1+1) (aB 0 [iN 0])) (aB 0 [.jH])).put (H.nx+1+1+1) (aB 0 [.fn 227 [] [.ptr H.nx 0,.ptr (H.nx+1) 0,.ptr (H.nx+1+1) 0,.ptr (H.nx+1+1+1) 0]])=H1;have p:Fm No H H1:=by rw[<-a];exact fm
 have T:H1.nx=H.nx+4:=by rw[<-a];rfl
 have k0:H1.get H.nx=aB 0 [.aA]:=by rw[<-a];simp(disch:=first|go_size|omega)only[go_sem,seval]
 have M:H1.get (H.nx+1)=aB 0 [iN 0]:=by rw[<-a];simp(disch:=first|go_size|omega)only[go_sem,seval]
 have k2:H1.get (H.nx+1+1)=aB 0 [iN 0]:=by rw[<-a];simp(disch:=first|go_size|omega)only[go_sem,seval]
 have k3:H1.get (H.nx+1+1+1)=aB 0 [.fn 227 [] [.ptr H.nx 0,.ptr (H.nx+1) 0,.ptr (H.nx+1+1) 0,.ptr (H.nx+1+1+1) 0]]:=by rw[<-a];exact dN _ _ _
 have N:WkI H1 H.nx (H.nx+1) (H.nx+1+1) (H.nx+1+1+1) [] .aA 0:=⟨k0,M,k2,k3,⟨om,om,om,om⟩,Gl.nil 5 _,fun c h=>by obtain⟨_,_,_,_,h⟩:=h;cases h⟩;have q:=D.lt;have s:jV (· < H.nx) H1 r cs:=(L.mono (Q:=fun c=>c<H.nx) fun c h _=>h).fm p;refine Ok.ve (zrn J r j o.fit (by have:=o.dp;omega) b 0 1 false H1 _ _ _ _ [] .aA 0 cs N (D.fm p) (s) q (by have:=o.dp;omega) (by have:=o.sz;simpa using this) om) ?_;rintro _ z ⟨rfl,l,nv,d,f,n,S,G,A⟩;have U:=G.nx;have t:=f.n;have u:=f.d;have O:=f.f;refine aT ?_;unfold q1h;refine eP O ?_;unfold q1i;obtain⟨w,e,I,_,B⟩:=q9o (k:=j) om f.gl;have m:=wV (Gl.flat f.gl) 63;refine eF t u ?_;refine Ok.uU e ?_;have R:Fm No H z:=p.then G fun c g h=>by
  rcases h with h|h|h|⟨_,_,_,_,h⟩
  ·omega
  ·omega
  ·omega
  ·cases h
 have i:∀ c,In w c->H.nx+4<=c:=fun c g=>by
  rcases A c (B c g)with⟨_,_,_,_,h⟩|h
  ·cases h
  ·omega
 have E:∀(x y:bW),Gl 5 ((z.put H.nx x).put (H.nx+1) y) w l.length (l.flatMap kR):=fun x y=>I.keep (lu _) fun c g _=>by have:=i c g;rw[dO _ _ _ _ om,dO _ _ _ _ om]
 have F:∀(x y:bW),Fm No H ((z.put H.nx x).put (H.nx+1) y):=fun x y=>(R.aG _ _ om).aG _ _ om;rcases I.is with⟨h,_⟩|⟨_,_,_,_,_,h,_⟩
 ·subst h;refine iG t u m ?_;exact Ok.ret ⟨_,l,d,rfl,⟨E _ _,F _ _,fun c g=>by have:=i c g;omega⟩,by simpa using n⟩
 ·subst h;refine iG t u m ?_;exact Ok.ret ⟨_,l,d,rfl,⟨E _ _,F _ _,fun c g=>by have:=i c g;omega⟩,by simpa using n⟩
theorem rM.push:rM (aI H (aB 0 cs)) H.nx 0 cs:=⟨by rw[np];omega,fun j h=>by rw[jG,qca,qg,lq h]⟩
theorem qqp(c:iQ C){k:Nat}(e:13<=k){r:Ru}{P:Nat->Prop}(b:jV P H r cs)(g:r.Rt):Ok (C k (.f 171) [.agg cs] H) fun v H'=>∃ nv l,v=.bA [nv,iN 0]/\Ac 5 kR H H' nv l/\l.map Prod.fst=r.nodes false:=by
 obtain⟨j,rfl⟩:=aP e;rw[lk (q54 ..)];unfold zBk zqp;obtain⟨c0,h,i,m,a⟩:=b.four;subst a;have f:Fm No H (aI H (aB 0 [c0,h,i,m])):=by exact jF
 refine Ok.ve (zh4 c (k:=j) om rM.push (b.fm f) g) ?_;rintro _ H1 ⟨nv,l,d,rfl,n,o⟩;exact Ok.ret ⟨nv,l,rfl,n.trans f,o⟩
theorem zbq(c:iQ C){k:Nat}(e:13<=k){r:Ru}{P:Nat->Prop}(b:jV P H r cs)(g:r.Rt):Ok (C k (.f 144) [.agg cs] H) fun v H'=>v=iN 0/\Fm No H H':=by
 obtain⟨j,rfl⟩:=aP e;rw[lk (q5m ..)];unfold zCx zps;obtain⟨c0,h,i,m,a⟩:=b.four;subst a;have f:Fm No H (aI H (aB 0 [c0,h,i,m])):=by exact jF
 refine Ok.ve (zh4 c (k:=j) om rM.push (b.fm f) g) ?_;rintro _ H1 ⟨nv,l,d,rfl,n,o⟩;exact Ok.ret ⟨rfl,f.trans n.fm⟩
structure PrX(X:List aQ):Prop where
 n:X.length<=16
 r:∀ g∈X,g.gs.length<=16/\Nm g.name
 x:∀ g∈X,∀x∈g.gs,x.r.types.length<=8/\Nm x.r.name/\x.r.rule.Rt/\∀ t∈x.r.types,Nm t.sp/\(t.rl=sE\/Nm t.rl)
theorem PrX.sml(h:PrX X):sD X:=⟨by have:=h.n;omega,fun g a=>by have:=(h.r g a).1;omega,fun g a x b=>by have:=(h.x g a x b).1;omega⟩
theorem qpc(d:iQ C){j:Nat}(p:1<=j){ts:List jL}{tv:AV}{Hb:Hp}(e:Rs 2 tC Hb tv ts)(c:ts.length<=8)(b:∀ t∈ts,Nm t.sp/\(t.rl=sE\/Nm t.rl)){Q:pL}{q:pH}{qr:pD}(f:∀ H,Fm No Hb H->Ok (q H) Q):∀(k i:Nat) (H:Hp),i<=ts.length->ts.length-i<k->Fm No Hb H->Ok (q5u (C j) qr q tv (iN (ts.length)) k (iN i) H) Q
 |0,i,_,_,h,_=>om
 |k+1,i,H,hi,hk,hf=>by
  show Ok (zeu (C j) _ _ _ _ (q5u (C j) _ _ _ _ k) _ H) Q;unfold zeu;obtain⟨m,rfl⟩:∃ m,j=m+1:=⟨j-1,om⟩;by_cases a:i<ts.length
  ·simp only[go_sem,a];unfold zet;have v:=e.fm hf;obtain⟨w,x,u,y,_,n,z⟩:=v.at' i a;have r:=b ts[i] (lg a);have g:=(d m).p _ r.1;unfold tC SS.v at n;unfold SS.v at g;by_cases o:ts[i].rl.n=0/\ts[i].rl.a=0
   ·have l:=yt o;refine jD u n g l ?_;unfold qdh;refine aT ?_;exact qpc d p e c b f k (i+1) _ om om (hf.trans fm)
   ·have s:=(d m).p ts[i].rl (by
     rcases r.2 with h|h
     ·exact absurd ((oD _ _).1 h) o
     ·exact h)
    unfold SS.v at s;refine nI u n g o s ?_;unfold qdh;refine aT ?_;exact qpc d p e c b f k (i+1) _ om om (hf.trans fm)
  ·simp only[go_sem,a];exact f H hf
theorem z4x(c:iQ C){k:Nat}(w:14<=k){g:bB}(d:oJ H g)(b:g.r.types.length<=8/\Nm g.r.name/\g.r.rule.Rt/\∀ t∈g.r.types,Nm t.sp/\(t.rl=sE\/Nm t.rl)):Ok (C k (.f 232) [.agg (gP g)] H) fun v H'=>v=iN 0/\Fm No H H':=by
 obtain⟨j,rfl⟩:∃ j,k=j+1+1:=⟨k-2,om⟩;rw[lk (zp4 ..)];unfold zCi z0s;obtain⟨c0,i,l,m,a⟩:=d.ru.four;have h:gP g=[.str g.r.name.n g.r.name.a,g.tv,c0,i,l,m]:=by unfold gP;rw[a];rfl
 rw[h];have n:=(c j).p _ b.2.1;unfold SS.v at n;have s:¬ 8<g.r.types.length:=om;have f:Fm No H (aI H (aB 0 [.str g.r.name.n g.r.name.a,g.tv,c0,i,l,m])):=by exact jF
 have o:=d.ty.fm f;have p:=o.len;refine iG n p s ?_;unfold zes;refine eP p ?_;unfold zwk;rw[dD];refine qpc c om o b.1 b.2.2.2 (fun r e=>?_) bZ 0 _ (gp _) lf (Fm.refl _ _);unfold zer;have k2:r.get H.nx=aB 0 [.str g.r.name.n g.r.name.a,g.tv,c0,i,l,m]:=(e.keep gx).trans (jG _ _);simp only[go_sem,k2];have q:=d.ru.fm (f.trans e);rw[a]at q;refine Ok.ve (zbq c (k:=j+1) om q b.2.2.1) ?_;rintro _ x ⟨rfl,u⟩;exact Ok.ret ⟨rfl,(f.trans e).trans u⟩
theorem qpe(f:iQ C){j:Nat}(l:14<=j){g:aQ}{Hb:Hp}(m:SpR Hb g)(b:g.gs.length<=16)(n:∀ x∈g.gs,x.r.types.length<=8/\Nm x.r.name/\x.r.rule.Rt/\∀ t∈x.r.types,Nm t.sp/\(t.rl=sE\/Nm t.rl)){Q:pL}{q:pH}{qr:pD}(o:∀ H,Fm No Hb H->Ok (q H) Q):∀(k i:Nat) (H:Hp),i<=g.gs.length->g.gs.length-i<k->Fm No Hb H->Ok (qto (C j) qr q g.rv (iN (g.gs.length)) k (iN i) H) Q
 |0,i,_,_,h,_=>om
 |k+1,i,H,hi,hk,hf=>by
  show Ok (q1j (C j) _ _ _ _ (qto (C j) _ _ _ _ k) _ H) Q;unfold q1j;by_cases a:i<g.gs.length
  ·simp only[go_sem,a];unfold zfe;have p:=m.fm hf;obtain⟨B,D,v,E,_,_,_,u⟩:=p.at' i a;have r:=lg a;have s:=p.rel _ r;obtain⟨c0,w,y,z,e⟩:=s.ru.four;have c:gP g.gs[i]=[.str g.gs[i].r.name.n g.gs[i].r.name.a,g.gs[i].tv,c0,w,y,z]:=by unfold gP;rw[e];rfl
   have d:Fm No H ((aI H (aB 0 [zS,.aA,uN 0,zS,zS,.aA])).put H.nx (aB 0 (gP g.gs[i]))):=by exact kP
   have O:=z4x f (k:=j) l (s.fm d) (n _ r);rw[c]at u d O;refine eF v u ?_;refine Ok.ve O ?_;rintro _ F ⟨rfl,A⟩;unfold zff;refine aT ?_;exact qpe f l m b n o k (i+1) _ om om ((hf.trans d).trans A)
  ·simp only[go_sem,a];exact o H hf
theorem qr8(d:iQ C){j:Nat}(g:14<=j){sv:AV}{X:List aQ}{Hb:Hp}(l:bY Hb sv X)(c:PrX X){Q:pL}{q:pH}{qr:pD}(n:∀ H,Fm No Hb H->Ok (q H) Q):∀(k i:Nat) (H:Hp),i<=X.length->X.length-i<k->Fm No Hb H->Ok (qwu (C j) qr q sv (iN (X.length)) k (iN i) H) Q
 |0,i,_,_,h,_=>om
 |k+1,i,H,hi,hk,hf=>by
  show Ok (zfg (C j) _ _ _ _ (qwu (C j) _ _ _ _ k) _ H) Q;unfold zfg;obtain⟨m,rfl⟩:∃ m,j=m+1:=⟨j-1,om⟩;have y:=c.n;by_cases a:i<X.length
  ·simp only[go_sem,a];unfold zfc;have o:=l.fm hf;obtain⟨z,A,w,B,_,u,_⟩:=o.rs.at' i a;have e:=lg a;unfold yA SS.v at u;have p:=c.r _ e;have r:=(d m).p _ p.2;unfold SS.v at r;have b:=o.sp _ e;have s:=b.len;have f:¬ 16<X[i].gs.length:=om;refine nI w u r s f ?_;unfold zfd;refine eP s ?_;unfold zfh;rw[dD];have t:Fm No H ((aI H (aB 0 [zS,.aA])).put H.nx (aB 0 [.str X[i].name.n X[i].name.a,X[i].rv])):=by exact kP
   refine qpe d g (b.fm t) p.1 (c.x _ e) (fun x v=>?_) bZ 0 _ (gp _) lf (Fm.refl _ _);unfold wE;refine aT ?_;exact qr8 d g l c n k (i+1) _ om om ((hf.trans t).trans v)
  ·simp only[go_sem,a];exact n H hf
theorem zm7(e:iQ C){k:Nat}(g:15<=k)(b:bY H sv X)(c:PrX X):Ok (C k (.f 207) [.agg [sv]] H) fun v H'=>v=iN 0/\Fm No H H':=by
 obtain⟨j,rfl⟩:=aP g;rw[lk (zqe ..)];unfold zBu z0z;have f:Fm No H (aI H (aB 0 [sv])):=by exact jF
 have d:=b.rs.len;have l:=c.n;have a:¬ 16<X.length:=om;refine eF d a ?_;unfold zfb;refine eP d ?_;unfold zwo;rw[dD];refine qr8 e om (b.fm f) c (fun i h=>?_) bZ 0 _ (gp _) lf (Fm.refl _ _);exact Ok.ret ⟨rfl,f.trans h⟩
theorem zlk(e:AV->AV->Option Bool)(k:AV)(i:Nat):yK e k [] i=some none:=rfl
theorem za3(e:AV->AV->Option Bool)(k:AV)(x:gD)(es:List gD)(i:Nat):yK e k (x::es) i=match e k x.key with|some true=>some (some ⟨i,x⟩)|some false=>yK e k es (i+1)|none=>none:=rfl
def eqPr:AV->AV->Option Bool:=dQ (eqFields [(p1,⟨bL⟩,0),(p1,⟨bL⟩,1)])
theorem qcj(s t:SS):bL s.v t.v=some (decide (s=t)):=by show some (Nat.beq s.n t.n&&Nat.beq s.a t.a)=_;rw[beq_eq,beq_eq,<-Bool.decide_and];congr 1;exact decide_eq_decide.2 (oD s t).symm
theorem qvz(p q:SS×SS):eqPr (.agg (pC p)) (.agg (pC q))=some (decide (p=q)):=by
 show andThen (bL p.1.v q.1.v) (andThen (bL p.2.v q.2.v) (some true))=_;rw[qcj,qcj];obtain⟨a,b⟩:=p;obtain⟨c,d⟩:=q;by_cases e:a=c
 ·by_cases f:b=d
  ·simp[e,f,andThen]
  ·simp[e,f,andThen]
 ·simp[e,andThen]
theorem qeo{α:Type}[DecidableEq α]{e:AV->AV->Option Bool}{b:α->AV}(d:∀ p q,e (b p) (b q)=some (decide (p=q)))(p:α):∀(es:List gD) (ps:List α) (i:Nat),es.map gD.key=ps.map b -> (p∉ps->yK e (b p) es i=some none)/\(p∈ps->∃ x,es[ps.findIdx fun q=>decide (q=p)]? =some x/\yK e (b p) es i=some (some ⟨i+ps.findIdx (fun q=>decide (q=p)),x⟩))
 | [],[],i,_=>⟨fun _=>zlk _ _ _,fun h=>by cases h⟩
 | [],_::_,_,h=>by cases h
 |_::_,[],_,h=>by cases h
 |x::es,q::ps,i,h=>by
  injection h with h1 h2;obtain⟨l,g⟩:=qeo d p es ps (i+1) h2;rw[za3,h1,d];by_cases a:p=q
  ·subst a;refine⟨fun h=>absurd ug h,fun _=>⟨x,?_,?_⟩⟩
   ·simp[List.findIdx_cons]
   ·simp[List.findIdx_cons]
  ·have c:¬ q=p:=fun h=>a h.symm;refine⟨fun h=>?_,fun h=>?_⟩
   ·simp_all
   ·have f:p∈ps:=by
     simp_all
    obtain⟨y,j,k⟩:=g f;refine⟨y,?_,?_⟩
    ·simp[List.findIdx_cons,c];exact j
    ·simp only[a,decide_false];rw[k];simp only[List.findIdx_cons,c,decide_false,af];congr 3;omega
structure kM{α:Type}(ky:α->AV)(vl:Nat->Nat)(H:Hp)(b:Nat)(ps:List α):Prop where
 ex:∃ es c,H.get b=.map es c/\es.map gD.key=ps.map ky/\es.map gD.val=(List.range ps.length).map fun i=>iN ((vl i))
theorem kM.eq{α:Type}{a:α->AV}{vl:Nat->Nat}{ps:List α}(h:kM a vl H b ps)(e:H'.get b=H.get b):kM a vl H' b ps:=by obtain⟨es,c,d,f,g⟩:=h.ex;exact⟨es,c,e.trans d,f,g⟩
theorem kM.len{α:Type}{a:α->AV}{vl:Nat->Nat}{ps:List α}(h:kM a vl H b ps):aBG H (.map b)=.val (iN (ps.length)):=by
 obtain⟨es,c,e,f,g⟩:=h.ex;have d:es.length=ps.length:=by have:=congrArg List.length f;simpa using this
 show(match H.get b with| .map es _=>R0.val (i64 es.length)|_=>.bad)=_;rw[e,<-d];rfl
theorem kM.look{α:Type}[DecidableEq α]{a:α->AV}{vl:Nat->Nat}{ps:List α}(h:kM a vl H b ps){e:AV->AV->Option Bool}{s:Option Nat}(g:∀ p q,e (a p) (a q)=some (decide (p=q)))(i:∀ p,qir s (a p)=true)(z:AV)(d:Bool)(p:α):nR ⟨e,s⟩ z d H (.map b) (a p)=if p∈ps then .val (bif d then .bA [iN ((vl (ps.findIdx fun q=>decide (q=p)))),.bool true]else iN ((vl (ps.findIdx fun q=>decide (q=p)))))else .val (bif d then .bA [z,.bool false]else z):=by
 obtain⟨es,c,l,m,r⟩:=h.ex;obtain⟨g1,g2⟩:=qeo g p es ps 0 m;show(match(match H.get b with| .map es _=>some es|_=>none)with|some es=>q33 d z (bif qir s (a p)then yK e (a p) es 0 else none)|none=>.bad)=_;rw[l,i];simp only[uB];by_cases f:p∈ps
 ·rw[qj f];obtain⟨x,n,x2⟩:=g2 f;rw[x2];have j:x.val=iN ((vl (ps.findIdx fun q=>decide (q=p)))):=by
   have k:(ps.findIdx fun q=>decide (q=p))<ps.length:=by rw[List.findIdx_lt_length];exact⟨p,f,g3⟩
   have o:(es.map gD.val)[ps.findIdx fun q=>decide (q=p)]? =some x.val:=by rw[xy,n];rfl
   simp_all
  show R0.val (bif d then .bA [x.val,.bool true]else x.val)=_;rw[j]
 ·rw[pg f,g1 f];rfl
theorem kM.upd{α:Type}[DecidableEq α]{a:α->AV}{vl:Nat->Nat}{ps:List α}(h:kM a vl H b ps){e:AV->AV->Option Bool}{s:Option Nat}(d:∀ p q,e (a p) (a q)=some (decide (p=q)))(i:∀ p,qir s (a p)=true){p:α}(j:p∉ps):∃k,kL ⟨e,s⟩ H (.map b) (a p) (iN ((vl ps.length)))=.ok .undef (H.put b k)/\kM a vl (H.put b k) b (ps++[p]):=by
 obtain⟨es,c,m,f,g⟩:=h.ex;obtain⟨g1,_⟩:=qeo d p es ps 0 f;refine⟨.map (es++[⟨a p,iN ((vl ps.length)),c⟩]) (c+1),?_,⟨_,_,dN _ _ _,?_,?_⟩⟩
 ·have l:qp2 ⟨e,s⟩ (a p) es=some none:=by
   show(bif qir s (a p)then yK e (a p) es 0 else none)=_;simp_all
  unfold kL;simp_all
 ·simp_all
 ·rw[ui,g,lL,lAN,lAM,ui];rfl
theorem kM.nil{α:Type}(a:α->AV)(vl:Nat->Nat){b c:Nat}(h:H.get b=.map [] c):kM a vl H b ([]:List α):=⟨[],c,h,rfl,rfl⟩
def kyP(p:SS×SS):AV:=.agg [.str p.1.n p.1.a,.str p.2.n p.2.a]
def kyS(s:SS):AV:=.str s.n s.a
theorem qlv(p q:SS×SS):dQ (eqFields [(p1,⟨bL⟩,0),(p1,⟨bL⟩,1)]) (kyP p) (kyP q)=some (decide (p=q)):=qvz p q
theorem zk0(p q:SS):bL (kyS p) (kyS q)=some (decide (p=q)):=qcj p q
abbrev iT(H:Hp)(b:Nat)(ps:List (SS×SS)):Prop:=kM kyP id H b ps
abbrev vB(H:Hp)(b:Nat)(ss:List SS):Prop:=kM kyS (fun _=>1) H b ss
theorem iT.find{ps:List (SS×SS)}(h:iT H b ps)(z:AV)(x y:SS)(a:(x,y)∈ps):nR ⟨dQ (eqFields [(p1,⟨bL⟩,0),(p1,⟨bL⟩,1)]),some 2⟩ z true H (.map b) (.agg [.str x.n x.a,.str y.n y.a])=.val (.bA [iN ((ps.findIdx fun q=>decide (q=(x,y)))),.bool true]):=by have:=h.look (s:=some 2) qlv (fun _=>rfl) z true (x,y);rw[qj a]at this;exact this
theorem iT.aNC{ps:List (SS×SS)}(h:iT H b ps)(z:AV)(x y:SS)(a:(x,y)∈ps):nR ⟨dQ (eqFields [(p1,⟨bL⟩,0),(p1,⟨bL⟩,1)]),some 2⟩ z false H (.map b) (.agg [.str x.n x.a,.str y.n y.a])=.val (iN ((ps.findIdx fun q=>decide (q=(x,y))))):=by have:=h.look (s:=some 2) qlv (fun _=>rfl) z false (x,y);rw[qj a]at this;exact this
theorem iT.miss{ps:List (SS×SS)}(h:iT H b ps)(z:AV)(x y:SS)(a:(x,y)∉ps):nR ⟨dQ (eqFields [(p1,⟨bL⟩,0),(p1,⟨bL⟩,1)]),some 2⟩ z true H (.map b) (.agg [.str x.n x.a,.str y.n y.a])=.val (.bA [z,.bool false]):=by have:=h.look (s:=some 2) qlv (fun _=>rfl) z true (x,y);rw[pg a]at this;exact this
theorem iT.put{ps:List (SS×SS)}(h:iT H b ps)(x y:SS)(a:(x,y)∉ps):∃k,kL ⟨dQ (eqFields [(p1,⟨bL⟩,0),(p1,⟨bL⟩,1)]),some 2⟩ H (.map b) (.agg [.str x.n x.a,.str y.n y.a]) (iN (ps.length))=.ok .undef (H.put b k)/\iT (H.put b k) b (ps++[(x,y)]):=
 h.upd (s:=some 2) qlv (fun _=>rfl) a
theorem vB.find{a:List SS}(h:vB H b a)(z:AV)(x:SS)(c:x∈a):nR ⟨bL,none⟩ z false H (.map b) (.str x.n x.a)=.val (iN 1):=by have:=h.look (s:=none) zk0 (fun _=>rfl) z false x;rw[qj c]at this;exact this
theorem vB.miss{a:List SS}(h:vB H b a)(z:AV)(x:SS)(c:x∉a):nR ⟨bL,none⟩ z false H (.map b) (.str x.n x.a)=.val z:=by have:=h.look (s:=none) zk0 (fun _=>rfl) z false x;rw[pg c]at this;exact this
theorem vB.put{a:List SS}(h:vB H b a)(x:SS)(c:x∉a):∃k,kL ⟨bL,none⟩ H (.map b) (.str x.n x.a) (iN 1)=.ok .undef (H.put b k)/\vB (H.put b k) b (a++[x]):=
 h.upd (s:=none) zk0 (fun _=>rfl) c
def ptC(q:Nat×Nat):List AV:=[.ptr q.1 q.2]
theorem qvb(q:Nat×Nat):(ptC q).length=1:=rfl
def nmC(q:SS×bB):List AV:=[q.1.v]
def kq(q:SS×bB):SS×SS:=(q.1,q.2.r.name)
def d9(X:List aQ):List (SS×bB):=X.flatMap fun g=>g.gs.map fun x=>(g.name,x)
theorem uV(X:List aQ):(d9 X).map kq=aF X:=by unfold d9 aF;rw[List.map_flatMap];congr 1;funext g;rw[oh];rfl
structure PtR(H:Hp)(q:Nat×Nat)(x:bB):Prop where
 lt:q.1<H.nx
 nm:bX (H.get q.1) q.2=.val (.str x.r.name.n x.r.name.a)
 tv:bX (H.get q.1) (q.2+1)=.val x.tv
 ru:fD (H.get q.1) (q.2+2) 4=some x.cs
 all:fD (H.get q.1) q.2 6=some (gP x)
theorem PtR.fm{q:Nat×Nat}{x:bB}(h:PtR H q x)(f:Fm No H H'):PtR H' q x:=by have e:=f.keep h.lt;exact⟨ku h.lt f.nx,by rw[e];exact h.nm,by rw[e];exact h.tv,by rw[e];exact h.ru,by rw[e];exact h.all⟩
theorem SpR.pt(h:SpR H g)(a:i<g.gs.length):∃ b o,aH 6 g.rv (iN i)=.val (.ptr b o)/\PtR H (b,o) g.gs[i]:=by obtain⟨b,o,c,d,e,f,j,k⟩:=h.at' i a;exact⟨b,o,c,d,e,f,j,k⟩
structure IxI(H0 H:Hp)(ib mb nb:Nat)(sv av iv:AV)(ss:List SS)(rs:List (SS×bB))(qs:List (Nat×Nat)):Prop where
 blk:H.get ib=aB 0 [sv,.map mb,.map nb,av,iv]
 ms:vB H mb ss
 mn:iT H nb (rs.map kq)
 a:Gl 1 H av qs.length (qs.flatMap ptC)
 i:Gl 1 H iv rs.length (rs.flatMap nmC)
 len:qs.length=rs.length
 pt:∀ i (h:i<qs.length) (h':i<rs.length),PtR H0 qs[i] rs[i].2
 o:H0.nx<=mb/\mb<nb/\nb<ib/\ib<H.nx
 an:∀ c,In av c->ib<c/\¬ In iv c
 inn:∀ c,In iv c->ib<c
 fm:Fm No H0 H
theorem q91(H:Hp)(b o x y:Nat):j5 H (.ptr b o) (.ptr x y)=storeAt H b o [.ptr x y] .undef:=id rfl
theorem zbe(a b:Nat):uQ (.ptr a b)=some [.ptr a b]:=id rfl
theorem z6p(a b c d e x:AV):aZ [a,b,c,d,e] 3 [x]=[a,b,c,x,e]:=id rfl
theorem z6o(a b c d e x:AV):aZ [a,b,c,d,e] 4 [x]=[a,b,c,d,x]:=id rfl
attribute [go_sem] q91 zbe z6p z6o
theorem z3o{v:pD}{ib mb nb pb:Nat}{sv av iv:AV}{Y:List SS}{e:List (SS×bB)}{f:List (Nat×Nat)}(d:IxI H0 H ib mb nb sv av iv Y e f){x:bB}(J:aH 6 g.rv (iN i)=.val (.ptr b o))(y:PtR H0 (b,o) x)(r:(g.name,x.r.name)∉e.map kq)(hi:i<1000)(n:H.get pb=aB 0 [.str g.name.n g.name.a,g.rv])(hpl:pb<H.nx)(hrl:e.length<=1000)(K:¬ In av pb/\¬ In iv pb/\ib<pb){Q:pL}(hg:∀ H' z A,IxI H0 H' ib mb nb sv z A Y (e++[(g.name,x)]) (f++[(b,o)])->Fm (fun c=>c=nb\/c=ib\/In av c\/In iv c) H H'->(∀c,In z c\/In A c->H.nx<=c)->Ok (v (iN ((i+1))) H') Q):Ok (q1k O v (.ptr ib 0) (.ptr pb 0) (iN i) H) Q:=by
 unfold q1k;obtain⟨o1,o2,o3,o4⟩:=d.o;have B:=d.blk;have p1:=y.fm d.fm;have r0:bX (H.get b) o=.val (.str x.r.name.n x.r.name.a):=p1.nm;have em:=d.mn.miss (iN 0) g.name x.r.name r;have la:=d.a.bM;have C:=d.len;have M:=wV (Gl.flat d.i) 63;refine nI n J B r0 em ?_;obtain⟨k,eu,mu⟩:=d.mn.put g.name x.r.name r;rw[pz,<-C]at eu;refine jD n B r0 la ?_;refine Ok.uU eu ?_;unfold q1l;have p:∀ c,c≠nb->(H.put nb k).get c=H.get c:=fun c h=>dO _ _ _ _ h;have e1:(H.put nb k).get ib=aB 0 [sv,.map mb,.map nb,av,iv]:=(p _ om).trans B;have q1:(H.put nb k).get pb=aB 0 [.str g.name.n g.name.a,g.rv]:=(p _ om).trans n;simp only[go_sem,seval,e1,q1];have N:∀ c,In iv c->c<H.nx:=fun c a=>d.i.lt a;have g2:Gl 1 ((Hp.mk (H.put nb k).t (H.nx+23)).put (H.nx+7) (aB 0 [.ptr b o])) av f.length (f.flatMap ptC):=by refine d.a.keep (show H.nx<=H.nx+23 by omega) fun c a E=>?_;have:=(d.an c a).1;rw[dO _ _ _ _ om];exact p c om
 obtain⟨l,e2,a2,_,X,n2⟩:=g2.append (k:=1) (w:=8) (x:=[.ptr b o]) om rfl om om;simp only[nq]at e2 a2 X n2;refine Ok.uU e2 ?_;have P:∀ c,c<H.nx->c≠nb->¬ In av c->l.get c=H.get c:=fun c Z L h3=>by refine(X.get c (show c<H.nx+23 by omega) h3).trans ?_;rw[dO _ _ _ _ om];exact p c L
 have D:¬ In av ib:=fun h=>by have:=(d.an ib h).1;omega
 have R:¬ In iv ib:=fun h=>by have:=d.inn ib h;omega
 have S:=(P ib om om D).trans B;have T:=(P pb om om K.1).trans n;simp only[go_sem,seval,S,T,M];have g3:Gl 1 (l.put (H.nx+15) (aB 0 [.str g.name.n g.name.a])) iv e.length (e.flatMap nmC):=by refine d.i.keep (show H.nx<=l.nx by omega) fun c a E=>?_;have:=d.inn c a;rw[dO _ _ _ _ om];exact P c E om fun h=>(d.an c h).2 a
 obtain⟨G,e3,a3,_,I,n3⟩:=g3.append (k:=1) (w:=16) (x:=[.str g.name.n g.name.a]) om rfl om om;simp only[nq]at e3 a3 I n3;refine Ok.uU e3 ?_;have s:∀ c,c<H.nx->c≠nb->¬ In av c->¬ In iv c->G.get c=H.get c:=fun c Z L h3 h4=>by refine(I.get c (show c<l.nx by omega) h4).trans ?_;rw[dO _ _ _ _ om];simp_all
 have U:=(s ib om om D R).trans B;simp only[go_sem,seval,U];unfold zfl;refine aT ?_;have t:∀ c,In (.sl (H.nx+23) 0 (f.length+1) (f.length+1) false) c->c=H.nx+23:=fun c a=>by obtain⟨_,_,_,_,a⟩:=a;simp_all
 have q:∀ c,In (.sl l.nx 0 (e.length+1) (e.length+1) false) c->c=l.nx:=fun c a=>by obtain⟨_,_,_,_,a⟩:=a;simp_all
 generalize u:((G.put ib (aB 0 [sv,.map mb,.map nb,.sl (H.nx+23) 0 (f.length+1) (f.length+1) false,iv])).put ib (aB 0 [sv,.map mb,.map nb,.sl (H.nx+23) 0 (f.length+1) (f.length+1) false,.sl l.nx 0 (e.length+1) (e.length+1) false]))=H4;have n4:H4.nx=G.nx:=by rw[<-u];rfl
 have j:∀ c,c≠ib->H4.get c=G.get c:=fun c h=>by rw[<-u,dO _ _ _ _ h,dO _ _ _ _ h]
 have b4:H4.get ib=aB 0 [sv,.map mb,.map nb,.sl (H.nx+23) 0 (f.length+1) (f.length+1) false,.sl l.nx 0 (e.length+1) (e.length+1) false]:=by rw[<-u];exact dN _ _ _
 have V:H4.get mb=H.get mb:=(j mb om).trans (s mb om om (fun h=>by have:=(d.an mb h).1;omega) (fun h=>by have:=d.inn mb h;omega));have W:H4.get nb=(H.put nb k).get nb:=by refine(j nb om).trans ((I.get nb (show nb<l.nx by omega) (fun h=>by have:=d.inn nb h;omega)).trans ?_);rw[dO _ _ _ _ om];refine(X.get nb (show nb<H.nx+23 by omega) (fun h=>by have:=(d.an nb h).1;omega)).trans ?_;rw[dO _ _ _ _ om];rfl
 have fF:Fm (fun c=>c=nb\/c=ib\/In av c\/In iv c) H H4:=⟨om,fun c a F=>(j c fun h=>F (.inr (.inl h))).trans (s c a (fun h=>F (.inl h)) (fun h=>F (.inr (.inr (.inl h)))) fun h=>F (.inr (.inr (.inr h))))⟩;refine hg H4 (.sl (H.nx+23) 0 (f.length+1) (f.length+1) false) (.sl l.nx 0 (e.length+1) (e.length+1) false) ⟨b4,d.ms.eq V,?_,?_,?_,?_,?_,⟨o1,o2,o3,om⟩,?_,?_,?_⟩ fF ?_
 ·rw[ui];exact mu.eq W
 ·rw[lL,qy,ry];refine a2.keep om fun c a E=>?_;have:=t c a;rw[j c om,I.get c (show c<l.nx by omega) (fun h=>by have:=N c h;omega),dO _ _ _ _ om]
 ·rw[lL,qy,ry];refine a3.keep om fun c a E=>?_;have:=q c a;exact j c om
 ·simp[C]
 ·intro m Z L;rw[List.getElem_append,List.getElem_append];split
  ·rename_i h;rw[dif_pos om];exact d.pt m h om
  ·rename_i h;rw[dif_neg om];simpa using y
 ·intro c a;have:=t c a;refine⟨om,fun h=>?_⟩;have:=q c h;omega
 ·intro c a;have:=q c a;omega
 ·refine d.fm.then fF fun c a h=>?_;rcases h with h|h|h|h
  ·omega
  ·omega
  ·have:=(d.an c h).1;omega
  ·have:=d.inn c h;omega
 ·intro c a;rcases a with a|a
  ·have:=t c a;omega
  ·have:=q c a;omega
theorem qlt{α:Type}{l:List α}(h:l.Nodup)(b:i<l.length):l[i]∉l.take i:=fun c=>by obtain⟨j,a,e⟩:=ai c;rw[List.getElem_take]at e;exact yf.1 h j i (by simp at a;omega) b (by simp at a;omega) e
theorem qcf{α β:Type}(g:α->List β)(c:Nat):∀ l:List α,(∀x∈l,(g x).length<=c)->(l.flatMap g).length<=c*l.length
 | [],_=>g3
 |a::l,h=>by rw[uA,lL,pq,Nat.mul_add,qm];have:=qcf g c l fun x b=>h x (uk _ b);have:=h a ug;omega
theorem PrX.len(h:PrX X):(d9 X).length<=256:=by
 have:=qcf (fun g:aQ=>g.gs.map fun x=>(g.name,x)) 16 X fun g a=>by rw[pz];exact(h.r g a).1
 have:=h.n;unfold d9;omega
def dI(X:List aQ)(s:Nat):List (SS×bB):=d9 (X.take s)
theorem q79(X:List aQ)(s:Nat):(dI X s).length<=(d9 X).length:=by
 unfold dI d9
 conv=>rhs;rw[<-dh s X,qy,lL]
 omega
theorem zj1{s i:Nat}(a:s<X.length)(b:i<X[s].gs.length):∃ Z,d9 X=(dI X s++(X[s].gs.take i).map fun x=>(X[s].name,x))++(X[s].name,X[s].gs[i])::Z:=by
 refine⟨(X[s].gs.drop (i+1)).map (fun x=>(X[s].name,x))++d9 (X.drop (s+1)),?_⟩;have c:X=X.take s++X[s]::X.drop (s+1):=by rw[<-uq a,dh]
 have d:X[s].gs=X[s].gs.take i++X[s].gs[i]::X[s].gs.drop (i+1):=by rw[<-uq b,dh]
 unfold dI d9
 conv=>lhs;rw[c,qy,uA]
 conv=>lhs;rw[d,ui,ou]
 simp
theorem qnk(a:(aF X).Nodup){s i:Nat}(b:s<X.length)(c:i<X[s].gs.length):(X[s].name,X[s].gs[i].r.name)∉(dI X s++(X[s].gs.take i).map fun x=>(X[s].name,x)).map kq:=by obtain⟨Z,h⟩:=zj1 b c;rw[<-uV,h,ui,ou]at a;intro d;exact(yw.1 a).2.2 _ d (kq (X[s].name,X[s].gs[i])) ug rfl
theorem q8n{O:Ev.Call}{H0 Hb:Hp}{ib mb nb pb:Nat}{sv:AV}{p:List SS}{X:List aQ}(r:bY H0 sv X)(t:(aF X).Nodup)(v:(d9 X).length<=256){s:Nat}(e:s<X.length)(f:X[s].gs.length<=16){Q:pL}{q:pH}(u:∀ H av iv c,IxI H0 H ib mb nb sv av iv p (dI X s++X[s].gs.map fun x=>(X[s].name,x)) c->Hb.nx<=H.nx->Ok (q H) Q):∀(k i:Nat) (H:Hp) (av iv:AV) (c:List (Nat×Nat)),i<=X[s].gs.length->X[s].gs.length-i<k->IxI H0 H ib mb nb sv av iv p (dI X s++(X[s].gs.take i).map fun x=>(X[s].name,x)) c -> H.get pb=aB 0 [.str X[s].name.n X[s].name.a,X[s].rv]->pb<H.nx->(¬In av pb/\¬ In iv pb/\ib<pb)->Hb.nx<=H.nx -> Ok (qtp O q (.ptr ib 0) (.ptr pb 0) (iN (X[s].gs.length)) k (iN i) H) Q
 |0,i,_,_,_,_,_,h,_,_,_,_,_=>om
 |k+1,i,H,av,iv,c,hi,hk,hI,hpb,hpl,hpn,hbn=>by
  show Ok (q1n O _ _ _ _ (qtp O _ _ _ _ k) _ H) Q;unfold q1n;by_cases a:i<X[s].gs.length
  ·simp only[go_sem,a];obtain⟨b,o,y,p1⟩:=(r.sp _ (lg e)).pt a;have n:(dI X s++(X[s].gs.take i).map fun x=>(X[s].name,x)).length<=1000:=by
    have:=q79 X s;rw[lL,pz,qx];omega
   obtain⟨z,A,B,C⟩:=hI.o;refine z3o hI y p1 (qnk t e a) om hpb hpl n hpn fun H' g j l m d=>?_;refine q8n r t v e f u k (i+1) H' g j (c++[(b,o)]) om om ?_ ((m.get pb hpl fun h=>?_).trans hpb) (ku hpl m.nx) ⟨fun h=>?_,fun h=>?_,hpn.2.2⟩ (rq hbn m.nx)
   ·rw[lh a,ui,ae,<-qw];exact l
   ·rcases h with h|h|h|h
    ·omega
    ·omega
    ·exact hpn.1 h
    ·exact hpn.2.1 h
   ·have:=d pb (.inl h);omega
   ·have:=d pb (.inr h);omega
  ·simp only[go_sem,a];have w:i=X[s].gs.length:=om;rw[w,um]at hI;exact u H av iv c hI hbn
theorem q8m{O:Ev.Call}{H0:Hp}{ib mb nb:Nat}{sv:AV}{X:List aQ}(m:bY H0 sv X)(C:(aF X).Nodup)(D:(X.map aQ.name).Nodup)(n:PrX X){Q:pL}{q:pH}(E:∀ H av iv d,IxI H0 H ib mb nb sv av iv (X.map aQ.name) (d9 X) d->Ok (q H) Q):∀(k s:Nat) (H:Hp) (av iv:AV) (d:List (Nat×Nat)),s<=X.length->X.length-s<k->IxI H0 H ib mb nb sv av iv ((X.take s).map aQ.name) (dI X s) d -> Ok (qn8 O q (.ptr ib 0) sv (iN (X.length)) k (iN s) H) Q
 |0,s,_,_,_,_,_,h,_=>om
 |k+1,s,H,av,iv,d,hs,hk,hI=>by
  show Ok (q1o O _ _ _ _ (qn8 O _ _ _ _ k) _ H) Q;unfold q1o;have hn:=n.n;by_cases a:s<X.length
  ·simp only[go_sem,a];unfold zfk;have o:=m.fm hI.fm;obtain⟨b1,J,V,e2,_,K,_⟩:=o.rs.at' s a;unfold yA SS.v at K;have G:=lg a;obtain⟨J,W,Y,L⟩:=hI.o;have I:=hI.blk;have b:X[s].name∉(X.take s).map aQ.name:=by
    have F:=qlt D (i:=s) (by simpa using a);simp_all
   have u:Fm No H ((aI H (aB 0 [zS,.aA])).put H.nx (aB 0 [.str X[s].name.n X[s].name.a,X[s].rv])):=by exact kP
   have j:vB ((aI H (aB 0 [zS,.aA])).put H.nx (aB 0 [.str X[s].name.n X[s].name.a,X[s].rv])) mb ((X.take s).map aQ.name):=hI.ms.eq (u.keep om);have S:=j.miss (iN 0) X[s].name b;have v:=(u.keep L).trans I;have w:nR ⟨bL,none⟩ (iN 0) false ⟨((aI H (aB 0 [zS,.aA])).put H.nx (aB 0 [.str X[s].name.n X[s].name.a,X[s].rv])).t,H.nx+1⟩ (.map mb) (.str X[s].name.n X[s].name.a)=.val (iN 0):=S;refine jD V K v w ?_;obtain⟨Z,eu,M⟩:=j.put X[s].name b;refine Ok.uU eu ?_;have y:=m.sp _ G;have g:=y.len;have z:=(n.r _ G).1;refine eP g ?_;unfold zfm;rw[dD];generalize e:((aI H (aB 0 [zS,.aA])).put H.nx (aB 0 [.str X[s].name.n X[s].name.a,X[s].rv])).put mb Z=H2 at M;have n2:H2.nx=H.nx+1:=by rw[<-e];rfl
   have l:∀ c,c<H.nx->c≠mb->H2.get c=H.get c:=fun c o F=>by rw[<-e,dO _ _ _ _ F];exact u.keep o
   have A:H2.get H.nx=aB 0 [.str X[s].name.n X[s].name.a,X[s].rv]:=by rw[<-e,dO _ _ _ _ om];exact dN _ _ _
   have B:IxI H0 H2 ib mb nb sv av iv ((X.take s).map aQ.name++[X[s].name]) (dI X s++(X[s].gs.take 0).map fun x=>(X[s].name,x)) d:=by
    rw[lA0,List.map_nil,uf];refine⟨(l ib L om).trans I,M,hI.mn.eq (l nb om om),hI.a.keep om fun c f g=>l c g ?_,hI.i.keep om fun c f g=>l c g ?_,hI.len,hI.pt,⟨J,W,Y,om⟩,hI.an,hI.inn,?_⟩
    ·have:=(hI.an c f).1;omega
    ·have:=hI.inn c f;omega
    ·exact⟨by have:=hI.fm.nx;omega,fun c f _=>(l c (ku f hI.fm.nx) om).trans (hI.fm.keep f)⟩
   refine q8n m C n.len a z (Hb:=H2) (fun N p r t P R=>?_) bZ 0 H2 av iv d (gp _) lf B A om ⟨fun h=>?_,fun h=>?_,om⟩ (lu _)
   ·unfold q1m;refine aT ?_;refine q8m m C D n E k (s+1) N p r t om om ?_;have T:dI X (s+1)=dI X s++X[s].gs.map fun x=>(X[s].name,x):=by
     unfold dI d9;rw[lh a,qy,ry]
    rw[lh a,ui,ae,T];exact P
   ·have:=hI.a.lt h;omega
   ·have:=hI.i.lt h;omega
  ·simp only[go_sem,a];have U:s=X.length:=om;rw[U,um]at hI;refine E H av iv d ?_;have:dI X X.length=d9 X:=by unfold dI;rw[um]
   simp_all
structure IdR(H:Hp)(ib:Nat)(sv:AV)(X:List aQ):Prop where
 ex:∃ mb nb av iv qs,H.get ib=aB 0 [sv,.map mb,.map nb,av,iv]/\vB H mb (X.map aQ.name)/\iT H nb (aF X)/\Rs 1 ptC H av qs/\Rs 1 nmC H iv (d9 X)/\vT av=true/\vT iv=true/\qs.length=(d9 X).length /\
  (∀i (h:i<qs.length) (h':i<(d9 X).length),PtR H qs[i] (d9 X)[i].2)/\mb<H.nx/\nb<H.nx
 lt:ib<H.nx
theorem IdR.fm{ib:Nat}(h:IdR H ib sv X)(f:Fm No H H'):IdR H' ib sv X:=by obtain⟨mb,nb,av,iv,d,e,g,j,k,l,m,n,o,p,l1,c⟩:=h.ex;exact⟨⟨mb,nb,av,iv,d,(f.keep h.lt).trans e,g.eq (f.keep l1),j.eq (f.keep c),k.fm f,l.fm f,m,n,o,fun i a b=>(p i a b).fm f,ku l1 f.nx,ku c f.nx⟩,ku h.lt f.nx⟩
theorem zkg(q:SS×bB):(nmC q).length=1:=rfl
theorem zm4{k:Nat}(p:1<=k)(l:bY H sv X)(m:PrX X)(q:(aF X).Nodup)(s:(X.map aQ.name).Nodup):Ok (C k (.f 173) [.agg [sv]] H) fun r H'=>∃ ib,r=.ptr ib 0/\IdR H' ib sv X/\Fm No H H':=by
 obtain⟨j,rfl⟩:=aP p;rw[lk (zqh ..)];unfold zBr z01;have n:=l.rs.len;have y:=m.n;have f:uQ sv=some [sv]:=by cases sv<;>first|rfl|(exfalso;revert n;exact fun h=>by cases h)
 have g:∀ b,uQ (.map b)=some [.map b]:=fun b=>rfl;refine iG f n g ?_;unfold zfn;rw[dD];generalize e:aI (aI (aI (aI H (aB 0 [sv])) (.map [] 0)) (.map [] 0)) (aB 0 [sv,.map (H.nx+1),.map (H.nx+1+1),.aA,.aA])=H1;have u:Fm No H H1:=by rw[<-e];exact fP4
 have z:H1.nx=H.nx+4:=by rw[<-e];rfl
 have v:H1.get (H.nx+1)=.map [] 0:=by rw[<-e];simp(disch:=first|go_size|omega)only[go_sem,seval]
 have k2:H1.get (H.nx+1+1)=.map [] 0:=by rw[<-e];simp(disch:=first|go_size|omega)only[go_sem,seval]
 have k3:H1.get (H.nx+1+1+1)=aB 0 [sv,.map (H.nx+1),.map (H.nx+1+1),.aA,.aA]:=by rw[<-e];simp(disch:=go_size)only[go_sem,seval]
 have o:∀ c,¬In AV.aA c:=fun c h=>by obtain⟨_,_,_,_,h⟩:=h;cases h
 refine q8m l q s m (fun x av iv t d=>?_) bZ 0 H1 .aA .aA [] (gp _) lf ⟨k3,kM.nil _ _ v,kM.nil _ _ k2,Gl.nil 1 _,Gl.nil 1 _,rfl,fun i h=>by simp at h,⟨om,om,om,om⟩,fun c h=>absurd h (o c),fun c h=>absurd h (o c),u⟩;obtain⟨A,B,D,w⟩:=d.o;refine Ok.ret ⟨_,rfl,⟨⟨_,_,av,iv,t,d.blk,d.ms,?_,d.a.rs qvb,d.i.rs zkg,Gl.flat d.a,Gl.flat d.i,d.len,fun i a b=>(d.pt i a b).fm d.fm,om,om⟩,w⟩,d.fm⟩;have:=d.mn;rw[uV]at this;exact this
structure dB(X:List aQ):Prop where
 pr:PrX X
 al:(aF X).Nodup
 sp:(X.map aQ.name).Nodup
 ty:∀ g∈X,∀x∈g.gs,x.r.types.Nodup/\∀ t∈x.r.types,t.sp∈X.map aQ.name/\(t.rl=sE\/(t.sp,t.rl)∈aF X)
 nd:∀ g∈X,∀x∈g.gs,∀y∈x.r.rule.nodes false,(y.k=2\/y.k=3->(g.name,y.rl)∈aF X)/\(y.k=3->iZ X g.name y.rl y.to≠[])
 us:∀ g∈X,∀x∈g.gs,((x.r.rule.nodes false).any (fun n=>decide (n.k=1))=true->x.r.types≠[])/\((x.r.rule.nodes false).any (fun n=>decide (n.k=1))=false->x.r.types≠[]->(g.gs.any fun z=>gK z.r.rule 3 x.r.name)=true)
theorem qgl{a:SS}{x:bB}:(a,x)∈d9 X↔∃ g∈X,x∈g.gs/\g.name=a:=by
 unfold d9;rw[xm];constructor
 ·rintro ⟨g,b,h⟩;rw[uC]at h;obtain⟨y,c,e⟩:=h;injection e with e1 e2;subst e2;exact⟨g,b,c,e1⟩
 ·simp
theorem qd0{a b:SS}:(a,b)∈aF X↔∃ g∈X,∃x∈g.gs,g.name=a/\x.r.name=b:=by
 rw[<-uV,uC];constructor
 ·rintro ⟨⟨f,x⟩,h,e⟩;injection e with e1 e2;subst e1;obtain⟨g,c,d,e⟩:=qgl.1 h;exact⟨g,c,x,d,e,e2⟩
 ·rintro ⟨g,c,x,d,rfl,rfl⟩;exact⟨(g.name,x),qgl.2 ⟨g,c,d,rfl⟩,rfl⟩
theorem qpp{α β:Type}{f:α->β}:∀{l:List α},(l.map f).Nodup->∀{x y:α},x∈l->y∈l->f x=f y->x=y
 | [],_,_,_,h,_,_=>by cases h
 |a::l,hn,x,y,hx,hy,e=>by
  rw[ou,lAC]at hn;rcases su.1 hx with c|c
  ·rcases su.1 hy with b|b
   ·rw[c,b]
   ·exact absurd (by rw[<-c,e];exact xu b) hn.1
  ·rcases su.1 hy with b|b
   ·simp_all
   ·exact qpp hn.2 c b e
theorem qpy{α:Type}[DecidableEq α]{l:List α}(h:l.Nodup)(a:i<l.length):(l.findIdx fun q=>decide (q=l[i]))=i:=by rw[List.findIdx_eq a];refine⟨g3,fun j b=>?_⟩;have:=yf.1 h j i om a b;simp_all
theorem qda(f:(aF X).Nodup)(j:(X.map aQ.name).Nodup){a b:SS}(h:(a,b)∈aF X):∃ x,lF X a b=some x/\(d9 X)[cB X a b]? =some (a,x):=by
 obtain⟨g,m,x,w,rfl,rfl⟩:=qd0.1 h;have r:X.find? (fun p=>decide (p.name=g.name))=some g:=by
  cases c:X.find? (fun p=>decide (p.name=g.name))with
  |none=>rw[List.find?_eq_none]at c;exact absurd (c g m) g3
  |some p=>
   have e:p.name=g.name:=by simpa using lEJ c
   rw[qpp j (xf c) m e]
 obtain⟨y,o⟩:∃ y,g.gs.find? (fun z=>decide (z.r.name=x.r.name))=some y:=by
  cases c:g.gs.find? (fun z=>decide (z.r.name=x.r.name))with
  |none=>rw[List.find?_eq_none]at c;exact absurd (c x w) g3
  |some y=>exact⟨y,rfl⟩
 have k:lF X g.name x.r.name=some y:=by unfold lF;rw[r];exact o
 have s:y.r.name=x.r.name:=by simpa using lEJ o
 refine⟨y,k,?_⟩;have t:(g.name,y)∈d9 X:=qgl.2 ⟨g,m,xf o,rfl⟩;obtain⟨n,q,e⟩:=ai t;have u:(d9 X).length=(aF X).length:=by rw[<-uV,pz]
 have v:(aF X)[n]'om=(g.name,x.r.name):=by
  have d:(aF X)[n]? =some (kq (d9 X)[n]):=by rw[<-uV,xy,lq q];rfl
  rw[lq om]at d;injection d with d;rw[d,e];show(g.name,y.r.name)=_;rw[s]
 have l:cB X g.name x.r.name=n:=by have:=qpy f (i:=n) om;rw[v]at this;exact this
 rw[l,lq q,e]
theorem qhr(c:(aF X).Nodup)(d:(X.map aQ.name).Nodup)(a b:SS):(lF X a b).isSome=decide ((a,b)∈aF X):=by
 by_cases h:(a,b)∈aF X
 ·obtain⟨x,k,_⟩:=qda c d h;simp_all
 ·rw[ql h];cases j:lF X a b with
  |none=>rfl
  |some x=>obtain⟨p,e,f,g,i⟩:=qci j;exact absurd (qd0.2 ⟨p,e,x,f,g,i⟩) h
theorem ztn(a b:Nat):ql1 (.ptr a b) .bJ=some false:=id rfl
theorem zto:ql1 .bJ .bJ=some true:=id rfl
theorem zbm(n b:Bool):jT n (some b)=.val (.bool (bif n then !b else b)):=id rfl
attribute [go_sem] ztn zto zbm
theorem qhx{k:Nat}(m:1<=k){ib:Nat}(n:IdR H ib sv X)(d:(aF X).Nodup)(e:(X.map aQ.name).Nodup){a b:SS}(h:(a,b)∈aF X):∃q x,lF X a b=some x/\C k (.f 174) [.ptr ib 0,.str a.n a.a,.str b.n b.a] H=.ok (.ptr q.1 q.2) H/\PtR H q x:=by
 obtain⟨j,rfl⟩:=aP m;obtain⟨x,s,B⟩:=qda d e h;obtain⟨mb,nb,av,iv,c,l,D,t,u,E,F,G,I,v,l1,J⟩:=n.ex;have o:=qpn h;have p:(d9 X).length=(aF X).length:=by rw[<-uV,pz]
 have g:cB X a b<c.length:=om;obtain⟨w,y,z,K,_,_,A⟩:=u.at' _ g;have r:bX (H.get w) y=.val (.ptr c[cB X a b].1 c[cB X a b].2):=A 0 (by rw[qvb];omega);refine⟨c[cB X a b],x,s,?_,?_⟩
 ·rw[lk (q51 ..)];unfold zBx zqb;have i:=t.find (iN 0) a b h;have f:(List.findIdx (fun q=>decide (q=(a,b))) (aF X))=cB X a b:=rfl;rw[f]at i;refine eF l i ?_;unfold zfa;simp only[go_sem,l,z,r]
 ·have:=v _ g om;simp_all
theorem zuo{k:Nat}(c:1<=k){ib:Nat}(d:IdR H ib sv X){a b:SS}(h:(a,b)∉aF X):C k (.f 174) [.ptr ib 0,.str a.n a.a,.str b.n b.a] H=.ok .bJ H:=by obtain⟨j,rfl⟩:=aP c;obtain⟨mb,nb,av,iv,i,f,l,g,m,n,o,p,q,r,l1,s⟩:=d.ex;rw[lk (q51 ..)];unfold zBx zqb;have e:=g.miss (iN 0) a b h;simp(disch:=go_size)only[go_sem,seval,f,e]
theorem qva{j:Nat}(m:1<=j){H0:Hp}{ib:Nat}{sv tv:AV}{X:List aQ}(s:IdR H0 ib sv X)(b:(aF X).Nodup)(c:(X.map aQ.name).Nodup){ts:List jL}(t:Rs 2 tC H0 tv ts)(f:ts.length<=1000)(to:SS){Q:pL}{q:pD}(B:∀ w H,Ac 1 sC H0 H w (tgL X to ts)->Ok (q w H) Q):∀(k i:Nat) (w:AV) (H:Hp),i<=ts.length->ts.length-i<k->Ac 1 sC H0 H w (tgL X to (ts.take i)) -> Ok (qwt (C j) q (.ptr ib 0) to.v tv (iN (ts.length)) k w (iN i) H) Q
 |0,i,_,_,_,h,_=>om
 |k+1,i,w,H,hi,hk,hw=>by
  show Ok (ze9 (C j) _ _ _ _ _ (qwt (C j) _ _ _ _ _ k) _ _ H) Q;unfold ze9;by_cases d:i<ts.length
  ·simp only[go_sem,d];unfold ze8;have u:=t.fm hw.fm;obtain⟨K,L,A,M,_,p,_⟩:=u.at' i d;unfold tC SS.v at p;have o:=q65 X to d;have v:=qup X to (ts.take i);rw[qx]at v;have a:∀ n,Fm No H n->tgP X to ts[i]=false->Ok (yP (C j) (qwt (C j) q (.ptr ib 0) (.str to.n to.a) tv (iN (ts.length)) k) w (iN i) n) Q:=fun n E h=>by
    unfold yP;refine aT ?_;refine qva m s b c t f to B k (i+1) w n om om ?_;rw[o,h];simpa using hw.no E
   have D:Fm No H ((aI H (aB 0 [zS,zS])).put H.nx (aB 0 [.str ts[i].sp.n ts[i].sp.a,.str ts[i].rl.n ts[i].rl.a])):=by exact kP
   have g:=(s.fm hw.fm).fm D;unfold SS.v;unfold tgP at a o;by_cases r:ts[i].rl.n=0/\ts[i].rl.a=0
   ·have y:ts[i].rl=sE:=(oD _ _).2 r;have l:=yt r;rw[qc y,qhr b c]at a o;by_cases e:(ts[i].sp,to)∈aF X
    ·obtain⟨N,x,_,z,_⟩:=qhx (k:=j) m g b c e;rw[qc e]at o;refine jD A p l z ?_;refine Ok.ve ((hw.no (D.trans fm)).add ts[i].sp 16 rfl om om) ?_;intro F G I;unfold yP;refine aT ?_;refine qva m s b c t f to B k (i+1) F G om om ?_;simp_all
    ·have z:=zuo (k:=j) m g e;rw[ql e]at a;refine jD A p l z ?_;simp_all
   ·rw[ql (fun h=>r ((oD _ _).1 h))]at a;refine iG A p r ?_;simp_all
  ·simp only[go_sem,d];have J:i=ts.length:=om;simp_all
theorem zuu{k:Nat}(a:1<=k){v:AV}(h:Gl 1 H v n l):∃w,C k (.f 183) [v] H=.ok w H/\Gl 1 H w n l/\(∀b,In w b->In v b):=by obtain⟨j,rfl⟩:=aP a;obtain⟨w,e,c,f,d⟩:=h.clip;refine⟨w,?_,c,d⟩;rw[lk (q5s ..)];unfold zCq qn4;simp only[go_sem,h.bM,e]
theorem qqo{k:Nat}(t:2<=k){ib:Nat}(u:bY H sv X)(v:sD X)(n:IdR H ib sv X)(d:(aF X).Nodup)(f:(X.map aQ.name).Nodup)(a b to:SS)(l:(a,b)∈aF X):Ok (C k (.f 175) [.ptr ib 0,.str a.n a.a,.str b.n b.a,.str to.n to.a] H) fun r H'=>Ac 1 sC H H' r (iZ X a b to):=by obtain⟨j,rfl⟩:=aP t;rw[lk (zqa ..)];unfold zBy z0x;obtain⟨q,x,o,D,E⟩:=qhx (k:=j) om n d f l;have z:=E.tv;obtain⟨p,i,s,_,_⟩:=qci o;have h:=((u.sp p i).rel x s).ty;have A:=v.t p i x s;have B:=h.len;simp only[go_sem,D,z,B];unfold zwn;rw[dD];refine qva om n d f h om to (fun w G m=>?_) bZ 0 .aA H (gp _) lf (Ac.nil _ _ (Fm.refl _ _));unfold q50;obtain⟨w',e,g,F⟩:=zuu (k:=j) om m.gl;simp only[go_sem,e];unfold iZ;rw[o];exact Ok.ret ⟨g,m.fm,fun c y=>m.nw c (F c y)⟩
theorem qzn(n m i:Nat)(h:i<=m):bounds n m none (some (iN i)) none=some ⟨0,i,m⟩:=by show(match(bif Nat.ble i m then some i else none)with|none=>none|some h=>match(some 0:Option Nat)with|none=>none|some l=>some (Bd.mk l h m))=_;rw[ble_eq,qc h];rfl
theorem Rs.pre{α:Type}{f:α->List AV}{v:AV}{l:List α}(h:Rs z f H v l)(k:v=.aA\/∃ b o n m e,v=.sl b o n m e/\n<=m/\0<n)(y:i<l.length):∃w,kU z v none (some (iN i)) none=.val w/\Rs z f H w (l.take i):=by
 have a:=h.len;rcases k with rfl|⟨b,o,n,m,e,rfl,t⟩
 ·exfalso;have:l.length=0:=by
   have p:aD .aA=R0.val (iN 0):=rfl;injection a with a;injection a with _ a;injection a with a;omega
  omega
 ·have q:n=l.length:=by
   have p:aD (.sl b o n m e)=R0.val (iN n):=rfl;injection a with a;injection a with _ a;injection a
  subst q;have r:kU z (.sl b o l.length m e) none (some (iN i)) none=iV b o z ⟨0,i,m⟩ e:=by show(match bounds l.length m none (some (iN i)) none with|some bd=>iV b o z bd e|none=>R0.bad)=_;rw[qzn _ _ _ om]
  have s:iV b o z ⟨0,i,m⟩ e=.val (.sl b o i m e):=by unfold iV;simp only[beq_eq];rw[ql om,af];simp
  refine⟨.sl b o i m e,r.trans s,?_,fun j hj=>?_⟩
  ·rw[qx,yu om];rfl
  ·have d:j<i:=by rw[qx]at hj;omega
   obtain⟨A,B,c,u,C,D,x⟩:=h.at' j om;rw[vL _ _ _ _ _ _ _ _ om]at c;injection c with c;injection c with c i6;subst c i6;refine⟨b,_,vL _ _ _ _ _ _ _ _ d,u,⟨_,_,_,_,rfl⟩,?_,fun m g=>?_⟩
   ·simp_all
   ·have:((l.take i)[j]'hj)=l[j]'om:=List.getElem_take ..;simp only[this]at g ⊢;exact x m g
def kyT(t:jL):SS×SS:=(t.sp,t.rl)
theorem z3n{t u:jL}(h:kyT t=kyT u):t=u:=by injection h with h1 h2;cases t;simp_all
theorem q64{O:Ev.Call}{H:Hp}{tv:AV}{ts:List jL}(g:Rs 2 tC H tv ts)(d:ts.length<=1000){t:jL}{pb:Nat}(e:H.get pb=aB 0 [.str t.sp.n t.sp.a,.str t.rl.n t.rl.a]){Q:pL}{q:pH}{qr:pD}(j:t∉ts->Ok (q H) Q)(l:t∈ts->∀ i:Nat,Ok (qr (iN i) H) Q):∀(k i:Nat),i<=ts.length->ts.length-i<k->t∉ts.take i->Ok (q5i O qr q tv (.ptr pb 0) (iN (ts.length)) k (iN i) H) Q
 |0,i,_,h,_=>om
 |k+1,i,hi,hk,hn=>by
  show Ok (zd5 O _ _ _ _ _ (q5i O _ _ _ _ _ k) _ H) Q;unfold zd5;by_cases a:i<ts.length
  ·simp only[go_sem,a];unfold zd4;obtain⟨n,o,m,p,_,f,_⟩:=g.at' i a;unfold tC SS.v at f;have c:dQ (eqFields [(p1,⟨bL⟩,0),(p1,⟨bL⟩,1)]) (.agg [.str t.sp.n t.sp.a,.str t.rl.n t.rl.a]) (.agg [.str ts[i].sp.n ts[i].sp.a,.str ts[i].rl.n ts[i].rl.a])=some (decide (kyT t=kyT ts[i])):=qlv (kyT t) (kyT ts[i]);by_cases b:kyT t=kyT ts[i]
   ·rw[qc b]at c;simp only[go_sem,seval,e,m,f,c];exact l (by rw[z3n b];exact lg a) i
   ·rw[ql b]at c;simp only[go_sem,seval,e,m,f,c];unfold zv5;refine aT ?_;refine q64 g d e j l k (i+1) om om fun h=>?_;rw[lh a,qi,qf]at h;simp_all
  ·simp only[go_sem,a];exact j (by rw[tq om]at hn;exact hn)
theorem qly{k:Nat}(e:2<=k){tv:AV}{ts:List jL}(b:Rs 2 tC H tv ts)(a:ts.length<=1000)(t:jL):Ok (C k (.f 166) [tv,.agg [.str t.sp.n t.sp.a,.str t.rl.n t.rl.a]] H) fun r H'=>r=.bool (decide (t∈ts))/\Fm No H H':=by
 obtain⟨j,rfl⟩:∃ j,k=j+1+1:=⟨k-2,om⟩;rw[lk (zpk ..)];unfold zDf z0c;refine aT ?_;rw[lk (zpe ..)];unfold zDm zz7;have d:=b.len;simp only[go_sem,d];have f:Fm No H (aI (aI H (aB 0 [.str t.sp.n t.sp.a,.str t.rl.n t.rl.a])) (aB 0 [.str t.sp.n t.sp.a,.str t.rl.n t.rl.a])):=by exact qO
 unfold zv6;rw[dD];refine Ok.ve (R:=fun r H'=>((t∉ts/\r=.int .i64 (.negSucc 0))\/(t∈ts/\∃ i:Nat,r=iN i))/\Fm No H H') (q64 (b.fm f) a (t:=t) (pb:=H.nx+1) (by simp(disch:=go_size)only[go_sem]) (fun h=>?_) (fun h i=>Ok.ret ⟨.inr ⟨h,i,rfl⟩,f⟩) bZ 0 (gp _) lf (by rw[lA0];exact lEE)) ?_
 ·unfold qT;exact Ok.ret ⟨.inl ⟨h,rfl⟩,f⟩
 ·rintro _ g ⟨⟨h,rfl⟩|⟨h,i,rfl⟩,c⟩
  ·simp only[go_sem];exact Ok.ret ⟨by rw[ql h],c⟩
  ·simp only[go_sem];exact Ok.ret ⟨by rw[qc h,qc (gp i)],c⟩
theorem qz0{k:Nat}(b:2<=k){tv:AV}{ts:List jL}(c:Rs 2 tC H tv ts)(a:ts.length<=1000){t:jL}(d:t∉ts):Ok (C k (.f 166) [tv,.agg [.str t.sp.n t.sp.a,.str t.rl.n t.rl.a]] H) fun r H'=>r=.bool false/\Fm No H H':=
 (qly b c a t).mono fun _ _ h=>by rw[ql d]at h;exact h
theorem q78{j:Nat}(G:2<=j){Hb:Hp}{ib:Nat}{sv:AV}{X:List aQ}(I:IdR Hb ib sv X)(s:dB X){e:Nat×Nat}{x:bB}(f:PtR Hb e x)(g:oJ Hb x)(u:x.r.types.length<=8)(l:x.r.types.Nodup)(m:∀ t∈x.r.types,t.sp∈X.map aQ.name/\(t.rl=sE\/(t.sp,t.rl)∈aF X)){Q:pL}{q:pH}{qr:pD}(J:∀ H,Fm No Hb H->Ok (q H) Q):∀(k i:Nat) (H:Hp),i<=x.r.types.length->x.r.types.length-i<k->Fm No Hb H->Ok (qre (C j) qr q (.ptr ib 0) (.ptr e.1 e.2) x.tv (iN (x.r.types.length)) k (iN i) H) Q
 |0,i,_,_,h,_=>om
 |k+1,i,H,hi,hk,hf=>by
  show Ok (zeg (C j) _ _ _ _ _ _ (qre (C j) _ _ _ _ _ _ k) _ H) Q;unfold zeg;by_cases b:i<x.r.types.length
  ·simp only[go_sem,b];rw[kE qmr];unfold qmr;have K:=g.fm hf;obtain⟨U,V,O,W,_,E,_⟩:=K.ty.at' i b;unfold tC SS.v at E;have v:=I.fm hf;have L:=m _ (lg b);have n:Fm No H ((aI H (aB 0 [zS,zS])).put H.nx (aB 0 [.str x.r.types[i].sp.n x.r.types[i].sp.a,.str x.r.types[i].rl.n x.r.types[i].rl.a])):=by exact kP
   have o:=v.fm n;obtain⟨mb,nb,av,iv,Y,g1,g2,g3,_⟩:=o.ex;have M:nR ⟨bL,none⟩ (iN 0) false ⟨((aI H (aB 0 [zS,zS])).put H.nx (aB 0 [.str x.r.types[i].sp.n x.r.types[i].sp.a,.str x.r.types[i].rl.n x.r.types[i].rl.a])).t,H.nx+1⟩ (.map mb) (.str x.r.types[i].sp.n x.r.types[i].sp.a)=.val (iN 1):=g2.find _ _ L.1;have z:=(f.fm hf).fm n;have N:=z.tv;have p:=K.fm n;obtain⟨w,P,S⟩:=p.ty.pre p.tc b;have c:∀ a,Fm No ((aI H (aB 0 [zS,zS])).put H.nx (aB 0 [.str x.r.types[i].sp.n x.r.types[i].sp.a,.str x.r.types[i].rl.n x.r.types[i].rl.a])) a->Ok (C j (.f 166) [w,.agg [.str x.r.types[i].sp.n x.r.types[i].sp.a,.str x.r.types[i].rl.n x.r.types[i].rl.a]] a) fun r H'=>r=.bool false/\Fm No a H':=fun a d=>
    qz0 G (S.fm d) (by rw[qx];omega) (t:=x.r.types[i]) (qlt l b)
   have fin:∀ a,Fm No H a->Ok (kA qh0 (C j) (qre (C j) qr q (.ptr ib 0) (.ptr e.1 e.2) x.tv (iN (x.r.types.length)) k) (iN i) a) Q:=fun a d=>by rw[kE qh0];unfold qh0;refine aT ?_;exact q78 G I s f g u l m J k (i+1) a om om (hf.trans d)
   by_cases F:x.r.types[i].rl.n=0/\x.r.types[i].rl.a=0
   ·have A:=yt F;refine siH O E g1 M A N P ?_;refine Ok.iD (c _ (Fm.refl _ _)) ?_;rintro _ a ⟨rfl,d⟩;simp only[go_sem];exact fin a (n.trans d)
   ·have B:(x.r.types[i].sp,x.r.types[i].rl)∈aF X:=by
     rcases L.2 with h|h
     ·exact absurd ((oD _ _).1 h) F
     ·exact h
    obtain⟨R,y,_,T,_⟩:=qhx (k:=j) om o s.al s.sp B;have D:C j (.f 174) [.ptr ib 0,.str x.r.types[i].sp.n x.r.types[i].sp.a,.str x.r.types[i].rl.n x.r.types[i].rl.a] ⟨((aI H (aB 0 [zS,zS])).put H.nx (aB 0 [.str x.r.types[i].sp.n x.r.types[i].sp.a,.str x.r.types[i].rl.n x.r.types[i].rl.a])).t,H.nx+1⟩=.ok (.ptr R.1 R.2) ((aI H (aB 0 [zS,zS])).put H.nx (aB 0 [.str x.r.types[i].sp.n x.r.types[i].sp.a,.str x.r.types[i].rl.n x.r.types[i].rl.a])):=T;simp(disch:=first|go_size|omega)only[go_sem,seval,O,E,g1,M,F,D,N,P];refine Ok.iD (c _ (Fm.refl _ _)) ?_;rintro _ a ⟨rfl,d⟩;simp only[go_sem];exact fin a (n.trans d)
  ·simp only[go_sem,b];exact J H hf
theorem zm6{k:Nat}(g:3<=k){ib:Nat}(h:IdR H ib sv X)(i:dB X){c:Nat×Nat}{x:bB}(a:PtR H c x)(b:oJ H x)(d:x.r.types.length<=8)(e:x.r.types.Nodup)(f:∀ t∈x.r.types,t.sp∈X.map aQ.name/\(t.rl=sE\/(t.sp,t.rl)∈aF X)):Ok (C k (.f 236) [.ptr ib 0,.ptr c.1 c.2] H) fun r H'=>r=iN 0/\Fm No H H':=by obtain⟨j,rfl⟩:=aP g;rw[lk (zpr ..)];unfold zCy z0h;have m:=a.tv;have n:=b.ty.len;simp only[go_sem,m,n];unfold zwb;rw[dD];refine q78 om h i a b d e f (fun o l=>?_) bZ 0 H (gp _) lf (Fm.refl _ _);rw[kE jW];exact Ok.ret ⟨rfl,l⟩
end Go.Di
end
