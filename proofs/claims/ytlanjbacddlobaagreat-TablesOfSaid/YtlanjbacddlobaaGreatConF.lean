/-
 For TablesOf: functions in direct style, their contracts, and the plain mathematics, part 6 of 10. No conditions beyond those that each theorem states.
-/
import Derived.Test.YtlanjbacddlobaaGreatConA
import Derived.Test.YtlanjbacddlobaaGreatConE
import Derived.Test.YtlanjbacddlobaaGreatConC
import Derived.Test.YtlanjbacddlobaaGreatEv4
import Derived.Sort.AssemblyPlain
import Derived.Test.YtlanjbacddlobaaGreatConD
import Derived.KernelRfl
set_option linter.unusedSimpArgs false
set_option linter.unusedVariables false
open Nat renaming reduceAdd->rB,reduceMul->rI,reduceSub->rK,reduceLeDiff->rL,reduceEqDiff->rN,reduceShiftRight->rS,reduceAnd->r8
noncomputable section
namespace Go.Di
open Go.Ev
variable {C:Nat->Ev.Call}
variable {H:Hp} {X:List aQ} {k:Nat} {sv:AV}
structure bGo(c:Ev.Call):Prop where
 srt:∀(H:Hp) (v:AV) (es:List Edge),Gl 3 H v es.length (mQ es)->es.length<=1000000->Ok (c (.f 123) [v,.fn 122 [] []] H) fun r H'=>r=.bB []/\Gl 3 H' v es.length (mQ (sortE es))/\Fm (In v) H H'
abbrev qwg(C:Nat->Ev.Call):Prop:=∀ k,bGo (C (k+1))
theorem zef(c:aU C)(d:1<=k){b o n m:Nat}{e:Bool}(a:n<=m):C k (.f 124) [.sl b o n m e] H=.ok (.sl b o n n true) H:=by
 obtain⟨j,rfl⟩:=aT d;rw[(c j).zCc];unfold zCc z6d;have f:lC 3 (.sl b o n m e) none (some (iN n)) (some (iN n))=.val (.sl b o n n true):=by
  show(match bounds n m none (some (iN n)) (some (iN n))with|some bd=>jF b o 3 bd true|none=>R0.bad)=_;have:bounds n m none (some (iN n)) (some (iN n))=some ⟨0,n,n⟩:=by show(match(bif Nat.ble n m then some n else none)with|none=>none|some m'=>match(bif Nat.ble n m' then some n else none)with|none=>none|some h=>match(some 0:Option Nat)with|none=>none|some l=>some (Bd.mk l h m'))=_;rw[ble_eq,lI9 a];simp only[lII,ble_eq,lI9 (lEO n)]
  rw[this];unfold jF;simp only[beq_eq];by_cases g:n=0
  ·subst g;rfl
  ·simp_all
 simp only[go_sem,f]
theorem zs3(a:aU C)(b:1<=k):C k (.f 124) [.aA] H=.ok .aA H:=by obtain⟨j,rfl⟩:=aT b;rw[(a j).zCc];rfl
theorem zfa(g:aU C)(B:qwg C)(O:2<=k){v:AV}{es:List Edge}(D:Gl 3 H v es.length (mQ es))(P:es.length<900000):Ok (C k (.f 105) [v] H) fun w H'=>kX H' w (j5 (sortE es))/\dA w=.val (iN ((j5 (sortE es)).length))/\Fm (In v) H H'/\(w=.aA\/∃ b o n m e,w=.sl b o n m e)/\∀ c,In w c->In v c:=by
 obtain⟨j,rfl⟩:∃ j,k=j+1+1:=⟨k-2,om⟩;rw[(g (j+1)).zBn];refine Ok.ve ((B j).srt H v es D om) ?_;rintro _ H1 ⟨rfl,g1,u⟩;rcases g1.is with⟨rfl,z⟩|⟨b,o,e,q,L,rfl,G,R,I,T,J⟩
 ·have l:es=[]:=lIG.1 z;subst l;have d:C (j+1) (.f 125) [.aA] H1=.ok .aA H1:=by
   rw[(g j).zCb];rfl
  have f:=zs3 g (k:=j+1) om (H:=H1);simp only[go_sem,d,f];have r:j5 (sortE [])=[]:=by simp[j5,nE,sortE]
  rw[r];exact Ok.ret ⟨⟨rfl,rfl,(fun b E=>by obtain⟨_,_,_,_,h⟩:=E;cases h),(fun i p=>by simp at p)⟩,rfl,u,.inl rfl,fun _ h=>h⟩
 ·by_cases z:0<es.length
  ·have F:L=L.take o++mQ (sortE es)++[]:=by rw[<-I,lU9,lIM]
   have s:(L.take o).length=o:=by rw[lI6];omega
   have t:=q1u es;have d:=zgm g (k:=j+1) om (H:=H1) (b:=b) (q:=q) (A:=L.take o) (S:=sortE es) (e:=e) J om om (by rw[<-F];exact G);rw[s,t]at d;refine Ok.ve d ?_;rintro w K x;obtain⟨m,Z,rfl,M,N,y⟩:=x.is;have f:=zef g (k:=j+1) om (H:=K) (b:=b) (o:=(L.take o).length) (e:=e) M;simp only[go_sem,f];have Q:=x.nx;refine Ok.ret ⟨⟨rfl,rfl,fun c a=>?_,fun i p=>⟨b,(L.take o).length+i*3,uY _ _ _ _ _ _ _ _ p,om,?_⟩⟩,rfl,?_,.inr ⟨_,_,_,_,_,rfl⟩,fun c a=>by obtain⟨_,_,_,_,a⟩:=a;injection a with a;subst a;exact⟨_,_,_,_,rfl⟩⟩
   ·obtain⟨_,_,_,_,a⟩:=a;injection a with a;omega
   ·rw[y];exact q30 q _ _ _ p
   ·exact u.then x.fm fun c _ h=>by subst h;exact⟨_,_,_,_,rfl⟩
  ·have l:es=[]:=lIG.1 om;subst l;have d:C (j+1) (.f 125) [.sl b o 0 0 e] H1=.ok (.sl b o 0 0 e) H1:=by
    rw[(g j).zCb];rfl
   have f:=zef g (k:=j+1) om (H:=H1) (b:=b) (o:=o) (n:=0) (m:=0) (e:=e) (lEO _);simp only[go_sem,d,f];have r:j5 (sortE [])=[]:=by simp[j5,nE,sortE]
   rw[r];exact Ok.ret ⟨⟨rfl,rfl,(fun c a=>by obtain⟨_,_,_,_,h⟩:=a;injection h with h;omega),(fun i p=>by simp at p)⟩,rfl,u,.inr ⟨_,_,_,_,_,rfl⟩,fun c a=>by obtain⟨_,_,_,_,a⟩:=a;injection a with a;subst a;exact⟨_,_,_,_,rfl⟩⟩
structure NbI(H0 H:Hp)(nb mb:Nat)(ps:List (SS×SS)):Prop where
 n:H.get nb=aB 0 [.map mb]
 m:iU H mb ps
 o:H0.nx<=mb/\mb<nb/\nb<H.nx
 fm:Fm No H0 H
theorem qvt{O:Ev.Call}{H0:Hp}{sv:AV}{nb mb pb:Nat}{X:List aQ}(m:cZ H0 sv X)(n:(aF X).Nodup)(o:PrX X){s:Nat}(e:s<X.length){Q:pS}{q:pL}(v:∀ H,NbI H0 H nb mb ((dR X s++X[s].gs.map fun x=>(X[s].name,x)).map kq)->Ok (q H) Q):∀(k i:Nat) (H:Hp),i<=X[s].gs.length->X[s].gs.length-i<k->NbI H0 H nb mb ((dR X s++(X[s].gs.take i).map fun x=>(X[s].name,x)).map kq)->H.get pb=aB 0 [.str X[s].name.n X[s].name.a,X[s].rv]->nb<pb->pb<H.nx -> Ok (qnn O q (.ptr nb 0) (.ptr pb 0) X[s].rv (iN (X[s].gs.length)) k (iN i) H) Q
 |0,i,_,_,h,_,_,_,_=>om
 |k+1,i,H,hi,hk,hI,hp,hpn,hpl=>by
  show Ok (qx6 O _ _ _ _ _ (qnn O _ _ _ _ _ k) _ H) Q;unfold qx6;obtain⟨r,z,A⟩:=hI.o;by_cases a:i<X[s].gs.length
  ·simp only[go_sem,a];unfold zbg;have g:=m.fm hI.fm;have c:=g.sp _ (lEQ e);obtain⟨L,B,C,M,_,_,_,t⟩:=c.at' i a;obtain⟨c0,D,E,F,_,l⟩:=qhu (c.rel _ (lEQ a));rw[l]at t;have w:=(o.r _ (lEQ e)).1;obtain⟨H1,b⟩:∃ H1,H1=(aK H (aB 0 [.str 0 0,.aA,.int .u8 (.ofNat 0),.str 0 0,.str 0 0,.aA])).put H.nx (aB 0 [.str X[s].gs[i].r.name.n X[s].gs[i].r.name.a,X[s].gs[i].tv,c0,D,E,F]):=⟨_,rfl⟩;have f:Fm No H H1:=by rw[b];exact jW
   have I:H1.nx=H.nx+1:=by rw[b];rfl
   have y:=(f.keep A).trans hI.n;have k2:=(f.keep hpl).trans hp;have p:iU H1 mb ((dR X s++(X[s].gs.take i).map fun x=>(X[s].name,x)).map kq):=hI.m.eq (f.keep om);obtain⟨G,u,N⟩:=p.bDz X[s].name X[s].gs[i].r.name (qy9 n e a);have d:=p.len;have j:=hI.n;rw[b,lET]at d u;simp(disch:=go_size)only[go_sem,rB,rI,rK,rL,rN,rS,r8,C,t,j,hp,d,u];rw[<-b];unfold zbh;simp(disch:=omega)only[go_sem];refine qvt m n o e v k (i+1) (H1.put mb G) om om ⟨?_,?_,⟨r,z,show nb<H1.nx by omega⟩,(hI.fm.trans f).aH _ _ r⟩ ?_ hpn (show pb<H1.nx by omega)
   ·rw[dS _ _ _ _ om];exact y
   ·have J:(dR X s++(X[s].gs.take (i+1)).map fun x=>(X[s].name,x)).map kq=(dR X s++(X[s].gs.take i).map fun x=>(X[s].name,x)).map kq++[(X[s].name,X[s].gs[i].r.name)]:=by
     have g:((X[s].gs.take (i+1)).map fun x=>(X[s].name,x))=((X[s].gs.take i).map fun x=>(X[s].name,x))++[(X[s].name,X[s].gs[i])]:=by rw[lER a,lID];rfl
     rw[g,<-lI5,lID];rfl
    simp_all
   ·rw[dS _ _ _ _ om];exact k2
  ·simp only[go_sem,a];have K:i=X[s].gs.length:=om;simp_all
theorem qvu{O:Ev.Call}{H0:Hp}{sv:AV}{nb mb:Nat}{X:List aQ}(c:cZ H0 sv X)(e:(aF X).Nodup)(b:PrX X){Q:pS}{q:pL}(f:∀ H,NbI H0 H nb mb (aF X)->Ok (q H) Q):∀(k s:Nat) (H:Hp),s<=X.length->X.length-s<k->NbI H0 H nb mb ((dR X s).map kq) -> Ok (qjg O q (.ptr nb 0) sv (iN (X.length)) k (iN s) H) Q
 |0,i,_,_,h,_=>om
 |k+1,s,H,hi,hk,hI=>by
  show Ok (qx7 O _ _ _ _ (qjg O _ _ _ _ k) _ H) Q;unfold qx7;obtain⟨t,u,j⟩:=hI.o;have y:=b.n;by_cases a:s<X.length
  ·simp only[go_sem,a];unfold zbf;have g:=c.fm hI.fm;obtain⟨A,v,w,B,_,l,_⟩:=g.rs.at' s a;unfold xG SS.v at l;have o:=(g.sp _ (lEQ a)).len;have p:=(b.r _ (lEQ a)).1;have d:Fm No H ((aK H (aB 0 [.str 0 0,.aA])).put H.nx (aB 0 [.str X[s].name.n X[s].name.a,X[s].rv])):=by exact jW
   simp(disch:=first|omega|exact ti rfl)only[go_sem,seval,w,l,o];unfold zbm;rw[dD];refine qvt c e b a (pb:=H.nx) (fun m n=>?_) bZ 0 _ (lEV _) lf ⟨(d.keep j).trans hI.n,?_,⟨t,u,gx⟩,hI.fm.trans d⟩ (dL _ _ _) j gx
   ·unfold qx5;simp(disch:=omega)only[go_sem];refine qvu c e b f k (s+1) m om om ?_;have z:dR X (s+1)=dR X s++X[s].gs.map fun x=>(X[s].name,x):=by
     unfold dR dX;rw[lER a,lIC,lIE]
    simp_all
   ·rw[lX1,List.map_nil,lIM];exact hI.m.eq (d.keep om)
  ·simp only[go_sem,a];have r:s=X.length:=om;refine f H ?_;have:dR X X.length=dX X:=by unfold dR;rw[lIN]
   rw[r,this,pG]at hI;exact hI
theorem zeq(H:Hp)(b o m:Nat):jN H (.ptr b o) (.map m)=storeAt H b o [.map m] .undef:=id rfl
theorem xcb(a b x:AV):aY [a,b] 1 [x]=[a,x]:=id rfl
attribute [go_sem] zeq xcb
theorem xe4(I:aU C)(hN:iL C)(hS:qwg C)(hk:23<=k)(L:cZ H sv X)(p:dF X):Ok (C k (.f 72) [.agg [sv]] H) fun r H'=>∃ w,r=.bB [.agg [iN ((aF X).length),w],iN 0]/\kX H' w (j5 (sortE (goE X X)))/\dA w=.val (iN ((j5 (sortE (goE X X))).length))/\Fm No H H'/\(w=.aA\/∃ b o n m e,w=.sl b o n m e):=by
 obtain⟨j,rfl⟩:=aT hk;rw[(I j).zAt];unfold zAt z7f;simp(disch:=first|go_size|omega)only[go_sem,seval];have f:Fm No H (aK (aK H (aB 0 [sv])) (aB 0 [iN 0,.aA])):=by exact xE
 refine Ok.ve (qsm I hN (k:=j) om (L.fm f) p) ?_;rintro _ H1 ⟨rfl,K⟩;have n1:=K.nx;simp only[np]at n1;have fA:=f.trans K;have x1:H1.get H.nx=aB 0 [sv]:=(K.keep g1).trans g6;have O:H1.get (H.nx+1)=aB 0 [iN 0,.aA]:=(K.keep gz).trans g5;have i:=L.fm fA;have P:=i.rs.len;have hn16:=p.pr.n;unfold zbe;simp(disch:=first|go_size|omega)only[go_sem,seval,x1,P];unfold zbn;rw[dD];generalize d:(aK (aK H1 (.map [] 0)) (aB 0 [.eP])).put (H1.nx+1) (aB 0 [.map H1.nx])=Hn;have fn:Fm No H1 Hn:=by rw[<-d];repeat first|exact Fm.refl _ _|assumption|refine Fm.push ?_ _|refine Fm.aH ?_ _ _ om
 have nn:Hn.nx=H1.nx+2:=by rw[<-d];rfl
 have kn:Hn.get (H1.nx+1)=aB 0 [.map H1.nx]:=by rw[<-d];exact dL _ _ _
 have km:Hn.get H1.nx=.map [] 0:=by rw[<-d];simp(disch:=first|go_size|omega)only[go_sem,seval]
 have Q:iU Hn H1.nx ((dR X 0).map kq):=by
  have:(dR X 0).map kq=[]:=by unfold dR dX;simp
  exact lJ.nil _ _ km
 refine qvu (sv:=sv) i p.al p.pr (H0:=H1) (nb:=H1.nx+1) (mb:=H1.nx) (fun a s=>?_) bZ 0 Hn (lEV _) lf ⟨kn,Q,⟨lEO _,om,om⟩,fn⟩;unfold qno;have u:=s.n;have R:=s.m.len;have J:=s.fm;obtain⟨_,_,o3⟩:=s.o;have x2:=(J.keep (show H.nx<H1.nx by omega)).trans x1;have S:=(i.fm J).rs.len;simp(disch:=first|omega|exact ti rfl)only[go_sem,seval,u,R,x2,S];unfold zme;rw[dD];generalize l:(aK a (aB 0 [iN 0,.aA])).put a.nx (aB 0 [iN ((aF X).length),.aA])=Hg;have v:Fm No a Hg:=by rw[<-l];exact jW
 have ng:Hg.nx=a.nx+1:=by rw[<-l];rfl
 have kg:Hg.get a.nx=aB 0 [iN ((aF X).length),.aA]:=by rw[<-l];exact dL _ _ _
 have A:∀ c,¬In AV.aA c:=fun c h=>by obtain⟨_,_,_,_,h⟩:=h;cases h
 have B:∀ H',Fm (fun c=>c=a.nx\/In AV.aA c) Hg H'->Fm No H H':=fun H' q=>(((fA.trans J).trans v)).then q fun c t h=>by
  rcases h with h|h
  ·omega
  ·simp_all
 refine zdg I hN (j:=j) om (sv:=sv) (mb:=H1.nx) (Hb:=Hg) (jK:=.aA) (N:=(aF X).length) p (fun H' q=>?_) ⟨om,om,om⟩ (fun H3 ev g=>?_) bZ 0 Hg .aA (lEV _) lf ⟨kg,om,?_,Fm.refl _ _,fun c h=>.inl h,fun c h=>absurd h (A c)⟩
 ·have T:∀ c,c<a.nx->¬(c=a.nx\/In AV.aA c):=fun c t h=>by
   simp_all
  refine⟨L.fm (B H' q),?_,?_,?_⟩
  ·exact(q.get _ om (T _ om)).trans ((v.keep om).trans x2)
  ·exact(q.get _ om (T _ om)).trans ((v.keep om).trans u)
  ·exact(s.m.eq (v.keep om)).eq (q.get _ om (T _ om))
 ·unfold qqi;have D:=g.blk;have U:=g.fm;have n3:=U.nx;have E:(goE X X).length<900000:=by
   have:=zdj p.pr X.length;rw[lIN]at this;omega
  simp only[go_sem,D];refine Ok.ve (zfa I hS (k:=j) om g.gl E) ?_;rintro w V ⟨hw,t,W,Y,Z⟩;have F:=(W.get a.nx om (fun h=>by have:=g.nin _ h;omega)).trans D;have G:V.get (H.nx+1)=aB 0 [iN 0,.aA]:=by
   refine(W.get _ om (fun h=>by have:=g.nin _ h;omega)).trans ((U.get _ om (fun h=>?_)).trans ((v.keep om).trans ((J.keep om).trans O)));rcases h with h|h
   ·omega
   ·exact A _ h
  have fin:∀ x y z:bX,kX (((V.put a.nx x).put (H.nx+1) y)) w (j5 (sortE (goE X X)))/\Fm No H ((V.put a.nx x).put (H.nx+1) y):=fun x y z=>by
   refine⟨hw.keep (lEO _) fun c M _=>?_,?_⟩
   ·have:=g.nin c (Z c M);rw[dS _ _ _ _ om,dS _ _ _ _ om]
   ·refine((((B H3 U).then W fun c t h=>?_).aH _ _ om).aH _ _ om);have:=g.nin c h;omega
  rcases Y with rfl|⟨wb,wo,wn,wm,we,rfl⟩
  ·simp(disch:=omega)only[go_sem,seval,F,G];obtain⟨g1,g2⟩:=fin (aB 0 [iN ((aF X).length),.aA]) (aB 0 [iN ((aF X).length),.aA]) .dead;exact Ok.ret ⟨_,rfl,g1,t,g2,.inl rfl⟩
  ·simp(disch:=omega)only[go_sem,seval,F,G];obtain⟨g1,g2⟩:=fin (aB 0 [iN ((aF X).length),.sl wb wo wn wm we]) (aB 0 [iN ((aF X).length),.sl wb wo wn wm we]) .dead;exact Ok.ret ⟨_,rfl,g1,t,g2,.inr ⟨_,_,_,_,_,rfl⟩⟩
 ·rw[lX1];exact Gl.nil 3 _
end Go.Di
end
noncomputable section
namespace Go.Di
open Go.Ev
variable {i n:Nat} {neg:Bool}
theorem q2f{a b:Nat}(h:gK a=gK b):a%4=b%4:=by injection h with _ h;omega
theorem qys{a b:Nat}(h:dK a=dK b):a%3=b%3:=by unfold dK at h;simp_all
theorem q2d(a:Nat):gK (a%4)=gK a:=by unfold gK;rw[Nat.mod_mod]
theorem zxa(a:Nat):dK (a%3)=dK a:=by unfold dK;rw[Nat.mod_mod]
theorem qgp(a:Nat):Nm (gK a):=by rw[<-q2d];have:∀ i,i<4->gK i∈nmL:=g4;exact this _ (lOK _ om)
theorem q7z(a:Nat):Nm (dK a):=by rw[<-zxa];have:∀ i,i<3->dK i∈nmL:=g4;exact this _ (lOK _ om)
theorem xcd:Nm sU:=by show sU∈nmL;decide
theorem zxn(a:Nat):¬ gK a=sE:=fun h=>(qgp a).ne (by rw[h];exact⟨rfl,rfl⟩)
def Blo(m n k:Nat):Prop:=n / 4*4<=k/\k<n / 4*4+4/\k<m
def RuP(L:List (List Nat))(n:Nat):Ru->Prop
 | .leaf k rl to=>(k=1/\rl=sE/\to=sE)\/(k=2/\to=sE/\∃ i,rl=gK i/\Blo (bF L) n i)\/(k=3/\∃ i j,rl=gK i/\Blo (bF L) n i/\to=gK j/\j<bF L/\(⟨dK (j / 4),sE⟩:jX)∈kY L i)
 | .node k a b=>(k=4\/k=5\/k=6)/\RuP L n a/\RuP L n b
theorem RuP.fit{L:List (List Nat)}:∀{r:Ru},RuP L n r->r.Fit
 | .leaf _ _ _,h=>by
  rcases h with h|⟨h,a,i,rfl,_⟩|⟨h,i,j,rfl,_,rfl,_⟩
  ·exact .inl h
  ·exact .inr (.inl ⟨h,qgp i,a⟩)
  ·exact .inr (.inr ⟨h,qgp i,qgp j⟩)
 | .node _ _ _,⟨h,ha,hb⟩=>⟨h,ha.fit,hb.fit⟩
def NdP(L:List (List Nat))(n:Nat)(y:Nd):Prop:=
 (y.k=1/\y.rl=sE)\/(y.k=2/\∃ i,y.rl=gK i/\Blo (bF L) n i)\/(y.k=3/\∃ i j,y.rl=gK i/\Blo (bF L) n i/\y.to=gK j/\j<bF L/\(⟨dK (j / 4),sE⟩:jX)∈kY L i)\/4<=y.k
theorem RuP.nd{L:List (List Nat)}:∀{r:Ru} {neg:Bool},RuP L n r->∀ y∈r.nodes neg,NdP L n y
 | .leaf _ _ _,neg,h,y,c=>by
  rw[Ru.nodes,lI3]at c;subst c;rcases h with⟨h,d,_⟩|⟨h,_,d⟩|⟨h,d⟩
  ·exact .inl ⟨h,d⟩
  ·exact .inr (.inl ⟨h,d⟩)
  ·exact .inr (.inr (.inl ⟨h,d⟩))
 | .node k a b,neg,⟨h,ha,hb⟩,y,c=>by
  rw[Ru.nodes,lI8,lEY]at c;rcases c with rfl|c|c
  ·exact .inr (.inr (.inr (by show 4<=k;omega)))
  ·exact ha.nd y c
  ·exact hb.nd y c
theorem qdf{α:Type}{l:List α}{d:α}(h:i<l.length):l.getD i d∈l:=by simp_all
theorem qzh{L:List (List Nat)}(a:n<bF L)(neg:Bool):RuP L n (qj5 neg):=by
 cases neg
 ·exact .inl ⟨rfl,rfl,rfl⟩
 ·refine .inr (.inl ⟨rfl,rfl,n / 4*4,?_,om,om,om⟩);rw[<-q2d (n / 4*4),Nat.mul_mod_left]
theorem zzr{L:List (List Nat)}{x:ArS}(h:x∈lU L n neg):∃ i j,x.rl=gK i/\Blo (bF L) n i/\x.to=gK j/\j<bF L/\(⟨dK (j / 4),sE⟩:jX)∈kY L i:=by
 unfold lU nJ at h;rw[lU7]at h;obtain⟨i,b,h⟩:=h;rw[qf5]at b;unfold arK at h;rw[lU7]at h;obtain⟨t,d,h⟩:=h;unfold yO at h;rw[lIB]at h;obtain⟨j,a,rfl⟩:=h;rw[lIV,qf5]at a;obtain⟨a,c⟩:=a;unfold arP at c;rw[lI0,lI0,lUF,lUF]at c;refine⟨i,j,rfl,⟨b.1,om,om⟩,rfl,a.2,?_⟩;have:t=⟨dK (j / 4),sE⟩:=by cases t;simp_all
 simp_all
theorem q77{L:List (List Nat)}{n:Nat}(a:n<bF L):∀(d i:Nat) (neg:Bool),(neg=true->0<lvl n)->RuP L n (fM L n d i neg).1
 |0,i,neg,_=>by unfold fM;exact qzh a neg
 |d+1,i,neg,hneg=>by
  have c:At (bF L) n neg:=⟨a,lO3 _ _,hneg⟩;unfold fM;split
  ·exact qzh a neg
  split
  ·exact qzh a neg
  split
  ·have e:=qzx c;have b:=qdf (d:=sE) (lOK (fK L n i / 8) e);unfold cmpL at b;rw[lIB]at b;obtain⟨k,f,g⟩:=b;rw[lIV,qf5]at f;refine .inr (.inl ⟨rfl,rfl,k,?_,om,om,om⟩);rw[g];rfl
  split
  ·unfold vV;split
   ·exact qzh a neg
   ·rename_i h;have b:=qdf (d:=(⟨sE,sE⟩:ArS)) (lOK (fK L n i / 8) (show 0<(lU L n neg).length by omega));exact .inr (.inr ⟨rfl,zzr b⟩)
  refine⟨?_,q77 a d _ _ hneg,q77 a d _ _ fun h=>?_⟩
  ·unfold vN;split
   ·omega
   split<;>omega
  ·rw[lUC,lUF]at h;rcases h with h|h
   ·exact hneg h
   ·unfold vN at h;split at h
    ·omega
    split at h
    ·omega
    ·omega
theorem qrr{α β:Type}{f:α->β}:∀{l:List α},l.Nodup->(∀x∈l,∀y∈l,f x=f y->x=y)->(l.map f).Nodup
 | [],_,_=>List.nodup_nil
 |a::l,h,hf=>by rw[lXO]at h;rw[lUJ,lXO];refine⟨fun c=>?_,qrr h.2 fun x d y g=>hf x (lIS _ d) y (lIS _ g)⟩;obtain⟨b,i,e⟩:=lIB.1 c;have:=hf b (lIS _ i) a lIH e;simp_all
theorem qvd{L:List (List Nat)}(e:n<bF L){t:jX}(h:t∈kY L n):(t.rl=sE/\(t.sp=sU\/∃ i,i<(bF L+3) / 4/\t.sp=dK i))\/∃ k,k<bF L/\t=⟨dK (k / 4),gK k⟩:=by
 unfold kY at h;rw[lEY]at h;rcases h with h|h
 ·left;unfold vH at h;rw[lI8]at h;rcases h with rfl|h
  ·simp
  ·rw[lIB]at h;obtain⟨i,b,rfl⟩:=h;rw[lIV,qf5]at b;have:=b.1.2;unfold nS at this;exact⟨rfl,.inr ⟨i,om,rfl⟩⟩
 ·right;split at h
  ·rw[lI3]at h;have a:=qdf (d:=(⟨sE,sE⟩:jX)) (lOK (fK L n 1 / 2) (qyq e));rw[<-h]at a;unfold rR at a;rw[lIB]at a;obtain⟨k,c,rfl⟩:=a;rw[lIV,qf5]at c;exact⟨k,c.1.2,rfl⟩
  ·cases h
theorem q1h{L:List (List Nat)}(l:n<bF L):(kY L n).Nodup:=by
 have p:(vH (fK L n 0) (nS (bF L))).Nodup:=by
  unfold vH;rw[lXO];constructor
  ·intro h;rw[lIB]at h;obtain⟨i,_,e⟩:=h;injection e with e;injection e with e;omega
  ·have c:(rg 0 (nS (bF L))).Nodup:=by
    unfold rg;rw[lX2];exact List.nodup_range
   refine qrr (List.Pairwise.filter _ c) fun x m y o e=>?_
   ·rw[lIV,qf5]at m o;injection e with e;have:=qys e;have q:nS (bF L)<=3:=lUL _ _;omega
 unfold kY;split
 ·rw[lOM];refine⟨p,lU4 _ _,fun a g b j=>?_⟩;rw[lI3]at j;intro e;subst e;have f:=qdf (d:=(⟨sE,sE⟩:jX)) (lOK (fK L n 1 / 2) (qyq l));rw[<-j]at f;unfold rR at f;rw[lIB]at f;obtain⟨k,_,e⟩:=f;have c:a.rl=sE:=by
   unfold vH at g;rw[lI8,lIB]at g;rcases g with rfl|⟨i,_,rfl⟩<;>rfl
  rw[<-e]at c;exact zxn k c
 ·simp_all
end Go.Di
end
noncomputable section
namespace Go.Di
open Go.Ev
def prN(n:Nat):SS×SS:=(dK (n / 4),gK n)
def rls(L:List (List Nat))(i:Nat):List jM:=(rg (4*i) (min (bF L) (4*i+4))).map (mD L)
theorem z9i{a b:Nat}(c:a<12)(d:b<12)(h:prN a=prN b):a=b:=by injection h with h1 h2;have:=qys h1;have:=q2f h2;omega
theorem aZe(m:Nat)(h:m<13):((List.range ((m+3) / 4)).flatMap fun i=>(rg (4*i) (min m (4*i+4))).map fun n=>(dK i,gK n))=(List.range m).map prN:=by have:∀ m,m<13->((List.range ((m+3) / 4)).flatMap fun i=>(rg (4*i) (min m (4*i+4))).map fun n=>(dK i,gK n))=(List.range m).map prN:=g4;exact this m h
theorem zov(k:Nat)(h:k<4):(sU::(List.range k).map dK).Nodup:=by have:∀ k,k<4->(sU::(List.range k).map dK).Nodup:=g4;exact this k h
theorem qcp(L:List (List Nat)):bF L<13:=by have:bF L<=12:=lO3 _ _;omega
structure kK(L:List (List Nat))(X:List aQ):Prop where
 map:X.map aQ.sp=aCc L
theorem qdu(bH:List jM)(r:jM):(tQ bH r).name=r.name:=by unfold tQ;split<;>rfl
variable {L:List (List Nat)} {X:List aQ}
theorem kK.names(h:kK L X):X.map aQ.name=sU::(List.range ((bF L+3) / 4)).map dK:=by
 have e:X.map aQ.name=(X.map aQ.sp).map zM.name:=by rw[lUK];rfl
 rw[e,h.map];unfold aCc uP;rw[lUK,lUJ,lUK];rfl
theorem kK.all(h:kK L X):aF X=(List.range (bF L)).map prN:=by
 have e:aF X=(X.map aQ.sp).flatMap fun s=>s.bH.map fun r=>(s.name,r.name):=by unfold aF;rw[lXI];congr 1;funext g;unfold aQ.sp;simp
 rw[e,h.map,<-aZe _ (qcp L)];unfold aCc uP;rw[lXI,lIQ,lXI];show[]++_=_;rw[lOX];congr 1;funext i;show((spN L i (min (bF L) (4*i+4))).bH.map (tQ _)).map _=_;unfold spN;rw[lUK,lUK];refine lUY fun n _=>?_;simp only[Function.comp,qdu];rfl
theorem kK.vW(h:kK L X){k:Nat}(a:k<bF L):(dK (k / 4),gK k)∈aF X:=by rw[h.all];exact lIB.2 ⟨k,lIY.2 a,rfl⟩
theorem kK.gs(h:kK L X){g:aQ}(b:g∈X):(g.name=sU/\g.gs=[])\/∃ i,i<(bF L+3) / 4/\g.name=dK i/\g.gs.map bC.r=(rls L i).map (tQ (rls L i)):=by
 have a:g.sp∈aCc L:=by rw[<-h.map];exact lIX b
 unfold aCc uP at a;rw[lUJ,lI8,lUK,lIB]at a;rcases a with a|⟨i,e,a⟩
 ·left;have c:=congrArg zM.name a;have d:=congrArg zM.bH a;refine⟨c,?_⟩;have:g.gs.map bC.r=[]:=d;simp_all
 ·right;refine⟨i,lIY.1 e,(congrArg zM.name a).symm,(congrArg zM.bH a).symm⟩
theorem kK.x(h:kK L X){g:aQ}(d:g∈X){x:bC}(e:x∈g.gs):∃ i n,i<(bF L+3) / 4/\g.name=dK i/\g.gs.map bC.r=(rls L i).map (tQ (rls L i))/\n / 4=i/\n<bF L/\x.r=tQ (rls L i) (mD L n):=by
 rcases h.gs d with⟨_,a⟩|⟨i,f,j,a⟩
 ·simp_all
 ·have c:x.r∈g.gs.map bC.r:=lIX e;rw[a,lIB]at c;obtain⟨r,b,k⟩:=c;unfold rls at b;rw[lIB]at b;obtain⟨n,l,rfl⟩:=b;rw[qf5]at l;exact⟨i,n,f,j,a,om,om,k.symm⟩
theorem qge(bH:List jM)(r:jM):∀ t∈(tQ bH r).types,t∈r.types:=by
 unfold tQ;split
 ·simp
 ·simp
theorem zyv{L:List (List Nat)}{n:Nat}{r:Ru}(h:RuP L n r):((r.nodes false).any fun y=>decide (y.k=1))=gD r 1 sE:=by
 unfold gD;have b:=h.nd (neg:=false);generalize r.nodes false=l at b
 induction l with
 |nil=>rfl
 |cons y l ih=>
  rw[List.any_cons,List.any_cons,ih fun z c=>b z (lIS _ c)];congr 1;unfold gX;rcases b y lIH with⟨a,d⟩|⟨a,_⟩|⟨a,_⟩|a
  ·simp_all
  ·rw[a];rfl
  ·rw[a];rfl
  ·rw[lIF om];rfl
theorem kK.val(h:kK L X):dF X:=by
 have cCI:bF L<=12:=lO3 _ _;have o:(X.map aQ.name).Nodup:=by rw[h.names];exact zov _ om
 have w:(aF X).Nodup:=by rw[h.all];exact qrr List.nodup_range fun a Z b hb e=>z9i (by have:=lIY.1 Z;omega) (by have:=lIY.1 hb;omega) e
 have A:∀ n,n<bF L->RuP L n (mD L n).rule:=fun n f=>q77 f 6 2 false fun h=>by cases h
 have bUj:X.length<=4:=by have:=congrArg List.length h.names;simp at this;omega
 refine⟨⟨om,fun g l=>⟨?_,?_⟩,fun g l x u=>?_⟩,w,o,fun g l x u=>?_,fun g l x u y K=>?_,fun g l x u=>?_⟩
 ·rcases h.gs l with⟨_,r⟩|⟨i,C,_,r⟩
  ·rw[r];simp
  ·have:=congrArg List.length r;unfold rls at this;simp only[lET,qlx]at this;omega
 ·rcases h.gs l with⟨p,_⟩|⟨i,C,p,_⟩
  ·rw[p];exact xcd
  ·rw[p];exact q7z i
 ·obtain⟨i,n,C,p,r,q,f,c⟩:=h.x l u;have hsm:=qq8 L n;refine⟨?_,?_,⟨?_,?_,?_⟩,fun t v=>?_⟩
  ·have:x.r.types.length<=(kY L n).length:=by
    rw[c];unfold tQ;split
    ·exact lEO _
    ·simp
   have:=qgk L n;omega
  ·rw[c,qdu];exact qgp n
  ·rw[c,qbu];exact(A n f).fit
  ·rw[c,qbu];omega
  ·rw[c,qbu];omega
  ·rw[c]at v;have B:=qge _ _ t v;rcases qvd f B with⟨s,d⟩|⟨k,m,rfl⟩
   ·refine⟨?_,.inl s⟩;rcases d with d|⟨i,_,d⟩
    ·rw[d];exact xcd
    ·rw[d];exact q7z i
   ·exact⟨q7z _,.inr (qgp _)⟩
 ·obtain⟨i,n,C,p,r,q,f,c⟩:=h.x l u;constructor
  ·rw[c];unfold tQ;split
   ·exact q1h f
   ·simp
  ·intro t v;rw[c]at v;have B:=qge _ _ t v;rw[h.names];rcases qvd f B with⟨s,d⟩|⟨k,m,rfl⟩
   ·refine⟨?_,.inl s⟩;rcases d with d|⟨i,C,d⟩
    ·simp_all
    ·rw[d];exact lIS _ (lIB.2 ⟨i,lIY.2 C,rfl⟩)
   ·exact⟨lIS _ (lIB.2 ⟨k / 4,lIY.2 om,rfl⟩),.inr (h.vW m)⟩
 ·obtain⟨i,n,C,p,r,q,f,c⟩:=h.x l u;rw[c,qbu]at K;have D:∀ k,Blo (bF L) n k->(g.name,gK k)∈aF X:=fun k m=>by
   have:=h.vW m.2.2;unfold Blo at m;rw[p,<-q];rwa [show k / 4=n / 4 by omega]at this
  rcases(A n f).nd y K with⟨e,_⟩|⟨e,k,s,m⟩|⟨e,k,j,s,m,d,hj,v⟩|e
  ·omega
  ·simp_all
  ·refine⟨fun _=>by rw[s];exact D k m,fun _=>?_⟩;rw[s,d];obtain⟨x',V,_⟩:=qgb w o (D k m);obtain⟨W,F,Q,R,G⟩:=qgw V;have M:W=g:=qrs o F l (by rw[R]);subst M;obtain⟨Y,H,hi',S,h2',cEr,hn',I⟩:=h.x F Q;have N:Y=i:=by
    have:=qys (S.symm.trans p);omega
   subst N;have O:H=k:=by rw[I,qdu]at G;have:=q2f G;unfold Blo at m;omega
   subst O;have E:qyp (rls L Y) (mD L H)=true:=by
    unfold qyp;rw[lUC];right;rw[lUH];refine⟨mD L n,?_,?_⟩
    ·unfold rls;exact lIB.2 ⟨n,qf5.2 ⟨om,om⟩,rfl⟩
    ·unfold gD;rw[lUH];refine⟨y,K,?_⟩;unfold gX;rw[lI9 e,lI9 (show y.rl=(mD L H).name from s)];rfl
   have P:x'.r.types=kY L H:=by rw[I];unfold tQ;rw[lEZ E];rfl
   have U:dK (j / 4)∈nP X W.name (gK H) (gK j):=by unfold nP;rw[V];unfold tgL;rw[lIB];refine⟨⟨dK (j / 4),sE⟩,?_,rfl⟩;rw[lIV,P];refine⟨v,?_⟩;unfold tgP;rw[qlj w o,lI9 (h.vW hj)];rfl
   intro h0;simp_all
  ·omega
 ·obtain⟨i,n,C,p,r,q,f,c⟩:=h.x l u;rw[c,qbu,zyv (A n f),qdu];constructor
  ·intro T;unfold tQ;rw[lEZ (by unfold qyp;rw[T];rfl)];show kY L n≠[];unfold kY vH;simp
  ·intro T J;have E:qyp (rls L i) (mD L n)=true:=by
    unfold tQ at J;split at J
    ·assumption
    ·trivial
   unfold qyp at E;rw[T,Bool.false_or]at E;have e:(g.gs.any fun z=>gD z.r.rule 3 (mD L n).name)=(g.gs.map bC.r).any fun z=>gD z.rule 3 (mD L n).name:=by rw[lXU];rfl
   rw[e,r,lXU];refine Eq.trans ?_ E;congr 1;funext z;simp only[Function.comp,qbu]
end Go.Di
end
noncomputable section
namespace Go.Di
open Go.Ev
variable {X:List aQ} {i:Nat}
theorem qeo(X:List aQ):(dX X).length=(aF X).length:=by rw[<-pG,lET]
theorem qe1(h:i<(dX X).length)(a:i<(aF X).length):(aF X)[i]=((dX X)[i].1,(dX X)[i].2.r.name):=by
 have e:(aF X)[i]? =some (kq (dX X)[i]):=by rw[<-pG,lO6,gp h];rfl
 rw[gp a]at e;exact Option.some.inj e
theorem dF.at(d:dF X)(h:i<(dX X).length):qY X (dX X)[i].1 (dX X)[i].2.r.name=some (dX X)[i].2/\bD X (dX X)[i].1 (dX X)[i].2.r.name=i/\∃ g∈X,(dX X)[i].2∈g.gs/\g.name=(dX X)[i].1:=by
 have b:i<(aF X).length:=by rw[<-qeo];exact h
 have j:=qr1 d.al b;have k:bD X (dX X)[i].1 (dX X)[i].2.r.name=i:=by rw[qe1 h b]at j;exact j
 have a:((dX X)[i].1,(dX X)[i].2.r.name)∈aF X:=by rw[<-qe1 h b];exact lEQ b
 obtain⟨x,l,c⟩:=qgb d.al d.sp a;rw[k,gp h]at c;injection c with c;refine⟨by rw[l,c],k,?_⟩;obtain⟨g,m,f,e⟩:=qdr.1 (show((dX X)[i].1,(dX X)[i].2)∈dX X from lEQ h);exact⟨g,m,f,e⟩
theorem dF.ofW(a:dF X):OfW X:=by
 refine⟨a.pr.sml,by rw[<-qeo];exact a.pr.len,fun i h=>?_⟩;have c:i<(dX X).length:=by rw[qeo];exact h
 obtain⟨l,m,g,f,j,e⟩:=a.at c;have b:=(a.pr.x g f _ j).2.2.1;refine⟨(dX X)[i].2,by rw[qe1 c h];exact l,by have:=b.dp;omega,by have:=b.sz;omega,fun y k p d=>?_⟩;rw[qe1 c h,<-e]at d;exact a.ndt ⟨f,j⟩ k p d
theorem xb0(X:List aQ)(n:Nat)(neg:Bool)(p:SS×SS):toE (tE X n neg p)=eE X n neg p:=by cases neg<;>rfl
def rlE(X:List aQ)(q:SS×bC):List Edge:=(q.2.r.rule.nodes false).flatMap fun y=>(zR X q.1 q.2 y).map (eE X (bD X q.1 q.2.r.name) y.neg)
theorem zyw(X:List aQ)(l:List aQ):goE X l=(dX l).flatMap (rlE X):=by unfold goE dX;rw[List.flatMap_assoc];congr 1;funext g;rw[lXI];rfl
theorem zfl{α:Type}(l:List α)(f:Nat->List Edge)(g:α->List Edge)(h:∀ i (a:i<l.length),f i=g l[i]):(List.range l.length).flatMap f=l.flatMap g:=by
 have:(List.range l.length).map f=l.map g:=by refine lXX g3 fun i b c=>?_;simp only[lUT,List.getElem_range];simp_all
 rw[List.flatMap_def,this,<-List.flatMap_def]
theorem dF.ts(b:dF X):(tsG X (aF X).length).map toE=goE X X:=by
 rw[zyw];unfold tsG;rw[List.map_flatMap,<-qeo];refine zfl (dX X) _ (rlE X) fun i h=>?_;have a:i<(aF X).length:=by rw[<-qeo];exact h
 obtain⟨c,d,_⟩:=b.at h;unfold tsN;rw[gp a];rw[qe1 h a];simp only;rw[c];unfold rlE;rw[List.map_flatMap,d];congr 1;funext y;unfold ndE;rw[lUK];refine lUY fun p _=>?_;exact xb0 X i y.neg p
theorem dF.rng(c:dF X):∀ e∈tsG X (aF X).length,e.f<(aF X).length/\e.t<(aF X).length:=by
 intro e a;unfold tsG at a;rw[lU7]at a;obtain⟨i,f,a⟩:=a;have b:i<(aF X).length:=lIY.1 f;have h:i<(dX X).length:=by rw[qeo];exact b
 obtain⟨j,o,g,k,l,m⟩:=c.at h;unfold tsN at a;rw[gp b]at a;rw[qe1 h b]at a;simp only at a;rw[j]at a;rw[lU7]at a;obtain⟨y,n,a⟩:=a;unfold ndE at a;rw[lIB]at a;obtain⟨p,d,rfl⟩:=a;rw[<-m]at d;exact⟨b,qrp (c.ndt ⟨k,l⟩ n p d)⟩
theorem dF.same(a:dF X):qcr (aF X).length (qJ (aF X).length (List.replicate ((aF X).length*(aF X).length) 0) (tsG X (aF X).length))=j5 (sortE (goE X X)):=by rw[q8d a.rng,a.ts]
structure bH0(c d:Ev.Call):Prop where
 aYV:∀(b o n m:Nat) (x:Bool) (H:Hp) (r:R1),qq2 H b o n=some r->c (.f 148) [.sl b o n m x,.fn 149 [] []] H=r
 aHs:∀(H:Hp),c (.f 148) [.aA,.fn 149 [] []] H=.ok (.bB []) H
 aZp:∀(b o m:Nat) (x:Bool) (H:Hp),c (.f 148) [.sl b o 0 m x,.fn 149 [] []] H=.ok (.bB []) H
abbrev tJ(C:Nat->Ev.Call):Prop:=∀ k,bH0 (C (k+1)) (C k)
structure aW0(c d:Ev.Call):Prop where
 kG:∀(x0:AV) (H:Hp),c (.f 131) [x0] H=Di.kG d x0 H
 srt:∀(b o n m:Nat) (x:Bool) (H:Hp) (r:R1),q1q H b o n=some r->c (.f 130) [.sl b o n m x] H=r
 aHs:∀(H:Hp),c (.f 130) [.aA] H=.ok (.bB []) H
abbrev uZ(C:Nat->Ev.Call):Prop:=∀ k,aW0 (C (k+1)) (C k)
end Go.Di
end
noncomputable section
namespace Go.Di
open Go.Ev
variable {C:Nat->Ev.Call} {LA LO:LP}
variable {H H0:Hp} {O:Ev.Call} {i k n:Nat} {l:List AV}
theorem Gl.rl{v:AV}(h:Gl 1 H v n l):Rl H v l:=by
 have a:l.length=n:=by have:=h.len;omega
 refine⟨by rw[h.aX,a],fun i f=>?_⟩;obtain⟨b,o,c,d,_,e⟩:=h.at (i:=i) (x:=l[i]) g3;exact⟨b,o,c,d,e⟩
theorem qhz(l:List Nat)(h:i<(aI l).length):(aI l)[i]=.int .i64 (.ofNat (l[i]'(by simpa [aI] using h))):=by simp[aI]
theorem lM(l:List Nat):(aI l).length=l.length:=by simp[aI]
theorem qwh{O:Ev.Call}{H:Hp}{v:AV}{l pre post:List Nat}{x:Nat}(g:Rl H v (aI l))(q:l.length<900000)(a:l=pre++x::post)(j:x∉pre){m:pH}{d:pL}{Q:pS}(n:Ok (m (.int .i64 (.ofNat pre.length)) H) Q):∀(k i:Nat),pre.length+1-i<k+1->i<=pre.length -> Ok (zau O m d v (.int .i64 (.ofNat x)) (.int .i64 (.ofNat l.length)) k (.int .i64 (.ofNat i)) H) Q
 |0,i,h,hi=>om
 |k+1,i,h,hi=>by
  show Ok (zi6 O _ _ _ _ _ (zau O _ _ _ _ _ k) _ H) Q;unfold zi6;have r:l.length=pre.length+1+post.length:=by rw[a];simp;omega
  have hil:i<l.length:=om;obtain⟨b,o,p,t,c⟩:=g.at' i (by rw[lM];exact hil);rw[qhz]at c;simp only[go_sem,hil];unfold z0y;by_cases s:i=pre.length
  ·subst s;have f:l[pre.length]'hil=x:=by subst a;simp
   rw[f]at c;simp only[go_sem,p,c];exact n
  ·have f:x≠l[i]'hil:=fun e=>j (by
    have:l[i]'hil=pre[i]'om:=by subst a;rw[lXH]
    rw[e,this];exact lEQ _)
   simp only[go_sem,p,c,f];unfold z0z;simp(disch:=go_size)only[go_sem,rB,rI,rK,rL,rN,rS,r8];exact qwh g q a j n k (i+1) om om
theorem zz7(d:aU C)(e:1<=k){v:AV}{l pre post:List Nat}{x:Nat}(a:Rl H v (aI l))(f:l.length<900000)(b:l=pre++x::post)(g:x∉pre):Ok (C k (.f 199) [v,.int .i64 (.ofNat x)] H) fun r H'=>r=.int .i64 (.ofNat pre.length)/\H'=H:=by
 obtain⟨j,rfl⟩:=aT e;rw[(d j).zDj];unfold zDj z5f;have c:=a.len;rw[lM]at c;simp only[go_sem,c];unfold z01;rw[dD];have h:l.length=pre.length+1+post.length:=by rw[b];simp;omega
 exact qwh a f b g (Ok.ret ⟨rfl,rfl⟩) bZ 0 lf om
theorem zr4(O:Ev.Call)(l:Nat)(args:List AV)(H:Hp):uF O (.yield l) args H=O (.y l) args H:=id rfl
theorem qsk{d:Ev.Call}{v:AV}{l:List AV}{H0:Hp}(m:l.length<900000)(f:Rl H0 v l){y:Nat}{Inv:Nat->Hp->Prop}(g:∀ i H,Inv i H->Fm No H0 H)(j:∀ i (h:i<l.length) H,Inv i H->Ok (d (.y y) [l[i]] H) fun r H'=>r=.bool true/\Inv (i+1) H'){n c:pL}{Q:pS}(p:∀ H,Inv l.length H->Ok (c H) Q):∀(k i:Nat) (H:Hp),l.length-i<k->i<=l.length->Inv i H -> Ok (zar d n c (.yield y) v (.int .i64 (.ofNat l.length)) k (.int .i64 (.ofNat i)) H) Q
 |0,i,H,h,_,_=>om
 |k+1,i,H,h,hi,hI=>by
  show Ok (zi0 d _ _ _ _ _ (zar d _ _ _ _ _ k) _ H) Q;unfold zi0;by_cases a:i<l.length
  ·obtain⟨b,o,q,t,s⟩:=(f.fm (g i H hI)).at' i a;simp only[go_sem,a];unfold ziz;simp only[go_sem,q,s,zr4];refine Ok.ve (j i a H hI) ?_;rintro r H' ⟨rfl,e⟩;unfold z0r;simp(disch:=go_size)only[go_sem,rB,rI,rK,rL,rN,rS,r8];exact qsk m f g j p k (i+1) H' om om e
  ·have:i=l.length:=om;simp only[go_sem,a];simp_all
theorem zgi(b:aU C)(c:1<=k){v:AV}(d:l.length<900000)(a:Rl H0 v l){vb y:Nat}(e:H.get vb=aB 0 [v]){Inv:Nat->Hp->Prop}(f:∀ i H',Inv i H'->Fm No H0 H')(g:∀ i (h:i<l.length) H',Inv i H'->Ok (C (k-1) (.y y) [l[i]] H') fun r H'=>r=.bool true/\Inv (i+1) H')(m:Inv 0 H):Ok (C k (.f 214) [.yield y,.ptr vb 0] H) fun r H'=>r=.bB []/\Inv l.length H':=by obtain⟨j,rfl⟩:=aT c;rw[(b j).zDq];unfold zDq z4z;have n:=a.len;simp only[go_sem,e,n];unfold z0s;rw[dD];exact qsk d a f g (fun H' h=>Ok.ret ⟨rfl,h⟩) bZ 0 H lf om m
theorem qcf(H:Hp)(c:Nat)(k:bX)(h:c≠H.nx):(aK H k).get c=H.get c:=by rw[qgv,lEU h]
theorem Ok.aGn{l:Nat}{r:R1}{R Q:pS}{L:TT AV 2}{K:Kt 2}(h:Ok r R)(a:∀ v H,R v H->Ok (fin (endLoop l (.ok v H) L) K) Q):Ok (fin (endLoop l r L) K) Q:=by obtain⟨v,H,rfl,b⟩:=h;exact a v H b
structure Col(LA:LP)(H0:Hp)(L:TT AV 2)(l sb:Nat)(xs:List AV)(n:Nat)(H:Hp):Prop where
 fm:Fm No H0 H
 lp:H.get l=LA.blk true L
 hl:H0.nx<=l/\l<H.nx
 hs:H0.nx<=sb/\sb<H.nx
 ne:sb≠l
 vs:∃ v,H.get sb=aB 0 [v]/\Gl 1 H v n (xs.take n)/\∀ b,In v b->H0.nx<=b/\b≠l/\b≠sb
theorem qs1{L:TT AV 2}{l sb:Nat}{xs:List AV}(z:i<xs.length)(J:xs.length<900000)(g:∃ n:Nat,xs[i]=.int .i64 (.ofNat n))(a:Col LA H0 L l sb xs i H):Ok (fG O l L (.ptr sb 0) xs[i] (H.put l (LA.blk false L))) fun r H'=>r=.bool true/\Col LA H0 L l sb xs (i+1) H':=by
 obtain⟨v,g1,g2,g3⟩:=a.vs;obtain⟨m,y⟩:=g;unfold fG;have d:=a.ne;have u:(H.put l (LA.blk false L)).get sb=aB 0 [v]:=by rw[dS _ _ _ _ d];exact g1
 have A:Gl 1 (H.put l (LA.blk false L)) v i (xs.take i):=g2.keep (lEO _) fun b e _=>dS _ _ _ _ (g3 b e).2.1;rw[y];have o:Gl 1 (aK (H.put l (LA.blk false L)) (aB 0 [.int .i64 (.ofNat m)])) v i (xs.take i):=A.no ((Fm.refl _ _).push _);obtain⟨f,G,I,N,t,P⟩:=o.append (w:=8) (k:=1) (x:=[.int .i64 (.ofNat m)]) om rfl om om;have j:(aK (H.put l (LA.blk false L)) (aB 0 [.int .i64 (.ofNat m)])).nx=H.nx+1:=rfl;have B:=a.hl.2;have C:=a.hs.2;have p:f.get sb=aB 0 [v]:=by rw[t.get sb (by rw[j];omega) fun h=>(g3 sb h).2.2 rfl,qcf _ _ _ (by rw[nq];omega)];exact u
 have q:f.get l=LA.blk false L:=by rw[t.get l (by rw[j];omega) fun h=>(g3 l h).2.1 rfl,qcf _ _ _ (by rw[nq];omega),dL]
 simp(disch:=go_size)only[go_sem,seval,u,G,p,lEX,lIT];have s:(f.put sb (aB 0 [.sl (H.nx+1) 0 (i+1) (i+1) false])).get l=LA.blk false L:=by rw[dS _ _ _ _ (Ne.symm d)];exact q
 rw[zrj s];have D:Fm No H0 (aK (H.put l (LA.blk false L)) (aB 0 [.int .i64 (.ofNat m)])):=((a.fm.aH l _ a.hl.1).push _);have E:Fm No H0 f:=D.then t fun c K h=>absurd (g3 c h).1 om;have F:Fm No H0 ((f.put sb (aB 0 [.sl (H.nx+1) 0 (i+1) (i+1) false])).put l (LA.blk true L)):=(E.aH sb _ a.hs.1).aH l _ a.hl.1;have M:=a.fm.nx;refine Ok.ret ⟨rfl,F,dL _ _ _,⟨a.hl.1,?_⟩,⟨a.hs.1,?_⟩,d,.sl (H.nx+1) 0 (i+1) (i+1) false,?_,?_,?_⟩
 ·show l<f.nx;omega
 ·show sb<f.nx;omega
 ·rw[dS _ _ _ _ d,dL]
 ·have:xs.take (i+1)=xs.take i++[.int .i64 (.ofNat m)]:=by rw[lER z,y]
  rw[this];refine I.keep (lEO _) fun b e _=>?_;obtain⟨_,_,_,_,e⟩:=e;cases e;rw[dS _ _ _ _ om,dS _ _ _ _ om]
 ·rintro b ⟨_,_,_,_,e⟩;cases e;omega
theorem q4l(s:aU C)(l:uI LA LO C)(A:3<=k){v:AV}{xs:List AV}(m:xs.length<900000)(t:Rl H v xs)(c:∀ i (h:i<xs.length),∃n:Nat,xs[i]=.int .i64 (.ofNat n)){vb:Nat}(d:H.get vb=aB 0 [v])(e:vb<H.nx):Ok (C k (.f 218) [.aA,.fn 214 [] [.ptr vb 0]] H) fun r H'=>Gl 1 H' r xs.length xs/\(∀b,In r b->H.nx<=b)/\Fm No H H':=by
 obtain⟨j,rfl⟩:∃ j,k=j+3:=⟨k-3,om⟩;rw[(l (j+2)).jZ];unfold jZ qh4;simp only[go_sem];unfold qh3;generalize z:pu (pE [.aA,.fn 214 [] [.ptr vb 0]] 0 (same .undef 2)) [(2,.ptr H.nx 0),(4,.aA),(6,.fn 214 [] [.ptr vb 0])]=L;have p:G L 2=.ptr H.nx 0:=by rw[<-z];kernel_rfl
 generalize a:aK H (aB 0 [.aA])=H1;have B:H1.nx=H.nx+1:=by rw[<-a];rfl
 have u:Fm No H H1:=by rw[<-a];exact(Fm.refl _ _).push _
 have q:Fm No H (aK H1 (LA.blk true L)):=u.push _;have O:qj9 (C (j+2)) (.fn 214 [] [.ptr vb 0]) [.yield H1.nx] (aK H1 (LA.blk true L))=C (j+2) (.f 214) [.yield H1.nx,.ptr vb 0] (aK H1 (LA.blk true L)):=rfl;have w:Col LA H L H1.nx H.nx xs 0 (aK H1 (LA.blk true L)):=by
  refine⟨q,jQ _ _,⟨om,by rw[np];omega⟩,⟨lEO _,by rw[np];omega⟩,om,.aA,?_,?_,?_⟩
  ·rw[qbo _ _ _ om,<-a,jQ]
  ·exact Gl.nil _ _
  ·rintro b ⟨_,_,_,_,h⟩;cases h
 refine Ok.aGn (zgi s (k:=j+2) om m t (vb:=vb) (y:=H1.nx) (by rw[q.keep e];exact d) (Inv:=fun i H'=>Col LA H L H1.nx H.nx xs i H') (fun i H' h=>h.fm) (fun i o H' h=>?_) w) ?_
 ·rw[show j+2-1=j+1 from rfl,(l j).fG L _ _ _ h.lp,p];exact qs1 o m (c i o) h
 ·rintro r H' ⟨rfl,g⟩;rw[xcf g.lp];unfold qgh;rw[p];obtain⟨x,g1,g2,g3⟩:=g.vs;have f:(H'.put H1.nx .dead).get H.nx=aB 0 [x]:=by rw[dS _ _ _ _ om];exact g1
  rw[lIW (lEO _)]at g2;simp only[go_sem,f];refine Ok.ret ⟨g2.keep (lEO _) fun b d _=>dS _ _ _ _ (g3 b d).2.1,fun b d=>(g3 b d).1,g.fm.aH _ _ om⟩
theorem zgn(d:aU C)(e:uI LA LO C)(f:4<=k){v:AV}{xs:List AV}(g:xs.length<900000)(l:Rl H v xs)(a:∀ i (h:i<xs.length),∃n:Nat,xs[i]=.int .i64 (.ofNat n)){vb:Nat}(m:H.get vb=aB 0 [v])(c:vb<H.nx):Ok (C k (.f 213) [.fn 214 [] [.ptr vb 0]] H) fun r H'=>Gl 1 H' r xs.length xs/\(∀b,In r b->H.nx<=b)/\Fm No H H':=by obtain⟨j,rfl⟩:=aT f;rw[(d j).zDr];refine Ok.ve (q4l d e (k:=j) om g l a m c) ?_;rintro r H' h;exact Ok.ret h
end Go.Di
end
noncomputable section
namespace Go.Di
open Go.Ev Go.Sort
variable {C:Nat->Ev.Call} {LA LO:LP}
theorem qrz:∀ l:List Nat,qr0 (aI l)=some (l.map Int.ofNat)
 | []=>rfl
 |n::l=>by show(match qr0 (aI l)with|some r=>some (Int.ofNat n::r)|none=>none)=_;rw[qrz l];rfl
theorem zeb(K:aU C)(E:uZ C)(M:tJ C){k:Nat}{n:Nat}{v:AV}{l:List Nat}{H:Hp}(N:n<900)(F:1<=n)(O:n+10<=k)(A:Gl 1 H v n (aI l)):Ok (C k (.f 130) [v] H) fun r H'=>r=.bB []/\∃ R:List Nat,R.Perm l/\R.Pairwise (· <= ·)/\Gl 1 H' v n (aI R)/\Fm (In v) H H':=by
 obtain⟨k,rfl⟩:∃ j,k=j+1:=⟨k-1,om⟩;have g:l.length=n:=by have:=A.len;rw[lM]at this;omega
 rcases A.is with⟨_,P⟩|⟨b,o,e,q,L,rfl,g1,g2,g3,g4,g5⟩
 ·omega
 have i:L.length=o+n:=by have:=congrArg List.length g3;rw[lIZ,lM]at this;omega
 let R:List Nat:=(qjs (l.map Int.ofNat)).map Int.toNat
 have D:(qjs (l.map Int.ofNat)).Perm (l.map Int.ofNat):=List.mergeSort_perm _ _;have p:∀ x∈qjs (l.map Int.ofNat),∃m:Nat,x=Int.ofNat m:=fun x f=>by obtain⟨m,_,rfl⟩:=lIB.1 (D.mem_iff.1 f);exact⟨m,rfl⟩
 have s:R.map Int.ofNat=qjs (l.map Int.ofNat):=by rw[lUK];refine(lUY fun x f=>?_).trans (List.map_id _);obtain⟨m,rfl⟩:=p x f;rfl
 have t:(qjs (l.map Int.ofNat)).map (fun z=>AV.int .i64 z)=aI R:=by rw[<-s,lUK];rfl
 have d:R.length=n:=by rw[lET,qq0,lET,g]
 have u:storeAt H b o (aI R) (.bB [])=.ok (.bB []) (H.put b (aB q (aY L o (aI R)))):=qb5 _ _ _ _ _ _ _ g1 (by rw[lM,d,i];omega);have G:q1q H b o n=some (.ok (.bB []) (H.put b (aB q (aY L o (aI R))))):=by
  unfold q1q;have I:iF (H.get b) o n=some (aI l):=by rw[g1,qbv,lEZ (by rw[i];omega),g3,lIW (by rw[lM];omega)]
  rw[I];simp only[qrz,t,u];have J:Nat.blt n 4611686018427387904=true:=by rw[blt_eq,lI9 om]
  rw[J];rfl
 rw[(E k).srt _ _ _ _ _ _ _ G];refine Ok.ret ⟨rfl,R,?_,?_,?_,?_⟩
 ·have B:=D.map Int.toNat;have:(l.map Int.ofNat).map Int.toNat=l:=by
   rw[lUK];exact(lUY fun x _=>rfl).trans (List.map_id _)
  rwa [this]at B
 ·have w:(qjs (l.map Int.ofNat)).Pairwise fun x y=>decide (x<=y)=true:=List.pairwise_mergeSort (fun a b c F B=>by simp only[lO8]at *;omega) (fun a b=>by simp only[lUC,lO8];omega) _;rw[List.pairwise_map];refine w.imp fun{a c} h=>?_;rw[lO8]at h;omega
 ·refine⟨by rw[lM,d,lI1],.inr ⟨b,o,e,q,_,rfl,dL _ _ _,?_,?_,g4,g5⟩⟩
  ·unfold aY;simp_all
  ·unfold aY;rw[lI5,lO4 (by rw[lI6];omega),lO0 (by rw[lI6];omega),lOX,lO0 (by rw[lM,d,i];omega),lIM]
 ·exact(Fm.refl _ _).put _ _ fun _=>⟨_,_,_,_,rfl⟩
theorem zsk(a:aU C)(e:uZ C)(f:tJ C)(g:uI LA LO C){k:Nat}{v:AV}{l:List Nat}{H:Hp}(t:l.length<900)(m:1<=l.length)(u:l.length+11<=k)(n:Rl H v (aI l)){vb:Nat}(o:H.get vb=aB 0 [v])(d:vb<H.nx):Ok (C k (.f 200) [.fn 214 [] [.ptr vb 0]] H) fun r H'=>∃ R:List Nat,R.Perm l/\R.Pairwise (· <= ·)/\Gl 1 H' r l.length (aI R)/\(∀b,In r b->H.nx<=b)/\Fm No H H':=by obtain⟨j,rfl⟩:∃ j,k=j+1:=⟨k-1,om⟩;rw[(a j).zDl];refine Ok.ve (zgn a g (k:=j) om (by rw[lM];omega) n (fun i h=>⟨_,qhz l h⟩) o d) ?_;rintro r H1 ⟨g1,g2,g3⟩;rw[lM]at g1;refine Ok.ve (zeb a e f (k:=j) om m om g1) ?_;rintro x y ⟨rfl,R,p,q,g4,s⟩;exact Ok.ret ⟨R,p,q,g4,g2,g3.then s fun c w h=>absurd (g2 c h) om⟩
end Go.Di
end
noncomputable section
namespace Go.Di.T
inductive Rc(aS:Nat->List Nat):Nat->Nat->Prop where
 |refl (a:Nat):Rc aS a a
 |step {a b c:Nat} (h:Rc aS a b) (e:c∈aS b):Rc aS a c
theorem Rc.trans{aS:Nat->List Nat}{a b c:Nat}(h:Rc aS a b)(k:Rc aS b c):Rc aS a c:=by
 induction k with
 |refl=>exact h
 |step _ e ih=>exact ih.step e
theorem Rc.one{aS:Nat->List Nat}{a b:Nat}(e:b∈aS a):Rc aS a b:=(Rc.refl a).step e
theorem Rc.closed{aS:Nat->List Nat}{S:Nat->Prop}(h:∀ v,S v->∀ k∈aS v,S k){a b:Nat}(r:Rc aS a b)(c:S a):S b:=by
 induction r with
 |refl=>exact c
 |step _ e ih=>exact h _ ih _ e
def upd{α:Type}(f:Nat->α)(i:Nat)(x:α):Nat->α:=fun j=>if j=i then x else f j
theorem upd_same{α:Type}(f:Nat->α)(i:Nat)(x:α):upd f i x i=x:=lEZ rfl
theorem upd_ne{α:Type}(f:Nat->α){i j:Nat}(x:α)(h:j≠i):upd f i x j=f j:=lEU h
structure TS where
 num:Nat->Nat
 low:Nat->Nat
 on:Nat->Bool
 stk:List Nat
 cnt:Nat
 out:List (List Nat)
def TS.enter(s:TS)(k:Nat):TS:=
 {s with cnt:=s.cnt+1,num:=upd s.num k (s.cnt+1),low:=upd s.low k (s.cnt+1),on:=upd s.on k true,stk:=s.stk++[k]}
def qst(fr:List (Nat×Nat))(p:Nat×Nat)(k:Nat):Prop:=∃ j,fr[j]? =some p/\(fr.map Prod.fst)[j+1]? =some k
abbrev dP(fr:List (Nat×Nat)):List Nat:=fr.map Prod.fst
structure TI(n:Nat)(aS:Nat->List Nat)(s:TS)(fr:List (Nat×Nat)):Prop where
 mR:∀ v∈s.stk,v<n
 kH:∀ v∈s.stk,0<s.num v
 gU:s.stk.Pairwise (fun a b=>s.num a<s.num b)
 pN:∀ v,s.on v=true↔v∈s.stk
 vis:∀ v,0<s.num v->v∈s.stk\/v∈s.out.flatten
 mH:∀ v∈s.out.flatten,0<s.num v/\v∉s.stk/\v<n
 iP:∀ v∈s.out.flatten,∀k∈aS v,k∈s.out.flatten
 pY:∀ c∈s.out,c.Pairwise (· < ·)/\∃ r∈c,∀x,x∈c↔Rc aS r x/\Rc aS x r
 pR:s.out.flatten.Nodup
 jH:∀ v,s.num v<=s.cnt
 lV:s.cnt=s.stk.length+s.out.flatten.length
 iW:(dP fr).Sublist s.stk
 kF:∀ v∈s.stk,s.low v<=s.num v
 lG:∀ v∈s.stk,∃u∈s.stk,s.num u=s.low v/\Rc aS v u
 fin:∀ v∈s.stk,v∉dP fr->s.low v<s.num v
 pU:∀ v∈s.stk,v∉dP fr->∀ k∈aS v,0<s.num k/\(k∈s.stk->s.low v<=s.num k)
 frE:∀ p∈fr,p.2<=(aS p.1).length/\∀ j,j<p.2->∀ k,(aS p.1)[j]? =some k->0<s.num k/\(k∈s.stk->s.low p.1<=s.num k\/qst fr p k)
 oN:∀ v∈dP fr,∀w∈s.stk,s.num v<=s.num w->(∀v'∈dP fr,s.num v<s.num v'->s.num w<s.num v')->s.low v<=s.low w
 frR:∀ v∈dP fr,∀w∈s.stk,s.num v<=s.num w->Rc aS v w
 cov:∀ w∈s.stk,∃v∈dP fr,s.num v<=s.num w
variable {n:Nat} {aS:Nat->List Nat} {s:TS}
theorem TI.nd{b:List (Nat×Nat)}(h:TI n aS s b):s.stk.Nodup:=h.gU.imp fun a e=>by rw[e]at a;exact lOB _ a
theorem z2w{f:Nat->Nat}:∀{l:List Nat},l.Pairwise (fun a b=>f a<f b)->∀{a b},a∈l->b∈l->f a=f b->a=b
 |x::l,h,a,b,ha,hb,e=>by
  rw[lUO]at h;rcases lI8.1 ha with g|c<;>rcases lI8.1 hb with i|d
  ·rw[g,i]
  ·subst g;exact absurd e (Nat.ne_of_lt (h.1 _ d))
  ·subst i;exact absurd e.symm (Nat.ne_of_lt (h.1 _ c))
  ·exact z2w h.2 c d e
theorem TI.inj{c:List (Nat×Nat)}(h:TI n aS s c){a b:Nat}(d:a∈s.stk)(f:b∈s.stk)(e:s.num a=s.num b):a=b:=z2w h.gU d f e
theorem TI.mF{a:List (Nat×Nat)}(h:TI n aS s a){v:Nat}(b:v∈dP a):v∈s.stk:=h.iW.subset b
theorem TI.empty(h:TI n aS s []):s.stk=[]:=by
 cases c:s.stk with
 |nil=>rfl
 |cons a l=>obtain⟨v,b,_⟩:=h.cov a (by rw[c];exact lIH);cases b
theorem TI.pW{g:List (Nat×Nat)}(h:TI n aS s g):s.cnt<=n:=by
 have f:(s.stk++s.out.flatten).Nodup:=lOM.2 ⟨h.nd,h.pR,fun a i b j e=>(h.mH b j).2.1 (e▸i)⟩;have d:∀ x∈s.stk++s.out.flatten,x∈List.range n:=fun x c=>by
  rw[lIY];rcases lEY.1 c with c|c
  ·exact h.mR x c
  ·exact(h.mH x c).2.2
 have:=f.length_le_of_subset d;rw[lEP,lXC,<-h.lV]at this;exact this
theorem TI.aAD{a:List (Nat×Nat)}(h:TI n aS s a):a.length<=s.stk.length:=by have:=h.iW.length_le;simp_all
theorem TI.aE3{b:List (Nat×Nat)}(h:TI n aS s b){k:Nat}(c:s.num k=0):k∉s.stk/\k∉s.out.flatten:=
 ⟨fun a=>by have:=h.kH k a;omega,fun a=>by have:=(h.mH k a).1;omega⟩
end Go.Di.T
end
noncomputable section
namespace Go.Di.T
variable {n:Nat} {aS:Nat->List Nat} {s:TS}
theorem qR(l:List (Nat×Nat))(v i:Nat):dP (l++[(v,i)])=dP l++[v]:=by simp[dP]
theorem TI.aHK{a:List (Nat×Nat)}(h:TI n aS s a):(dP a).Nodup:=h.nd.sublist h.iW
theorem zoc{l:List (Nat×Nat)}{v i k:Nat}(a:(dP (l++[(v,i)])).Nodup):¬ qst (l++[(v,i)]) (v,i) k:=by
 rintro ⟨j,b,d⟩;have e:j+1<(dP (l++[(v,i)])).length:=(lI2.1 d).1;have f:(dP (l++[(v,i)])).length=l.length+1:=by simp[dP]
 have c:v∈dP l:=by rw[lIO om]at b;exact lIB.2 ⟨_,lIK b,rfl⟩
 rw[qR,lOM]at a;exact a.2.2 v c v (lI3.2 rfl) rfl
theorem qst.bump{l x:List (Nat×Nat)}{v i a k:Nat}{p:Nat×Nat}(h:qst (l++[(v,i)]) p k):qst (l++(v,a)::x) p k:=by
 obtain⟨j,b,c⟩:=h;have d:j+1<(dP (l++[(v,i)])).length:=(lI2.1 c).1;have f:(dP (l++[(v,i)])).length=l.length+1:=by simp[dP]
 refine⟨j,?_,?_⟩
 ·rw[lIO om]at b ⊢;exact b
 ·have e:(l++(v,a)::x).map Prod.fst=(dP (l++[(v,i)]))++x.map Prod.fst:=by simp[dP]
  rw[e,lIO d];exact c
theorem TI.top{l:List (Nat×Nat)}{v i:Nat}(h:TI n aS s (l++[(v,i)])){x:Nat}(a:x∈dP l):s.num x<s.num v:=by have:=h.gU.sublist h.iW;rw[qR,lOL]at this;exact this.2.2 x a v (lI3.2 rfl)
theorem TI.vL{l:List (Nat×Nat)}{v i:Nat}(h:TI n aS s (l++[(v,i)])){x:Nat}(a:x∈dP (l++[(v,i)])):s.num x<=s.num v:=by
 rw[qR]at a;rcases lEY.1 a with a|a
 ·exact lON (h.top a)
 ·simp_all
theorem TI.seen{l:List (Nat×Nat)}{v i:Nat}(h:TI n aS s (l++[(v,i)])){j k:Nat}(a:j<i)(e:(aS v)[j]? =some k):0<s.num k/\(k∈s.stk->s.low v<=s.num k):=by obtain⟨_,c⟩:=h.frE (v,i) (lOJ _ (lI3.2 rfl));obtain⟨d,f⟩:=c j a k e;exact⟨d,fun b=>(f b).resolve_right (zoc h.aHK)⟩
theorem TI.enter{r q:List (Nat×Nat)}(h:TI n aS s r){k:Nat}(U:s.num k=0)(N:k<n)(O:r=[]/\q=[]\/∃ l v i,r=l++[(v,i)]/\(aS v)[i]? =some k/\q=l++[(v,i+1)]):TI n aS (s.enter k) (q++[(k,0)]):=by
 obtain⟨n1,n2⟩:=h.aE3 U;have Z:dP q=dP r:=by
  rcases O with⟨rfl,rfl⟩|⟨l,v,i,rfl,_,rfl⟩
  ·rfl
  ·simp
 have G:dP (q++[(k,0)])=dP r++[k]:=by rw[qR,Z]
 have o:∀{v},v∈s.stk->v≠k:=fun c e=>n1 (e▸c);have nko:∀{v},v∈s.out.flatten->v≠k:=fun c e=>n2 (e▸c);have K:∀{v},0<s.num v->v≠k:=fun c e=>by rw[e,U]at c;exact lOB _ c
 have f:∀{v},v≠k->(s.enter k).num v=s.num v:=fun c=>upd_ne _ _ c;have z:(s.enter k).num k=s.cnt+1:=upd_same _ _ _;have kF:∀{v},v≠k->(s.enter k).low v=s.low v:=fun c=>upd_ne _ _ c;have lG:(s.enter k).low k=s.cnt+1:=upd_same _ _ _;have d:∀{v},v∈(s.enter k).stk↔v∈s.stk\/v=k:=fun{v}=>by show v∈s.stk++[k]↔_;rw[lEY,lI3]
 have F:∀{v},v∈dP (q++[(k,0)])↔v∈dP r\/v=k:=fun{v}=>by rw[G,lEY,lI3]
 exact{
  mR:=fun v c=>by rcases d.1 c with c|rfl;exact h.mR v c;exact N
  kH:=fun v c=>by
   rcases d.1 c with c|rfl
   ·rw[f (o c)];exact h.kH v c
   ·omega
  gU:=by show(s.stk++[k]).Pairwise _;rw[lOL];refine⟨h.gU.imp_of_mem fun G H P=>by rw[f (o G),f (o H)];exact P,lU4 _ _,fun a G b H=>?_⟩;rw[lI3.1 H,z,f (o G)];have:=h.jH a;omega
  pN:=fun v=>by
   rw[d];show upd s.on k true v=true↔_;by_cases e:v=k
   ·rw[e,upd_same];simp
   ·rw[upd_ne _ _ e,h.pN];simp[e]
  vis:=fun v c=>by
   by_cases e:v=k
   ·simp_all
   ·rw[f e]at c;exact(h.vis v c).imp (fun x=>d.2 (Or.inl x)) id
  mH:=fun v c=>by obtain⟨A,I,W⟩:=h.mH v c;simp_all
  iP:=h.iP
  pY:=h.pY
  pR:=h.pR
  jH:=fun v=>by
   show _<=s.cnt+1;by_cases e:v=k
   ·simp_all
   ·rw[f e];exact Nat.le_succ_of_le (h.jH v)
  lV:=by show s.cnt+1=(s.stk++[k]).length+s.out.flatten.length;rw[lEP,List.length_singleton,h.lV];omega
  iW:=by rw[G];exact h.iW.append (List.Sublist.refl _)
  kF:=fun v c=>by
   rcases d.1 c with c|rfl
   ·rw[f (o c),kF (o c)];exact h.kF v c
   ·omega
  lG:=fun v c=>by
   rcases d.1 c with c|rfl
   ·obtain⟨u,A,I,W⟩:=h.lG v c;exact⟨u,d.2 (Or.inl A),by rw[f (o A),kF (o c)];exact I,W⟩
   ·exact⟨v,d.2 (Or.inr rfl),by rw[z,lG],Rc.refl _⟩
  fin:=fun v c D=>by rw[F,not_or]at D;have c:=(d.1 c).resolve_right D.2;rw[f D.2,kF D.2];exact h.fin v c D.1
  pU:=fun v c D x B=>by rw[F,not_or]at D;have c:=(d.1 c).resolve_right D.2;obtain⟨A,I⟩:=h.pU v c D.1 x B;simp_all
  frE:=fun p C=>by
   rcases lEY.1 C with C|C
   ·-- an old frame
    have old:∀{x},0<s.num x->p.1∈dP r->(x∈s.stk->s.low p.1<=s.num x\/qst (q++[(k,0)]) p x) ->
      0<(s.enter k).num x/\(x∈(s.enter k).stk->(s.enter k).low p.1<=(s.enter k).num x\/qst (q++[(k,0)]) p x):=fun{x} A Q I=>by
     refine⟨by rw[f (K A)];exact A,fun B=>?_⟩;rw[kF (o (h.mF Q)),f (K A)];simp_all
    rcases O with⟨rfl,rfl⟩|⟨l,v,i,rfl,M,rfl⟩
    ·cases C
    ·rcases lEY.1 C with C|C
     ·obtain⟨g1,g2⟩:=h.frE p (lOA _ C);refine⟨g1,fun j R x B=>?_⟩;obtain⟨g3,g4⟩:=g2 j R x B;refine old g3 (lIB.2 ⟨p,lOA _ C,rfl⟩) fun S=>(g4 S).imp id fun g=>?_;rw[lI5];exact g.bump
     ·obtain rfl:=lI3.1 C;refine⟨(lI2.1 M).1,fun j R x B=>?_⟩;rcases lOI j i with L|L
      ·obtain⟨g3,g4⟩:=h.seen L B;simp_all
      ·have:j=i:=by have:j<i+1:=R;omega
       subst this;have B:(aS v)[j]? =some x:=B;rw[M]at B;obtain rfl:=Option.some.inj B;refine⟨by rw[z];omega,fun _=>Or.inr ⟨l.length,?_,?_⟩⟩
       ·simp
       ·simp
   ·simp_all
  oN:=fun v c w m y H=>by
   rcases F.1 c with c|rfl
   ·have E:=o (h.mF c);rcases d.1 m with m|rfl
    ·rw[kF E,kF (o m)];rw[f E,f (o m)]at y;refine h.oN v c w m y fun X J Y=>?_;have:=H X (F.2 (Or.inl J));rw[f E,f (o m),f (o (h.mF J))]at this;omega
    ·have:=H w (F.2 (Or.inr rfl));rw[f E,z]at this;have V:=h.jH v;omega
   ·rcases d.1 m with m|rfl
    ·rw[z,f (o m)]at y;have:=h.jH w;omega
    ·simp
  frR:=fun v T w m y=>by
   rcases F.1 T with c|rfl
   ·rcases d.1 m with m|rfl
    ·rw[f (o (h.mF c)),f (o m)]at y;exact h.frR v c w m y
    ·rcases O with⟨rfl,rfl⟩|⟨l,t,i,rfl,M,rfl⟩
     ·trivial
     ·have ht:t∈dP (l++[(t,i)]):=by rw[qR];simp
      exact(h.frR v c t (h.mF ht) (h.vL c)).step (lIK M)
   ·rcases d.1 m with m|rfl
    ·rw[z,f (o m)]at y;have:=h.jH w;omega
    ·exact Rc.refl _
  cov:=fun w m=>by
   rcases d.1 m with m|rfl
   ·obtain⟨v,A,I⟩:=h.cov w m;exact⟨v,F.2 (Or.inl A),by rw[f (o (h.mF A)),f (o m)];exact I⟩
   ·exact⟨w,F.2 (Or.inr rfl),lEO _⟩}
theorem TI.aOJ{i:List (Nat×Nat)}(h:TI n aS s i){v m:Nat}(z:v∈dP i)(A:m<=s.low v)(B:∃ u∈s.stk,s.num u=m/\Rc aS v u):TI n aS {s with low:=upd s.low v m} i:=by
 have le:∀ x,upd s.low v m x<=s.low x:=fun x=>by
  by_cases e:x=v
  ·rw[e,upd_same];exact A
  ·rw[upd_ne _ _ e];exact lEO _
 exact{
  mR:=h.mR,kH:=h.kH,gU:=h.gU,pN:=h.pN,vis:=h.vis,mH:=h.mH,iP:=h.iP,pY:=h.pY,pR:=h.pR,jH:=h.jH,lV:=h.lV,iW:=h.iW
  kF:=fun x b=>lI7 (le x) (h.kF x b)
  lG:=fun x b=>by
   show ∃u∈s.stk,s.num u=upd s.low v m x/\_;by_cases e:x=v
   ·rw[e,upd_same];exact B
   ·rw[upd_ne _ _ e];exact h.lG x b
  fin:=fun x b g=>lXP (le x) (h.fin x b g)
  pU:=fun x b g k d=>⟨(h.pU x b g k d).1,fun c=>lI7 (le x) ((h.pU x b g k d).2 c)⟩
  frE:=fun p l=>⟨(h.frE p l).1,fun j q k d=>⟨((h.frE p l).2 j q k d).1,fun c=>(((h.frE p l).2 j q k d).2 c).imp (lI7 (le _)) id⟩⟩
  oN:=fun a r w t f y=>by
   show upd s.low v m a<=upd s.low v m w;by_cases e:w=v
   ·subst e;by_cases D:a=w
    ·simp_all
    ·have o:s.num a<s.num w:=Nat.lt_of_le_of_ne f fun C=>D (h.inj (h.mF r) t C);exact absurd (y w z o) (lOB _)
   ·rw[upd_ne _ _ e];exact lI7 (le a) (h.oN a r w t f y)
  frR:=h.frR
  cov:=h.cov}
theorem TI.bump{l:List (Nat×Nat)}{v i k:Nat}(h:TI n aS s (l++[(v,i)]))(m:(aS v)[i]? =some k)(o:0<s.num k)(q:k∈s.stk->s.low v<=s.num k):TI n aS s (l++[(v,i+1)]):=by
 have c:dP (l++[(v,i+1)])=dP (l++[(v,i)]):=by rw[qR,qR]
 exact{
  mR:=h.mR,kH:=h.kH,gU:=h.gU,pN:=h.pN,vis:=h.vis,mH:=h.mH,iP:=h.iP,pY:=h.pY,pR:=h.pR,jH:=h.jH,lV:=h.lV,kF:=h.kF,lG:=h.lG
  iW:=by rw[c];exact h.iW
  fin:=by rw[c];exact h.fin
  pU:=by rw[c];exact h.pU
  oN:=by rw[c];exact h.oN
  frR:=by rw[c];exact h.frR
  cov:=by rw[c];exact h.cov
  frE:=fun p d=>by
   rcases lEY.1 d with d|d
   ·obtain⟨g1,g2⟩:=h.frE p (lOA _ d);refine⟨g1,fun j f x a=>?_⟩;obtain⟨g3,g4⟩:=g2 j f x a;exact⟨g3,fun b=>(g4 b).imp id fun g=>g.bump⟩
   ·obtain rfl:=lI3.1 d;refine⟨(lI2.1 m).1,fun j f x a=>?_⟩;rcases lOI j i with e|e
    ·obtain⟨g3,g4⟩:=h.seen e a;simp_all
    ·have:j=i:=by have:j<i+1:=f;omega
     subst this;have a:(aS v)[j]? =some x:=a;rw[m]at a;obtain rfl:=Option.some.inj a;exact⟨o,fun b=>Or.inl (q b)⟩}
def TS.look(s:TS)(v k:Nat):TS:=if s.on k then{s with low:=upd s.low v (min (s.low v) (s.num k))}else s
theorem TI.look{l:List (Nat×Nat)}{v i k:Nat}(h:TI n aS s (l++[(v,i)]))(a:(aS v)[i]? =some k)(f:0<s.num k):TI n aS (s.look v k) (l++[(v,i+1)]):=by
 unfold TS.look;have g:v∈dP (l++[(v,i)]):=by rw[qR];simp
 cases e:s.on k with
 |false=>
  have c:k∉s.stk:=fun b=>by rw[(h.pN k).2 b]at e;cases e
  exact h.bump a f fun b=>absurd b c
 |true=>
  have d:=(h.pN k).1 e;have j:TI n aS {s with low:=upd s.low v (min (s.low v) (s.num k))} (l++[(v,i)]):=by
   refine h.aOJ g (lUL _ _) ?_;rcases Nat.le_total (s.low v) (s.num k)with hle|hle
   ·rw[lOE hle];exact h.lG v (h.mF g)
   ·rw[Nat.min_eq_right hle];exact⟨k,d,rfl,Rc.one (lIK a)⟩
  refine TI.bump j a f fun _=>?_;show upd s.low v _ v<=s.num k;rw[upd_same];exact lO3 _ _
theorem q4d{l:List (Nat×Nat)}{v i k:Nat}{p:Nat×Nat}(f:p∈l)(g:(dP (l++[(v,i)])).Nodup)(h:qst (l++[(v,i)]) p k):qst l p k\/(k=v/\l.getLast? =some p):=by
 obtain⟨j,d,a⟩:=h;have m:j+1<(dP (l++[(v,i)])).length:=(lI2.1 a).1;have n:(dP (l++[(v,i)])).length=l.length+1:=by simp[dP]
 have b:l[j]? =some p:=by rwa [lIO om]at d
 rw[show(l++[(v,i)]).map Prod.fst=dP l++[v]from qR l v i]at a;have c:(dP l).length=l.length:=by simp[dP]
 rcases lOI (j+1) l.length with h|h
 ·rw[lIO om]at a;exact Or.inl ⟨j,b,a⟩
 ·have e:j+1=l.length:=om;rw[lIJ om,c,e,lUV]at a;refine Or.inr ⟨(Option.some.inj a).symm,?_⟩;rw[List.getLast?_eq_getElem?,<-e];exact b
theorem TI.pop{l:List (Nat×Nat)}{v u j:Nat}(h:TI n aS s ((l++[(u,j)])++[(v,(aS v).length)]))(N:s.low v<s.num v):TI n aS {s with low:=upd s.low u (min (s.low u) (s.low v))} (l++[(u,j)]):=by
 have y:v∈dP ((l++[(u,j)])++[(v,(aS v).length)]):=by rw[qR];simp
 have d:u∈dP (l++[(u,j)]):=by rw[qR];simp
 have o:∀{x},x∈dP ((l++[(u,j)])++[(v,(aS v).length)])↔x∈dP (l++[(u,j)])\/x=v:=fun{x}=>by rw[qR (l++[(u,j)]),lEY,lI3]
 have z:=h.mF y;have J:s.num u<s.num v:=h.top d;have Q:=h.mF (o.2 (Or.inl d));have K:∀{x},x∈dP (l++[(u,j)])->s.num x<=s.num u:=fun{x} b=>by
  have r:=h.gU.sublist ((List.sublist_append_left (dP (l++[(u,j)])) [v]).trans (by rw[<-qR];exact h.iW));rw[qR,lOL]at r;rw[qR]at b;rcases lEY.1 b with b|b
  ·exact lON (r.2.2 x b u (lI3.2 rfl))
  ·simp_all
 -- the old state over fewer frames
 have le:∀ x,upd s.low u (min (s.low u) (s.low v)) x<=s.low x:=fun x=>by
  by_cases e:x=u
  ·rw[e,upd_same];exact lUL _ _
  ·rw[upd_ne _ _ e];exact lEO _
 exact{
  mR:=h.mR,kH:=h.kH,gU:=h.gU,pN:=h.pN,vis:=h.vis,mH:=h.mH,iP:=h.iP,pY:=h.pY,pR:=h.pR,jH:=h.jH,lV:=h.lV
  iW:=(List.sublist_append_left (dP (l++[(u,j)])) [v]).trans (by rw[<-qR];exact h.iW)
  kF:=fun x b=>lI7 (le x) (h.kF x b)
  lG:=fun x b=>by
   show ∃w∈s.stk,s.num w=upd s.low u (min (s.low u) (s.low v)) x/\_;by_cases e:x=u
   ·rw[e,upd_same];rcases Nat.le_total (s.low u) (s.low v)with c|c
    ·rw[lOE c];exact h.lG u Q
    ·rw[Nat.min_eq_right c];obtain⟨w,C,r,S⟩:=h.lG v z;exact⟨w,C,r,(h.frR u (o.2 (Or.inl d)) v z (lON J)).trans S⟩
   ·rw[upd_ne _ _ e];exact h.lG x b
  fin:=fun x b G=>by
   refine lXP (le x) ?_;by_cases e:x=v
   ·simp_all
   ·exact h.fin x b fun q=>(o.1 q).elim G e
  pU:=fun x b G k D=>by
   by_cases e:x=v
   ·subst e;obtain⟨i,E⟩:=lX6.1 D;have L:=(lI2.1 E).1;obtain⟨g1,g2⟩:=h.seen L E;exact⟨g1,fun f=>lI7 (le x) (g2 f)⟩
   ·obtain⟨g1,g2⟩:=h.pU x b (fun q=>(o.1 q).elim G e) k D;exact⟨g1,fun f=>lI7 (le x) (g2 f)⟩
  frE:=fun p O=>by
   obtain⟨g1,g2⟩:=h.frE p (lOA _ O);refine⟨g1,fun i E k D=>?_⟩;obtain⟨g3,g4⟩:=g2 i E k D;refine⟨g3,fun f=>?_⟩;rcases g4 f with g|g
   ·exact Or.inl (lI7 (le _) g)
   ·rcases q4d O h.aHK g with g6|⟨rfl,g6⟩
    ·exact Or.inr g6
    ·rw[List.getLast?_concat]at g6;obtain rfl:=Option.some.inj g6;refine Or.inl ?_;show upd s.low u (min (s.low u) (s.low k)) u<=s.num k;rw[upd_same];omega
  oN:=fun a F w t c P=>by
   show upd s.low u (min (s.low u) (s.low v)) a<=upd s.low u (min (s.low u) (s.low v)) w;have A:=o.2 (Or.inl F:a∈dP (l++[(u,j)])\/a=v);have B:=h.mF A;by_cases e:w=u
   ·subst e;by_cases T:a=w
    ·simp_all
    ·exact absurd (P w d (Nat.lt_of_le_of_ne c fun R=>T (h.inj B t R))) (lOB _)
   ·rw[upd_ne _ _ e];rcases lOI (s.num w) (s.num v)with hwv|hwv
    ·refine lI7 (le a) (h.oN a A w t c fun H m I=>?_);rcases o.1 m with m|rfl
     ·simp_all
     ·exact hwv
    ·have M:a=u:=by
      refine h.inj B Q (Nat.le_antisymm (K F) ?_);rcases lOI (s.num a) (s.num u)with g|g
      ·have:=P u d g;have:s.num w<s.num u:=this;omega
      ·exact g
     rw[M,upd_same];refine lI7 (lO3 _ _) (h.oN v y w t hwv fun H m I=>?_);have:=h.vL m;omega
  frR:=fun a F=>h.frR a (o.2 (Or.inl F))
  cov:=fun w t=>by
   obtain⟨H,C,r⟩:=h.cov w t;rcases o.1 C with C|rfl
   ·exact⟨H,C,r⟩
   ·exact⟨u,d,by show s.num u<=s.num w;omega⟩}
theorem TI.root{v i:Nat}(h:TI n aS s [(v,i)]):¬ s.low v<s.num v:=fun a=>by
 have b:v∈dP [(v,i)]:=by simp[dP]
 obtain⟨u,c,e,_⟩:=h.lG v (h.mF b);obtain⟨f,d,g⟩:=h.cov u c;have:f=v:=by simpa [dP] using d
 subst this;omega
theorem TI.leave{l:List (Nat×Nat)}{v:Nat}(h:TI n aS s (l++[(v,(aS v).length)]))(hlow:¬ s.low v<s.num v){pre post comp:List Nat}(Y:s.stk=pre++v::post)(L:comp.Perm (v::post))(U:comp.Pairwise (· < ·))(M:Nat->Bool)(hon:∀ x,M x=if x∈comp then false else s.on x):TI n aS {s with stk:=pre,on:=M,out:=s.out++[comp]} l:=by
 have E:v∈dP (l++[(v,(aS v).length)]):=by rw[qR];simp
 have V:∀{x},x∈dP (l++[(v,(aS v).length)])↔x∈dP l\/x=v:=fun{x}=>by rw[qR,lEY,lI3]
 have R:=h.mF E;have D:=h.gU;rw[Y,lOL,lUO]at D;obtain⟨s1,⟨s2,s3⟩,s4⟩:=D;have f:∀{x},x∈s.stk↔x∈pre\/x∈v::post:=fun{x}=>by rw[Y,lEY]
 have I:∀{x},x∈pre->s.num x<s.num v:=fun{x} d=>s4 x d v lIH;have J:∀{x},x∈v::post->s.num v<=s.num x:=fun{x} d=>by
  rcases lI8.1 d with rfl|d
  ·simp
  ·exact lON (s2 x d)
 have wV:∀{x},x∈pre->x∉v::post:=fun{x} o q=>by have:=I o;have:=J q;omega
 have aNT:∀{x},x∈s.stk->s.num x<s.num v->x∈pre:=fun{x} o q=>(f.1 o).resolve_right fun H=>by have:=J H;omega
 have F:∀{x},x∈s.stk->s.num v<=s.num x->x∈v::post:=fun{x} o q=>(f.1 o).resolve_left fun H=>by have:=I H;omega
 have G:∀{x},x∈comp↔x∈v::post:=L.mem_iff;have A:∀{x},x∈(s.out++[comp]).flatten↔x∈s.out.flatten\/x∈v::post:=fun{x}=>by rw[lUQ,lEY];simp[G]
 have j:∀{x},x∈v::post->x∈s.stk:=fun d=>f.2 (Or.inr d)
 -- a way K
 have K:∀ m x,s.num x=m->x∈v::post->Rc aS x v:=by
  intro m
  induction m using Nat.strongRecOn with
  |_ m ih=>
   intro x hm d;by_cases e:x=v
   ·rw[e];exact Rc.refl _
   ·have r:=j d;have T:x∉dP (l++[(v,(aS v).length)]):=fun N=>by
     have o:=h.vL N;have q:=J d;exact e (h.inj r R om)
    obtain⟨u,o,q,H⟩:=h.lG x r;have h4:=h.fin x r T;have h5:s.low v<=s.low x:=h.oN v E x r (J d) fun W C O=>by have:=h.vL C;omega
    exact H.trans (ih (s.num u) om u rfl (F o om))
 have B:∀ x∈v::post,∀k∈aS x,k∈v::post\/k∈s.out.flatten:=fun x d k z=>by
  have r:=j d;have key:0<s.num k/\(k∈s.stk->s.num v<=s.num k):=by
   by_cases e:x=v
   ·subst e;obtain⟨i,Z⟩:=lX6.1 z;obtain⟨g1,g2⟩:=h.seen (lI2.1 Z).1 Z;exact⟨g1,fun t=>by have:=g2 t;omega⟩
   ·have T:x∉dP (l++[(v,(aS v).length)]):=fun N=>by
     have o:=h.vL N;have q:=J d;exact e (h.inj r R om)
    obtain⟨g1,g2⟩:=h.pU x r T k z;have h5:s.low v<=s.low x:=h.oN v E x r (J d) fun W C O=>by have:=h.vL C;omega
    exact⟨g1,fun t=>by have:=g2 t;omega⟩
  rcases h.vis k key.1 with t|hko
  ·simp_all
  ·simp_all
 have aIa:∀{x},x∈s.out.flatten->x∉v::post:=fun o q=>(h.mH _ o).2.1 (j q);have aZW:∀{p k},p∈l->k∈pre->qst (l++[(v,(aS v).length)]) p k->qst l p k:=fun{p k} L z g=>by
  rcases q4d L h.aHK g with g|⟨rfl,_⟩
  ·exact g
  ·exact absurd lIH (wV z)
 exact{
  mR:=fun x d=>h.mR x (f.2 (Or.inl d))
  kH:=fun x d=>h.kH x (f.2 (Or.inl d))
  gU:=s1
  pN:=fun x=>by
   show M x=true↔x∈pre;rw[hon];by_cases d:x∈comp
   ·rw[lEZ d];exact⟨fun e=>(by cases e),fun e=>absurd (G.1 d) (wV e)⟩
   ·rw[lEU d,h.pN,f];exact⟨fun e=>e.resolve_right fun g=>d (G.2 g),Or.inl⟩
  vis:=fun x d=>by
   rcases h.vis x d with g|g
   ·rcases f.1 g with g|g
    ·exact Or.inl g
    ·simp_all
   ·simp_all
  mH:=fun x d=>by
   rcases A.1 d with g|g
   ·obtain⟨o,q,H⟩:=h.mH x g;simp_all
   ·exact⟨h.kH x (j g),fun h4=>wV h4 g,h.mR x (j g)⟩
  iP:=fun x d k z=>by
   rcases A.1 d with g|g
   ·exact A.2 (Or.inl (h.iP x g k z))
   ·exact A.2 ((B x g k z).symm)
  pY:=fun c X=>by
   rcases lEY.1 X with X|X
   ·exact h.pY c X
   ·obtain rfl:=lI3.1 X;refine⟨U,v,G.2 lIH,fun x=>⟨fun d=>⟨h.frR v E x (j (G.1 d)) (J (G.1 d)),K _ x rfl (G.1 d)⟩,fun⟨g1,g2⟩=>?_⟩⟩;have hcl:x∈v::post\/x∈s.out.flatten:=Rc.closed (S:=fun x=>x∈v::post\/x∈s.out.flatten) (fun y hy k z=>hy.elim (fun g=>B y g k z) fun g=>Or.inr (h.iP y g k z)) g1 (Or.inl lIH);rcases hcl with g|g
    ·exact G.2 g
    ·have:=Rc.closed (S:=fun x=>x∈s.out.flatten) h.iP g2 g;exact absurd R (h.mH v this).2.1
  pR:=by
   rw[lUQ,lOM];refine⟨h.pR,by have e:[comp].flatten=comp:=g3;rw[e];exact U.imp fun hab=>Nat.ne_of_lt hab,fun a o b q e=>?_⟩;have q:b∈comp:=by simpa using q
   exact aIa o (G.1 (e▸q))
  jH:=h.jH
  lV:=by rw[h.lV,Y];have:=L.length_eq;simp at this ⊢;omega
  iW:=by
   have o:=h.iW.filter (fun x=>decide (s.num x<s.num v));rw[qR,Y,lU5,lU5]at o;have e1:(dP l).filter (fun x=>decide (s.num x<s.num v))=dP l:=List.filter_eq_self.2 fun x d=>lI9 (h.top d);have e2:pre.filter (fun x=>decide (s.num x<s.num v))=pre:=List.filter_eq_self.2 fun x d=>lI9 (I d);have e3:(v::post).filter (fun x=>decide (s.num x<s.num v))=[]:=List.filter_eq_nil_iff.2 fun x d=>by simpa using J d
   simp_all
  kF:=fun x d=>h.kF x (f.2 (Or.inl d))
  lG:=fun x d=>by obtain⟨u,o,q,H⟩:=h.lG x (f.2 (Or.inl d));have:=h.kF x (f.2 (Or.inl d));have:=I d;exact⟨u,aNT o om,q,H⟩
  fin:=fun x d N=>h.fin x (f.2 (Or.inl d)) fun g=>(V.1 g).elim N fun e=>by have:=I d;rw[e]at this;exact lOB _ this
  pU:=fun x d N k z=>by obtain⟨g1,g2⟩:=h.pU x (f.2 (Or.inl d)) (fun g=>(V.1 g).elim N fun e=>by have:=I d;rw[e]at this;exact lOB _ this) k z;simp_all
  frE:=fun p L=>by obtain⟨g1,g2⟩:=h.frE p (lOA _ L);refine⟨g1,fun i Z k z=>?_⟩;obtain⟨g3,g4⟩:=g2 i Z k z;exact⟨g3,fun t=>(g4 (f.2 (Or.inl t))).imp id (aZW L t)⟩
  oN:=fun a U w P Q hb=>h.oN a (V.2 (Or.inl U)) w (f.2 (Or.inl P)) Q fun W C O=>by
   rcases V.1 C with g|rfl
   ·exact hb W g O
   ·exact I P
  frR:=fun a U w P Q=>h.frR a (V.2 (Or.inl U)) w (f.2 (Or.inl P)) Q
  cov:=fun w P=>by
   obtain⟨W,o,q⟩:=h.cov w (f.2 (Or.inl P));rcases V.1 o with o|rfl
   ·exact⟨W,o,q⟩
   ·have:=I P;omega}
theorem TI.init(n:Nat)(aS:Nat->List Nat):TI n aS ⟨fun _=>0,fun _=>0,fun _=>false,[],0,[]⟩ [] where
 mR:=fun v a=>by cases a
 kH:=fun v a=>by cases a
 gU:=List.Pairwise.nil
 pN:=fun v=>g3
 vis:=fun v a=>by cases a
 mH:=fun v a=>by cases a
 iP:=fun v a=>by cases a
 pY:=fun v a=>by cases a
 pR:=List.nodup_nil
 jH:=fun v=>lEO _
 lV:=rfl
 iW:=List.Sublist.refl _
 kF:=fun v a=>by cases a
 lG:=fun v a=>by cases a
 fin:=fun v a=>by cases a
 pU:=fun v a=>by cases a
 frE:=fun v a=>by cases a
 oN:=fun v a=>by cases a
 frR:=fun v a=>by cases a
 cov:=fun v a=>by cases a
end Go.Di.T
end
noncomputable section
namespace Go.Di
open Go.Ev Go.Di.T
variable {C:Nat->Ev.Call} {LA LO:LP}
variable {H H':Hp} {S:Nat->Prop} {b i j k n z:Nat} {l:List AV}
structure Gs(z:Nat)(H:Hp)(v:AV)(n:Nat)(l:List AV):Prop where
 len:l.length=n*z
 is:(v=.aA/\n=0)\/∃ b o m e q L,v=.sl b o n m e/\n<=m/\H.get b=aB q L/\o+m*z=L.length/\(L.drop o).take (n*z)=l/\(e=true\/q=z)/\b<H.nx
theorem Gs.nil(z:Nat)(H:Hp):Gs z H .aA 0 []:=⟨g3,.inl ⟨rfl,rfl⟩⟩
theorem Gs.aX{v:AV}(h:Gs z H v n l):aD v=.val (.int .i64 (.ofNat n)):=by rcases h.is with⟨rfl,rfl⟩|⟨b,o,m,e,q,L,rfl,_⟩<;>rfl
theorem Gs.lt{v:AV}(h:Gs z H v n l)(a:In v b):b<H.nx:=by
 obtain⟨_,_,_,_,e⟩:=a;rcases h.is with⟨rfl,_⟩|⟨c,o,m,y,q,L,rfl,_,_,_,_,_,d⟩
 ·cases e
 ·simp_all
theorem Gs.keep{v:AV}(h:Gs z H v n l)(c:H.nx<=H'.nx)(d:∀ b,In v b->b<H.nx->H'.get b=H.get b):Gs z H' v n l:=by
 refine⟨h.len,?_⟩;rcases h.is with h|⟨b,o,m,e,q,L,rfl,f,g,i,j,k,a⟩
 ·exact .inl h
 ·exact .inr ⟨b,o,m,e,q,L,rfl,f,(d b ⟨_,_,_,_,rfl⟩ a).trans g,i,j,k,af a c⟩
theorem Gs.fm{v:AV}(h:Gs z H v n l)(a:Fm S H H')(d:∀ b,In v b->¬ S b):Gs z H' v n l:=
 h.keep a.nx fun b e c=>a.get b c (d b e)
theorem Gl.gs{v:AV}(h:Gl z H v n l):Gs z H v n l:=by
 refine⟨h.len,?_⟩;rcases h.is with h|⟨b,o,e,q,L,rfl,d,i,a,f,g⟩
 ·exact .inl h
 ·have c:o+n*z=L.length:=by have:=h.len;rw[<-a,lIZ]at this;omega
  exact .inr ⟨b,o,n,e,q,L,rfl,lEO _,d,c,by rw[a,lIW (by rw[h.len];exact lEO _)],f,g⟩
theorem Gs.rl{v:AV}(h:Gs 1 H v n l):Rl H v l:=by
 have c:l.length=n:=by have:=h.len;omega
 refine⟨by rw[h.aX,c],fun i j=>?_⟩;rcases h.is with⟨rfl,rfl⟩|⟨b,o,m,e,q,L,rfl,k,d,p,f,r,g⟩
 ·omega
 ·refine⟨b,o+i,by rw[uY _ _ _ _ _ _ _ _ om,lI1],g,?_⟩;have:L[o+i]? =some l[i]:=by
   have a:((L.drop o).take (n*1))[i]? =some l[i]:=by rw[f];simp
   rw[lXM,lEZ om,lU1]at a;exact a
  rw[d,qb3,this]
theorem Gs.cut{b o m:Nat}{e:Bool}(h:Gs z H (.sl b o n m e) n l)(a:k<=n):Gs z H (.sl b o k m e) k (l.take (k*z)):=by
 have c:k*z<=n*z:=lO9 _ a;refine⟨by rw[lI6,h.len];omega,?_⟩;rcases h.is with⟨h,_⟩|⟨r,s,t,u,q,L,d,v,f,g,i,j,p⟩
 ·cases h
 ·cases d;refine .inr ⟨b,o,m,e,q,L,rfl,om,f,g,?_,j,p⟩;rw[<-i,List.take_take];simp_all
theorem Gs.append{z w n:Nat}{v:AV}{l x:List AV}(h:Gs z H v n l)(B:x.length=z)(i:(n+1)*w<=1099511627776)(j:n+1<=1099511627776):Ok (kJ z w H v (some ⟨1,x⟩)) fun a H'=>(∃b o m e,a=.sl b o (n+1) m e)/\Gs z H' a (n+1) (l++x)/\Fm (In v) H H'/\(∀b,In a b->In v b\/H.nx<=b):=by
 have d:∀(H:Hp) (v:AV),Gl z H v n l->Ok (kJ z w H v (some ⟨1,x⟩)) fun a H'=>(∃b o m e,a=.sl b o (n+1) m e)/\Gs z H' a (n+1) (l++x)/\Fm (In v) H H'/\(∀b,In a b->In v b\/H.nx<=b):=fun H v g=>by obtain⟨H',r,E,J,F,K⟩:=g.append (w:=w) (k:=1) (x:=x) om om i j;exact⟨_,H',r,⟨_,_,_,_,rfl⟩,E.gs,F,fun b i=>by obtain⟨_,_,_,_,e⟩:=i;cases e;exact Or.inr (lEO _)⟩
 rcases h.is with⟨rfl,rfl⟩|⟨b,o,m,e,q,L,rfl,M,u,N,t,y,A⟩
 ·have:l=[]:=lIG.1 (by rw[h.len];simp);subst this;exact d H _ (Gl.nil _ _)
 ·rcases lOI n m with c|c
  ·have C:Nat.ble (n+1) m=true:=by rw[ble_eq,lI9 om]
   have D:(n+1)*z<=m*z:=lO9 _ c;have f:(n+1)*z=n*z+z:=by rw[lOS,lUB]
   have r:kJ z w H (.sl b o n m e) (some ⟨1,x⟩)=.ok (.sl b o (n+1) m e) (H.put b (aB q (aY L (o+n*z) x))):=by show(bif Nat.ble (n+1) m then storeAt H b (o+n*z) x (.sl b o (n+1) m e)else _)=_;rw[C];exact qb5 _ _ _ _ _ _ _ u om
   refine⟨_,_,r,⟨_,_,_,_,rfl⟩,⟨by rw[lEP,h.len,B,f],.inr ⟨b,o,m,e,q,_,rfl,c,dL _ _ _,?_,?_,y,A⟩⟩,(Fm.refl _ _).put b _ fun _=>⟨_,_,_,_,rfl⟩,fun G p=>Or.inl ?_⟩
   ·unfold aY;simp only[lEP,lI6,lIZ];omega
   ·rw[f];unfold aY;have I:(L.take (o+n*z)).length=o+n*z:=by rw[lI6];omega
    rw[lI5,lO4 om,List.drop_take,show o+n*z-o=n*z by omega];have s:((L.drop o).take (n*z)).length=n*z:=by rw[t];exact h.len
    rw[lXZ,lIW om,s,t,show n*z+z-n*z=z by omega];simp_all
   ·obtain⟨_,_,_,_,e⟩:=p;cases e;exact⟨_,_,_,_,rfl⟩
  ·have:m=n:=om;subst this;refine d H _ ⟨h.len,.inr ⟨b,o,e,q,L,rfl,u,om,?_,y,A⟩⟩;rw[<-t,lIW (by rw[lIZ];omega)]
def tO(nx:Nat->AV)(s:TS)(sv ov:AV)(i:Nat):AV:=
 if i<256 then nx i else if i<512 then .int .i64 (.ofNat (s.num (i-256)))else if i<768 then .int .i64 (.ofNat (s.low (i-512)))else if i<1024 then .bool (s.on (i-768))
 else if i=1024 then sv else if i=1025 then .int .i64 (.ofNat s.cnt)else ov
def qrx(nx:Nat->AV)(s:TS)(sv ov:AV):List AV:=(List.range 1027).map (tO nx s sv ov)
def TB(nx:Nat->AV)(s:TS)(sv ov:AV):bX:=aB 0 (qrx nx s sv ov)
theorem zfm(nx:Nat->AV)(s:TS)(sv ov:AV):(qrx nx s sv ov).length=1027:=by unfold qrx;rw[lET,lXC]
variable {nx:Nat->AV} {s:TS} {sv ov:AV}
theorem zqs(j:Nat):(qrx nx s sv ov)[j]? =if j<1027 then some (tO nx s sv ov j)else none:=by
 unfold qrx;rw[lO6];by_cases a:j<1027
 ·simp_all
 ·simp_all
theorem q89(h:i<1027):bI (TB nx s sv ov) i=.val (tO nx s sv ov i):=by unfold TB;rw[qb3,zqs,lEZ h]
attribute [local irreducible] qrx tO
theorem q88{nx':Nat->AV}{f:TS}{k b:AV}{x:AV}(h:i<1027)(q:tO nx' f k b i=x)(o:∀ j,j<1027->j≠i->tO nx' f k b j=tO nx s sv ov j):xZ (TB nx s sv ov) i [x]=some (TB nx' f k b):=by
 unfold TB;have a:=zfm nx s sv ov;rw[qgi,lEZ (by rw[a];exact h)];refine congrArg some (congrArg (aB 0) ?_);unfold aY;generalize p:qrx nx s sv ov=l at a;apply List.ext_getElem?;intro j;have d:l[j]? =if j<1027 then some (tO nx s sv ov j)else none:=by rw[<-p];exact zqs j
 rw[zqs j];have m:(l.take i).length=i:=by rw[lI6];omega
 have n:(l.take i++[x]).length=i+1:=by rw[lEP,m];rfl
 rcases lUW j i with c|c|c
 ·rw[lIO om,lIO om,lXM,lEZ c,d];by_cases g:j<1027
  ·rw[lEZ g,lEZ g,o j g om]
  ·omega
 ·simp_all
 ·rw[lIJ om,lU1,n];have e:i+[x].length+(j-(i+1))=j:=by show i+1+(j-(i+1))=j;omega
  rw[e,d];by_cases g:j<1027
  ·rw[lEZ g,lEZ g,o j g om]
  ·rw[lEU g,lEU g]
attribute [local semireducible] tO
theorem kN(h:i<256):tO nx s sv ov i=nx i:=by unfold tO;rw[lEZ h]
theorem aEL(h:256<=i)(a:i<512):tO nx s sv ov i=.int .i64 (.ofNat (s.num (i-256))):=by unfold tO;rw[lEU om,lEZ a]
theorem aFs(h:512<=i)(a:i<768):tO nx s sv ov i=.int .i64 (.ofNat (s.low (i-512))):=by unfold tO;rw[lEU om,lEU om,lEZ a]
theorem kOn(h:768<=i)(a:i<1024):tO nx s sv ov i=.bool (s.on (i-768)):=by unfold tO;rw[lEU om,lEU om,lEU om,lEZ a]
theorem kS:tO nx s sv ov 1024=sv:=rfl
theorem kC:tO nx s sv ov 1025=.int .i64 (.ofNat s.cnt):=rfl
theorem kO:tO nx s sv ov 1026=ov:=rfl
theorem qry{nx':Nat->AV}{a:TS}{c b:AV}(p:j<1027)(d:j≠i)(e:j<256->nx' j=nx j)(f:∀ m,j=256+m->a.num m=s.num m)(g:∀ m,j=512+m->a.low m=s.low m)(h:∀ m,j=768+m->a.on m=s.on m)(k:j=1024->c=sv)(l:j=1025->a.cnt=s.cnt)(n:j=1026->b=ov):tO nx' a c b j=tO nx s sv ov j:=by
 by_cases g1:j<256
 ·rw[kN g1,kN g1,e g1]
 by_cases g2:j<512
 ·rw[aEL om g2,aEL om g2,f (j-256) om]
 by_cases g3:j<768
 ·rw[aFs om g3,aFs om g3,g (j-512) om]
 by_cases g4:j<1024
 ·rw[kOn om g4,kOn om g4,h (j-768) om]
 by_cases g5:j=1024
 ·subst g5;rw[kS,kS,k rfl]
 by_cases g6:j=1025
 ·subst g6;rw[kC,kC,l rfl]
 have o:j=1026:=om;subst o;rw[kO,kO,n rfl]
theorem xO{v:Nat}(h:v<256):bI (TB nx s sv ov) v=.val (nx v):=by rw[q89 om,kN h]
theorem rdNum{v:Nat}(h:v<256):bI (TB nx s sv ov) (256+v)=.val (.int .i64 (.ofNat (s.num v))):=by rw[q89 om,aEL om om,lOF]
theorem aMa{v:Nat}(h:v<256):bI (TB nx s sv ov) (512+v)=.val (.int .i64 (.ofNat (s.low v))):=by rw[q89 om,aFs om om,lOF]
theorem aXa{v:Nat}(h:v<256):bI (TB nx s sv ov) (768+v)=.val (.bool (s.on v)):=by rw[q89 om,kOn om om,lOF]
theorem rdS:bI (TB nx s sv ov) 1024=.val sv:=by rw[q89 om,kS]
theorem rdC:bI (TB nx s sv ov) 1025=.val (.int .i64 (.ofNat s.cnt)):=by rw[q89 om,kC]
theorem rdO:bI (TB nx s sv ov) 1026=.val ov:=by rw[q89 om,kO]
theorem wrN{v:Nat}(h:v<256)(x:AV):xZ (TB nx s sv ov) v [x]=some (TB (upd nx v x) s sv ov):=
 q88 om (by rw[kN h,upd_same]) fun j b a=>qry b a (fun _=>upd_ne _ _ a) (fun _ _=>rfl) (fun _ _=>rfl) (fun _ _=>rfl) (fun _=>rfl) (fun _=>rfl) fun _=>rfl
theorem aN3{v:Nat}(h:v<256)(x:Nat):xZ (TB nx s sv ov) (256+v) [.int .i64 (.ofNat x)]=some (TB nx {s with num:=upd s.num v x} sv ov):=
 q88 om (by rw[aEL om om,lOF,show({s with num:=upd s.num v x}:TS).num v=x from upd_same _ _ _]) fun j a b=>qry a b (fun _=>rfl) (fun m c=>upd_ne _ _ om) (fun _ _=>rfl) (fun _ _=>rfl) (fun _=>rfl) (fun _=>rfl) fun _=>rfl
theorem aQD{v:Nat}(h:v<256)(x:Nat):xZ (TB nx s sv ov) (512+v) [.int .i64 (.ofNat x)]=some (TB nx {s with low:=upd s.low v x} sv ov):=
 q88 om (by rw[aFs om om,lOF,show({s with low:=upd s.low v x}:TS).low v=x from upd_same _ _ _]) fun j a b=>qry a b (fun _=>rfl) (fun _ _=>rfl) (fun m c=>upd_ne _ _ om) (fun _ _=>rfl) (fun _=>rfl) (fun _=>rfl) fun _=>rfl
theorem aXb{v:Nat}(h:v<256)(x:Bool):xZ (TB nx s sv ov) (768+v) [.bool x]=some (TB nx {s with on:=upd s.on v x} sv ov):=
 q88 om (by rw[kOn om om,lOF,show({s with on:=upd s.on v x}:TS).on v=x from upd_same _ _ _]) fun j a b=>qry a b (fun _=>rfl) (fun _ _=>rfl) (fun _ _=>rfl) (fun m c=>upd_ne _ _ om) (fun _=>rfl) (fun _=>rfl) fun _=>rfl
theorem wrS(x:AV):xZ (TB nx s sv ov) 1024 [x]=some (TB nx s x ov):=
 q88 om kS fun j b a=>qry b a (fun _=>rfl) (fun _ _=>rfl) (fun _ _=>rfl) (fun _ _=>rfl) (fun h=>absurd h a) (fun _=>rfl) fun _=>rfl
theorem wrC(x:Nat):xZ (TB nx s sv ov) 1025 [.int .i64 (.ofNat x)]=some (TB nx {s with cnt:=x} sv ov):=
 q88 om kC fun j b a=>qry b a (fun _=>rfl) (fun _ _=>rfl) (fun _ _=>rfl) (fun _ _=>rfl) (fun _=>rfl) (fun h=>absurd h a) fun _=>rfl
theorem wrO(x:AV):xZ (TB nx s sv ov) 1026 [x]=some (TB nx s sv x):=
 q88 om kO fun j b a=>qry b a (fun _=>rfl) (fun _ _=>rfl) (fun _ _=>rfl) (fun _ _=>rfl) (fun _=>rfl) (fun _=>rfl) fun h=>absurd h a
attribute [go_sem] xO rdNum aMa aXa rdS rdC rdO wrN aN3 aQD aXb wrS wrC wrO
end Go.Di
end
noncomputable section
namespace Go.Di
open Go.Ev Go.Di.T
variable {C:Nat->Ev.Call} {LA LO:LP}
variable {H H' H0:Hp} {S:Nat->Prop} {aS:Nat->List Nat} {b k n tb z:Nat} {col:Nat->Nat} {cs l:List AV} {o:List Nat}
structure aEJ(H:Hp)(col:Nat->Nat)(cs:List AV)(out:List (List Nat)):Prop where
 len:cs.length=out.length
 at':∀(i:Nat) (c:AV) (o:List Nat),cs[i]? =some c->out[i]? =some o->(∃b q n m e,c=.sl b q n m e)/\Gl 1 H c o.length (aI o)/\∀ b,In c b->col b=5
structure TMd(H0:Hp)(aS:Nat->List Nat)(s:TS)(col:Nat->Nat)(tb:Nat)(H:Hp)(nx:Nat->AV)(sv ov:AV)(cs:List AV):Prop where
 fm:Fm No H0 H
 base:∀ b,b<H0.nx->col b=9
 ge:H0.nx<=tb
 lt:tb<H.nx
 ct:col tb=0
 get:H.get tb=TB nx s sv ov
 nxt:∀ v,v<256->Gl 1 H (nx v) (aS v).length (aI (aS v))/\∀ b,In (nx v) b->col b=10+v
 stk:Gs 1 H sv s.stk.length (aI s.stk)
 yM:∀ b,In sv b->col b=2
 out:Gl 1 H ov cs.length cs
 ouc:∀ b,In ov b->col b=4
 css:aEJ H col cs s.out
def TM(H0:Hp)(aS:Nat->List Nat)(s:TS)(col:Nat->Nat)(tb:Nat)(H:Hp):Prop:=∃ nx sv ov cs,TMd H0 aS s col tb H nx sv ov cs
theorem aEJ.keep{col a:Nat->Nat}{d:List (List Nat)}(h:aEJ H col cs d)(g:H.nx<=H'.nx)(j:∀ b,b<H.nx->col b=5->H'.get b=H.get b)(k:∀ b,b<H.nx->a b=col b):aEJ H' a cs d:=
 ⟨h.len,fun i c o l m=>by obtain⟨g0,g1,g2⟩:=h.at' i c o l m;exact⟨g0,g1.keep g fun b e f=>j b f (g2 b e),fun b e=>(k b (g1.lt e)).trans (g2 b e)⟩⟩
theorem TMd.step{s:TS}{nx:Nat->AV}{sv ov:AV}(h:TMd H0 aS s col tb H nx sv ov cs)(f:Fm S H H')(p:∀ b,b<H.nx->S b->b=tb\/col b=2\/col b=3){d:Nat->Nat}(j:∀ b,b<H.nx->d b=col b){k:TS}{m:AV}(q:H'.get tb=TB nx k m ov)(i:Gs 1 H' m k.stk.length (aI k.stk))(n:∀ b,In m b->d b=2)(r:k.out=s.out):TMd H0 aS k d tb H' nx m ov cs:=by
 have w:∀ b,b<H0.nx->¬ S b:=fun b a i=>by
  have g:b<H.nx:=af a h.fm.nx;rcases p b g i with e|e|e
  ·have:=h.ge;omega
  ·rw[h.base b a]at e;cases e
  ·rw[h.base b a]at e;cases e
 have o:∀{c:Nat},c≠0->c≠2->c≠3->∀ b,b<H.nx->col b=c->H'.get b=H.get b:=fun{c} t x y b a l=>f.get b a fun i=>by
  rcases p b a i with e|e|e
  ·rw[e,h.ct]at l;exact t l.symm
  ·omega
  ·omega
 exact{
  fm:=h.fm.then f fun b a i=>absurd i (w b a)
  base:=fun b a=>(j b (af a h.fm.nx)).trans (h.base b a)
  ge:=h.ge
  lt:=af h.lt f.nx
  ct:=(j tb h.lt).trans h.ct
  get:=q
  nxt:=fun v u=>by obtain⟨g1,g2⟩:=h.nxt v u;exact⟨g1.keep f.nx fun b a g=>o (c:=10+v) om om om b g (g2 b a),fun b a=>(j b (g1.lt a)).trans (g2 b a)⟩
  stk:=i
  yM:=n
  out:=h.out.keep f.nx fun b a g=>o (c:=4) om om om b g (h.ouc b a)
  ouc:=fun b a=>(j b (h.out.lt a)).trans (h.ouc b a)
  css:=r▸h.css.keep f.nx (o (c:=5) om om om) j}
def qvs(col:Nat->Nat)(H:Hp)(k:Nat):Nat->Nat:=fun b=>if b<H.nx then col b else k
theorem qbr(h:b<H.nx):qvs col H k b=col b:=lEZ h
theorem qgt(h:H.nx<=b):qvs col H k b=k:=lEU om
theorem zdw(y:aU C)(A:1<=k){s:TS}(d:TM H0 aS s col tb H){v:Nat}(L:v<256)(u:s.cnt<=256)(B:s.stk.length<=256):Ok (C k (.f 171) [.ptr tb 0,.int .i64 (.ofNat v)] H) fun r H'=>r=.bB []/\∃ f,(∀b,b<H.nx->f b=col b)/\TM H0 aS (s.enter v) f tb H'/\Fm (fun b=>b=tb\/col b=2) H H':=by
 obtain⟨j,rfl⟩:=aT A;rw[(y j).zDd];unfold zDd z5j;obtain⟨nx,sv,ov,cs,d⟩:=d;have g1:=d.get;have g3:=d.stk;have i:=d.yM;simp(disch:=first|go_size|omega)only[go_sem,rB,rI,rK,rL,rN,rS,r8,lI1,lEW,g1];have m:∀ b,In sv b->b≠tb:=fun b a e=>by have:=i b a;rw[e,d.ct]at this;cases this
 refine Ok.ve (Gs.append (z:=1) (n:=s.stk.length) (l:=aI s.stk) (g3.keep ?_ fun b a o=>?_) ?_ ?_ ?_) ?_
 ·simp only[np,nq];omega
 ·rw[qcf _ _ _ (by simp only[nq];omega)];simp only[zqz,dS _ _ _ _ (m b a)]
 ·rfl
 ·omega
 ·omega
 rintro r H1 ⟨⟨G,I,J,K,rfl⟩,x,q,t⟩;have o:=d.lt;have E:H1.get tb=TB nx {s with cnt:=s.cnt+1,num:=upd s.num v (s.cnt+1),low:=upd s.low v (s.cnt+1),on:=upd s.on v true} sv ov:=by rw[q.get tb gx fun a=>m tb a rfl,qcf _ _ _ (by simp only[nq];omega),dL]
 simp only[go_sem,lI1,lEW,E];have F:Fm (fun b=>b=tb\/col b=2) H H1:=by refine Fm.then (S:=fun b=>b=tb\/col b=2) (Fm.push ?_ _) q fun c M D=>Or.inr (i c D);exact((((Fm.refl _ _).put tb _ fun _=>Or.inl rfl).put tb _ fun _=>Or.inl rfl).put tb _ fun _=>Or.inl rfl).put tb _ fun _=>Or.inl rfl
 have w:=F.put tb (TB nx {s with cnt:=s.cnt+1,num:=upd s.num v (s.cnt+1),low:=upd s.low v (s.cnt+1),on:=upd s.on v true} (.sl G I (s.stk.length+1) J K) ov) fun _=>Or.inl rfl;have p:=q.nx;simp only[np,nq]at p t;refine Ok.ret ⟨rfl,qvs col H 2,fun b a=>qbr a,⟨nx,_,ov,cs,d.step w (fun b _ h=>h.imp id Or.inl) (fun b a=>qbr a) (dL _ _ _) ?_ ?_ rfl⟩,w⟩
 ·have e:aI s.stk++[.int .i64 (.ofNat v)]=aI (s.stk++[v]):=by simp[aI]
  rw[e]at x;show Gs 1 _ _ (s.stk++[v]).length (aI (s.stk++[v]));rw[lEP];refine x.keep (lEO _) fun b a _=>dS _ _ _ _ fun e=>?_;subst e;rcases t b a with g|g
  ·exact m b g rfl
  ·omega
 ·intro b a;rcases t b a with g|g
  ·rw[qbr (g3.lt g)];exact i b g
  ·exact qgt om
theorem qk7(z b o n m:Nat)(e:Bool){a:Nat}(h:a<=n)(c:n<=m)(d:a<m):lC z (.sl b o n m e) (some (.int .i64 (.ofNat a))) none none=.val (.sl b (o+a*z) (n-a) (m-a) e):=by
 show(match bounds n m (some (.int .i64 (.ofNat a))) none none with|some bd=>jF b o z bd e|none=>R0.bad)=_;have:bounds n m (some (.int .i64 (.ofNat a))) none none=some ⟨a,n,m⟩:=by show(match(bif Nat.ble a n then some a else none)with|none=>none|some l=>some (Bd.mk l n m))=_;rw[ble_eq,lI9 h];rfl
 rw[this];show(bif Nat.beq m a then _ else R0.val (.sl b (o+a*z) (n-a) (m-a) e))=_;rw[beq_eq,lIF om];rfl
theorem zcb(z b o n m:Nat)(e:Bool)(h:k<=n)(a:n<=m)(c:0<m):lC z (.sl b o n m e) none (some (.int .i64 (.ofNat k))) none=.val (.sl b o k m e):=by
 show(match bounds n m none (some (.int .i64 (.ofNat k))) none with|some bd=>jF b o z bd e|none=>R0.bad)=_;have:bounds n m none (some (.int .i64 (.ofNat k))) none=some ⟨0,k,m⟩:=by show(match(bif Nat.ble k m then some k else none)with|none=>none|some h=>match(some 0:Option Nat)with|none=>none|some l=>some (Bd.mk l h m))=_;rw[ble_eq,lI9 om];rfl
 rw[this];show(bif Nat.beq m 0 then _ else R0.val (.sl b (o+0*z) (k-0) (m-0) e))=_;rw[beq_eq,lIF om,lY4];rfl
theorem Gs.from{v:AV}(h:Gs 1 H v n l){a:Nat}(k:a<n):∃ w,lC 1 v (some (.int .i64 (.ofNat a))) none none=.val w/\(∃b o n m e,w=.sl b o n m e)/\Rl H w (l.drop a):=by
 have g:=h.rl;have p:l.length=n:=by have:=h.len;omega
 rcases h.is with⟨rfl,c⟩|⟨b,o,m,e,q,L,rfl,c,r,s,t,u,j⟩
 ·omega
 ·refine⟨_,qk7 1 b o n m e om c om,⟨_,_,_,_,_,rfl⟩,?_,fun i f=>?_⟩
  ·show R0.val (.int .i64 (.ofNat (n-a)))=_;simp_all
  ·rw[lIZ]at f;refine⟨b,o+a*1+i,by rw[uY _ _ _ _ _ _ _ _ om];simp only[lI1],j,?_⟩;obtain⟨x,y,d,_,z⟩:=g.at' (a+i) om;rw[uY _ _ _ _ _ _ _ _ om]at d;cases d;have:o+a*1+i=o+(a+i)*1:=om;simp_all
theorem Gs.upto{v:AV}(h:Gs z H v n l)(a:k<=n)(i:0<n):∃ b o m e,lC z v none (some (.int .i64 (.ofNat k))) none=.val (.sl b o k m e)/\Gs z H (.sl b o k m e) k (l.take (k*z))/\∀ c,In (.sl b o k m e) c->In v c:=by
 rcases h.is with⟨rfl,d⟩|⟨b,o,m,e,q,L,rfl,d,j,p,r,s,t⟩
 ·omega
 ·refine⟨b,o,m,e,zcb z b o n m e a d om,?_,fun c f=>?_⟩
  ·exact Gs.cut h a
  ·obtain⟨_,_,_,_,g⟩:=f;cases g;exact⟨_,_,_,_,rfl⟩
theorem zyp(b:aU C)(c:1<=k){s:TS}(a:TM H0 aS s col tb H){v:Nat}(e:v<256)(d:s.low v<s.num v):C k (.f 172) [.ptr tb 0,.int .i64 (.ofNat v)] H=.ok (.bB []) H:=by obtain⟨j,rfl⟩:=aT c;rw[(b j).zDe];unfold zDe zuj;obtain⟨nx,sv,ov,cs,a⟩:=a;have g1:=a.get;simp(disch:=omega)only[go_sem,seval,lI1,lEW,g1,d]
def aDC(on:Nat->Bool):List Nat->Nat->Bool
 | [],x=>on x
 |k::r,x=>aDC (upd on k false) r x
theorem zpy:∀(l:List Nat) (a:Nat->Bool) (x:Nat),aDC a l x=if x∈l then false else a x
 | [],a,x=>by simp[aDC]
 |k::r,a,x=>by
  rw[aDC,zpy r];by_cases h:x∈r
  ·simp[h]
  ·by_cases e:x=k
   ·subst e;simp[h,upd_same]
   ·simp[h,e,upd_ne _ _ e]
theorem zc2{O:Ev.Call}{nx:Nat->AV}{sv ov:AV}{tb:Nat}{comp:List Nat}{w:AV}{s:TS}(g:∀ x∈comp,x<256)(p:comp.length<900000){H1:Hp}(j:Rl H1 w (aI comp)){q:pL}{Q:pS}(d:∀ i b o,i<comp.length->aG 1 w (.int .i64 (.ofNat i))=.val (.ptr b o)->b≠tb)(f:tb<H1.nx)(l:∀ H e,(∀x,e x=if x∈comp then false else s.on x)->H.get tb=TB nx {s with on:=e} sv ov->Fm (fun b=>b=tb) H1 H->Ok (q H) Q):∀(k i:Nat) (H:Hp) (a:Nat->Bool),comp.length-i<k->i<=comp.length->H.get tb=TB nx {s with on:=a} sv ov->Fm (fun b=>b=tb) H1 H->(∀x,aDC a (comp.drop i) x=if x∈comp then false else s.on x) -> Ok (qxb O q (.ptr tb 0) w (.int .i64 (.ofNat comp.length)) k (.int .i64 (.ofNat i)) H) Q
 |0,i,H,a,h,_,_,_,_=>om
 |k+1,i,H,a,h,hi,hg,hF,ho=>by
  show Ok (q5v O _ _ _ _ (qxb O _ _ _ _ k) _ H) Q;unfold q5v;by_cases c:i<comp.length
  ·obtain⟨b,o,m,t,n⟩:=j.at' i (by rw[lM];exact c);rw[qhz]at n;have u:comp[i]<256:=g _ (lEQ _);have r:H.get b=H1.get b:=hF.get b t (d i b o c m);simp only[go_sem,lI1,lEW,c];unfold zi8;simp(disch:=omega)only[go_sem,seval,lI1,lEW,m,r,n,hg];unfold zi9;simp(disch:=go_size)only[go_sem,rB,rI,rK,rL,rN,rS,r8,lI1,lEW];refine zc2 g p j d f l k (i+1) _ (upd a comp[i] false) om om (dL _ _ _) (hF.put _ _ fun _=>rfl) fun x=>?_;rw[<-ho x,lIU c];rfl
  ·simp only[go_sem,lI1,lEW,c];have:i=comp.length:=om;subst this;rw[lXJ]at ho;exact l H a (fun x=>ho x) hg hF
theorem Gl.aAl{v:AV}(h:Gl 1 H v n l){i b o:Nat}(a:i<n)(e:aG 1 v (.int .i64 (.ofNat i))=.val (.ptr b o)):In v b:=by
 rcases h.is with⟨rfl,c⟩|⟨d,f,g,q,L,rfl,_⟩
 ·omega
 ·rw[uY _ _ _ _ _ _ _ _ a]at e;cases e;exact⟨_,_,_,_,rfl⟩
theorem Gl.aE4{z w n:Nat}{v:AV}{l x:List AV}(h:Gl z H v n l)(i:x.length=z)(c:(n+1)*w<=1099511627776)(a:n+1<=1099511627776):Ok (kJ z w H v (some ⟨1,x⟩)) fun b H'=>b=.sl H.nx 0 (n+1) (n+1) false/\Gl z H' b (n+1) (l++x)/\Fm (In v) H H'/\H'.nx=H.nx+1:=by obtain⟨H',d,e,j,f,g⟩:=h.append (w:=w) (k:=1) (x:=x) om om c a;exact⟨_,H',d,rfl,e,f,g⟩
theorem TMd.aOO{s:TS}{nx:Nat->AV}{sv ov:AV}(h:TMd H0 aS s col tb H nx sv ov cs)(f:Fm S H H')(E:∀ b,b<H.nx->S b->b=tb\/col b=4){d:Nat->Nat}(p:∀ b,b<H.nx->d b=col b){r:TS}{x j c:AV}(I:H'.get tb=TB nx r x j)(k:Gs 1 H' x r.stk.length (aI r.stk))(t:∀ b,In x b->In sv b)(F:r.out=s.out++[o])(y:Gl 1 H' j (cs++[c]).length (cs++[c]))(z:∀ b,In j b->d b=4)(A:∃ b q n m e,c=.sl b q n m e)(B:Gl 1 H' c o.length (aI o))(C:∀ b,In c b->d b=5):TMd H0 aS r d tb H' nx x j (cs++[c]):=by
 have M:∀ b,b<H0.nx->¬ S b:=fun b a k=>by
  have l:b<H.nx:=af a h.fm.nx;rcases E b l k with e|e
  ·have:=h.ge;omega
  ·rw[h.base b a]at e;cases e
 have G:∀{c:Nat},c≠0->c≠4->∀ b,b<H.nx->col b=c->H'.get b=H.get b:=fun{c} D N b a u=>f.get b a fun k=>by
  rcases E b a k with e|e
  ·rw[e,h.ct]at u;exact D u.symm
  ·omega
 have g:=h.css.keep f.nx (G (c:=5) om om) p;exact{
  fm:=h.fm.then f fun b a k=>absurd k (M b a)
  base:=fun b a=>(p b (af a h.fm.nx)).trans (h.base b a)
  ge:=h.ge
  lt:=af h.lt f.nx
  ct:=(p tb h.lt).trans h.ct
  get:=I
  nxt:=fun v J=>by obtain⟨g1,g2⟩:=h.nxt v J;exact⟨g1.keep f.nx fun b a l=>G (c:=10+v) om om b l (g2 b a),fun b a=>(p b (g1.lt a)).trans (g2 b a)⟩
  stk:=k
  yM:=fun b a=>(p b (h.stk.lt (t b a))).trans (h.yM b (t b a))
  out:=y
  ouc:=z
  css:=⟨by rw[F,lEP,lEP,g.len];rfl,fun i K L g1 g2=>by
   rw[F]at g2;rcases lOI i cs.length with w|w
   ·rw[lIO w]at g1;rw[lIO (by rw[<-g.len];exact w)]at g2;exact g.at' i K L g1 g2
   ·rw[lIJ w]at g1;rw[lIJ (by rw[<-g.len];exact w),<-g.len]at g2;have D:i-cs.length=0:=by
     have:=(lI2.1 g1).1;simp_all
    rw[D]at g1 g2;cases g1;cases g2;exact⟨A,B,C⟩⟩}
theorem zqn(K:aU C)(hO:uZ C)(hS:tJ C)(hR:uI LA LO C)(hk:300<=k){s:TS}(f:TM H0 aS s col tb H){v:Nat}(hv:v<256)(hl:¬ s.low v<s.num v){pre post:List Nat}(L:s.stk=pre++v::post)(hp:v∉pre)(hst:s.stk.length<=256)(O:∀ x∈s.stk,x<256)(D:s.out.length<=256):Ok (C k (.f 172) [.ptr tb 0,.int .i64 (.ofNat v)] H) fun r H'=>r=.bB []/\∃(comp:List Nat) (p:Nat->Bool) (q:Nat->Nat),comp.Perm (v::post)/\comp.Pairwise (· <= ·)/\(∀x,p x=if x∈comp then false else s.on x) /\ (∀b,b<H.nx->q b=col b)/\TM H0 aS {s with stk:=pre,on:=p,out:=s.out++[comp]} q tb H'/\Fm (fun b=>b=tb\/col b=4) H H':=by
 obtain⟨j,rfl⟩:∃ j,k=j+2:=⟨k-2,om⟩;rw[(K (j+1)).zDe];unfold zDe zuj;obtain⟨nx,sv,ov,cs,f⟩:=f;have g1:=f.get;have g3:=f.stk;have hlen:s.stk.length=pre.length+1+post.length:=by rw[L];simp;omega
 simp(disch:=omega)only[go_sem,seval,lI1,lEW,g1,hl];unfold zi7;simp(disch:=first|go_size|omega)only[go_sem,rB,rI,rK,rL,rN,rS,r8,lI1,lEW,g1];refine Ok.ve (zz7 K (k:=j+1) om g3.rl om L hp) ?_;rintro r H1 ⟨rfl,rfl⟩;obtain⟨w,e1,⟨wb,wo,wn,wm,we,rfl⟩,e2⟩:=g3.from (a:=pre.length) om;have ed:(aI s.stk).drop pre.length=aI (v::post):=by unfold aI;simp_all
 rw[ed]at e2;simp only[go_sem,lI1,lEW,g1,e1]
 -- the component, sorted
 rw[(K j).zDk];unfold zDk z5e;simp only[go_sem,lI1,lEW];generalize B:aK H1 (aB 0 [.sl wb wo wn wm we])=H2;have n2:H2.nx=H1.nx+1:=by rw[<-B];rfl
 have f2:Fm No H1 H2:=by rw[<-B];exact(Fm.refl _ _).push _
 have R:H2.get H1.nx=aB 0 [.sl wb wo wn wm we]:=by rw[<-B,jQ]
 refine Ok.ve (zsk K hO hS hR (k:=j+1) (l:=v::post) (by simp;omega) (by simp) (by simp;omega) (e2.fm f2) R (by omega)) ?_;rintro a9 V ⟨comp,N,c2,A,c4,f3⟩;have t:Fm No H1 V:=f2.trans f3;have hcl:comp.length=post.length+1:=by rw[N.length_eq];rfl
 have T:(v::post).length=comp.length:=by rw[N.length_eq]
 rw[T]at A;have F:∀ b,In a9 b->H1.nx<=b:=fun b d=>by have:=c4 b d;omega
 have e3:=A.aX;simp only[go_sem,lI1,lEW,e3];unfold zja;rw[dD];have G:=f.lt;refine zc2 (s:=s) (sv:=sv) (ov:=ov) (nx:=nx) (comp:=comp) (fun x hx=>O x (by rw[L];exact lOJ _ (N.mem_iff.1 hx))) om A.rl (fun i b o P e d=>?_) (af G t.nx) (fun H4 p ho E Q=>?_) bZ 0 V s.on lf om ((t.keep G).trans g1) (Fm.refl _ _) fun x=>?_
 ·have:=F b (A.aAl P e);omega
 ·-- the rest
  unfold q5u;obtain⟨b5,o5,m5,e5,e6,W,X⟩:=g3.upto (k:=pre.length) om om;rw[lI1]at W;have e9:(aI s.stk).take pre.length=aI pre:=by unfold aI;rw[<-List.map_take,L,List.take_left]
  rw[e9]at W;simp only[go_sem,lI1,lEW,E,e6];have c3f:rH a9=true:=A.flat;rcases A.is with⟨_,h0⟩|⟨J,o9,Y,q9,L9,rfl,_⟩
  ·omega
  simp(disch:=go_size)only[go_sem,seval,lI1,lEW,E];have I:∀ b,In sv b->b≠tb:=fun b d e=>by have:=f.yM b d;rw[e,f.ct]at this;cases this
  have u:∀ b,In ov b->b≠tb:=fun b d e=>by have:=f.ouc b d;rw[e,f.ct]at this;cases this
  have y:Fm (fun b=>b=tb) H1 H4:=(t.mono fun _ _ h=>h.elim).trans (Q.mono fun _ _ h=>h);have hn4:=y.nx;have nn4:=Q.nx;have aMP:cs.length<=256:=by rw[f.css.len];exact D
  refine Ok.ve (Gl.aE4 (z:=1) (n:=cs.length) (l:=cs) (f.out.keep ?_ fun b d m=>?_) ?_ ?_ ?_) ?_
  ·simp only[np,nq];omega
  ·rw[qcf _ _ _ (by simp only[nq];omega),dS _ _ _ _ (u b d)];exact y.get b m (u b d)
  ·rfl
  ·omega
  ·omega
  rintro r Z ⟨rfl,h1,h2,h3⟩;simp only[np,nq]at h1 h3;have gt:Z.get tb=TB nx {s with on:=p} (.sl b5 o5 pre.length m5 e5) ov:=by rw[h2.get tb gx fun d=>u tb d rfl,qcf _ _ _ (by simp only[nq];omega),dL]
  simp only[go_sem,lI1,lEW,gt];have c9':H1.nx<=J:=F J ⟨_,_,_,_,rfl⟩;have f5:Fm (fun b=>b=tb\/col b=4) H1 Z:=by refine Fm.then (S:=fun b=>b=tb\/col b=4) (Fm.push (Fm.put (y.mono fun _ _ h=>Or.inl h) tb _ fun _=>Or.inl rfl) _) h2 fun c hc P=>Or.inr (f.ouc c P)
  have M:=f5.put tb (TB nx {s with on:=p} (.sl b5 o5 pre.length m5 e5) (.sl (H4.nx+1) 0 (cs.length+1) (cs.length+1) false)) fun _=>Or.inl rfl;refine Ok.ret ⟨rfl,comp,p,fun b=>if b<H1.nx then col b else if b=J then 5 else 4,N,c2,ho,fun b d=>lEZ d,⟨nx,_,_,_,f.aOO (c:=.sl J o9 comp.length comp.length Y) (o:=comp) M (fun b _ h=>h) (fun b d=>lEZ d) (dL _ _ _) ?_ X rfl ?_ ?_ ⟨_,_,_,_,_,rfl⟩ ?_ ?_⟩,M⟩
  ·refine W.keep M.nx fun b d m=>M.get b m fun h=>?_;rcases h with h|h
   ·exact I b (X b d) h
   ·have:=f.yM b (X b d);rw[h]at this;cases this
  ·rw[lEP];refine h1.keep (lEO _) fun b d _=>dS _ _ _ _ fun e=>?_;obtain⟨_,_,_,_,g⟩:=d;cases g;omega
  ·rintro b ⟨_,_,_,_,g⟩;cases g;rw[lEU om,lEU om]
  ·refine A.keep (by show V.nx<=Z.nx;omega) fun b d m=>?_;have U:b=J:=by obtain⟨_,_,_,_,g⟩:=d;cases g;rfl
   subst U;rw[dS _ _ _ _ om,h2.get b gx fun d=>by have:=f.out.lt d;omega,qcf _ _ _ (by simp only[nq];omega),dS _ _ _ _ om];exact Q.get b om (by show b≠tb;omega)
  ·rintro b ⟨_,_,_,_,g⟩;cases g;rw[lEU om,lEZ rfl]
 ·rw[zpy];rfl
def yQ(fr:List (Nat×Nat)):List AV:=(fr.map fun p=>[AV.int .i64 (.ofNat p.1),AV.int .i64 (.ofNat p.2)]).flatten
theorem qgx(b:List (Nat×Nat)):(yQ b).length=b.length*2:=by
 induction b with
 |nil=>rfl
 |cons a l ih=>simp[yQ]at ih ⊢;omega
theorem qdm(l:List (Nat×Nat))(p:Nat×Nat):yQ (l++[p])=yQ l++[.int .i64 (.ofNat p.1),.int .i64 (.ofNat p.2)]:=by simp[yQ]
theorem zdp(a b:Nat):qO oO (.int .i64 (.ofNat a)) [.int .i64 (.ofNat b)]=.val (.int .i64 (.ofNat (min a b))):=by rw[q8t];congr 2;simp only[lIA];omega
theorem Gs.aCL{v:AV}{l:List (Nat×Nat)}{u i:Nat}(h:Gs 2 H v (l.length+1) (yQ (l++[(u,i)]))):∃b o,aG 2 v (.int .i64 (.ofNat l.length))=.val (.ptr b o)/\In v b/\b<H.nx/\bI (H.get b) o=.val (.int .i64 (.ofNat u))/\bI (H.get b) (o+1)=.val (.int .i64 (.ofNat i)) /\ ∀a:Nat,∃B,xZ (H.get b) (o+1) [.int .i64 (.ofNat a)]=some B/\∀ H':Hp,H.nx<=H'.nx->H'.get b=B->Gs 2 H' v (l.length+1) (yQ (l++[(u,a)])):=by
 have c:=qgx l;rcases h.is with⟨_,f⟩|⟨b,o,m,e,q,L,rfl,f,g,F,n,D,p⟩
 ·omega
 ·have w:(l.length+1)*2<=m*2:=lO9 _ f;have g0:∀ j x,(yQ (l++[(u,i)]))[j]? =some x->j<(l.length+1)*2->L[o+j]? =some x:=fun j x k r=>by
   rw[<-n,lXM,lEZ r,lU1]at k;exact k
  have y:=g0 (l.length*2) (.int .i64 (.ofNat u)) (by rw[qdm,lIJ om,c,lUV];rfl) om;have z:=g0 (l.length*2+1) (.int .i64 (.ofNat i)) (by rw[qdm,lIJ om,c,show l.length*2+1-l.length*2=1 by omega];rfl) om;refine⟨b,o+l.length*2,uY _ _ _ _ _ _ _ _ om,⟨_,_,_,_,rfl⟩,p,by rw[g,qb3,y],by rw[g,qb3,show o+l.length*2+1=o+(l.length*2+1)by omega,z],fun a=>?_⟩;refine⟨_,by rw[g,qgi,lEZ (by show o+l.length*2+1+1<=L.length;omega)],fun H' s t=>⟨by rw[qgx,lEP];rfl,.inr ⟨b,o,m,e,q,_,rfl,f,t,?_,?_,D,af p s⟩⟩⟩
  ·unfold aY;simp only[lEP,lI6,lIZ,lEX,lIT];omega
  ·have A:(l.length+1)*2=l.length*2+1+1:=om;unfold aY;have C:(L.take (o+l.length*2+1)).length=o+l.length*2+1:=by rw[lI6];omega
   rw[lI5,lO4 om,List.drop_take,show o+l.length*2+1-o=l.length*2+1 by omega,qdm];have d:((L.drop o).take (l.length*2+1)).length=l.length*2+1:=by rw[lI6,lIZ];omega
   rw[A,lXZ,lIW om,d,show l.length*2+1+1-(l.length*2+1)=1 by omega];have E:(L.drop o).take (l.length*2+1)=yQ l++[.int .i64 (.ofNat u)]:=by
    have:((L.drop o).take ((l.length+1)*2)).take (l.length*2+1)=(yQ (l++[(u,i)])).take (l.length*2+1):=by rw[n]
    rw[List.take_take,lOE om]at this;rw[this,qdm,lXZ,lIW om,c,show l.length*2+1-l.length*2=1 by omega];rfl
   simp_all
structure WS(H0:Hp)(N:Nat)(aS:Nat->List Nat)(s:TS)(fr:List (Nat×Nat))(col:Nat->Nat)(tb:Nat)(v:AV)(H:Hp):Prop where
 tm:TM H0 aS s col tb H
 ti:TI N aS s fr
 fr:Gs 2 H v fr.length (yQ fr)
 fc:∀ b,In v b->col b=3
def Le(s s':TS):Prop:=(∀x,0<s.num x->0<s'.num x)/\s.cnt<=s'.cnt
theorem Le.refl(s:TS):Le s s:=⟨fun _ h=>h,lEO _⟩
theorem Le.trans{a b c:TS}(h:Le a b)(k:Le b c):Le a c:=⟨fun x d=>k.1 x (h.1 x d),lI7 h.2 k.2⟩
theorem Le.look(s:TS)(v k:Nat):Le s (s.look v k):=by unfold TS.look;split<;>exact⟨fun _ h=>h,lEO _⟩
theorem Le.enter(s:TS)(b:s.num k=0):Le s (s.enter k):=⟨fun x a=>by
 show 0<upd s.num k (s.cnt+1) x;by_cases e:x=k
 ·simp_all
 ·rw[upd_ne _ _ e];exact a,Nat.le_succ _⟩
structure q9c(N:Nat)(aS:Nat->List Nat):Prop where
 le:N<=256
 lt:∀ u,∀k∈aS u,k<N
 len:∀ u,(aS u).length<200000
theorem zyj(s:TS)(v k:Nat):(s.look v k).cnt=s.cnt:=by unfold TS.look;split<;>rfl
theorem z7x(Y:aU C){j:Nat}(Z:1<=j){H0:Hp}{N:Nat}{aS:Nat->List Nat}(I:q9c N aS){tb:Nat}{l:List (Nat×Nat)}{u f fo:Nat}{v:AV}{s0:TS}{q1 q2:pH}{Q:pS}(hp:aG 2 v (.int .i64 (.ofNat l.length))=.val (.ptr f fo))(A:∀ v' H' E J a,WS H0 N aS E J a tb v' H'->Le s0 E->2*(N-E.cnt)+J.length<2*(N-s0.cnt)+(l.length+1)->Ok (q1 v' H') Q)(D:∀ H' E a,WS H0 N aS E (l++[(u,(aS u).length)]) a tb v H'->Le s0 E->E.cnt=s0.cnt->Ok (q2 v H') Q):∀(k i:Nat) (s:TS) (col:Nat->Nat) (H:Hp),(aS u).length-i<k->WS H0 N aS s (l++[(u,i)]) col tb v H->Le s0 s->s.cnt=s0.cnt -> Ok (qxf (C j) q1 q2 (.ptr tb 0) (.ptr f fo) k v H) Q
 |0,i,s,col,H,h,_,_,_=>om
 |k+1,i,s,col,H,h,hW,hle,hcnt=>by
  show Ok (q53 (C j) _ _ _ _ (qxf (C j) _ _ _ _ k) _ H) Q;unfold q53;have w:=hW.ti;have K:(l++[(u,i)]).length=l.length+1:=g3;have hF:=hW.fr;rw[K]at hF;obtain⟨b,o,e1,e2,e3,e4,e5,e6⟩:=hF.aCL;rw[hp]at e1;cases e1;obtain⟨nx,sv,ov,cs,m⟩:=hW.tm;have g1:=m.get;have zO:u∈s.stk:=w.mF (by rw[qR];simp);have huN:u<N:=w.mR u zO;have hN:=I.le;have hu:u<256:=om;obtain⟨n1,n2⟩:=m.nxt u hu;have n3:=n1.aX;have hil:i<=(aS u).length:=(w.frE (u,i) (lOJ _ (lI3.2 rfl))).1;have hne:f≠tb:=fun e=>by have:=hW.fc f e2;rw[e,m.ct]at this;cases this
  by_cases V:i<(aS u).length
  ·simp(disch:=omega)only[go_sem,lI1,lEW,e4,e5,g1,n3,V,lO7];unfold zaz;obtain⟨b2,o2,m1,m2,m3⟩:=n1.rl.at' i (by rw[lM];exact V);rw[qhz]at m3;obtain⟨B,w1,w2⟩:=e6 (i+1);have hk:(aS u)[i]? =some (aS u)[i]:=by simp[V]
   generalize hkk:(aS u)[i]=x at *;have hxN:x<N:=I.lt u x (lIK hk);have hx:x<256:=om;have hi2:i<900000:=by have:=I.len u;omega
   simp(disch:=go_size)only[go_sem,rB,rI,rK,rL,rN,rS,r8,lI1,lEW,e4,e5,g1,m1,m3,w1,lO7];have F:(H.put f B).get tb=TB nx s sv ov:=by rw[dS _ _ _ _ (Ne.symm hne)];exact g1
   have fB:Fm (fun c=>c=tb\/col c=3) H (H.put f B):=(Fm.refl _ _).put _ _ fun _=>Or.inr (hW.fc f e2);have gF:Gs 2 (H.put f B) v (l.length+1) (yQ (l++[(u,i+1)])):=w2 _ (lEO _) (dL _ _ _);have bHK:Gs 1 (H.put f B) sv s.stk.length (aI s.stk):=m.stk.keep (lEO _) fun c d _=>dS _ _ _ _ fun e=>by have p:=m.yM c d;rw[e,hW.fc f e2]at p;cases p
   have q:TMd H0 aS s col tb (H.put f B) nx sv ov cs:=m.step fB (fun c _ h=>h.imp id Or.inr) (fun _ _=>rfl) F bHK m.yM rfl;by_cases W:s.num x=0
   ·simp only[go_sem,lI1,lEW,W];have tE:TI N aS (s.enter x) ((l++[(u,i+1)])++[(x,0)]):=w.enter W hxN (Or.inr ⟨l,u,i,rfl,hk,rfl⟩);have L:=tE.pW;have L:s.cnt+1<=N:=L;have hsl:s.stk.length<=N:=by have p:=w.lV;have h2:=w.pW;omega
    refine Ok.ve (zdw Y Z ⟨nx,sv,ov,cs,q⟩ hx om om) ?_;rintro r H2 ⟨rfl,a,c1,⟨T,G,U,cs2,y⟩,f2⟩;have hv2:∀ c,In v c->c<H.nx:=fun c d=>hF.lt d;have M:Gs 2 H2 v (l.length+1) (yQ (l++[(u,i+1)])):=gF.fm f2 fun c d=>by
     rintro (e|e)
     ·have:=hW.fc c d;rw[e,m.ct]at this;cases this
     ·have:=hW.fc c d;rw[e]at this;cases this
    have O:∀ c,In v c->a c=3:=fun c d=>(c1 c (hv2 c d)).trans (hW.fc c d);have fl:l.length<=N:=by have p:=w.aAD;rw[K]at p;omega
    simp(disch:=first|go_size|omega)only[go_sem,rB,rI,rK,rL,rN,rS,r8];refine Ok.ve (Gs.append (z:=2) (n:=l.length+1) (l:=yQ (l++[(u,i+1)])) (M.fm ((Fm.refl No _).push _) fun _ _ h=>h) rfl om om) ?_;rintro r H3 ⟨⟨b',o',m',e',rfl⟩,a1,a2,a3⟩;have t:Fm (fun c=>a c=3) H2 H3:=Fm.then (S:=fun c=>a c=3) ((Fm.refl _ _).push _) a2 fun c _ d=>O c d;have n23:=t.nx;simp only[np]at a3;have ht2:H3.get tb=TB T (s.enter x) G U:=(t.get tb y.lt fun e=>by rw[y.ct]at e;cases e).trans y.get;have hs3:Gs 1 H3 G (s.enter x).stk.length (aI (s.enter x).stk):=y.stk.keep n23 fun c d hlt=>t.get c hlt fun e=>by have:=y.yM c d;rw[e]at this;cases this
    refine A _ _ (s.enter x) ((l++[(u,i+1)])++[(x,0)]) (qvs a H2 3) ⟨⟨T,G,U,cs2,y.step t (fun c _ h=>Or.inr (Or.inr h)) (fun c d=>qbr d) ht2 hs3 (fun c d=>by rw[qbr (y.stk.lt d)];exact y.yM c d) rfl⟩,tE,?_,?_⟩ (hle.trans (Le.enter s W)) ?_
    ·rw[qdm];simpa using a1
    ·intro c d;rcases a3 c d with g|g
     ·rw[qbr (M.lt g)];exact O c g
     ·exact qgt om
    ·show 2*(N-(s.cnt+1))+((l++[(u,i+1)])++[(x,0)]).length<_;simp only[lEP,lEX,lIT];omega
   ·simp(disch:=go_size)only[go_sem,rB,rI,rK,rL,rN,rS,r8,lI1,lEW,W];have P:0<s.num x:=om;have tL:=w.look hk P;unfold zjr;have hfr:∀ i',(l++[(u,i')]).length=l.length+1:=fun i'=>g3;cases X:s.on x with
    |false=>
     have R:s.look u x=s:=by unfold TS.look;rw[X];rfl
     rw[R]at tL;simp(disch:=omega)only[go_sem,lI1,lEW,F,X];refine z7x Y Z I hp A D k (i+1) s col _ om ⟨⟨nx,sv,ov,cs,q⟩,tL,?_,hW.fc⟩ hle hcnt;simp_all
    |true=>
     have R:s.look u x={s with low:=upd s.low u (min (s.low u) (s.num x))}:=by unfold TS.look;rw[X];rfl
     have r0:bI ((H.put f B).get f) fo=.val (.int .i64 (.ofNat u)):=by obtain⟨b3,o3,e7,e8,e9,e10,_⟩:=gF.aCL;simp_all
     rw[dL]at r0;simp(disch:=omega)only[go_sem,lI1,lEW,F,X,r0,zdp,lO7];rw[<-R];have fT:Fm (fun c=>c=tb\/col c=3) (H.put f B) ((H.put f B).put tb (TB nx (s.look u x) sv ov)):=(Fm.refl _ _).put _ _ fun _=>Or.inl rfl;refine z7x Y Z I hp A D k (i+1) (s.look u x) col _ om ⟨⟨nx,sv,ov,cs,q.step fT (fun c _ h=>h.imp id Or.inr) (fun _ _=>rfl) (dL _ _ _) ?_ m.yM (by rw[R])⟩,tL,?_,hW.fc⟩ (hle.trans (Le.look s u x)) ((zyj s u x).trans hcnt)
     ·have:(s.look u x).stk=s.stk:=by rw[R]
      rw[this];exact q.stk.keep (lEO _) fun c d _=>dS _ _ _ _ fun e=>by have p:=m.yM c d;rw[e,m.ct]at p;cases p
     ·rw[hfr];exact gF.keep (lEO _) fun c d _=>dS _ _ _ _ fun e=>by have p:=hW.fc c d;rw[e,m.ct]at p;cases p
  ·simp(disch:=omega)only[go_sem,lI1,lEW,e4,e5,g1,n3,V,lO7];have:i=(aS u).length:=om;subst this;exact D H s col hW hle hcnt
end Go.Di
end
