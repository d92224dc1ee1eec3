/-
 For ReachesGoals: functions in direct style, their contracts, and the plain mathematics, part 11 of 11. No conditions beyond those that each theorem states.
-/
import Derived.Test.YtnojgpkbpnimhaaGreatConA
import Derived.Test.YtnojgpkbpnimhaaGreatConJ
import Derived.Test.YtnojgpkbpnimhaaGreatConF
import Derived.Test.YtnojgpkbpnimhaaGreatConH
import Derived.Test.YtnojgpkbpnimhaaGreatEv4
import Derived.Test.YtnojgpkbpnimhaaGreatConI
import Derived.Test.YtnojgpkbpnimhaaGreatEv3
import Derived.ChangeArms
import Derived.DataReads
set_option linter.unusedSimpArgs false
set_option linter.unusedVariables false
open Nat renaming reduceAdd->rB,reduceMul->rI,reduceSub->rK,reduceLeDiff->rL,reduceEqDiff->rN,reduceShiftRight->rS,reduceAnd->r6
noncomputable section
namespace Go.Di
open Go.Ev Go.Di.T Go.Sort
deriving instance DecidableEq for Tu
abbrev aFS:AV->AV->Option Bool:=dQ (eqFields [((pA 3),⟨mW⟩,0),((pA 3),⟨mW⟩,3)])
abbrev aNY:List AV:=[zS,zS,zS,zS,zS,zS]
theorem Tu.eq_iff(x y:Tu):x=y↔goT x=goT y/\suT x=suT y:=by
 constructor
 ·simp_all
 ·obtain⟨a,b,c,d,e,f,o⟩:=x;rintro ⟨g,h⟩;simp only[goT,suT,Prod.mk.injEq]at g h;simp_all
theorem zlt(neg:Bool)(x y:Tu):jT neg (aFS (.agg x.cells) (.agg y.cells))=.val (.bool (bif neg then !decide (x=y)else decide (x=y))):=by
 have e:aFS (.agg x.cells) (.agg y.cells)=some (decide (x=y)):=by
  show andThen (mW (sF (goT x)) (sF (goT y))) (andThen (mW (sF (suT x)) (sF (suT y))) (some true))=_;rw[qpt,qpt];by_cases a:goT x=goT y
  ·by_cases b:suT x=suT y
   ·simp[andThen,a,b,Tu.eq_iff]
   ·simp[andThen,a,b,Tu.eq_iff]
  ·simp[andThen,a,Tu.eq_iff]
 rw[e];rfl
theorem aX7:CpW 6 Tu.cells aFS aNY:=⟨yF,g4,zlt,rfl⟩
theorem q4u(O:Ev.Call)(a:AV)(H:Hp):zIv O a H=zmf O 6 aFS aNY a H:=rfl
theorem q20{k:Nat}(a:1<=k){H:Hp}{b q:Nat}{A:List AV}{S:List Tu}{e:Bool}(c:b<H.nx)(d:S.length<900000)(f:0<S.length)(g:H.get b=aB q (A++S.flatMap Tu.cells++[])):Ok (C k (.f 130) [.sl b A.length S.length S.length e] H) fun w h=>CpO Tu.cells H b q A (jO S) w e h:=by obtain⟨j,rfl⟩:=aP a;rw[lk (qs2 ..),q4u];exact zx4 aX7 c d f g
theorem zh9{k:Nat}(g:1<=k){H:Hp}{v:AV}{l:List Tu}(a:Gl 6 H v l.length (l.flatMap Tu.cells))(u:l.length<=1000):Ok (C k (.f 127) [v] H) fun r i=>Ac 6 Tu.cells H i r l:=by
 obtain⟨j,rfl⟩:=aP g;rw[lk (znk ..)];rcases a.is with⟨rfl,p⟩|⟨b,o,e,q,L,rfl,x,y,z,A,B⟩
 ·have:l=[]:=tu.1 p;subst this;exact Ok.ret (Ac.nil _ _ (Fm.refl _ _))
 ·show Ok (zuz (C j) _ H) _;have f:Fm No H (aI H (aB 0 [])):=(Fm.refl _ _).push _;have n:=(a.no f).src;show Ok (ve (iM 6 96 (aI H (aB 0 [])) (.sl H.nx 0 0 0 true) (lY 6 (aI H (aB 0 [])) (.sl b o l.length l.length e))) fun m H=>.ok m H) _;rw[n];refine Ok.ve (cpG yF (jG _ _) gx om om) ?_;rintro w D ⟨g1,s,t⟩;refine Ok.ret ⟨g1,f.then s fun c d h=>om,fun c d=>?_⟩;rcases t c d with h|h
  ·omega
  ·simp only[np]at h;omega
theorem z7s{α:Type}{R:α->α->Prop}(b:∀ x y,R x y->¬ R y x):∀{l m:List α},l.Pairwise R->m.Pairwise R->(∀x,x∈l↔x∈m)->l=m
 | [],[],_,_,_=>rfl
 | [],y::m,_,_,h=>absurd ((h y).2 ug) g3
 |x::l,[],_,_,h=>absurd ((h x).1 ug) g3
 |x::l,y::m,hl,hm,h=>by
  rw[lE2]at hl hm;have e:x=y:=by
   rcases su.1 ((h x).1 ug)with e|h1
   ·exact e
   ·rcases su.1 ((h y).2 ug)with e|h2
    ·exact e.symm
    ·exact absurd (hm.1 x h1) (b _ _ (hl.1 y h2))
  subst e;congr 1;refine z7s b hl.2 hm.2 fun z=>⟨fun a=>?_,fun a=>?_⟩
  ·rcases su.1 ((h z).1 (uk _ a))with e|h1
   ·subst e;exact absurd (hl.1 z a) (b _ _ (hl.1 z a))
   ·exact h1
  ·rcases su.1 ((h z).2 (uk _ a))with e|h1
   ·subst e;exact absurd (hm.1 z a) (b _ _ (hm.1 z a))
   ·exact h1
theorem zi3{l d:List Tu}(e:kY l)(c:∀ t∈d,t.lo)(f:∀ t,t∈d↔t∈l)(g:d.Pairwise fun a b=>¬ b.key<a.key):jO d=l:=
 z7s (fun _ _ h=>Nat.lt_asymm h) (zma (R:=fun a b=>a.key<b.key) (fun _ _=>xx _) (fun x i y j k m=>(c x i).inj (c y j) om) g) e fun _=>qv3.trans (f _)
structure bAW(c:Ev.Call):Prop where
 srt:∀(H:Hp) (v:AV) (l:List Tu),Gl 6 H v l.length (l.flatMap Tu.cells)->l.length<=1000->(∀t∈l,t.lo)->Ok (c (.f 128) [v,.fn 129 [] []] H) fun r H'=>r=.bA []/\∃ l':List Tu,l'.Perm l/\(l'.Pairwise fun a b=>¬ b.key<a.key)/\Gl 6 H' v l'.length (l'.flatMap Tu.cells)/\Fm (In v) H H'
abbrev qj7(C:Nat->Ev.Call):Prop:=∀ k,bAW (C (k+1))
end Go.Di
end
noncomputable section
namespace Go.Di
open Go.Ev
def lS(l:List UInt8):SS:=⟨l.length,kD l⟩
theorem aPJ{l:List UInt8}(h:l.length=0):kD l=0:=by rw[tu.1 h];rfl
def toT(e:Tb):Tu:=⟨lS e.1.1.1.data.toList,lS e.1.1.2.data.toList,lS e.1.2.data.toList,lS e.2.1.1.data.toList,lS e.2.1.2.data.toList,lS e.2.2.data.toList,aPJ⟩
theorem qxe(es:List Tb):(es.map toT).flatMap Tu.cells=es.flatMap yC:=by rw[lAK];rfl
def stB:List (List UInt8):=[[],[49],[50],[51],[52],[97],[98],[99],[114,48],[114,49],[114,50],[114,51],[114,111,111,116],[117,115,101,114]]
theorem zxj:stB.map lS=gX:=by decide
theorem qr1{s:SS}(h:s∈gX):∃ x:ByteArray,s=lS x.data.toList:=by rw[<-zxj]at h;obtain⟨l,_,rfl⟩:=uC.1 h;exact⟨⟨⟨l⟩⟩,rfl⟩
theorem zxe:∀{l:List Tu},(∀t∈l,t.lo)->∃ es:List Tb,l=es.map toT
 | [],_=>⟨[],rfl⟩
 |t::l,h=>by obtain⟨es,e⟩:=zxe fun q k=>h q (uk _ k);obtain⟨d,f,g,i,j,m⟩:=h t ug;obtain⟨a,n⟩:=qr1 d;obtain⟨b,o⟩:=qr1 f;obtain⟨c,p⟩:=qr1 g;obtain⟨x,r⟩:=qr1 i;obtain⟨y,s⟩:=qr1 j;obtain⟨z,u⟩:=qr1 m;refine⟨(((a,b),c),((x,y),z))::es,?_⟩;congr 1;cases t;subst n o p r s u;rfl
theorem q4k{s t:ByteArray}(a:lS s.data.toList∈gX)(b:lS t.data.toList∈gX):(lD s t<0↔rk (lS s.data.toList)<rk (lS t.data.toList))/\(lD s t=0↔rk (lS s.data.toList)=rk (lS t.data.toList)):=by
 have e:∀{l:List UInt8},lS l∈gX->l∈stB:=fun{l} h=>by rw[<-zxj]at h;obtain⟨m,c,e⟩:=uC.1 h;injection e with e1 e2;rw[<-pack_inj e1 e2];exact c
 have d:∀ x∈stB,∀y∈stB,(Lib.compareBytes x y<0↔rk (lS x)<rk (lS y))/\(Lib.compareBytes x y=0↔rk (lS x)=rk (lS y)):=by decide
 exact d _ (e a) _ (e b)
theorem q3v{a b:Int}{m n p q:Nat}(W:Nat)(c:(a<0↔m<n)/\(a=0↔m=n))(d:(b<0↔p<q)/\(b=0↔p=q))(e:p<W)(f:q<W):(uI a b<0↔m*W+p<n*W+q)/\(uI a b=0↔m*W+p=n*W+q):=by
 obtain⟨c,g⟩:=c;have k:∀{i j:Nat},i<j->i*W+W<=j*W:=fun{i j} h=>by have:=xh W (show i+1<=j from h);rwa [lEM]at this
 unfold uI;rcases Nat.lt_trichotomy m n with h|h|h
 ·have:=k h;omega
 ·simp_all
 ·have:=k h;omega
theorem zml{x y:Tb}(c:(toT x).lo)(d:(toT y).lo):yN x y<0↔(toT x).key<(toT y).key:=by
 have e:∀ a b:B3,lS a.1.1.data.toList∈gX->lS a.1.2.data.toList∈gX->lS a.2.data.toList∈gX->lS b.1.1.data.toList∈gX->lS b.1.2.data.toList∈gX->lS b.2.data.toList∈gX ->
   (qY (qY lD lD) lD a b<0↔k3 (lS a.1.1.data.toList) (lS a.1.2.data.toList) (lS a.2.data.toList)<k3 (lS b.1.1.data.toList) (lS b.1.2.data.toList) (lS b.2.data.toList))/\(qY (qY lD lD) lD a b=0↔k3 (lS a.1.1.data.toList) (lS a.1.2.data.toList) (lS a.2.data.toList)=k3 (lS b.1.1.data.toList) (lS b.1.2.data.toList) (lS b.2.data.toList)):=
  fun a b i f e j g h=>q3v 16 (q3v 16 (q4k i j) (q4k f g) (qil f) (qil g)) (q4k e h) (qil e) (qil h)
 exact(q3v 4096 (e x.1 y.1 c.a c.b c.c d.a d.b d.c) (e x.2 y.2 c.x c.y c.z d.x d.y d.z) (zaz c.x c.y c.z) (zaz d.x d.y d.z)).1
theorem q3b(f i:FuncId)(e:Ext){H:Hp}{v:AV}{l:List Tu}(j:∀ t∈l,t.lo)(h:Gl 6 H v l.length (l.flatMap Tu.cells))(u:l.length<=1000):∃r,qhf f i e f [v,.fn i [] []] H=some r/\Ok r fun r m=>r=.bA []/\∃ c:List Tu,c.Perm l/\(c.Pairwise fun a b=>¬ b.key<a.key)/\Gl 6 m v c.length (c.flatMap Tu.cells)/\Fm (In v) H m:=by
 have p:∀ n:Nat,Nat.beq n n=true:=fun n=>lE7 n;rcases h.is with⟨rfl,C⟩|⟨b,o,x,q,L,rfl,s,D,g,E,F⟩
 ·have:l=[]:=tu.1 C;subst this;refine⟨.ok (.bA []) H,?_,?_⟩
  ·unfold qhf;simp only[p,uB]
  ·exact Ok.ret ⟨rfl,[],.refl _,.nil,h,Fm.refl _ _⟩
 ·obtain⟨es,rfl⟩:=zxe j;rw[qxe]at g;rw[pz]at u ⊢;have A:o+es.length*6=L.length:=by
   have:=congrArg List.length g;rw[vz,qjg]at this;omega
  have d:((qei es).flatMap yC).length=es.length*6:=by rw[qjg,qku]
  have B:qxn H b o es.length=some (.ok (.bA []) (H.put b (aB q (aZ L o ((qei es).flatMap yC))))):=by
   unfold qxn;rw[s,yU,qj (by omega),g,tq (by rw[qjg];omega)];simp only[zru];rw[qb3 H b o _ _ q L s (by omega)];have:Nat.blt es.length 4611686018427387904=true:=by rw[Nat.blt_eq];omega
   simp only[this,uB]
  obtain⟨p1,G⟩:=q94 es;refine⟨_,by unfold qhf;simp only[p,uB];exact B,Ok.ret ⟨rfl,(qei es).map toT,p1.map _,?_,?_,(Fm.refl _ _).put b _ fun _=>⟨_,_,_,_,rfl⟩⟩⟩
  ·rw[List.pairwise_map];have lo:∀ x∈qei es,(toT x).lo:=fun x w=>j _ (xu (p1.mem_iff.1 w));exact G.imp_of_mem fun y z h k=>h ((zml (lo _ z) (lo _ y)).2 k)
  ·rw[qxe,pz,qku];refine⟨by rw[d],.inr ⟨b,o,x,q,aZ L o ((qei es).flatMap yC),rfl,dN _ _ _,?_,?_,E,F⟩⟩
   ·rw[qd7 _ _ _ (by omega)];exact D
   ·unfold aZ;simp_all
open Go.Di.T Go.Sort
theorem z6x{α:Type}{z:Nat}{f:α->List AV}(g:∀ x,(f x).length=z){H:Hp}{b q m:Nat}{e:Bool}{A Z:List AV}{l:List α}(h:H.get b=aB q (A++l.flatMap f++Z))(n:b<H.nx):Rs z f H (.sl b A.length l.length m e) l:=⟨rfl,fun i k=>by
 have a:=qsw g q A Z l k;refine⟨b,A.length+i*z,vL _ _ _ _ _ _ _ _ k,n,⟨_,_,_,_,rfl⟩,by rw[h];exact a,fun j c=>?_⟩;rw[yU]at a;split at a
 ·have o:=Option.some.inj a;have d:j<z:=by rw[g]at c;exact c
  have p:(A++l.flatMap f++Z)[A.length+i*z+j]? =(f l[i])[j]? :=by rw[<-o,lA9,qj d,zg]
  rw[h,qca,p,lq c]
 ·cases a⟩
theorem q9z(M:qj7 C){k:Nat}(hk:2<=k){H:Hp}{v:AV}{l m:List Tu}(N:Gl 6 H v m.length (m.flatMap Tu.cells))(F:m.length<=1000)(u:∀ t∈m,t.lo)(O:kY l)(P:∀ t,t∈m↔t∈l):Ok (C k (.f 68) [v] H) fun r G=>Rs 6 Tu.cells G r l/\Fm No H G/\∀ b,In r b->H.nx<=b:=by
 obtain⟨j,rfl⟩:∃ j,k=j+1+1:=⟨k-2,om⟩;rw[lk (znm ..)];refine Ok.ve (zh9 (k:=j+1) om N F) ?_;intro w H1 D;refine Ok.ve ((M j).srt H1 w m D.gl F u) ?_;rintro _ s ⟨rfl,g,E,W,g2,X⟩;have a:jO g=l:=zi3 O (fun t Q=>u t (E.mem_iff.1 Q)) (fun t=>E.mem_iff.trans (P t)) W;have B:=D.old X;have R:=E.length_eq;rcases g2.is with⟨rfl,y⟩|⟨b,o,e,q,L,rfl,Y,d2,d3,d4,d5⟩
 ·have:g=[]:=tu.1 y;subst this;have d:l=[]:=a.symm;subst d;have p:C (j+1) (.f 130) [.aA] s=.ok .aA s:=by
   rw[lk (qs2 ..)];rfl
  simp only[go_sem];rw[p];exact Ok.ret ⟨Rs.nil _ _ _,B,fun c n=>absurd n (notNil c)⟩
 ·have I:=D.nw b ⟨_,_,_,_,rfl⟩;by_cases y:g=[]
  ·subst y;have d:l=[]:=a.symm;subst d;have p:C (j+1) (.f 130) [.sl b o 0 0 e] s=.ok (.sl b o 0 0 e) s:=by
    rw[lk (qs2 ..)];rfl
   show Ok (ve (C (j+1) (.f 130) [.sl b o 0 0 e] s) _) _;rw[p];exact Ok.ret ⟨⟨rfl,fun i h=>by simp at h⟩,B,fun c n=>by obtain⟨_,_,_,_,h⟩:=n;cases h;exact I⟩
  ·have f:=aj.2 y;have J:(L.take o).length=o:=by rw[qx];omega
   have T:L=L.take o++g.flatMap Tu.cells++[]:=by rw[uf,<-d3,dh]
   have p:=q20 (k:=j+1) om (H:=s) (b:=b) (q:=q) (A:=L.take o) (S:=g) (e:=e) d5 om f (by rw[<-T];exact Y);rw[J,a]at p;refine Ok.ve p ?_;rintro r H3 ⟨⟨z,Z,rfl,z1,z2,z3⟩,f3,n3⟩;rw[J]at *;have d:0<l.length:=aj.2 fun h=>by subst h;have:=(qv3 (S:=g) (x:=g[0])).2 (lg f);rw[a]at this;cases this
   have U:kU 6 (.sl b o l.length z e) none (some (iN (l.length))) (some (iN (l.length)))=.val (.sl b o l.length l.length true):=by
    show(match bounds l.length z none (some (iN (l.length))) (some (iN (l.length)))with|some bd=>iV b o 6 bd true|none=>R0.bad)=_;have:bounds l.length z none (some (iN (l.length))) (some (iN (l.length)))=some ⟨0,l.length,l.length⟩:=by show(match(bif Nat.ble l.length z then some l.length else none)with|none=>none|some m=>match(bif Nat.ble l.length m then some l.length else none)with|none=>none|some h=>match(some 0:Option Nat)with|none=>none|some l=>some (Bd.mk l h m))=_;rw[ble_eq,qc z1];simp only[uB,ble_eq,qc (lu l.length)]
    rw[this];unfold iV;simp only[beq_eq];rw[ql om];rfl
   have V:∀ m e,aD (.sl b o l.length m e)=.val (iN (l.length)):=fun _ _=>rfl;simp only[go_sem,V,U];have K:=z6x (m:=l.length) (e:=true) yF z3 om;rw[qx,yu d2]at K;exact Ok.ret ⟨K,B.then f3 fun c n h=>om,fun c n=>by obtain⟨_,_,_,_,h⟩:=n;cases h;exact I⟩
variable {X:List aQ} {o:List Nat}
theorem qyt{q b:Nat}{L a:List AV}(h:aB q L=aB b a):q=b/\L=a:=by
 have f:q=b:=by injection h
 refine⟨f,?_⟩;have c:=yU q L 0 L.length;have d:=yU b a 0 a.length;rw[qj om,lA4,um]at c d;rw[h,yU]at c;rw[<-h,yU]at d;split at c
 ·split at d
  ·have e:a.length=L.length:=om;simp_all
  ·cases d
 ·cases c
theorem Gl.aAZ{z n w:Nat}{H:Hp}{v x d f:AV}{l:List AV}(h:Gl z H v n l)(g:H.get w=aB 0 [x,.bQ])(i:AV.bQ∉l):Gl z (H.put w (aB 0 [d,f])) v n l:=by
 refine⟨h.len,?_⟩;rcases h.is with h|⟨b,p,e,q,L,rfl,j,c,a,k,m⟩
 ·exact .inl h
 ·refine .inr ?_;by_cases o:b=w
  ·subst o;rw[j]at g;obtain⟨rfl,rfl⟩:=qyt g
   match p,c,a with
   |0,_,a=>exact absurd (by rw[<-a];simp) i
   |1,_,a=>exact absurd (by rw[<-a];simp) i
   |2,_,a=>exact⟨b,2,e,0,[d,f],rfl,dN _ _ _,g3,by rw[<-a];rfl,k,m⟩
   |p+3,c,_=>simp at c
  ·exact⟨b,p,e,q,L,rfl,(dO _ _ _ _ o).trans j,c,a,k,m⟩
theorem Gl.nm{z n:Nat}{H:Hp}{v:AV}{l:List AV}(h:Gl z H v n l):v≠ .bQ:=by rcases h.is with⟨rfl,_⟩|⟨b,p,e,q,L,rfl,_⟩<;>simp
theorem TE.Ok.nm{tg:SS->SS->List SS}{H:Hp}{e:TE}(h:e.Ok tg H):AV.bQ∉pE e:=by
 have a:=h.gl.nm;have b:e.sp≠ .bQ:=by
  rcases h.sp with h|h
  ·exact h.2.nm
  ·rw[h.2];simp
 unfold pE SS.v qyz;cases e.t.leaf<;>simp[Ne.symm a,Ne.symm b]
theorem nP.aAZ{H:Hp}{t p q x:AV}{most w:Nat}{l:List jB}(h:nP X o H t most l)(i:H.get w=aB 0 [x,.bQ]):nP X o (H.put w (aB 0 [p,q])) t most l:=by
 obtain⟨tb,mb,lv,rfl,v,z,m,n,A⟩:=h.ex;have r:tb≠w:=fun e=>by subst e;rw[m]at i;have:=(qyt i).2;simp at this
 have u:mb≠w:=fun e=>by subst e;obtain⟨es,c,g,_⟩:=n.ex;rw[g]at i;cases i
 refine⟨⟨tb,mb,lv,rfl,v,z,(dO _ _ _ _ r).trans m,n.eq (dO _ _ _ _ u),A.aAZ i fun d=>?_⟩,fun e k=>?_,h.p,h.n⟩
 ·obtain⟨e,k,d⟩:=xm.1 d;have a:=(h.ok e k).ty.nm;have b:=(h.ok e k).nd.gl.nm;unfold yO SS.v at d;simp[Ne.symm a,Ne.symm b]at d
 ·have f:=h.ok e k;refine⟨f.ty.aAZ i fun d=>?_,f.nd.gl.aAZ i fun d=>?_,f.nd.is,fun y j=>?_⟩
  ·obtain⟨t,_,d⟩:=xm.1 d;trivial
  ·obtain⟨y,j,d⟩:=xm.1 d;exact(f.nd.ok y j).nm d
  ·have j:=f.nd.ok y j;refine⟨j.gl.aAZ i fun d=>?_,j.sp.imp (fun h=>⟨h.1,h.2.aAZ i fun d=>?_⟩) id⟩
   ·unfold aJ at d;simp at d
   ·obtain⟨s,_,d⟩:=xm.1 d;trivial
variable {LA LO:LP} {L:List (List Nat)}
theorem z7x(n:Nat):rJ 0 n (some [])=.new (.sl n 0 0 0 true) (aB 0 []):=id rfl
theorem aMJ(l:List AV):aS l 0=[]:=id rfl
structure OfM(H0 H:Hp)(mb:Nat)(rs:List (SS×bB)):Prop where
 m:oU H mb rs
 o:H0.nx<=mb/\mb<H.nx
 fm:Fm No H0 H
theorem qyn{O:Ev.Call}{H0:Hp}{sv:AV}{mb pb:Nat}(p:bY H0 sv X)(r:(aF X).Nodup)(l:PrX X){s:Nat}(d:s<X.length){Q:pL}{q:pH}(C:∀ H,OfM H0 H mb (dI X s++X[s].gs.map fun x=>(X[s].name,x))->Ok (q H) Q):∀(k i:Nat) (H:Hp),i<=X[s].gs.length->X[s].gs.length-i<k->OfM H0 H mb (dI X s++(X[s].gs.take i).map fun x=>(X[s].name,x))->H.get pb=aB 0 [.str X[s].name.n X[s].name.a,X[s].rv]->mb<pb->pb<H.nx -> Ok (qta O q (.map mb) (.ptr pb 0) X[s].rv (iN (X[s].gs.length)) k (iN i) H) Q
 |0,i,_,_,h,_,_,_,_=>om
 |k+1,i,H,hi,hk,hI,hp,hpn,hpl=>by
  show Ok (q0w O _ _ _ _ _ (qta O _ _ _ _ _ k) _ H) Q;unfold q0w;obtain⟨v,J⟩:=hI.o;by_cases a:i<X[s].gs.length
  ·simp only[go_sem,a];unfold zdk;have D:=p.fm hI.fm;have e:=D.sp _ (lg d);obtain⟨W,K,L,Y,_,_,_,y⟩:=e.at' i a;have m:=e.rel _ (lg a);obtain⟨c0,z,A,B,_,o⟩:=qk0 m;rw[o]at y;have E:=(l.r _ (lg d)).1;have F:=(l.x _ (lg d) _ (lg a)).1;refine nI L y hp z7x aMJ ?_;obtain⟨H1,b⟩:∃ H1,H1=(Hp.mk ((aI H (aB 0 [zS,.aA,uN 0,zS,zS,.aA])).put H.nx (aB 0 [.str X[s].gs[i].r.name.n X[s].gs[i].r.name.a,X[s].gs[i].tv,c0,z,A,B])).t (H.nx+1+11)).put (H.nx+1+6) (aB 0 []):=⟨_,rfl⟩;have n:Fm No H H1:=by
    rw[b];exact(((Fm.refl No H).push _).aG _ _ (lu _) |>.up2 om).aG _ _ om
   have T:H1.nx=H.nx+12:=by rw[b];rfl
   have k0:H1.get H.nx=aB 0 [.str X[s].gs[i].r.name.n X[s].gs[i].r.name.a,X[s].gs[i].tv,c0,z,A,B]:=by rw[b,dO _ _ _ _ om];exact dN _ _ _
   have G:H1.get (H.nx+1+6)=aB 0 []:=by rw[b];exact dN _ _ _
   have f:=(m.fm n).ty.src qe3 m.nl;rw[<-b,f];refine Ok.iD (cpG qe3 G om om om) ?_;rintro w g ⟨M,j,_⟩;have U:=j.nx;have t:g.get pb=aB 0 [.str X[s].name.n X[s].name.a,X[s].rv]:=(j.get pb om om).trans ((n.keep hpl).trans hp);have I:=(j.get H.nx om om).trans k0;have u:Fm No H g:=n.then j fun c S h=>om;obtain⟨N,P,R⟩:=(hI.m.fm J u).put (X[s].name,X[s].gs[i]) (qnk r d a) (M.rs qe3);simp only[go_sem,seval,t,I,P];unfold zdl;refine aT ?_;refine qyn p r l d C k (i+1) (g.put mb N) om om ⟨?_,⟨v,by show mb<g.nx;omega⟩,(hI.fm.trans u).aG _ _ v⟩ ?_ hpn (by show pb<g.nx;omega)
   ·rw[lh a,ui,ae,<-qw];exact R
   ·rw[dO _ _ _ _ om];exact t
  ·simp only[go_sem,a];have V:i=X[s].gs.length:=om;simp_all
theorem q8g{O:Ev.Call}{H0:Hp}{sv:AV}{mb:Nat}(c:bY H0 sv X)(d:(aF X).Nodup)(b:PrX X){Q:pL}{q:pH}(e:∀ H,OfM H0 H mb (d9 X)->Ok (q H) Q):∀(k s:Nat) (H:Hp),s<=X.length->X.length-s<k->OfM H0 H mb (dI X s) -> Ok (qwn O q (.map mb) sv (iN (X.length)) k (iN s) H) Q
 |0,i,_,_,h,_=>om
 |k+1,s,H,hi,hk,hI=>by
  show Ok (zdm O _ _ _ _ (qwn O _ _ _ _ k) _ H) Q;unfold zdm;obtain⟨r,j⟩:=hI.o;have v:=b.n;by_cases a:s<X.length
  ·simp only[go_sem,a];unfold zdj;have f:=c.fm hI.fm;obtain⟨z,t,u,A,_,l,_⟩:=f.rs.at' s a;unfold yA SS.v at l;have o:=(f.sp _ (lg a)).len;have p:=(b.r _ (lg a)).1;have g:Fm No H ((aI H (aB 0 [zS,.aA])).put H.nx (aB 0 [.str X[s].name.n X[s].name.a,X[s].rv])):=by exact kP
   refine iG u l o ?_;unfold zdn;rw[dD];refine qyn c d b a (pb:=H.nx) (fun m n=>?_) bZ 0 _ (gp _) lf ⟨?_,⟨r,gx⟩,hI.fm.trans g⟩ (dN _ _ _) j gx
   ·unfold qi7;refine aT ?_;refine q8g c d b e k (s+1) m om om ?_;have w:dI X (s+1)=dI X s++X[s].gs.map fun x=>(X[s].name,x):=by
     unfold dI d9;rw[lh a,qy,ry]
    simp_all
   ·rw[lA0,List.map_nil,uf];exact hI.m.fm j g
  ·simp only[go_sem,a];have y:s=X.length:=om;refine e H ?_;have:dI X X.length=d9 X:=by unfold dI;rw[um]
   simp_all
theorem z3k{k:Nat}(o:1<=k){H:Hp}{sv:AV}(m:bY H sv X)(a:dB X):Ok (C k (.f 117) [.agg [sv]] H) fun r c=>∃ b,r=.map b/\oU c b (d9 X)/\b<c.nx/\Fm No H c:=by
 obtain⟨j,rfl⟩:=aP o;rw[lk (zo3 ..)];unfold zEf zzx;have f:Fm No H (aI (aI H (aB 0 [sv])) (.map [] 0)):=by exact qO
 have g:=m.fm f;have l:=g.rs.len;have n:=a.pr.n;refine eP l ?_;unfold zvx;rw[dD];refine q8g (H0:=aI H (aB 0 [sv])) (sv:=sv) (mb:=H.nx+1) (m.fm (by exact jF)) a.al a.pr (fun q d=>?_) bZ 0 _ (gp _) lf ⟨⟨[],0,by simp(disch:=first|go_size|omega)only[go_sem],?_,fun i e p h=>by cases h⟩,⟨gx,gx⟩,by exact jF⟩
 ·unfold gM;exact Ok.ret ⟨_,rfl,d.m,d.o.2,Fm.trans (by exact jF) d.fm⟩
 ·rfl
def tyF(t:Tu)(y:jL):Bool:=decide (y.sp.n=t.x.n/\y.sp.a=t.x.a)&&decide (y.rl.n=t.z.n/\y.rl.a=t.z.a)
def r20(X:List aQ)(t:Tu):Nat:=bif t.ok then(match lF X t.a t.c with|none=>6|some g=>bif g.r.types.any (tyF t)then 0 else 11)else 6
theorem zx9(t:Tu)(ts:List jL):ts.any (tyF t)=decide ((⟨t.x,t.z⟩:jL)∈ts):=by
 rw[lAZ,yl,dC];have h:∀ y:jL,tyF t y=true↔y=⟨t.x,t.z⟩:=fun y=>by
  unfold tyF;rw[qh,yl,yl,<-oD,<-oD];constructor
  ·rintro ⟨a,b⟩;cases y;simp only at a b;rw[a,b]
  ·simp_all
 simp_all
theorem z8h{k:Nat}(p:6<=k){H:Hp}{b:Nat}(c:dB X)(q:oU H b (d9 X))(s:b<H.nx)(t:Tu):Ok (C k (.f 118) [.map b,.agg t.cells] H) fun r u=>r=iN ((r20 X t))/\Fm No H u:=by
 obtain⟨j,rfl⟩:=aP p;rw[lk (zo2 ..)];unfold zEg zzw;have w:qI 6 H.nx (.agg t.cells)=.new (.ptr H.nx 0) (aB 0 t.cells):=id rfl;have y:aB 0 t.cells=aB 0 [.str t.a.n t.a.a,.str t.b.n t.b.a,.str t.c.n t.c.a,.str t.x.n t.x.a,.str t.y.n t.y.a,.str t.z.n t.z.a]:=id rfl;have D:AV.agg [.str t.a.n t.a.a,.str t.b.n t.b.a,.str t.c.n t.c.a,.str t.x.n t.x.a,.str t.y.n t.y.a,.str t.z.n t.z.a]=.agg t.cells:=id rfl;refine eF w y ?_;refine Ok.ve (zio (k:=j) om t _) ?_;rintro _ H1 ⟨rfl,i⟩;have d:Fm No H H1:=Fm.trans (by exact jF) i;unfold r20;cases t.ok with
 |false=>exact Ok.ret ⟨rfl,d⟩
 |true=>
  unfold zdi;have g1:H1.get H.nx=aB 0 [.str t.a.n t.a.a,.str t.b.n t.b.a,.str t.c.n t.c.a,.str t.x.n t.x.a,.str t.y.n t.y.a,.str t.z.n t.z.a]:=(i.keep gx).trans (by simp(disch:=omega)only[go_sem]);have e:=q.fm s d;by_cases a:(t.a,t.c)∈(d9 X).map kq
  ·obtain⟨v,f,l⟩:=e.find .aA a;rw[uV]at a l;obtain⟨x,m,B⟩:=qda c.al c.sp a;have z:=l _ B;simp only[go_sem,seval,g1,f];refine Ok.ve (qly (k:=j) om z (by have:=qzc c.pr.sml m;show x.r.types.length<=1000;omega) ⟨t.x,t.z⟩) ?_;rintro _ E ⟨rfl,n⟩;rw[m];simp only;rw[zx9];by_cases o:(⟨t.x,t.z⟩:jL)∈x.r.types
   ·rw[qc o];exact Ok.ret ⟨rfl,d.trans n⟩
   ·rw[ql o];exact Ok.ret ⟨rfl,d.trans n⟩
  ·have f:=e.miss .aA a;rw[uV]at a;have A:lF X t.a t.c=none:=by
    have:=qhr c.al c.sp t.a t.c;rw[ql a]at this;cases h:lF X t.a t.c with
    |none=>rfl
    |some g=>rw[h]at this;cases this
   rw[A];simp only[go_sem,seval,g1,f];exact Ok.ret ⟨rfl,d⟩
theorem qzw{j:Nat}(g:6<=j){H0:Hp}{b:Nat}{v:AV}{l:List Tu}(m:dB X)(n:oU H0 b (d9 X))(f:b<H0.nx)(o:Rs 6 Tu.cells H0 v l)(u:l.length<=40){Q:pL}{qr:AV->pD}{q:pH}(p:∀(i:Nat) (h:i<l.length) H,r20 X l[i]≠0->(∀t∈l.take i,r20 X t=0)->Fm No H0 H->Ok (qr (iN i) (iN ((r20 X l[i]))) H) Q)(r:∀ H,(∀t∈l,r20 X t=0)->Fm No H0 H->Ok (q H) Q):∀(k i:Nat) (H:Hp),i<=l.length->l.length-i<k->(∀t∈l.take i,r20 X t=0)->Fm No H0 H -> Ok (q5f (C j) qr q (.map b) v (iN (l.length)) k (iN i) H) Q
 |0,i,_,_,h,_,_=>om
 |k+1,i,H,hi,hk,ha,hf=>by
  show Ok (zdx (C j) _ _ _ _ _ (q5f (C j) _ _ _ _ _ k) _ H) Q;unfold zdx;by_cases a:i<l.length
  ·refine eP a ?_;unfold zdw;obtain⟨z,A,w,B,x⟩:=(o.fm hf).oZ a;have s:Fm No H ((aI H (aB 0 [zS,zS,zS,zS,zS,zS])).put H.nx (aB 0 l[i].cells)):=fm;refine jD w x yF qkr ?_;refine Ok.ve (z8h g m ((n.fm f hf).fm (ku f hf.nx) s) (by have:=hf.nx;(go_size)) l[i]) ?_;rintro _ H1 ⟨rfl,y⟩;have c:=(hf.trans s).trans y;by_cases e:r20 X l[i]=0
   ·rw[e];refine aT ?_;unfold qi7;refine aT ?_;refine qzw g m n f o u p r k (i+1) H1 om om (fun t d=>?_) c;rw[lh a,qi,qf]at d;rcases d with d|rfl
    ·exact ha t d
    ·exact e
   ·refine eP e ?_;exact p i a H1 e ha c
  ·refine eP a ?_;exact r H (by rw[tq om]at ha;exact ha) hf
def fb(X:List aQ):List Tu->Nat×Nat
 | []=>(0,0)
 |t::l=>if r20 X t=0 then((fb X l).1+1,(fb X l).2)else(0,r20 X t)
theorem zlp:∀{l:List Tu},(∀t∈l,r20 X t=0)->fb X l=(l.length,0)
 | [],_=>rfl
 |t::l,h=>by unfold fb;rw[qj (h t ug),zlp fun u a=>h u (uk _ a)];rfl
theorem z9d:∀{l:List Tu} {i:Nat} (h:i<l.length),r20 X l[i]≠0->(∀t∈l.take i,r20 X t=0)->fb X l=(i,r20 X l[i])
 | [],_,h,_,_=>by simp at h
 |t::l,0,_,h0,_=>by unfold fb;simp_all
 |t::l,i+1,h,h0,ha=>by unfold fb;rw[qj (ha t g3),z9d (l:=l) (i:=i) (by simpa using h) (by simpa using h0) fun u a=>ha u (by rw[iq];exact uk _ a)];rfl
theorem z3v(p:iQ C)(q:qer C)(s:pJ C)(u:qbv C)(w:oL LA LO C){k:Nat}(x:1004<=k){H:Hp}{sv v:AV}{l:List Tu}(e:bY H sv X)(h:SOK X)(g:Rs 6 Tu.cells H v l)(y:l.length<=40):Ok (C k (.f 66) [.agg [sv],v] H) fun r z=>r=.bA [iN ((fb X l).1),iN ((fb X l).2)]/\Fm No H z:=by
 obtain⟨j,rfl⟩:=aP x;rw[lk (zo6 ..)];unfold zDz zz0;refine aT ?_;have f:Fm No H (aI H (aB 0 [sv])):=fm;refine Ok.ve (z95 p q s u w (k:=j) om (e.fm f) h) ?_;rintro _ H1 ⟨rfl,o⟩;have m:=f.trans o;have g0:H1.get H.nx=aB 0 [sv]:=(o.keep gz).trans g5;refine aT ?_;unfold zdv;refine eP g0 ?_;refine Ok.ve (z3k (k:=j) om (e.fm m) h.val) ?_;rintro _ F ⟨b,rfl,G,I,J⟩;have d:=m.trans J;have n:=g.len;refine eP n ?_;unfold zvz;rw[dD];refine qzw om h.val G I (g.fm d) y (fun i A B D a c=>?_) (fun B a c=>?_) bZ 0 F (gp _) lf (fun t E=>by simp at E) (Fm.refl _ _)
 ·rw[z9d A D a];exact Ok.ret ⟨rfl,d.trans c⟩
 ·rw[zlp a];unfold zdu;refine eP n ?_;exact Ok.ret ⟨rfl,d.trans c⟩
theorem MB.put{T:List Tu}{H0 H:Hp}{b w:Nat}{es:List gD}{d:List G3}(h:MB H0 H b T es d)(l:w<H0.nx)(f:b≠w)(k:bW):MB H0 (H.put w k) b T es d:=
 ⟨(dO _ _ _ _ f).trans h.get,h.key,h.born,h.mem,h.nd,fun i e g a c=>(h.val i e g a c).fm ((Fm.refl (· =w) H).put w k fun _=>rfl) fun x j=>by have:=h.nw i e x a j;omega,h.nw,h.dj⟩
theorem zxa(F:iQ C)(G:qer C)(I:pJ C)(J:qbv C)(K:oL LA LO C)(V:qj7 C){k:Nat}(W:1005<=k){H:Hp}{sv v:AV}{l m:List Tu}(L:bY H sv X)(h:SOK X)(M:Gl 6 H v m.length (m.flatMap Tu.cells))(Y:m.length<=40)(w:∀ t∈m,t.lo)(Z:kY l)(hm:∀ t,t∈m↔t∈l)(hll:l.length<=20)(hf:(fb X m).2=0):Ok (C k (.f 24) [.agg [sv],v] H) fun r q=>∃ t b o n Hb es x,r=.bA [.agg [t,.map b],iN 0]/\nP X o q t (mnA X o) n/\n.length<300/\MB Hb q b l es x/\b<q.nx/\Fm No H q:=by
 obtain⟨j,rfl⟩:=aP W;rw[lk (znq ..)];unfold zIm zyn;have z:Fm No H (aI (aI H (aB 0 [sv])) (aB 0 [.bJ,.bQ])):=by(repeat refine Fm.push ?_ _);exact Fm.refl _ _
 refine aT ?_;refine Ok.ve (z3v F G I J K (k:=j) om (L.fm z) h ((M.no z).rs yF) Y) ?_;rintro _ H1 ⟨rfl,s⟩;rw[hf];have P:=z.trans s;have n1:=s.nx;simp only[np]at n1;have k0:H1.get H.nx=aB 0 [sv]:=(s.keep g1).trans g6;unfold zb7;simp only[go_sem,seval,k0];refine Ok.ve (z92 F G I J K (k:=j) om (L.fm P) h) ?_;rintro _ a ⟨t,o,n,rfl,_,f,E⟩;have n2:=E.nx;have Q:=P.trans E;have A:n.length<300:=by have:=congrArg List.length f.p;rw[pz,qjn]at this;have:=h.len;omega
 obtain⟨tb,_,_,rfl,_⟩:=f.ex;have cm:uQ (.map a.nx)=some [.map a.nx]:=rfl;have ct:uQ (.ptr tb 0)=some [.ptr tb 0]:=rfl;have ag:∀ l:List AV,bP (some l)=.val (.agg l):=fun _=>rfl;refine iG cm ct ag ?_;have R:Fm No a ((aI (aI a (.map [] 0)) (aB 0 [.bJ,.bQ])).put (a.nx+1) (aB 0 [.ptr tb 0,.map a.nx])):=by repeat first|exact Fm.refl _ _|assumption|refine Fm.push ?_ _|refine Fm.aG ?_ _ _ om
 refine Ok.ve (q9z V (k:=j) om (M.no (Q.trans R)) om w Z hm) ?_;rintro rv p ⟨g4,u,U⟩;have n4:=u.nx;simp only[np,nq]at n4 U;have e0:=g4.len;have kb:p.get a.nx=.map [] 0:=(u.keep g1).trans g6;have S:p.get (a.nx+1)=aB 0 [.ptr tb 0,.map a.nx]:=(u.keep gx).trans g5;refine eP e0 ?_;unfold zca;rw[dD];refine aOr (H0:=p) (b:=a.nx) (tv:=.ptr tb 0) g4 (fun c N h=>by have:=U c N;omega) S om om om om (fun O es x hM y=>?_) bZ 0 p [] [] (gp _) lf ⟨kb,rfl,fun i e h=>by simp at h,fun t h=>by simp at h,List.nodup_nil,fun i e g h=>by simp at h,fun i e c h=>by simp at h,fun i j e e' c _ h=>by simp at h⟩ (Fm.refl _ _);unfold q0e;have n5:=y.nx;have B:=(y.get (a.nx+1) om om).trans S;have D:=R.trans u;have d:Fm No a O:=D.then y fun c N h=>om;have T:O.get (H.nx+1)=aB 0 [.bJ,.bQ]:=(((s.trans E).trans d).keep gz).trans g5;refine eF B T ?_;refine Ok.ret ⟨_,a.nx,o,n,p,es,x,rfl,(f.fm d).aAZ T,A,hM.put om om _,by(go_size),(Q.trans d).aG _ _ om⟩
def tF(X:List aQ)(g:G3):Bool:=okG g&&decide ((g.1.1,g.2)∈aF X)
theorem q75(A:iQ C)(B:qer C)(D:pJ C)(E:qbv C)(F:oL LA LO C)(G:qj7 C){k:Nat}(I:1006<=k){H:Hp}{sv v:AV}{l m:List Tu}(J:bY H sv X)(h:SOK X)(K:Gl 6 H v m.length (m.flatMap Tu.cells))(L:m.length<=40)(f:∀ t∈m,t.lo)(M:kY l)(N:∀ t,t∈m↔t∈l)(d:l.length<=20)(O:(fb X m).2=0)(g:G3):Ok (C k (.f 8) [.agg [sv],v,.agg (gC g)] H) fun r P=>∃ w,r=.bA [w,iN ((if tF X g then 0 else 6))]/\Ac 3 gC H P w (if tF X g then nJ X l g else[])/\dU w=.val (iN ((if tF X g then nJ X l g else[]).length)):=by
 obtain⟨j,rfl⟩:=aP I;rw[lk (znw ..)];unfold zIg zyt;have Q:gC g=[.str g.1.1.n g.1.1.a,.str g.1.2.n g.1.2.a,.str g.2.n g.2.a]:=rfl;rw[Q];have i:Fm No H (aI (aI H (aB 0 [sv])) (aB 0 [.str g.1.1.n g.1.1.a,.str g.1.2.n g.1.2.a,.str g.2.n g.2.a])):=by(repeat refine Fm.push ?_ _);exact Fm.refl _ _
 refine aT ?_;refine Ok.ve (zxa A B D E F G (k:=j) om (J.fm i) h (K.no i) L f M N d O) ?_;rintro _ H1 ⟨t,b,o,Z,Hb,es,gs,rfl,c,e,T,U,q⟩;have s:=i.trans q;have R:=q.nx;simp only[np]at R;obtain⟨tb,_,_,rfl,_⟩:=c.ex;have u:H1.get (H.nx+1)=aB 0 [.str g.1.1.n g.1.1.a,.str g.1.2.n g.1.2.a,.str g.2.n g.2.a]:=(q.keep gz).trans g5;have x:Fm No H1 ((aI H1 (aB 0 [.bJ,.bQ])).put H1.nx (aB 0 [.ptr tb 0,.map b])):=by exact kP
 unfold zcg;refine eP u ?_;refine Ok.ve (zl9 (k:=j) om (c.fm x) h.val e g) ?_;rintro _ V ⟨rfl,y⟩;have a:=x.trans y;have Y:=a.nx;have S:V.get H1.nx=aB 0 [.ptr tb 0,.map b]:=(y.keep gx).trans (by simp only[go_sem,seval]);have n:=(a.keep om).trans u;rw[show(okG g&&decide ((g.1.1,g.2)∈aF X))=tF X g from rfl];cases W:tF X g with
 |false=>exact Ok.ret ⟨.aA,rfl,Ac.nil _ _ (s.trans a),rfl⟩
 |true=>
  unfold zch;have p:(g.1.1,g.2)∈aF X:=by unfold tF at W;simp_all
  simp only[go_sem,seval,S,n];refine Ok.ve (q60 (k:=j) om (T.fm a U) om d (c.fm a) h.val e p) ?_;intro w H3 z;exact Ok.ret ⟨w,rfl,z.1.trans (s.trans a),z.2⟩
theorem qx9(z:iQ C)(A:qer C)(B:pJ C)(D:qbv C)(E:oL LA LO C)(F:qj7 C){k:Nat}(G:1006<=k){H:Hp}{sv v:AV}{l m:List Tu}(I:bY H sv X)(h:SOK X)(J:Gl 6 H v m.length (m.flatMap Tu.cells))(K:m.length<=40)(i:∀ t∈m,t.lo)(L:kY l)(M:∀ t,t∈m↔t∈l)(e:l.length<=20)(N:(fb X m).2=0)(g:G3){U:List G3}(O:tF X g=true->Stk X U (nJ X l)/\g∈U):Ok (C k (.f 9) [.agg [sv],v,.agg (gC g)] H) fun r P=>∃ w,r=.bA [w,iN ((if tF X g then 0 else 6))]/\Ac 3 gC H P w (if tF X g then aCQ (nJ X l) g else[])/\dU w=.val (iN ((if tF X g then aCQ (nJ X l) g else[]).length)):=by
 obtain⟨j,rfl⟩:=aP G;rw[lk (znv ..)];unfold zIh zys;have Q:gC g=[.str g.1.1.n g.1.1.a,.str g.1.2.n g.1.2.a,.str g.2.n g.2.a]:=rfl;rw[Q];have n:Fm No H (aI (aI H (aB 0 [sv])) (aB 0 [.str g.1.1.n g.1.1.a,.str g.1.2.n g.1.2.a,.str g.2.n g.2.a])):=by(repeat refine Fm.push ?_ _);exact Fm.refl _ _
 refine aT ?_;refine Ok.ve (zxa z A B D E F (k:=j) om (I.fm n) h (J.no n) K i L M e N) ?_;rintro _ H1 ⟨t,b,o,tl,Hb,es,gs,rfl,d,f,T,V,q⟩;have s:=n.trans q;have R:=q.nx;simp only[np]at R;obtain⟨tb,_,_,rfl,_⟩:=d.ex;have u:H1.get (H.nx+1)=aB 0 [.str g.1.1.n g.1.1.a,.str g.1.2.n g.1.2.a,.str g.2.n g.2.a]:=(q.keep gz).trans g5;have x:Fm No H1 ((aI H1 (aB 0 [.bJ,.bQ])).put H1.nx (aB 0 [.ptr tb 0,.map b])):=by exact kP
 unfold zce;refine eP u ?_;refine Ok.ve (zl9 (k:=j) om (d.fm x) h.val f g) ?_;rintro _ W ⟨rfl,y⟩;have a:=x.trans y;have n3:=a.nx;have S:W.get H1.nx=aB 0 [.ptr tb 0,.map b]:=(y.keep gx).trans (by simp only[go_sem,seval]);have p:=(a.keep om).trans u;rw[show(okG g&&decide ((g.1.1,g.2)∈aF X))=tF X g from rfl];cases hd:tF X g with
 |false=>exact Ok.ret ⟨.aA,rfl,Ac.nil _ _ (s.trans a),rfl⟩
 |true=>unfold zcf;obtain⟨Y,Z⟩:=O hd;simp only[go_sem,seval,S,p];refine Ok.ve (zh5 (k:=j) om (T.fm a V) om e (d.fm a) h.val f Y Z) ?_;rintro _ H3 ⟨w,c,rfl,h3,c3⟩;exact Ok.ret ⟨w,rfl,h3.trans (s.trans a),c3⟩
theorem lg1{O:Ev.Call}{H:Hp}{v w:AV}{l:List G3}(d:Rs 3 gC H v l)(c:Rs 3 gC H w l)(g:l.length<=900000){Q:pL}{qr:pD}{q:pH}(e:Ok (q H) Q):∀(k i:Nat),i<=l.length->l.length-i<k->Ok (q40 O qr q v w k (iN i) H) Q
 |0,i,_,h=>om
 |k+1,i,hi,hk=>by
  show Ok (zcd O _ _ _ _ (q40 O _ _ _ _ k) _ H) Q;unfold zcd;have f:=c.len;by_cases a:i<l.length
  ·simp only[go_sem,f,a];unfold zu4;obtain⟨b,o,m,_,n⟩:=d.oZ a;obtain⟨s,t,p,_,r⟩:=c.oZ a;have j:=aDB l[i] l[i];simp only[go_sem,m,n,p,r,j,qg1];unfold qh0;refine aT ?_;exact lg1 d c g e k (i+1) om om
  ·simp only[go_sem,f,a];exact e
theorem Ok.is{r:R1}{v:AV}{H:Hp}(h:Ok r fun a b=>a=v/\b=H):r=.ok v H:=by obtain⟨_,_,e,rfl,rfl⟩:=h;exact e
theorem qfa{k:Nat}(c:1<=k){H:Hp}{v w:AV}{l:List G3}(a:Gl 3 H v l.length (l.flatMap gC))(d:dU v=.val (iN (l.length)))(b:Rs 3 gC H w l)(f:l.length<=900000)(e:Nat):C k (.f 10) [v,iN e,w,iN e] H=.ok (.bool true) H:=by obtain⟨j,rfl⟩:=aP c;rw[lk (znt ..)];unfold zIj zyq;refine Ok.is ?_;have g:=a.bM;have h:=b.len;simp only[go_sem,g,h,d];unfold zcc zu6;rw[dD];refine lg1 (a.rs vP) b f ?_ bZ 0 (gp _) lf;exact Ok.ret ⟨rfl,rfl⟩
theorem qo7{O:Ev.Call}{s:SS}{H:Hp}{Q:pL}{q:pD}(j:s.n<=16)(l:Ok (q (.bool (okI s s.n)) H) Q):∀(k i:Nat) (b:Bool),i<=s.n->s.n-i<k->okI s i=b->(b=false->okI s s.n=false)->Ok (qra O q s.v k (.bool b) (iN i) H) Q
 |0,i,_,_,h,_,_=>om
 |k+1,i,b,hi,hk,ho,hb=>by
  show Ok (qwm O _ _ (qra O _ _ k) _ _ H) Q;unfold qwm SS.v;by_cases a:i<s.n
  ·cases b with
   |false=>simp only[go_sem,a];simp_all
   |true=>
    simp only[go_sem,a];unfold zdg;have d:=qy4 s a;have next:Ok (yP O (qra O q s.v k) (.bool (okB (qeq s.a i))) (iN i) H) Q:=by
     unfold yP;refine aT ?_;refine qo7 j l k (i+1) _ om om (by rw[qnn,ho,Bool.true_and]) fun h=>?_;cases m:okI s s.n with
     |false=>rfl
     |true=>have:=zxu (show i+1<=s.n by omega) m;rw[qnn,h,Bool.and_false]at this;cases this
    unfold SS.v at next
    generalize qeq s.a i=x at *;unfold okB at next
    by_cases c:97<=x
    ·by_cases g:x<=122
     ·simp only[go_sem,d,c,g];simp only[c,g,decide_true,Bool.and_self,Bool.true_or]at next
      exact next
     ·have e:48<=x:=om;have f:¬ x<=57:=om;simp only[go_sem,d,c,g,e,f];simp_all
    ·by_cases e:48<=x
     ·by_cases f:x<=57
      ·simp only[go_sem,d,c,e,f];simp_all
      ·simp only[go_sem,d,c,e,f];simp_all
     ·simp only[go_sem,d,c,e];simp_all
  ·simp only[go_sem,a];have n:i=s.n:=om;simp_all
theorem qo6{k:Nat}(i:1<=k)(s:SS)(H:Hp):Ok (C k (.f 76) [s.v] H) fun r c=>r=iN ((nmE s))/\Fm No H c:=by
 obtain⟨j,rfl⟩:=aP i;rw[lk (zot ..)];unfold zEr zzn SS.v;have fin:∀ b,b=iO s->Ok (qwl (C j) (.bool b) H) fun r c=>r=iN ((nmE s))/\Fm No H c:=fun b f=>by
  unfold qwl nmE;rw[<-f];cases b
  ·simp only[go_sem];exact Ok.ret ⟨rfl,Fm.refl _ _⟩
  ·simp only[go_sem];exact Ok.ret ⟨rfl,Fm.refl _ _⟩
 have a:∀ b,iO s=b->b=false->(0<s.n/\s.n<=16->False)->Ok (q5b (C j) (fun l H=>qwl (C j) l H) (.str s.n s.a) (.bool false) (iN 0) H) fun r c=>r=iN ((nmE s))/\Fm No H c:=fun b f o _=>by
  unfold q5b;obtain⟨m,n⟩:∃ m,bZ=m+1:=⟨999999,by rw[wH]⟩;rw[dD,n];show Ok (qwm (C j) _ _ (qra (C j) _ _ m) _ _ H) _;unfold qwm;by_cases g:0<s.n
  ·simp only[go_sem,g];simp_all
  ·simp only[go_sem,g];simp_all
 by_cases d:0<s.n
 ·by_cases e:s.n<=16
  ·simp only[go_sem,d,e];unfold q5b;rw[dD];refine qo7 e (fin _ ?_) bZ 0 true (gp _) lf rfl (fun h=>by cases h);unfold iO;simp_all
  ·simp only[go_sem,d,e];exact a _ rfl (by unfold iO;rw[ql e,Bool.false_and,Bool.and_false]) (fun h=>e h.2)
 ·simp only[go_sem,d];exact a _ rfl (by unfold iO;rw[ql d,Bool.false_and]) (fun h=>d h.1)
theorem zkf(a b:Bool):max (wD a) (wD b)=wD (a&&b):=by cases a<;>cases b<;>rfl
theorem zae{k:Nat}(b:2<=k)(x y:SS)(H:Hp):Ok (C k (.f 75) [.agg [x.v,y.v]] H) fun r c=>r=iN ((wD (iO x&&iO y)))/\Fm No H c:=by
 obtain⟨j,rfl⟩:=aP b;rw[lk (zou ..)];unfold zEq zzo SS.v;simp(disch:=go_size)only[go_sem,seval];refine Ok.iD (qo6 (k:=j) om x _) ?_;rintro _ H1 ⟨rfl,a⟩;have g1:H1.get H.nx=aB 0 [.str x.n x.a,.str y.n y.a]:=by rw[a.keep gz];simp(disch:=omega)only[go_sem,seval]
 simp only[go_sem,g1];refine Ok.iD (qo6 (k:=j) om y _) ?_;rintro _ g ⟨rfl,f⟩;rw[zsz,zsz];have d:=aIc (wD (iO x)) (wD (iO y));have e:=zkf (iO x) (iO y);simp only[go_sem,qp1,d,e];refine Ok.ret ⟨rfl,?_⟩;exact Fm.trans (Fm.trans (by exact jF) a) f
theorem zsf{k:Nat}(b:3<=k)(x y z:SS)(H:Hp):Ok (C k (.f 31) [.agg [x.v,y.v,z.v]] H) fun r c=>r=iN ((wD (iO x&&(iO y&&iO z))))/\Fm No H c:=by
 obtain⟨j,rfl⟩:=aP b;rw[lk (zoy ..)];unfold zEl zzs SS.v;simp(disch:=go_size)only[go_sem,seval];refine Ok.iD (zae (k:=j) om x y _) ?_;rintro _ H1 ⟨rfl,a⟩;have g1:H1.get H.nx=aB 0 [.str x.n x.a,.str y.n y.a,.str z.n z.a]:=by rw[a.keep gz];simp(disch:=omega)only[go_sem,seval]
 simp only[go_sem,g1];refine Ok.iD (qo6 (k:=j) om z _) ?_;rintro _ g ⟨rfl,f⟩;rw[zsz];have d:=aIc (wD (iO x&&iO y)) (wD (iO z));have e:=zkf (iO x&&iO y) (iO z);simp only[go_sem,qp1,d,e];refine Ok.ret ⟨by simp[Bool.and_assoc],?_⟩;exact Fm.trans (Fm.trans (by exact jF) a) f
theorem zsg{k:Nat}(B:4<=k){H:Hp}{sv:AV}{X:List aQ}(s:bY H sv X)(f:dB X)(g:G3):Ok (C k (.f 12) [.agg [sv],.agg (gC g)] H) fun r D=>r=.bool (tF X g)/\Fm No H D:=by
 obtain⟨j,rfl⟩:=aP B;rw[lk (zns ..)];unfold zIk zyp;have E:gC g=[.str g.1.1.n g.1.1.a,.str g.1.2.n g.1.2.a,.str g.2.n g.2.a]:=rfl;have t:=f.pr.sml;rw[E];have u:Fm No H (aI (aI H (aB 0 [sv])) (aB 0 [.str g.1.1.n g.1.1.a,.str g.1.2.n g.1.2.a,.str g.2.n g.2.a])):=by exact qO
 refine aT ?_;refine Ok.ve (qll (k:=j) om (s.fm u) (by have:=t.n;omega) (fun p h=>by have:=t.r p h;omega) g.1.1 g.2) ?_;rintro _ H1 ⟨o,a⟩;have i:=u.trans o;have F:=o.nx;simp only[np]at F;have v:H1.get (H.nx+1)=aB 0 [.str g.1.1.n g.1.1.a,.str g.1.2.n g.1.2.a,.str g.2.n g.2.a]:=(o.keep gz).trans g5;unfold qz3 at a;by_cases b:(g.1.1,g.2)∈aF X
 ·obtain⟨x,d,_⟩:=qda f.al f.sp b;rw[d]at a;subst a;have l:=qp3 s d;obtain⟨c0,w,y,z,q⟩:=l.ru.four;have m:gP x=[.str x.r.name.n x.r.name.a,x.tv,c0,w,y,z]:=by unfold gP;rw[q];rfl
  rw[m];have c:Fm No H1 ((aI H1 (aB 0 [zS,.aA,uN 0,zS,zS,.aA])).put H1.nx (aB 0 [.str x.r.name.n x.r.name.a,x.tv,c0,w,y,z])):=by exact kP
  refine eP v ?_;refine Ok.ve (zsf (k:=j) om g.1.1 g.1.2 g.2 _) ?_;rintro _ M ⟨rfl,A⟩;have n:tF X g=okG g:=by unfold tF;rw[qc b,Bool.and_true]
  rw[n,show(iO g.1.1&&(iO g.1.2&&iO g.2))=okG g from rfl];cases okG g with
  |true=>have e:wD true=0:=rfl;refine aT ?_;exact Ok.ret ⟨rfl,(i.trans c).trans A⟩
  |false=>have e:wD false=6:=rfl;refine aT ?_;exact Ok.ret ⟨rfl,(i.trans c).trans A⟩
 ·have G:lF X g.1.1 g.2=none:=by
   cases K:lF X g.1.1 g.2 with
   |none=>rfl
   |some x=>obtain⟨p,h,d,I,J⟩:=qci K;exact absurd (qd0.2 ⟨p,h,x,d,I,J⟩) b
  rw[G]at a;subst a;have n:tF X g=false:=by unfold tF;rw[ql b,Bool.and_false]
  rw[n];have L:qqz=[zS,.aA,uN 0,zS,zS,.aA]:=rfl;have c:Fm No H1 ((aI H1 (aB 0 [zS,.aA,uN 0,zS,zS,.aA])).put H1.nx (aB 0 [zS,.aA,uN 0,zS,zS,.aA])):=by exact kP
  refine eP v ?_;exact Ok.ret ⟨rfl,i.trans c⟩
theorem dB.ofW(a:dB X):OfW X:=by
 refine⟨a.pr.sml,by rw[<-qjn];exact a.pr.len,fun i h=>?_⟩;have c:i<(d9 X).length:=by rw[qjn];exact h
 obtain⟨l,m,g,f,j,e⟩:=a.at c;have b:=(a.pr.x g f _ j).2.2.1;refine⟨(d9 X)[i].2,by rw[qnh c h];exact l,by have:=b.dp;omega,by have:=b.sz;omega,fun y k p d=>?_⟩;rw[qnh c h,<-e]at d;exact a.ndt ⟨f,j⟩ k p d
theorem zxi:∀(l:List Tu) (o:List (SS×SS)),(l.foldl wX o).length<=o.length+2*l.length
 | [],o=>g3
 |t::l,o=>by have a:=qnj o (t.a,t.b);have b:=qnj (sZ o (t.a,t.b)) (t.x,t.y);have:=zxi l (wX o t);rw[lEI,pq];unfold wX at *;omega
theorem z2p{k:Nat}(y:22<=k){H:Hp}{sv v:AV}{l:List Tu}(g:bY H sv X)(h:SOK X)(s:Gl 6 H v l.length (l.flatMap Tu.cells))(z:l.length<=20):Ok (C k (.f 6) [.agg [sv],v] H) fun r t=>∃ n ov i,r=.agg [sv,v,n,ov,i]/\Rs 3 gC t i (jS (aF X) (l.foldl wX []))/\Fm No H t:=by obtain⟨j,rfl⟩:=aP y;rw[lk (zny ..)];unfold zIe zyv;have u:Fm No H (aI (aI H (aB 0 [sv])) (aB 0 [.aA,.aA,.aA,.aA,.aA])):=fm;refine aT ?_;refine Ok.ve (zsc (k:=j) om (g.fm u) h.val.ofW) ?_;rintro P H1 ⟨b,ms,J,K⟩;refine Ok.ve (qu3 (k:=j) om J h.len) ?_;rintro Q d ⟨L,M⟩;have a:=K.trans L;have o:=u.trans a;have B:=a.nx;simp only[np]at B;have k0:d.get H.nx=aB 0 [sv]:=(a.keep g1).trans g6;have D:d.get (H.nx+1)=aB 0 [.aA,.aA,.aA,.aA,.aA]:=(a.keep gz).trans g5;obtain⟨w,R,rfl,N⟩:=M;refine eP k0 ?_;refine Ok.iD (qz7 (k:=j) om (g.fm o) h.val.pr.sml) ?_;intro n p f;have x:=o.trans f.fm;have q3:=f.gl.cells;have k3:p.get H.nx=aB 0 [sv]:=(f.fm.keep (show H.nx<d.nx by omega)).trans k0;have eS:nC 64 (.agg [sv]) (.agg [sv])=true:=qgx [sv] (by have:=g.fl;unfold Tr;simp only[lA6,List.all_nil,this,pq,uo];rfl);have E:=s.cells;refine eF k3 eS ?_;refine Ok.iD (aOz (k:=j) om (g.fm x) h.val.pr.sml ((s.no x).rs yF) z (by have:=zxi l [];simp only[uo]at this;omega)) ?_;intro i q m;have c:=f.fm.trans m.fm;have F:=m.gl.cells;have G:q.get H.nx=aB 0 [sv]:=(c.keep (show H.nx<d.nx by omega)).trans k0;have I:q.get (H.nx+1)=aB 0 [.aA,.aA,.aA,.aA,.aA]:=(c.keep (show H.nx+1<d.nx by omega)).trans D;refine siH G I eS q3 E N F ?_;have O:d.nx<=p.nx:=f.fm.nx;exact Ok.ret ⟨n,w,i,rfl,(m.rs vP).dP ((Fm.refl (· =H.nx+1) q).put _ _ fun _=>rfl) (fun b A e=>by have:p.nx<=b:=m.nw b A;omega),(o.trans c).aG _ _ om⟩
theorem zam:∀ s∈nmL,iO s=true:=g4
theorem z3p:∀ s∈idL,iO s=true:=g4
theorem rC.ty{t:Tu}(b:dB X)(h:rC X t):Nm t.a/\Nm t.c/\Nm t.x/\(t.z=sE\/Nm t.z/\(t.x,t.z)∈aF X):=by
 obtain⟨_,_,_,g,i,d⟩:=h;obtain⟨p,c,a,j,k⟩:=qci i;obtain⟨_,l,_,m⟩:=b.pr.x p c g a;have f:=m _ d;refine⟨by rw[<-j];exact(b.pr.r p c).2,by rw[<-k];exact l,f.1,?_⟩;rcases((b.ty p c g a).2 _ d).2 with e|e
 ·exact .inl e
 ·simp_all
theorem rC.zero{t:Tu}(a:dB X)(h:rC X t):r20 X t=0:=by
 obtain⟨c,d,f,i⟩:=h.ty a;obtain⟨j,k,_,g,l,m⟩:=h;have b:t.ok=true:=by
  unfold Tu.ok sbB;rw[zam _ c,zam _ d,zam _ f,z3p _ j,z3p _ k];rcases i with e|e
  ·rw[e];rfl
  ·rw[zam _ e.1];simp
 unfold r20;rw[b,l,uB];simp only[zx9,qc m,uB]
def obT(l:List Tu):List (SS×SS):=l.flatMap fun t=>[(t.a,t.b),(t.x,t.y)]
theorem zkc:∀ l:List Tu,(obT l).length=2*l.length
 | []=>rfl
 |t::l=>by show(obT l).length+1+1=2*(l.length+1);rw[zkc l];omega
theorem q8o{x y:SS×SS}:∀{l:List (SS×SS)},y∈rO x l->y=x\/y∈l
 | [],h=>.inl (qf.1 h)
 |z::l,h=>by
  rw[qy3]at h;split at h
  ·simp_all
  ·rcases su.1 h with rfl|h
   ·simp
   ·exact(q8o h).imp_right (uk _)
theorem q77{x y:SS×SS}{l:List (SS×SS)}(h:y∈sZ l x):y=x\/y∈l:=by
 unfold sZ at h;split at h
 ·exact .inr h
 ·exact q8o h
theorem ziy{y:SS×SS}:∀{l:List Tu} {o:List (SS×SS)},y∈l.foldl wX o->y∈o\/y∈obT l
 | [],_,h=>.inl h
 |t::l,o,h=>by
  show y∈o\/y∈(t.a,t.b)::(t.x,t.y)::obT l;rcases ziy (l:=l) (o:=wX o t) h with h|h
  ·rcases q77 h with rfl|h
   ·simp
   ·rcases q77 h with rfl|h<;>simp[*]
  ·simp[h]
theorem qft{A o:List (SS×SS)}{g:G3}:g∈jS A o↔g.1∈o/\(g.1.1,g.2)∈A:=by
 unfold jS rG;simp only[xm,uC,xF,yl];constructor
 ·rintro ⟨q,a,y,⟨b,e⟩,rfl⟩;exact⟨a,by rw[<-e];exact b⟩
 ·rintro ⟨c,d⟩;exact⟨g.1,c,_,⟨d,rfl⟩,rfl⟩
theorem z6i(f:dB X)(w:(aF X).length<13){l:List Tu}(z:l.length<=20)(m:∀ t∈l,rC X t)(p:SS×SS):Stk X (jS (aF X) (p::obT l)) (nJ X l):=by
 have j:∀ t∈l,(t.x,t.y)∈p::obT l:=fun t b=>uk _ (xm.2 ⟨t,b,g3⟩);refine⟨fun g h=>(qft.1 h).2,fun g h r a=>?_,?_⟩
 ·obtain⟨k,n⟩:=qft.1 h;unfold nJ at a;split at a
  ·cases a
  ·rename_i x o;obtain⟨q,s,i,u,_⟩:=qci o;obtain⟨y,v,a⟩:=xm.1 a;have c:=(f.nd q s x i y v).1;rw[u]at c;rcases qi.1 a with a|a
   ·split at a
    ·rename_i d;rw[qf.1 a];exact qft.2 ⟨k,c (.inl d)⟩
    ·cases a
   ·obtain⟨t,b,a⟩:=xm.1 a;unfold yR at a;split at a
    ·rename_i d;rw[qf.1 a];refine qft.2 ⟨j t b,?_⟩;rcases((m t b).ty f).2.2.2 with e|e
     ·simp_all
     ·exact e.2
    ·split at a
     ·rename_i d;rw[qf.1 a];exact qft.2 ⟨j t b,f.tg d.2.2.2⟩
     ·cases a
 ·have k:=qu4 (aF X) (p::obT l);have n:(p::obT l).length*(aF X).length<=41*12:=Nat.mul_le_mul (by rw[pq,zkc];omega) om;omega
theorem z9m(a:dB X){l:List Tu}(d:∀ t∈l,rC X t){g:G3}(e:g∈jS (aF X) (l.foldl wX [])):tF X g=true:=by
 obtain⟨i,b⟩:=qft.1 e;obtain⟨q,c,x,j,k,m⟩:=qd0.1 b;have f:g.1.2∈idL:=by
  rcases ziy i with h|h
  ·cases h
  ·obtain⟨t,n,h⟩:=xm.1 h;have:=d t n;rcases su.1 h with h|h
   ·rw[h];exact this.1
   ·rw[qf.1 h];exact this.2.1
 unfold tF okG;rw[qc b,<-k,<-m,zam _ (a.pr.r q c).2,zam _ (a.pr.x q c x j).2.1,z3p _ f];rfl
theorem dB.rW(h:dB X)(a b c:SS):(iZ X a b c).Nodup:=by
 unfold iZ;split
 ·simp
 ·rename_i g i;obtain⟨p,j,d,_⟩:=qci i;refine qjx (List.Pairwise.filter _ (h.ty p j g d).1) fun x d y f e=>?_;rw[xF]at d f;unfold tgP at d f;simp only[qh,yl]at d f;cases x;cases y;simp_all
theorem zxg{U:List G3}{R:G3->List G3}(a:∀ g∈U,∀r∈R g,r∈U):∀(n i:Nat) {l:List G3},xE U l->xE U (tbF R n i l)
 |0,_,_,h=>h
 |n+1,i,l,h=>by
  unfold tbF;split
  ·exact zxg a n _ (h.add (a _ (h.sub _ (lg _))))
  ·exact h
theorem q66{l:List Tu}{U:List G3}{g:G3}(a:Stk X U (nJ X l))(b:g∈U):(aCQ (nJ X l) g).length<=500:=
 rq (zxg a.cl _ _ (xE.one b)).len a.n
variable {l:List Tu}
structure FOK(X:List aQ)(l:List Tu):Prop where
 ok:SOK X
 n:l.length<=20
 lo:∀ t∈l,t.lo
 fit:∀ t∈l,rC X t
 asc:kY l
theorem FOK.fb(h:FOK X l){m:List Tu}(a:∀ t,t∈m↔t∈l):(fb X m).2=0:=by rw[zlp fun t b=>(h.fit t ((a t).1 b)).zero h.ok.val]
structure Env(X:List aQ)(l:List Tu)(H:Hp)(sv v av ov gv:AV)(b7 b9:Nat):Prop where
 k7:H.get b7=aB 0 [sv]
 k9:H.get b9=aB 0 [sv,v,av,ov,gv]
 n7:b7<H.nx
 n9:b9<H.nx
 qM:bY H sv X
 gl:Gl 6 H v l.length (l.flatMap Tu.cells)
theorem Env.fm{H a:Hp}{sv v b ov c:AV}{d e:Nat}(h:Env X l H sv v b ov c d e)(f:Fm No H a):Env X l a sv v b ov c d e:=
 ⟨(f.keep h.n7).trans h.k7,(f.keep h.n9).trans h.k9,ku h.n7 f.nx,ku h.n9 f.nx,h.qM.fm f,h.gl.no f⟩
theorem Env.wd{H:Hp}{sv v a ov b:AV}{c d:Nat}(h:Env X l H sv v a ov b c d):WdR X l H [sv,v,a,ov,b]:=⟨_,_,_,_,_,rfl,h.qM,h.gl.rs yF,fun _=>h.gl.lt⟩
theorem FOK.stk(h:FOK X l){g:G3}(b:tF X g=true):Stk X (jS (aF X) (g.1::obT l)) (nJ X l)/\g∈jS (aF X) (g.1::obT l)/\(g.1.1,g.2)∈aF X:=by
 have a:(g.1.1,g.2)∈aF X:=by unfold tF at b;simp_all
 exact⟨z6i h.ok.val h.ok.len h.n h.fit _,qft.2 ⟨ug,a⟩,a⟩
theorem z8t(K:iQ C)(L:qer C)(M:pJ C)(N:qbv C)(O:oL LA LO C)(P:qj7 C){k:Nat}(hk:1100<=k)(d:∀ k H,1<=k->C k (.f 4) [] H=.ok (.bool true) H)(h:FOK X l){H:Hp}{sv v V ov W:AV}{D Q R:Nat}(e:Env X l H sv v V ov W Q R){g:G3}(f:H.get D=aB 0 (gC g))(p:D<H.nx):Ok (kA qg9 (C k) (.ptr D 0) (.ptr Q 0) v (.ptr R 0) H) fun r _=>r=.bool true:=by
 have Y:gC g=[.str g.1.1.n g.1.1.a,.str g.1.2.n g.1.2.a,.str g.2.n g.2.a]:=rfl;have q:∀ t,t∈l↔t∈l:=fun _=>Iff.rfl;have j:=h.n;have m:=e.k7;rw[Y]at f;rw[kE qg9];unfold qg9;simp only[go_sem,seval,m,f];refine Ok.ve (q75 K L M N O P (k:=k) om e.qM h.ok e.gl om h.lo h.asc q j (h.fb q) g) ?_;rintro _ H1 ⟨w1,rfl,x,y⟩;have s:=e.fm x.fm;have m:=s.k7;have g1:=(x.fm.keep p).trans f;rw[kE qma];unfold qma;simp only[go_sem,seval,m,g1];refine Ok.ve (qx9 K L M N O P (k:=k) om s.qM h.ok s.gl om h.lo h.asc q j (h.fb q) g fun i=>⟨(h.stk i).1,(h.stk i).2.1⟩) ?_;rintro _ H2 ⟨w2,rfl,z,A⟩;have E2:=s.fm z.fm;have E:=x.fm.trans z.fm;have m:=E2.k7;have g2:=(E.keep p).trans f;rw[kE qmb];unfold qmb;simp only[go_sem,seval,m,g2];refine Ok.ve (zsg (k:=k) om E2.qM h.ok.val g) ?_;rintro _ I ⟨rfl,o⟩;have F:=E2.fm o;have g3:=((E.trans o).keep p).trans f;have u:=x.gl.no (z.fm.trans o);have w:=z.gl.no o;rw[kE qmc];unfold qmc;cases i:tF X g with
 |false=>simp only[i,dm,reduceIte]at u w y A;have q1:=qfa (k:=k) (by omega) u y (Rs.nil _ _ I) (by simp) 6;have q2:=qfa (k:=k) (by omega) w A (Rs.nil _ _ I) (by simp) 6;have q3:=d k I om;simp only[go_sem,dm,reduceIte,q1,q2,q3];exact Ok.ret rfl
 |true=>simp only[i,reduceIte]at u w y A;have G:=F.k9;obtain⟨T,U,Z⟩:=h.stk i;rw[kE qmd];unfold qmd;refine eF G g3 ?_;refine Ok.ve (qx7 (k:=k) om F.wd h.ok.val j (fun a b c=>h.ok.val.rW a b c) T U) ?_;rintro _ H4 ⟨w4,c4,rfl,B⟩;have S:=F.fm B.fm;have g4:=(((E.trans o).trans B.fm).keep p).trans f;have G:=S.k9;rw[kE qme];unfold qme;refine eF G g4 ?_;refine Ok.ve (qu8 (k:=k) om S.wd h.ok.val j Z (fun a b=>h.ok.val.rW _ a b)) ?_;intro w5 H5 J;have n:=B.fm.trans J.fm;have q1:=qfa (k:=k) om (u.no n) y (J.rs vP) (by have:=qjp (g:=g) h.ok.val j;omega) 0;have q2:=qfa (k:=k) om (w.no n) A ((B.rs vP).fm J.fm) (by have:=q66 T U;omega) 0;have q3:=d k H5 om;refine iG q1 q2 q3 ?_;exact Ok.ret rfl
theorem aNs(u:iQ C)(x:qer C)(y:pJ C)(z:qbv C)(A:oL LA LO C)(B:qj7 C){k:Nat}(Z:1100<=k)(a:∀ k H,1<=k->C k (.f 4) [] H=.ok (.bool true) H)(h:FOK X l){H:Hp}{sv v av ov gv w:AV}{D P Q E:Nat}(b:Env X l H sv v av ov gv P Q){g q:G3}(hg:H.get D=aB 0 (gC g))(R:D<H.nx)(e:H.get E=aB 0 (gC q))(c:E<H.nx)(F:tF X q=true){m:List Tu}(S:Gl 6 H w m.length (m.flatMap Tu.cells))(f:m.length<=40)(i:∀ t,t∈m↔t∈l):Ok (kA qiy (C k) (.ptr D 0) (.ptr P 0) v (.ptr Q 0) w (.ptr E 0) H) fun r _=>r=.bool true:=by have eg:gC q=[.str q.1.1.n q.1.1.a,.str q.1.2.n q.1.2.a,.str q.2.n q.2.a]:=rfl;have j:=h.n;have n:∀ t∈m,t.lo:=fun t ht=>h.lo t ((i t).1 ht);obtain⟨N,O,u3⟩:=h.stk F;have G:=b.k9;rw[eg]at e;rw[kE qiy];unfold qiy;simp only[go_sem,seval,G,e];refine Ok.ve (qx7 (k:=k) om b.wd h.ok.val j h.ok.val.rW N O) ?_;rintro _ H1 ⟨w1,c1,rfl,o⟩;have I:=b.fm o.fm;have J:=I.k7;have g1:=(o.fm.keep c).trans e;rw[kE ql6];unfold ql6;simp only[go_sem,seval,J,g1];refine Ok.ve (q75 u x y z A B (k:=k) om I.qM h.ok (S.no o.fm) f n h.asc i j (h.fb i) q) ?_;rintro _ H2 ⟨w2,rfl,s,V⟩;have E2:=I.fm s.fm;have K:=o.fm.trans s.fm;have J:=E2.k7;have g2:=(K.keep c).trans e;rw[kE ql7];unfold ql7;simp only[go_sem,seval,J,g2];refine Ok.ve (qx9 u x y z A B (k:=k) om E2.qM h.ok (S.no K) f n h.asc i j (h.fb i) q fun _=>⟨N,O⟩) ?_;rintro _ H3 ⟨w3,rfl,p,W⟩;have L:=E2.fm p.fm;have M:=K.trans p.fm;have G:=L.k9;have g3:=(M.keep c).trans e;have T:=s.gl.no p.fm;have U:=p.gl;simp only[F,reduceIte]at T U V W;rw[kE ql8];unfold ql8;simp(disch:=go_size)only[go_sem,seval,G,g3,F,reduceIte];refine Ok.ve (qu8 (k:=k) om L.wd h.ok.val j u3 (h.ok.val.rW _)) ?_;intro w4 H4 Y;have d:=Y.fm;have q1:=qfa (k:=k) om (T.no d) V (Y.rs vP) (by have:=qjp (g:=q) h.ok.val j;omega) 0;have q2:=qfa (k:=k) om (U.no d) W ((o.rs vP).fm ((s.fm.trans p.fm).trans d)) (by have:=q66 N O;omega) 0;refine eF q1 q2 ?_;rw[kE ql9];unfold ql9;exact z8t u x y z A B Z a h (L.fm d) (((M.trans d).keep R).trans hg) (ku R (M.trans d).nx)
def dbl(l:List Tu):List Tu:=l.reverse.flatMap fun t=>[t,t]
theorem q9b(t:Tu)(l:List Tu):dbl (t::l)=dbl l++[t,t]:=by unfold dbl;simp
theorem q4h:∀ l:List Tu,(dbl l).length=2*l.length
 | []=>rfl
 |t::l=>by rw[q9b,lL,q4h l];simp;omega
theorem z4f{t:Tu}{l:List Tu}:t∈dbl l↔t∈l:=by unfold dbl;simp
def iv1:Nat->AV
 |0=>.int .i64 (.negSucc 0)
 |n+1=>.int .i64 (.ofNat n)
theorem qxd{O:Ev.Call}{H0:Hp}{v:AV}(e:Gl 6 H0 v l.length (l.flatMap Tu.cells))(m:l.length<=20){Q:pL}{q:pD}(f:∀ w H,Ac 6 Tu.cells H0 H w (dbl l)->Ok (q w H) Q):∀(k i:Nat) (w:AV) (H:Hp),i<=l.length->i<k->Ac 6 Tu.cells H0 H w (dbl (l.drop i))->Ok (qkb O q v k w (iv1 i) H) Q
 |0,i,_,_,_,h,_=>om
 |k+1,i,w,H,hi,hk,ha=>by
  show Ok (q0n O _ _ (qkb O _ _ k) _ _ H) Q;unfold q0n
  match i,hi,hk,ha with
  |0,_,_,ha=>unfold iv1;exact f w H ha
  |i+1,hi,hk,ha=>
   have a:i<l.length:=om;unfold iv1;rw[kE qi3];unfold qi3;obtain⟨b,o,p,u,c⟩:=((e.no ha.fm).rs yF).oZ a;have g:dbl (l.drop i)=dbl (l.drop (i+1))++[l[i],l[i]]:=by rw[uq a,q9b]
   generalize l[i]=t at c g;replace c:fD (H.get b) o 6=some [.str t.a.n t.a.a,.str t.b.n t.b.a,.str t.c.n t.c.a,.str t.x.n t.x.a,.str t.y.n t.y.a,.str t.z.n t.z.a]:=c;simp only[go_sem,seval,p,c,gp];have d:=q4h (l.drop (i+1));rw[vz]at d;refine Ok.iD ((ha.no (((Fm.refl No H).up 12).aG (H.nx+9) _ om)).aO8 (y:=[t,t]) rfl 96 (by simp only[pq,uo];omega) (by simp only[pq,uo];omega)) ?_;intro r s j;rw[kE ql5];unfold ql5;rw[<-g]at j;have n:iC (oI .sub).f (iN i) (iN 1)=.val (iv1 i):=by
    cases i with
    |zero=>rfl
    |succ i=>rw[zir _ _ om om];rfl
   simp only[go_sem,n];exact qxd e m f k i r s om om j
theorem aNQ(x:iQ C)(y:qer C)(z:pJ C)(A:qbv C)(B:oL LA LO C)(D:qj7 C){k:Nat}(E:1100<=k)(a:∀ k H,1<=k->C k (.f 4) [] H=.ok (.bool true) H)(h:FOK X l){H:Hp}{sv v Q ov F w:AV}{e I J n:Nat}(c:Env X l H sv v Q ov F I J){g:G3}(K:H.get e=aB 0 (gC g))(L:e<H.nx)(d:Rs 3 gC H F (jS (aF X) (l.foldl wX [])))(W:n<256){m:List Tu}(R:Gl 6 H w m.length (m.flatMap Tu.cells))(i:m.length<=40)(S:∀ t,t∈m↔t∈l):Ok (kA qg7 (C k) (uN n) (.ptr e 0) (.ptr I 0) v (.ptr J 0) w H) fun r _=>r=.bool true:=by
 have j:=c.k9;have p:=d.len;rw[kE qg7];unfold qg7;by_cases s:0<(jS (aF X) (l.foldl wX [])).length
 ·refine iG j p s ?_;rw[kE qg8];unfold qg8;have M:=xq n s;obtain⟨b,o,V,Z,P⟩:=d.oZ M;have O:=z9m h.ok.val h.fit (lg M);generalize (jS (aF X) (l.foldl wX []))[n%(jS (aF X) (l.foldl wX [])).length]=q at P O;generalize (jS (aF X) (l.foldl wX [])).length=N at *;have T:List.take 3 (gC q)=gC q:=rfl;refine siG j p V P vP T ?_;generalize u:(Hp.put (Hp.put _ _ _) _ _)=G;have f:Fm No H G:=by
   rw[<-u];exact(((Fm.refl No H).up 12).aG _ _ om).aG _ _ om
  have U:G.get (H.nx+10)=aB 0 (gC q):=by rw[<-u];exact dN _ _ _
  have Y:G.nx=H.nx+12:=by rw[<-u];rfl
  exact aNs x y z A B D E a h (c.fm f) ((f.keep L).trans K) om U om O (R.no f) i S
 ·simp only[go_sem,j,p,s];rw[kE qg8];unfold qg8;exact z8t x y z A B D E a h c K L
theorem qqn(R:iQ C)(S:qer C)(T:pJ C)(U:qbv C)(V:oL LA LO C)(W:qj7 C){k:Nat}(Y:1100<=k)(a:∀ k H,1<=k->C k (.f 4) [] H=.ok (.bool true) H){H:Hp}{c lv:AV}{Z:List Q4}{n:Nat}(hv:iB H c L)(hq:Rs 4 Q4.cells H lv Z)(hn:n<256)(g:G3):Ok (zIc (C k) (.agg [c,lv]) (uN n) (.agg (gC g)) H) fun r _=>r=.bool true:=by
 have eg:gC g=[.str g.1.1.n g.1.1.a,.str g.1.2.n g.1.2.a,.str g.2.n g.2.a]:=rfl;unfold zIc zyw;have K:Fm No H (aI (aI H (aB 0 [c,lv])) (aB 0 (gC g))):=by(repeat refine Fm.push ?_ _);exact Fm.refl _ _
 have o:Ok (kA qdn (C k) (uN n) (.ptr H.nx 0) (.ptr (H.nx+1) 0) (.bool false) (aI (aI H (aB 0 [c,lv])) (aB 0 (gC g)))) fun r _=>r=.bool true:=by
  rw[kE qdn];unfold qdn;rw[kE qiz];unfold qiz;have kg:(aI (aI H (aB 0 [c,lv])) (aB 0 (gC g))).get (H.nx+1)=aB 0 (gC g):=g5;have n0:(aI (aI H (aB 0 [c,lv])) (aB 0 (gC g))).nx=H.nx+2:=rfl;refine aT ?_;refine Ok.ve (z9a (k:=k) om (hv.fm K) (hq.fm K) fun X hX=>have h:=qK.val (L:=L) ⟨hX⟩;⟨h.pr.sml,h.lo⟩) ?_;rintro _ H1 ⟨sv,X,v,l,rfl,M,D,N,j,s,u,O⟩;have h0:qK L X:=⟨D⟩;have h:FOK X l:=⟨h0.sok,j,fun t y=>(s t y).1,fun t y=>(s t y).2,u⟩;have n1:=O.nx;have z:=(O.keep (b:=H.nx+1) om).trans kg;rw[kE qi0];unfold qi0;have A:Fm No H1 ((aI H1 (aB 0 [.aA])).put H1.nx (aB 0 [sv])):=by repeat first|exact Fm.refl _ _|assumption|refine Fm.push ?_ _|refine Fm.aG ?_ _ _ om
  refine aT ?_;refine Ok.ve (z2p (k:=k) om (M.fm A) h.ok (N.no A) j) ?_;rintro _ m ⟨P,ov,Q,rfl,E,F⟩;have e:=A.trans F;have n3:=F.nx;simp only[np,nq]at n3;have k7:m.get H1.nx=aB 0 [sv]:=(F.keep gz).trans g5;have B:=(e.keep (b:=H.nx+1) om).trans z;refine aT ?_;rw[kE qi1];unfold qi1;generalize I:(Hp.put (aI m _) _ _)=G;have p:Fm No m G:=by rw[<-I];exact((Fm.refl No m).push _).aG _ _ (lu _)
  have nG:G.nx=m.nx+1:=by rw[<-I];rfl
  have k9:G.get m.nx=aB 0 [sv,v,P,ov,Q]:=by rw[<-I];exact dN _ _ _
  have f:Env X l G sv v P ov Q H1.nx m.nx:=⟨(p.keep om).trans k7,k9,om,om,M.fm (e.trans p),N.no (e.trans p)⟩;have e0:=f.gl.bM;have e9:iC (oI .sub).f (iN (l.length)) (iN 1)=.val (iv1 l.length):=by
   cases l with
   |nil=>rfl
   |cons t l=>rw[zir _ _ g3 om];rfl
  refine eF e0 e9 ?_;rw[kE qi2];unfold qi2 zco;rw[dD];refine qxd f.gl j (fun w H3 d=>?_) bZ l.length .aA G (lu _) lf ?_
  ·exact aNQ R S T U V W Y a h (f.fm d.fm) (((p.trans d.fm).keep (b:=H.nx+1) om).trans B) (by have:=d.fm.nx;omega) ((E.fm p).fm d.fm) hn d.gl (by rw[q4h];omega) fun _=>z4f
  ·rw[lA8];exact Ac.nil 6 _ (Fm.refl _ _)
 have i:Ok (kA qdn (C k) (uN n) (.ptr H.nx 0) (.ptr (H.nx+1) 0) (.bool true) (aI (aI H (aB 0 [c,lv])) (aB 0 (gC g)))) fun r _=>r=.bool true:=by rw[kE qdn];unfold qdn;have q:=a k (aI (aI H (aB 0 [c,lv])) (aB 0 (gC g))) om;simp only[go_sem,q];exact Ok.ret rfl
 rw[eg]at *;by_cases x:20<g.1.1.n
 ·refine eP x ?_;exact i
 ·by_cases J:20<g.1.2.n
  ·refine eF x J ?_;exact i
  ·by_cases d:20<g.2.n
   ·refine iG x J d ?_;exact i
   ·refine iG x J d ?_;exact o
end Go.Di
end
noncomputable section
namespace Go.Di
open Go.Ev
def egO(e:Edge):Eg:=⟨.ofNat e.f,.ofNat e.t,e.s⟩
theorem q4m(S:List Edge):(ceE S).length=S.length*3:=by
 induction S with
 |nil=>rfl
 |cons a S ih=>unfold ceE at *;rw[uA,lL,ih,cells3,pq];omega
theorem z4n(es:List Edge):(es.map egO).flatMap egV=ceE es:=by
 induction es with
 |nil=>rfl
 |cons a l ih=>rw[ou,uA,ih];rfl
theorem zlz:∀ es:List Edge,qp9 (ceE es)=some (es.map egO)
 | []=>rfl
 |a::l=>by show qp9 (iN (a.f)::iN (a.t):: .bool a.s::ceE l)=_;rw[qp9,zlz l];rfl
theorem z9n(x y:Edge):jX (egO x) (egO y)=xP x y:=by unfold jX xP or3 egO sgB sgn cI;simp only[orI,pP];by_cases h:pP (.ofNat x.f) (.ofNat y.f)=0<;>by_cases a:pP (.ofNat x.t) (.ofNat y.t)=0<;>unfold pP at h a<;>simp only[h,a,mg,lEB]<;>(try split)<;>simp_all
theorem zi7(es:List Edge):qlo (es.map egO)=(sortE es).map egO:=
 (List.map_mergeSort fun a _ b _=>by show(!decide (xP b a<0))=_;rw[z9n]).symm
theorem q3f(f c:FuncId)(e:Ext){H:Hp}{v:AV}{es:List Edge}(h:Gl 3 H v es.length (ceE es))(y:es.length<=1000000):∃r,qhg f c e f [v,.fn c [] []] H=some r/\Ok r fun r d=>r=.bA []/\Gl 3 d v es.length (ceE (sortE es))/\Fm (In v) H d:=by
 have g:∀ n:Nat,Nat.beq n n=true:=fun n=>lE7 n;rcases h.is with⟨rfl,s⟩|⟨b,o,x,q,L,rfl,i,t,j,u,w⟩
 ·have:es=[]:=tu.1 s;subst this;refine⟨.ok (.bA []) H,?_,?_⟩
  ·unfold qhg;simp only[g,uB]
  ·have k:sortE []=[]:=by simp[sortE]
   rw[k];exact Ok.ret ⟨rfl,h,Fm.refl _ _⟩
 ·have m:o+es.length*3=L.length:=by
   have:=congrArg List.length j;rw[vz,q4m]at this;omega
  have a:(ceE (sortE es)).length=es.length*3:=by rw[q4m,qxq]
  have p:qxr H b o es.length=some (.ok (.bA []) (H.put b (aB q (aZ L o (ceE (sortE es)))))):=by
   unfold qxr;rw[i,yU,qj om,j,tq (by rw[q4m];omega)];simp only[zlz,zi7,z4n];rw[qb3 H b o _ _ q L i om];have:Nat.blt es.length 4611686018427387904=true:=by rw[Nat.blt_eq];omega
   simp only[this,uB]
  refine⟨_,by unfold qhg;simp only[g,uB];exact p,Ok.ret ⟨rfl,⟨by rw[a],.inr ⟨b,o,x,q,aZ L o (ceE (sortE es)),rfl,dN _ _ _,?_,?_,u,w⟩⟩,(Fm.refl _ _).put b _ fun _=>⟨_,_,_,_,rfl⟩⟩⟩
  ·rw[qd7 _ _ _ om];exact t
  ·unfold aZ;rw[List.drop_of_length_le (l:=L) om,uf,xn (by rw[qx];omega),List.drop_of_length_le (by rw[qx];omega),yj]
def zr8(l:List AV):bW:=.cells (iF l.length) l.length (cellsOf l) true 0
theorem zjq(l:List AV)(o z:Nat)(h:o+z<=l.length):fD (zr8 l) o z=some ((l.drop o).take z):=by
 show(bif Nat.ble (o+z) l.length then some (Ev.w9 (cellsOf l) z o)else none)=_;rw[ble_eq,qc h,uB];congr 1
 induction z generalizing o with
 |zero=>simp;rfl
 |succ z ih=>show(dR _ o).f (cellsOf l)::Ev.w9 (cellsOf l) z (o+1)=_;rw[ih (o+1) om,qcy _ _ (ku (show o<l.length by omega) (qb5 _)),uq (show o<l.length by omega),iq];simp[gy,show o<l.length by omega]
theorem qx5(l:List AV)(o:Nat):bX (zr8 l) o=match l[o]? with|some v=>.val v|none=>.bad:=by
 show(bif Nat.blt o l.length then R0.val ((dR _ o).f (cellsOf l))else .bad)=_;rw[blt_eq];by_cases h:o<l.length
 ·rw[qc h,qcy _ _ (ku h (qb5 _))];simp[h]
 ·rw[ql h];simp[lAI h]
theorem qj2(b:Nat):Hp.empty.get b=.dead:=by show(bif Nat.blt b 2097152 then(dR HD b).f (same bW.dead HD)else bW.dead)=bW.dead;rw[qhp];cases Nat.blt b 2097152<;>rfl
theorem add_add(a:Addr)(x y:Nat):(a.add x).add y=a.add (x+y):=by
 unfold Addr.add;by_cases b:x=0
 ·subst b;simp
 ·by_cases c:y=0
  ·subst c;simp
  ·simp[b,c,uu]
theorem q9l{a:Addr}(h:a.spot=none)(x:Nat):a.add x=⟨a.block,a.off+x,none⟩:=by
 obtain⟨c,d,e⟩:=a;cases h;unfold Addr.add;by_cases b:x=0
 ·subst b;simp
 ·simp[b]
theorem qlg{w:World}{a:Addr}{v:Value}(h:w.cell? a=some v):a.spot=none/\a.block<w.heap.size:=by
 unfold World.cell? at h;rcases hx:w.heap[a.block]? with _|o
 ·rw[hx]at h;cases h
 ·refine⟨?_,(au.1 hx).1⟩;rw[hx]at h;cases o with
  |cells c e z=>
   rcases hs:a.spot with _|s
   ·rfl
   ·rw[hs]at h;cases h
  |_=>cases h
structure Ro where
 l:List AV
 (b o:Nat)
def Ro.blk(k:Ro):bW:=if k.l=[]then .dead else zr8 k.l
def qu0(ks:List Ro):Hp:=ks.foldl (fun H k=>aI H k.blk) Hp.empty
def aDY(ks:List Ro):Im:=fun b=>(ks[b]?).map fun k=>⟨k.b,k.o,0,0⟩
theorem qx0:∀(ks:List Ro) (H:Hp),(∀b,H.nx<=b->H.get b=.dead) -> (ks.foldl (fun H k=>aI H k.blk) H).nx=H.nx+ks.length/\∀ b,(ks.foldl (fun H k=>aI H k.blk) H).get b=if b<H.nx then H.get b else match ks[b-H.nx]? with|some k=>k.blk|none=>.dead
 | [],H,h=>⟨rfl,fun b=>by
  by_cases a:b<H.nx
  ·rw[qj a];rfl
  ·rw[pg a];exact h b om⟩
 |k::ks,H,h=>by
  obtain⟨e,f⟩:=qx0 ks (aI H k.blk) (fun b a=>by have:H.nx+1<=b:=a;rw[qhq,pg om];exact h b om);have d:(aI H k.blk).nx=H.nx+1:=rfl;rw[lEI];refine⟨by rw[e,d,pq];omega,fun b=>?_⟩;rw[f,d,qhq];by_cases a:b<H.nx
  ·rw[qj om,pg om,qj a]
  ·by_cases c:b=H.nx
   ·subst c;rw[qj (ig _),qj rfl,pg (xx _),og];rfl
   ·rw[pg om,pg a,show b-H.nx=(b-(H.nx+1))+1 by omega,lAY]
theorem qdo(ks:List Ro):(qu0 ks).nx=ks.length/\∀ b,(qu0 ks).get b=match ks[b]? with|some k=>k.blk|none=>.dead:=by obtain⟨a,c⟩:=qx0 ks Hp.empty fun b _=>qj2 b;refine⟨by show(ks.foldl _ Hp.empty).nx=_;rw[a];exact qg _,fun b=>?_⟩;show(ks.foldl _ Hp.empty).get b=_;rw[c,pg (show ¬b<Hp.empty.nx from lAD b)];rfl
def aNB(w:World)(ι:Im)(k:Ro):Prop:=∀ j (hj:j<k.l.length),∃V,w.cell? ⟨k.b,k.o+j,none⟩=some V/\aO ι k.l[j] V/\V.oneCell=true
theorem xad{w:World}{ks:List Ro}(h:∀ k∈ks,aNB w (aDY ks) k):HR (aDY ks) (qu0 ks) w/\∀ b,((qu0 ks).get b).wr=false:=by
 have l:∀ b,((qu0 ks).get b).wr=false:=fun b=>by
  rw[(qdo ks).2];split
  ·unfold Ro.blk;split<;>rfl
  ·rfl
 refine⟨⟨p8,fun b _=>?_,fun b m _ f e=>?_,fun b c m p _ _ h=>?_,fun b h=>?_,fun b h _=>?_⟩,l⟩
 ·rw[(qdo ks).2];by_cases a:b<ks.length
  ·rw[lq a];show BR _ _ _ ks[b].blk;unfold Ro.blk;by_cases d:ks[b].l=[]
   ·rw[qj d];trivial
   rw[pg d];refine⟨⟨ks[b].b,ks[b].o,0,0⟩,by unfold aDY;rw[lq a];rfl,⟨qb5 _,rfl⟩,fun i g=>?_,fun h=>by cases h⟩;obtain⟨V,j,n,o⟩:=h _ (lg a) i g;refine⟨V,j,?_,o,fun h=>by cases h⟩;rw[qcy _ _ (ku g (qb5 _))];simpa [g] using n
  ·rw[mf om];trivial
 ·unfold aDY at e;by_cases a:b<ks.length
  ·rw[(qdo ks).2,lq a]at f;rw[lq a]at e;cases e;have d:ks[b].l≠[]:=fun d=>by
    have:ks[b].blk=.dead:=by unfold Ro.blk;rw[qj d]
    simp only[this]at f;cases f
   obtain⟨V,j,_⟩:=h _ (lg a) 0 (aj.2 d);exact(qlg j).2
  ·rw[mf om]at e;cases e
 ·rw[l b]at h;cases h
 ·rw[(qdo ks).1]at h;unfold aDY;rw[mf h];rfl
 ·rw[(qdo ks).1]at h;rw[(qdo ks).2,mf h]
theorem q7s{ks:List Ro}{k:Nat}{r:Ro}(h:ks[k]? =some r)(a:r.l≠[]):(qu0 ks).get k=zr8 r.l/\k<(qu0 ks).nx:=by rw[(qdo ks).2,(qdo ks).1,h];exact⟨pg a,(qp.1 h).1⟩
theorem flat_get{α:Type}{z:Nat}{f:α->List AV}(a:∀ x,(f x).length=z)(l:List α){i j:Nat}(b:i<l.length)(c:j<z):(l.flatMap f)[i*z+j]? =(f l[i])[j]?:=by rw[<-qis a l i b,lA9,qj c,zg]
structure Fl{α:Type}(w:World)(z:Nat)(f:α->List AV)(v:Value)(k:Nat)(y:AV)(l:List α)(r:Ro):Prop where
 one:v.oneCell=true
 rep:∀ ι:Im,ι k=some ⟨r.b,r.o,0,0⟩->aO ι y v
 eq:r.l=l.flatMap f
 ok:∀ ι,aNB w ι r
 sl:((y=.aA\/y=.sle)/\l=[])\/∃ m,y=.sl k 0 l.length m true
theorem Fl.rs{α:Type}{w:World}{z:Nat}{f:α->List AV}{v:Value}{k:Nat}{y:AV}{l:List α}{r:Ro}(b:∀ x,(f x).length=z)(p:0<z)(h:Fl w z f v k y l r){ks:List Ro}(g:ks[k]? =some r):Rs z f (qu0 ks) y l:=by
 rcases h.sl with⟨rfl|rfl,rfl⟩|⟨m,rfl⟩
 ·exact⟨rfl,fun i a=>by simp at a⟩
 ·exact⟨rfl,fun i a=>by simp at a⟩
 ·refine⟨rfl,fun i a=>?_⟩;have e:=dK b l;have q:i*z+z<=l.length*z:=by
   have:(i+1)*z<=l.length*z:=xh z a;rw[zk,lA5]at this;exact this
  obtain⟨d,n⟩:=q7s g (by rw[h.eq];intro o;rw[o]at e;simp only[uo]at e;omega);rw[h.eq]at d;refine⟨k,0+i*z,vL _ _ _ _ _ _ _ _ a,n,⟨_,_,_,_,rfl⟩,?_,fun j c=>?_⟩
  ·rw[d,qg,zjq _ _ _ om,qis b l i a]
  ·rw[d,qg,qx5,flat_get b l a (by rw[b]at c;exact c),lq c]
theorem z9b{α:Type}{z:Nat}{f:α->List AV}(N:∀ x,(f x).length=z)(O:0<z){E:Type}{enc:TypeId×Value->E}{P:Program}{w:World}{s:Nat}{t e:TypeId}{cs:List Value}{x:DataW E×List MemPlace}(U:P.underlying t=some (.slice e))(F:P.cellsOf e=z)(W:∀{n:Nat} {cs:List Value} {x:DataW E×List MemPlace},DataW.trod enc P w 0 (fun _=>true) true n e cs=some x->∃ a:α,∀j,j<z->∃ u V,(f a)[j]? =some u/\cs[j]? =some V/\(∀ι:Im,aO ι u V)/\V.oneCell=true)(h:DataW.trod enc P w 0 (fun _=>true) true s t cs=some x)(k:Nat):∃ v y l r,cs=[v]/\Fl w z f v k y l r:=by
 rcases DataW.trod_slice U h with⟨q,_⟩|⟨a,len,A,H,S,n,_,B,_,_,Y,_,T,I,_⟩
 ·exact⟨_,.aA,[],⟨[],0,0⟩,q,rfl,fun _ _=>by simp only[aO],rfl,fun _ j m=>by simp at m,.inl ⟨.inl rfl,rfl⟩⟩
 ·rcases Nat.eq_zero_or_pos len with q|q
  ·subst q;exact⟨_,.sle,[],⟨[],0,0⟩,B,rfl,fun _ _=>by simp only[aO];exact⟨_,_,rfl⟩,rfl,fun _ j m=>by simp at m,.inl ⟨.inr rfl,rfl⟩⟩
  ·have c:∀ i,i<len->∃ b:α,∀j,j<z->∃ u V,(f b)[j]? =some u/\w.cell? (a.add (i*z+j))=some V/\(∀ι:Im,aO ι u V)/\V.oneCell=true:=by
    intro i p;have Q:=I i p;rw[lq om,F,Option.bind_eq_some_iff]at Q;obtain⟨Z,h2,h3⟩:=Q;obtain⟨b,K⟩:=W h3;refine⟨b,fun j m=>?_⟩;obtain⟨u,V,L,o,M⟩:=K j m;have D:=(World.cells?_some h2).2.2 j m;rw[add_add,o]at D;exact⟨u,V,L,D,M⟩
   have d:a.spot=none:=by obtain⟨b,K⟩:=c 0 q;obtain⟨u,V,_,o,_⟩:=K 0 O;rw[lAV]at o;exact(qlg (a:=a) o).1
   obtain⟨g,hg⟩:∃ g:Nat->α,∀i,i<len->∀ j,j<z->∃ u V,(f (g i))[j]? =some u/\w.cell? (a.add (i*z+j))=some V/\(∀ι:Im,aO ι u V)/\V.oneCell=true:=
    ⟨fun i=>if h:i<len then Classical.choose (c i h)else Classical.choose (c 0 q),fun i p=>by simp only[p,dif_pos];exact uw (c i p)⟩
   refine⟨_,.sl k 0 len A true,(List.range len).map g,⟨((List.range len).map g).flatMap f,a.block,a.off⟩,B,rfl,fun ι X=>?_,rfl,fun ι J C=>?_,.inr ⟨A,g3⟩⟩
   ·simp only[aO];refine⟨Y,_,X,?_⟩;obtain⟨ab,ao,az⟩:=a;cases d;rfl
   ·have G:J<len*z:=by
     have:=dK N ((List.range len).map g);simp only at C;rw[this]at C;simpa using C
    have p:J / z<len:=Nat.div_lt_of_lt_mul (by rw[lEK];exact G);have m:=xq J O;have e:J / z*z+J%z=J:=by rw[lEK];exact Nat.div_add_mod J z
    obtain⟨u,V,L,o,M,D⟩:=hg _ p _ m;have R:=flat_get N ((List.range len).map g) (i:=J / z) (j:=J%z) (by simpa using p) m;rw[e]at R o;rw[q9l d]at o;refine⟨V,o,?_,D⟩;have:(((List.range len).map g).flatMap f)[J]? =some u:=by rw[R,<-L];simp
    rw[lq C]at this;injection this with this;simp only[this];exact M ι
def fB(x:Fin 256):List AV:=[.int .u8 (.ofNat x.val)]
structure Nq where
 v:Value
 y:AV
 l:List (Fin 256)
 r:Ro
def Nq.L(q:Nq):List Nat:=q.l.map Fin.val
structure Ns(w:World)(v:Value)(k b0:Nat)(y:AV)(qs:List Nq)(r:Ro):Prop where
 one:v.oneCell=true
 rep:∀ ι:Im,ι k=some ⟨r.b,r.o,0,0⟩->aO ι y v
 eq:r.l=qs.map Nq.y
 at':∀ j (h:j<qs.length),w.cell? ⟨r.b,r.o+j,none⟩=some qs[j].v/\Fl w 1 fB qs[j].v (b0+j) qs[j].y qs[j].l qs[j].r
 sl:((y=.aA\/y=.sle)/\qs=[])\/∃ m,y=.sl k 0 qs.length m true
theorem q4o{c:Type}{enc:TypeId×Value->c}{P:Program}{w:World}{u:TypeId}(d:P.underlying u=some (.int .u8)){n:Nat}{cs:List Value}{x:DataW c×List MemPlace}(h:DataW.trod enc P w 0 (fun _=>true) true n u cs=some x):∃a:Fin 256,cs=[.int .u8 (.ofNat a.val)]:=by obtain⟨y,e,_,b⟩:=DataW.trod_int d h;simp only[Lit.wf,qh,yc]at b;have f:0<=y/\y<=255:=⟨b.1,b.2⟩;refine⟨⟨y.toNat,om⟩,?_⟩;rw[e];congr 2;show y=((y.toNat:Nat):Int);omega
theorem aMi{H:Type}{enc:TypeId×Value->H}{P:Program}{w:World}{o:Nat}{t e u:TypeId}{cs:List Value}{x:DataW H×List MemPlace}(M:P.underlying t=some (.slice e))(N:P.underlying e=some (.slice u))(O:P.underlying u=some (.int .u8))(C:P.cellsOf e=1)(D:P.cellsOf u=1)(h:DataW.trod enc P w 0 (fun _=>true) true o t cs=some x)(k A:Nat):∃ v y R r,cs=[v]/\Ns w v k A y R r:=by
 rcases DataW.trod_slice M h with⟨m,_⟩|⟨a,len,p,F,K,n,_,s,_,_,S,_,L,G,_⟩
 ·exact⟨_,.aA,[],⟨[],0,0⟩,m,rfl,fun _ _=>by simp only[aO],rfl,fun j d=>by simp at d,.inl ⟨.inl rfl,rfl⟩⟩
 ·rcases Nat.eq_zero_or_pos len with m|m
  ·subst m;exact⟨_,.sle,[],⟨[],0,0⟩,s,rfl,fun _ _=>by simp only[aO];exact⟨_,_,rfl⟩,rfl,fun j d=>by simp at d,.inl ⟨.inr rfl,rfl⟩⟩
  ·have b:∀ i,i<len->∃ q:Nq,w.cell? (a.add i)=some q.v/\Fl w 1 fB q.v (A+i) q.y q.l q.r:=by
    intro i B;have I:=G i B;rw[lq om,C,Option.bind_eq_some_iff,qm]at I;obtain⟨T,U,V⟩:=I;obtain⟨v,y,l,r,rfl,W⟩:=z9b (z:=1) (f:=fB) (fun _=>rfl) Nat.one_pos N D (fun h=>by obtain⟨a,rfl⟩:=q4o O h;refine⟨a,fun j d=>?_⟩;obtain rfl:j=0:=om;exact⟨_,_,rfl,rfl,fun ι=>by simp only[aO],rfl⟩) V (A+i);have J:=(World.cells?_some U).2.2 0 om;rw[add_add]at J;exact⟨⟨v,y,l,r⟩,J,W⟩
   have c:a.spot=none:=by obtain⟨q,X,_⟩:=b 0 m;exact(qlg (a:=a) X).1
   obtain⟨g,Y⟩:∃ g:Nat->Nq,∀i,i<len->w.cell? (a.add i)=some (g i).v/\Fl w 1 fB (g i).v (A+i) (g i).y (g i).l (g i).r:=
    ⟨fun i=>if h:i<len then Classical.choose (b i h)else Classical.choose (b 0 m),fun i B=>by simp only[B,dif_pos];exact uw (b i B)⟩
   refine⟨_,.sl k 0 len p true,(List.range len).map g,⟨((List.range len).map g).map Nq.y,a.block,a.off⟩,s,rfl,fun ι Q=>?_,rfl,fun j d=>?_,.inr ⟨p,g3⟩⟩
   ·simp only[aO];refine⟨S,_,Q,?_⟩;obtain⟨Z,ao,az⟩:=a;cases c;rfl
   ·have E:j<len:=by simpa using d
    have:=Y j E;rw[q9l c]at this;simpa using this
theorem Ns.arg{w:World}{v:Value}{k p:Nat}{y:AV}{c:List Nq}{r:Ro}(h:Ns w v k p y c r){ks:List Ro}(u:ks[k]? =some r)(A:∀ j (e:j<c.length),ks[p+j]? =some c[j].r):iB (qu0 ks) y (c.map Nq.L):=by
 refine⟨?_,⟨c.map Nq.y,⟨?_,fun i g=>?_⟩,g3,fun i g d=>?_⟩,fun l B x n=>?_⟩
 ·rcases h.sl with⟨rfl|rfl,_⟩|⟨m,rfl⟩<;>rfl
 ·rw[pz];rcases h.sl with⟨rfl|rfl,rfl⟩|⟨m,rfl⟩<;>rfl
 ·have d:i<c.length:=by simpa using g
  rcases h.sl with⟨_,rfl⟩|⟨m,rfl⟩
  ·simp at d
  ·obtain⟨F,n⟩:=q7s u (by rw[h.eq];intro t;rw[List.map_eq_nil_iff]at t;rw[t]at d;simp at d);refine⟨k,0+i*1,vL _ _ _ _ _ _ _ _ d,n,?_⟩;rw[F,qx5,h.eq,qg,qm,lq g]
 ·have e:i<c.length:=by simpa using g
  have s:=(h.at' i e).2.rs (z:=1) (f:=fB) (fun _=>rfl) Nat.one_pos (A i e);have C:(c.map Nq.y)[i]=c[i].y:=g3;have D:u8s ((c.map Nq.L)[i])=c[i].l.map fun x=>.int .u8 (.ofNat x.val):=by simp[u8s,Nq.L]
  rw[C,D];refine⟨by rw[s.len,pz],fun j e=>?_⟩;obtain⟨b,o,G,H,_,_,I⟩:=s.at' j (by simpa using e);have E:=I 0 Nat.one_pos;exact⟨b,o,G,H,by rw[lAJ];exact E⟩
 ·obtain⟨q,_,rfl⟩:=uC.1 B;obtain⟨a,_,rfl⟩:=uC.1 n;exact a.isLt
theorem z9i{v:Type}{enc:TypeId×Value->v}{P:Program}{w:World}{S T:Nat}{M e u N y:TypeId}{O Q:List Value}{U x2:DataW v×List MemPlace}(W:P.underlying M=some (.slice e))(X:P.underlying e=some (.slice u))(Y:P.underlying u=some (.int .u8))(A:P.cellsOf e=1)(B:P.cellsOf u=1)(C:P.underlying N=some (.slice y))(D:P.cellsOf y=4)(el2:∀{n:Nat} {cs:List Value} {x:DataW v×List MemPlace},DataW.trod enc P w 0 (fun _=>true) true n y cs=some x->∃ a:Q4,∀j,j<4->∃ u V,a.cells[j]? =some u/\cs[j]? =some V/\(∀ι:Im,aO ι u V)/\V.oneCell=true)(E:DataW.trod enc P w 0 (fun _=>true) true S M O=some U)(o:DataW.trod enc P w 0 (fun _=>true) true T N Q=some x2):∃ι H i l p r,∃(L:List (List Nat)) (F:List Q4),O=[i]/\Q=[l]/\i.oneCell=true/\l.oneCell=true/\HR ι H w/\aO ι p i/\aO ι r l /\ iB H p L/\Rs 4 Q4.cells H r F/\∀ b,(H.get b).wr=false:=by
 obtain⟨i,p,c,G,rfl,d⟩:=aMi W X Y A B E 0 2;obtain⟨l,r,F,s,rfl,t⟩:=z9b (f:=Q4.cells) (fun _=>rfl) g4 C D el2 o 1;have R:∀ j (g:j<c.length),([G,s]++c.map Nq.r)[2+j]? =some c[j].r:=fun j g=>by rw[uh g3,xy,show 2+j-[G,s].length=j by simp,lq g];rfl
 obtain⟨I,J⟩:=xad (w:=w) (ks:=[G,s]++c.map Nq.r) (fun k h=>by
  rw[qi,uC]at h;rcases h with h|⟨q,K,rfl⟩
  ·simp only[su,lEE,or_false]at h;rcases h with rfl|rfl
   ·intro j g;have m:j<c.length:=by have:=g;rw[d.eq]at this;simpa using this
    obtain⟨E,o⟩:=d.at' j m;refine⟨_,E,?_,o.one⟩;have:k.l[j]=c[j].y:=by simp only[d.eq,lAJ]
    rw[this];refine o.rep _ ?_;show(([k,s]++c.map Nq.r)[2+j]?).map _=_;rw[R j m];rfl
   ·exact t.ok _
  ·obtain⟨j,g,rfl⟩:=ai K;exact(d.at' j g).2.ok _)
 exact⟨_,_,i,l,p,r,_,F,rfl,rfl,d.one,t.one,I,d.rep _ rfl,t.rep _ rfl,d.arg rfl R,t.rs (z:=4) (f:=Q4.cells) (fun _=>rfl) g4 rfl,J⟩
end Go.Di
end
