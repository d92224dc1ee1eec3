/-
 For ReachesElse: functions in direct style, their contracts, and the plain mathematics, part 4 of 7. No conditions beyond those that each theorem states.
-/
import Derived.Test.YtfkgaaibbfcaoaaGreatLinkA
import Derived.Test.YtfkgaaibbfcaoaaGreatEv2
import Derived.Test.YtfkgaaibbfcaoaaGreatConA
import Derived.Test.YtfkgaaibbfcaoaaGreatConB
import Derived.Sort.AssemblyPlain
import Derived.Test.YtfkgaaibbfcaoaaGreatConC
set_option linter.all false
open Nat renaming reduceAdd->rB,reduceMul->rI,reduceSub->rK,reduceLeDiff->rL,reduceEqDiff->rN,reduceShiftRight->rS,reduceAnd->r6
noncomputable section
namespace Go.Di
open Go.Ev Go.Proofs
variable {H:Hp} {l:List AV}
variable{P:Program}
theorem zcu{ext:cj}{f:FuncId}{args:List AV}(h:ext f args H=none)(k:Nat):gZ P ext (k+1) (.f f) args H=(aI P f).f (gZ P ext k) args H:=by show @Option.rec R1 (λ_=>R1) ((zZ P f).f (gZ P ext k) args H) (λr=>r) (ext f args H)=_;rw[h,Li]
variable{F:R1}
theorem q52{ext:cj}{f:FuncId}{args:List AV}(h:ext f args H=some F)(k:Nat):gZ P ext (k+1) (.f f) args H=F:=by show @Option.rec R1 (λ_=>R1) ((zZ P f).f (gZ P ext k) args H) (λF=>F) (ext f args H)=_;rw[h]
variable{D:Nat}{E:cj}
theorem z2c{args:List AV}(k:Nat):gZ P E (k+1) (.y D) args H=jh P (gZ P E k) D args H:=by show El P (gZ P E k) D args H=_;rw[Uk]
def nZ:List (Nat×Nat):=[(4,1919251317),(1,97),(1,98),(1,99),(2,12402),(2,12658),(2,12914),(2,13170)]
def Qq:cj:=xG 274 273 (Gv 304 305 (HZ 281 (HV [309,288] nZ (Em [35]))))
def eZ:cj:=xz 185 186 Qq
attribute [local irreducible] Go.Ev.gZ Go.Ev.aI Go.Ev.zZ
def CZ(k:Nat):Ev.Call:=gZ Tryz.prog eZ k
theorem znm(k:Nat)(f:FuncId)(l:List AV)(H:Hp)(h:eZ f l H=none):CZ (k+1) (.f f) l H=(aI Tryz.prog f).f (CZ k) l H:=
 zcu (P:=Tryz.prog) (ext:=eZ) (f:=f) (args:=l) (H:=H) h k
variable{h:FuncId}
theorem sz(f:eZ h l H=none):CZ (D+1) (.f h) l H=(aI Tryz.prog h).f (CZ D) l H:=znm _ _ _ _ f
theorem i0(k:Nat)(f:FuncId)(l:List AV)(H:Hp)(h:eZ f l H=some F):CZ (k+1) (.f f) l H=F:=
 q52 (P:=Tryz.prog) (ext:=eZ) (f:=f) (args:=l) (H:=H) h k
theorem P4(k l:Nat)(a:List AV)(H:Hp):CZ (k+1) (.y l) a H=jh Tryz.prog (CZ k) l a H:=z2c k
theorem zvx(k:Nat)(H:Hp)(h:1<=k):CZ k (.f 35) [] H=.ok (.bool true) H:=by
 have:k=(k-1)+1:=by omega
 rw[this];exact i0 _ _ _ _ rfl
def C:Nat->Ev.Call:=(cK CZ).1
theorem yB:C=CZ:=(cK CZ).2
theorem lk(f:(aI Tryz.prog h).f (C D) l H=F)(e:eZ h l H=none:=by rfl):C (D+1) (.f h) l H=F:=by rw[yB]at f ⊢;exact(znm _ _ _ _ e).trans f
end Go.Di
end
noncomputable section
namespace Go.Di
open Go.Ev
variable {H H' H0 H1 Hb:Hp} {N b c cb gb i j m n o sb z:Nat} {S:Nat->Prop} {O:Ev.Call} {cs l:List AV} {neg:Bool} {nv sv w:AV} {qr:pD}
theorem rO:bT=1000000:=rfl
attribute [go_sem] SR Fw SQ Fv TH Gn TG Gm TF Gk Tq Gj Tp Gi To Gh Tn Gg Tw FC Tv FB Tt Gb Un Hc
theorem lf{p:Prop}(h:p:=by rw[rO];omega):p:=h
theorem Gl.oG(h:Gl z H nv n l)(a:i<n):∃b o,aG z nv (iN i)=.val (.ptr b o)/\b<H.nx/\In nv b/\eY (H.get b) o z=some ((l.drop (i*z)).take z)/\∀(j:Nat),j<z->cB (H.get b) (o+j)=.val (l.getD (i*z+j) .undef):=by
 have k:=h.len;rcases h.is with⟨rfl,rfl⟩|⟨b,o,e,q,L,rfl,c,r,d,s,f⟩
 ·omega
 ·have m:i*z+z<=n*z:=by
   have:(i+1)*z<=n*z:=vL z a
   grind
  have p:o+n*z=L.length:=om;refine⟨b,o+i*z,sD _ _ _ _ _ _ _ _ a,f,⟨_,_,_,_,rfl⟩,?_,λj g=>?_⟩
  ·rw[c,y7,sB om,<-su,d]
  ·rw[c,gk];have:L[o+i*z+j]? =l[i*z+j]? :=by rw[<-d,iq];congr 1;omega
   rw[this,j0 om];simp[vt,show i*z+j<l.length by omega]
structure Rs{α:Type}(z:Nat)(f:α->List AV)(H:Hp)(v:AV)(l:List α):Prop where
 len:aD v=.val (iN (l.length))
 at':∀i (h:i<l.length),∃b o,aG z v (iN i)=.val (.ptr b o)/\b<H.nx/\In v b/\eY (H.get b) o z=some (f l[i])/\∀j (h:j<(f l[i]).length),cB (H.get b) (o+j)=.val (f l[i])[j]
variable{β:Type}
theorem Rs.dR{f:β->List AV}{l:List β}(h:Rs z f H nv l)(a:Fm S H H')(g:∀b,In nv b->¬S b):Rs z f H' nv l:=⟨h.len,λi k=>by obtain⟨b,o,n,c,d,p,q⟩:=h.at' i k;have e:=a.get b c (g b d);exact⟨b,o,n,AE c a.nx,d,by rw[e];exact p,λj m=>by rw[e];exact q j m⟩⟩
theorem Rs.fm{f:β->List AV}{l:List β}(h:Rs z f H nv l)(a:Fm No H H'):Rs z f H' nv l:=h.dR a λ_ _ h=>h
attribute [grind .] Rs.fm
structure Ac{α:Type}(z:Nat)(f:α->List AV)(H0 H:Hp)(v:AV)(l:List α):Prop where
 gl:Gl z H v l.length (l.flatMap f)
 fm:Fm No H0 H
 nw:∀b,In v b->H0.nx<=b
theorem Ac.nil(z:Nat)(f:β->List AV)(h:Fm No H0 H):Ac z f H0 H .aA ([]:List β):=⟨Gl.nil z H,h,λb a=>by obtain⟨_,_,_,_,h⟩:=a;cases h⟩
theorem Ac.no{f:β->List AV}{l:List β}(h:Ac z f H0 H nv l)(a:Fm No H H'):Ac z f H0 H' nv l:=⟨h.gl.no a,h.fm.trans a,h.nw⟩
attribute [grind .] Ac.no
theorem Ac.bF{f:β->List AV}{l:List β}(h:Ac z f H0 H nv l):aD nv=.val (iN (l.length)):=h.gl.bF
theorem Ac.add{f:β->List AV}{l:List β}(h:Ac z f H0 H nv l)(x:β)(w:Nat)(o:(f x).length=z)(a:(l.length+1)*w<=1099511627776)(d:l.length+1<=1099511627776):Ok (jD z w H nv (some ⟨1,f x⟩)) λi H'=>Ac z f H0 H' i (l++[x]):=by
 obtain⟨H',e,m,_,g,nx'⟩:=h.gl.append (k:=1) (w:=w) (x:=f x) om om a d;refine⟨_,H',e,?_,h.fm.then g λc p j=>by have:=h.nw c j;omega,λb a=>?_⟩
 ·simp_all
 ·obtain⟨_,_,_,_,n⟩:=a;cases n;exact h.fm.nx
theorem oA{f:β->List AV}(b:∀x,(f x).length=N):∀(l:List β) (i:Nat) (h:i<l.length),((l.flatMap f).drop (i*N)).take N=f l[i]
 | [],_,h=>by simp at h
 |a::l,0,_=>by simp_all
 |a::l,i+1,h=>by rw[DM,bz,ut,Nat.add_comm,<-su,List.drop_left' (b a)];exact oA b l i (by simpa using h)
theorem Gl.rs{f:β->List AV}(c:∀x,(f x).length=z){l:List β}(h:Gl z H nv l.length (l.flatMap f)):Rs z f H nv l:=⟨h.bF,λi d=>by
 obtain⟨b,o,g,k,m,e,n⟩:=h.oG d;rw[oA c l i d]at e;refine⟨b,o,g,k,m,e,λj a=>?_⟩;rw[n j (by rw[c]at a;exact a)];have:(f l[i])[j]? =(l.flatMap f)[i*z+j]?:=by rw[<-oA c l i d,tu,sB (by rw[c]at a;exact a),iq]
 rw[j0 a]at this;rw[vt,<-this];rfl⟩
theorem Ac.rs{f:β->List AV}(a:∀x,(f x).length=z){l:List β}(h:Ac z f H0 H nv l):Rs z f H nv l:=h.gl.rs a
theorem Gl.lt(h:Gl z H nv n l)(c:In nv b):b<H.nx:=by
 obtain⟨o,d,m,e,rfl⟩:=c;rcases h.is with⟨a,_⟩|⟨f,g,i,q,L,a,_,_,_,_,j⟩
 ·cases a
 ·simp_all
attribute [grind ->] Gl.lt
structure mH{α:Type}(z:Nat)(f:α->List AV)(S:Nat->Prop)(H0 H:Hp)(v:AV)(l:List α):Prop where
 gl:Gl z H v l.length (l.flatMap f)
 fm:Fm S H0 H
 nw:∀b,In v b->S b\/H0.nx<=b
theorem mH.no{f:β->List AV}{l:List β}(h:mH z f S H0 H nv l)(a:Fm No H H'):mH z f S H0 H' nv l:=⟨h.gl.no a,h.fm.then a λ_ _ h=>absurd h id,h.nw⟩
attribute [grind .] mH.no
theorem mH.add{f:β->List AV}{l:List β}(h:mH z f S H0 H nv l)(x:β)(w:Nat)(o:(f x).length=z)(a:(l.length+1)*w<=1099511627776)(d:l.length+1<=1099511627776):Ok (jD z w H nv (some ⟨1,f x⟩)) λi H'=>mH z f S H0 H' i (l++[x]):=by
 obtain⟨H',e,m,_,g,nx'⟩:=h.gl.append (k:=1) (w:=w) (x:=f x) om om a d;refine⟨_,H',e,?_,h.fm.then g λc p j=>?_,λb a=>?_⟩
 ·simp_all
 ·rcases h.nw c j with h|h
  ·exact h
  ·omega
 ·obtain⟨_,_,_,_,n⟩:=a;cases n;exact .inr h.fm.nx
theorem Ac.start{α:Type}{f:α->List AV}{v:AV}{l:List α}(h:Ac z f H0 H v l):mH z f (In v) H H v l:=⟨h.gl,om,om⟩
theorem Ac.old{f:β->List AV}{l:List β}(h:Ac z f H0 H nv l)(a:Fm (In nv) H H'):Fm No H0 H':=h.fm.then a λc d b=>by have:=h.nw c b;omega
theorem Ac.fin{f:β->List AV}{l e:List β}(h:Ac z f H0 H nv l)(a:mH z f (In nv) H H' sv e):Ac z f H0 H' sv e:=⟨a.gl,h.old a.fm,λb g=>by
 rcases a.nw b g with c|c
 ·exact h.nw b c
 ·exact AL h.fm.nx c⟩
structure SS where
 n:Nat
 a:Nat
 deriving DecidableEq
def SS.v(s:SS):AV:=.str s.n s.a
def sE:SS:=⟨0,0⟩
def sU:SS:=⟨4,1919251317⟩
def bB(n:Nat):Nat:=[0,1,1,2].getD (n%4) 0
def gN(n:Nat):SS:=⟨2,12402+256*(n%4)⟩
def dO(n:Nat):SS:=⟨1,97+n%3⟩
def bY(L:List (List Nat)):Nat:=min L.length 12
def gM(L:List (List Nat))(n i:Nat):Nat:=(L.getD n []).getD i 0
structure Rl(H:Hp)(v:AV)(l:List AV):Prop where
 len:aD v=.val (iN (l.length))
 at':∀i (h:i<l.length),∃b o,aG 1 v (iN i)=.val (.ptr b o)/\b<H.nx/\cB (H.get b) o=.val l[i]
theorem Rl.fm(h:Rl H nv l)(f:Fm No H H'):Rl H' nv l:=⟨h.len,λi c=>by obtain⟨b,o,d,a,e⟩:=h.at' i c;exact⟨b,o,d,AE a f.nx,by rw[f.keep a];exact e⟩⟩
attribute [grind .] Rl.fm
def cQ(l:List Nat):List AV:=l.map λx=>uN x
structure iD(H:Hp)(v:AV)(L:List (List Nat)):Prop where
 flat:wW v=true
 ex:∃ws:List AV,Rl H v ws/\ws.length=L.length/\∀i (h:i<ws.length) (h':i<L.length),Rl H ws[i] (cQ L[i])
 lt:∀l∈L,∀x∈l,x<256
theorem iD.fm{L:List (List Nat)}(h:iD H nv L)(f:Fm No H H'):iD H' nv L:=by obtain⟨ws,c,d,e⟩:=h.ex;exact⟨h.flat,⟨ws,c.fm f,d,λi a b=>(e i a b).fm f⟩,h.lt⟩
attribute [grind .] iD.fm
theorem iD.len{L:List (List Nat)}(h:iD H nv L):aD nv=.val (iN (L.length)):=by obtain⟨ws,a,b,_⟩:=h.ex;rw[a.len,b]
theorem iD.at{L:List (List Nat)}(h:iD H nv L)(c:i<L.length):∃b o w,aG 1 nv (iN i)=.val (.ptr b o)/\b<H.nx/\cB (H.get b) o=.val w/\Rl H w (cQ L[i]):=by
 obtain⟨ws,a,d,e⟩:=h.ex;obtain⟨b,o,f,g,j⟩:=a.at' i om
 grind
theorem Ud(n a:Nat):vJ (.str n a)=some [.str n a]:=id rfl
theorem z9l(x:List AV):aU x 4=x++(x++(x++x)):=id (by show x++(x++(x++(x++[])))=_;rw[DN])
attribute [go_sem] Ud z9l
theorem aXb(a b:Nat):rT pQ (iN a) [iN b]=.val (iN ((min a b))):=by
 show R0.val (.int .i64 (bif rH (.ofNat b) (.ofNat a)then .ofNat b else .ofNat a))=_;rw[eH]
 grind
theorem y6{k:Nat}(a:1<=k){L:List (List Nat)}(h:iD H nv L):Ok (C k (.f 112) [.agg [nv]] H) λr H'=>r=iN ((bY L))/\Fm No H H':=by obtain⟨j,rfl⟩:=aO a;rw[lk (zs2 ..)];unfold XJ;have e:=h.len;refine dS e aXb ?_;exact Ok.ret ⟨rfl,fm⟩
theorem Qm(a b c d:β)(n:Nat):[a,b,c,d][n%4]? =some ([a,b,c,d].getD (n%4) a):=om
theorem at3(a b c:β)(n:Nat):[a,b,c][n%3]? =some ([a,b,c].getD (n%3) a):=om
theorem ot{k:Nat}(a:1<=k)(n:Nat)(c:n<1000000)(H:Hp):Ok (C k (.f 170) [iN n] H) λr H'=>r=iN ((bB n))/\Fm No H H':=by
 obtain⟨j,rfl⟩:=aO a;rw[lk (zsj ..)];unfold Xs;have b:n%4<4:=om;simp(disch:=go_size)only[go_sem,rB,rI,rK,rL,rN,rS,r6,Qm];refine Ok.ret ⟨?_,fm⟩;unfold bB
 match n%4,b with
 |0,_|1,_|2,_|3,_=>rfl
theorem CX{k:Nat}(a:1<=k)(n:Nat)(c:n<1000000)(H:Hp):Ok (C k (.f 115) [iN n] H) λr H'=>r=(gN n).v/\Fm No H H':=by
 obtain⟨j,rfl⟩:=aO a;rw[lk (zsy ..)];unfold XH;have b:n%4<4:=om;simp(disch:=go_size)only[go_sem,rB,rI,rK,rL,rN,rS,r6,Qm];refine Ok.ret ⟨?_,fm⟩;unfold gN SS.v
 match n%4,b with
 |0,_|1,_|2,_|3,_=>rfl
theorem Gu{k:Nat}(a:1<=k)(n:Nat)(c:n<1000000)(H:Hp):Ok (C k (.f 113) [iN n] H) λr H'=>r=(dO n).v/\Fm No H H':=by
 obtain⟨j,rfl⟩:=aO a;rw[lk (zs1 ..)];unfold XI;have b:n%3<3:=om;simp(disch:=go_size)only[go_sem,rB,rI,rK,rL,rN,rS,r6,at3];refine Ok.ret ⟨?_,fm⟩;unfold dO SS.v
 match n%3,b with
 |0,_|1,_|2,_=>rfl
theorem Lq{k:Nat}(s:1<=k){L:List (List Nat)}(h:iD H nv L)(l:n<L.length):Ok (C k (.f 171) [.agg [nv],iN n,iN i] H) λr H'=>r=uN ((gM L n i))/\Fm No H H':=by
 obtain⟨j,rfl⟩:=aO s;rw[lk (zsi ..)];unfold Xr;have a:Fm No H (aH H (aB 0 [nv])):=om;obtain⟨b,o,w,m,t,p,q⟩:=(h.fm a).at l;have c:=q.len;have d:(cQ L[n]).length=L[n].length:=by simp[cQ]
 rw[d]at c;have e:L.getD n []=L[n]:=by rw[vt,j0 l];rfl
 by_cases g:i<L[n].length
 ·obtain⟨u,x,g1,g2,g3⟩:=q.at' i om;have f:(cQ L[n])[i]'om=uN ((gM L n i)):=by
   unfold gM;rw[e,vt,j0 g];simp[cQ]
  rw[f]at g3;refine cF m p c g g1 g3 ?_;exact Ok.ret ⟨rfl,a⟩
 ·have f:gM L n i=0:=by
   unfold gM;simp_all
  refine jF m p c g ?_;rw[f];exact Ok.ret ⟨rfl,a⟩
def ir(k:Nat)(r t:SS)(a:AV):AV:=.agg [uN k,r.v,t.v,a]
def sC(s:SS):List AV:=[s.v]
theorem TQ(H:Hp)(b o n a:Nat):kL H (.ptr b o) (.str n a)=storeAt H b o [.str n a] .undef:=id rfl
attribute [go_sem] TQ
theorem ox{k:Nat}(a:1<=k)(neg:Bool)(H:Hp):Ok (C k (.f 167) [.bool neg] H) λr H'=>r=(if neg then ir 2 (gN 0) sE .aA else ir 1 sE sE .aA)/\Fm No H H':=by
 obtain⟨j,rfl⟩:=aO a;rw[lk (zsm ..)];unfold Xv;cases neg
 ·simp only[go_sem];unfold zx1;refine aS ?_;exact Ok.ret ⟨rfl,fm⟩
 ·refine aS ?_;exact Ok.ret ⟨rfl,fm⟩
def gJ(n k:Nat)(neg:Bool):Bool:=decide (bB k<bB n)||(!neg&&decide (bB k=bB n))
theorem zmo{k:Nat}(c:2<=k)(n m:Nat)(a:n<1000000)(b:m<1000000)(neg:Bool)(H:Hp):Ok (C k (.f 225) [iN n,iN m,.bool neg] H) λr H'=>r=.bool (gJ n m neg)/\Fm No H H':=by
 obtain⟨j,rfl⟩:=aO c;rw[lk (zr7 ..)];refine Ok.ve (ot (k:=j) om m b H) ?_;rintro _ H1 ⟨rfl,g⟩;refine Ok.ve (ot (k:=j) om n a H1) ?_;rintro _ e ⟨rfl,i⟩;unfold gJ;by_cases h:bB m<bB n
 ·have d:(bB m<bB n)=True:=ae h;simp only[go_sem,d];exact Ok.ret ⟨g3,om⟩
 ·cases neg
  ·simp only[go_sem,h];refine Ok.ve (ot (k:=j) om m b e) ?_;rintro _ f ⟨rfl,l⟩;simp only[go_sem];refine Ok.ve (ot (k:=j) om n a f) ?_;rintro _ o ⟨rfl,p⟩;simp only[go_sem];exact Ok.ret ⟨g3,om⟩
  ·simp only[go_sem,h];exact Ok.ret ⟨g3,om⟩
def rg(a b:Nat):List Nat:=(List.range b).drop a
theorem xT(h:N<=i):rg N (i+1)=rg N i++[i]:=by unfold rg;rw[uA,oh (by simpa using h)]
theorem Ib(a:Nat):rg a a=[]:=by unfold rg;rw[ig g3]
theorem qg2:c∈rg N b↔N<=c/\c<b:=by
 unfold rg;rw[lUM];constructor
 ·grind
 ·intro h;exact⟨c-N,g2,g2⟩
theorem pc(a b:Nat):(rg a b).length=b-a:=by unfold rg;simp
def bM(m n:Nat)(neg:Bool):List SS:=((rg (n / 4*4) (min m (n / 4*4+4))).filter (gJ n · neg)).map gN
theorem pi(s:SS):(sC s).length=1:=rfl
structure qhf(H:Hp)(b:Nat)(v:AV):Prop where
 lt:b<H.nx
 is:H.get b=aB 0 [v]
theorem qhf.fm(h:qhf H b nv)(f:Fm No H H'):qhf H' b nv:=⟨AE h.lt f.nx,(f.keep h.lt).trans h.is⟩
attribute [grind .] qhf.fm
variable{D:pL}
theorem Ls(r:2<=j){L:List (List Nat)}(s:n<100000)(e:iD H1 nv L)(f:qhf H1 cb nv)(d:∀w H,Ac 1 sC H1 H w (bM (bY L) n neg)->Ok (qr w H) D):∀(k i:Nat) (w:AV) (H:Hp),n / 4*4<=i->i<=max (min (bY L) (n / 4*4+4)) (n / 4*4)->n / 4*4+4-i<k->Ac 1 sC H1 H w (((rg (n / 4*4) i).filter (gJ n · neg)).map gN) -> Ok (HC (C j) qr (iN n) (.bool neg) (.ptr cb 0) k w (iN i) H) D
 |0,i,_,_,_,_,h,_=>om
 |k+1,i,w,H,hi,hi2,hk,hw=>by
  show Ok (KH (C j) _ _ _ _ (HC (C j) _ _ _ _ k) _ _ H) D;unfold KH;have g:=f.fm hw.fm;have e0:=g.is;simp only[go_sem,e0];refine Ok.ve (y6 (k:=j) om (e.fm hw.fm)) ?_;rintro _ p ⟨rfl,x⟩;have a:=hw.no x;by_cases c:i<bY L/\i<n / 4*4+4
  ·obtain⟨b,o⟩:=c;refine dS b o ?_;refine Ok.ve (zmo (k:=j) om n i om om neg p) ?_;rintro _ t ⟨rfl,y⟩;have l:=a.no y;have F:=xT hi;cases I:gJ n i neg
   ·simp only[go_sem];unfold HE;refine aS ?_;refine Ls r s e f d k (i+1) w t om om om ?_;simp_all
   ·simp only[go_sem];refine Ok.ve (CX (k:=j) om i om t) ?_;rintro _ z ⟨rfl,A⟩;have m:=l.no A;unfold SS.v;refine aS ?_;have G:(((rg (n / 4*4) i).filter (gJ n · neg)).map gN).length<=4:=by
     rw[vu];refine AL (ou _ _) ?_;rw[pc];omega
    refine Ok.ve ((m.no ((Fm.refl No z).push (aB 0 [.str (gN i).n (gN i).a]))).add (gN i) 16 rfl om om) ?_;intro B Q E;unfold HE;refine aS ?_;refine Ls r s e f d k (i+1) B Q om om om ?_;simp_all
  ·have u:rg (n / 4*4) i=rg (n / 4*4) (min (bY L) (n / 4*4+4)):=by
    by_cases h:n / 4*4<=min (bY L) (n / 4*4+4)
    ·congr 1;omega
    ·unfold rg;rw[ig g2,ig g2]
   rw[u]at a;by_cases b:i<bY L
   ·have o:¬i<n / 4*4+4:=λh=>c ⟨b,h⟩;refine dS b o ?_;exact d w p a
   ·simp only[go_sem,b];exact d w p a
theorem Yz(x:Nat)(h:x<256):io .i64 (uN x)=.val (iN x):=by show R0.val (.int .i64 (zH .i64 (.ofNat x)))=_;rw[Bo _ om]
theorem zv7(n:Nat)(h:n<256):zH .u8 (.ofNat n)=.ofNat n:=by show(bif Nat.blt n 256 then _ else _)=_;rw[blt_eq,j7 h];rfl
theorem zyp(a b:Nat)(h:0<b)(c:a<256):eP (lT .quo).f (uN a) (uN b)=.val (uN ((a / b))):=by show(bif uI (.ofNat b) 0 then R0.bad else .val (.int .u8 (zH .u8 (Int.tdiv (.ofNat a) (.ofNat b)))))=_;rw[eI,sT (by simp only[qf];omega)];show R0.val (.int .u8 (zH .u8 (.ofNat (a / b))))=_;rw[zv7 _ (yf (Nat.div_le_self _ _) c)]
theorem z8x(n j:Nat)(k:IntKind)(h:j<=8):C3 (BE .shr).f (uN n) (.int k (.ofNat j))=.val (uN ((n / 2 ^ j))):=by
 show(bif rH (.ofNat j) 0 then R0.bad else .val (.int .u8 ((Int.ofNat n).fdiv (2 ^ (min j 8)))))=_;rw[eH,lh h]
 grind
attribute [go_sem] Yz zyp z8x
theorem YA{L:List (List Nat)}(h:iD H nv L)(n i:Nat):gM L n i<256:=by
 unfold gM;rw[vt,vt];cases a:L[n]? with
 |none=>simp
 |some l=>
  simp only[Option.getD_some];cases b:l[i]? with
  |none=>simp
  |some x=>exact h.lt l om x om
structure At(m n:Nat)(neg:Bool):Prop where
 lt:n<m
 le:m<=12
 up:neg=true->0<bB n
theorem aWe(q:Nat):bB (q*4)=0:=by unfold bB;rw[Nat.mul_mod_left];rfl
theorem M0(h:At m n neg):0<(bM m n neg).length:=by
 unfold bM;rw[vu];refine List.length_pos_of_mem (a:=n / 4*4) ?_;rw[lEU,qg2];have:=h.lt;refine⟨om,?_⟩;unfold gJ;rw[aWe];cases neg with
 |true=>simp[h.up rfl]
 |false=>simp;omega
theorem Rs.at1{f:β->List AV}{g:β->AV}(e:∀x,f x=[g x]){l:List β}(h:Rs 1 f H nv l)(a:i<l.length):∃b o,aG 1 nv (iN i)=.val (.ptr b o)/\b<H.nx/\cB (H.get b) o=.val (g l[i]):=by obtain⟨b,o,c,d,_,j,k⟩:=h.at' i a;refine⟨b,o,c,d,?_⟩;simp_all
theorem Tk{k:Nat}(l:4<=k){v:AV}{L:List (List Nat)}(m:iD H v L)(d:At (bY L) n neg)(z:c<256):Ok (C k (.f 168) [.agg [v],iN n,uN c,.bool neg] H) λr H'=>
   r=ir 2 ((bM (bY L) n neg).getD (c%(bM (bY L) n neg).length) sE) sE .aA/\Fm No H H':=by
 obtain⟨j,rfl⟩:=aO l;rw[lk (zsl ..)];unfold Xu;have q:=M0 d;have A:=d.lt;have s:=d.le;refine aS ?_;rw[dD];have t:Fm No H (aH (aH H (aB 0 [v])) (aB 0 [uN 0,zS,zS,.aA])):=om;have f:Fm No (aH H (aB 0 [v])) (aH (aH H (aB 0 [v])) (aB 0 [uN 0,zS,zS,.aA])):=om;have h:qhf (aH H (aB 0 [v])) H.nx v:=⟨om,g5⟩;refine Ls om om (m.fm t) (h.fm f) (λw p e=>?_) bT (n / 4*4) .aA _ (AF _) om lf ?_
 ·unfold ON;have u:=e.bF;have x:=e.fm;have a:c%(bM (bY L) n neg).length<(bM (bY L) n neg).length:=ah _ q;obtain⟨b,o,y,B,i⟩:=(e.rs pi).at1 (g:=SS.v) (λ_=>rfl) a;have k2:p.get (H.nx+1)=aB 0 [uN 0,zS,zS,.aA]:=(x.keep gz).trans g5;unfold SS.v at i;refine jF u y i k2 ?_;refine Ok.ret ⟨?_,om⟩;rw[vt,j0 a];rfl
 ·rw[Ib];exact Ac.nil _ _ om
structure jW where
 sp:SS
 rl:SS
 deriving DecidableEq
def tC(t:jW):List AV:=[t.sp.v,t.rl.v]
theorem fz(t:jW):(tC t).length=2:=rfl
def nS(m:Nat):Nat:=min 3 ((m+3) / 4)
def yN(c i:Nat):List jW:=⟨sU,sE⟩::((rg 0 i).filter λi=>decide (c / 2 ^ i%2=1)).map λi=>⟨dO i,sE⟩
def vQ(m n:Nat):List jW:=((rg 0 m).filter λk=>decide (bB k<=bB n)).map λk=>⟨dO (k / 4),gN k⟩
def mO(L:List (List Nat))(n:Nat):List jW:=
 yN (gM L n 0) (nS (bY L))++if gM L n 1%2=1 then[(vQ (bY L) n).getD (gM L n 1 / 2%(vQ (bY L) n).length) ⟨sE,sE⟩]else[]
theorem Ac.one{f:β->List AV}(x:β)(a:(f x).length=z)(h:Fm No H0 H):Ac z f H0 (aH H (aB 0 (f x))) (.sl H.nx 0 1 1 true) [x]:=
 ⟨⟨by simp[a],.inr ⟨_,_,_,_,_,rfl,uR _ _,om,g3,om,om⟩⟩,om,λb c=>by obtain⟨_,_,_,_,d⟩:=c;cases d;exact h.nx⟩
theorem LG(o:2<=j){L:List (List Nat)}(p:n<100000)(d:iD H1 nv L)(e:qhf H1 cb nv)(r:∀w H,Ac 2 tC H1 H w (vQ (bY L) n)->Ok (qr w H) D):∀(k i:Nat) (w:AV) (H:Hp),i<=bY L->bY L-i<k->Ac 2 tC H1 H w (vQ i n) -> Ok (G6 (C j) qr (iN n) (.ptr cb 0) k w (iN i) H) D
 |0,i,_,_,_,h,_=>om
 |k+1,i,w,H,hi,hk,hw=>by
  show Ok (Kk (C j) _ _ _ (G6 (C j) _ _ _ k) _ _ H) D;unfold Kk;have I:bY L<=12:=vT _ _;have f:=e.fm hw.fm;have e0:=f.is;simp only[go_sem,e0];refine Ok.ve (y6 (k:=j) om (d.fm hw.fm)) ?_;rintro _ u ⟨rfl,x⟩;have g:=hw.no x;by_cases b:i<bY L
  ·simp only[go_sem,b];refine Ok.ve (ot (k:=j) om i om u) ?_;rintro _ y ⟨rfl,z⟩;refine Ok.ve (ot (k:=j) om n om y) ?_;rintro _ t ⟨rfl,A⟩;have a:=(g.no z).no A;have s:rg 0 (i+1)=rg 0 i++[i]:=xT om;by_cases c:bB i<=bB n
   ·refine dI c ?_;refine Ok.ve (Gu (k:=j) om (i / 4) om t) ?_;rintro _ B ⟨rfl,Q⟩;refine Ok.ve (CX (k:=j) om i om B) ?_;rintro _ M ⟨rfl,E⟩;have l:=(a.no Q).no E;unfold SS.v;refine aS ?_;have J:(vQ i n).length<=12:=by
     unfold vQ;rw[vu];refine AL (ou _ _) ?_;rw[pc];omega
    refine Ok.ve ((l.no om).add ⟨dO (i / 4),gN i⟩ 32 rfl om om) ?_;intro F G m;unfold oE;refine aS ?_;refine LG o p d e r k (i+1) F G om om ?_;unfold vQ;rw[s,lg,dm,j7 c];simpa [vQ] using m
   ·simp only[go_sem,c];unfold oE;refine aS ?_;refine LG o p d e r k (i+1) w t om om ?_;unfold vQ;rw[s,lg,dm,sT c];simpa [vQ] using a
  ·have K:i=bY L:=om;simp only[go_sem,b];simp_all
theorem K3(c i:Nat):(yN c i).length<=i+1:=by unfold yN;rw[nk,vu];have:=ou (λi=>decide (c / 2 ^ i%2=1)) (rg 0 i);rw[pc]at this;omega
theorem HW(h:n<m):0<(vQ m n).length:=by unfold vQ;rw[vu];refine List.length_pos_of_mem (a:=n) ?_;rw[lEU,qg2];simp_all
theorem Ac.trans{f:β->List AV}{l:List β}(a:Fm No H0 H1)(h:Ac z f H1 H nv l):Ac z f H0 H nv l:=⟨h.gl,a.trans h.fm,λb c=>AL a.nx (h.nw b c)⟩
theorem Rs.oG{f:β->List AV}{l:List β}(h:Rs z f H nv l)(a:i<l.length):∃b o,aG z nv (iN i)=.val (.ptr b o)/\b<H.nx/\eY (H.get b) o z=some (f l[i]):=by
 obtain⟨b,o,c,d,_,e,_⟩:=h.at' i a
 grind
theorem zjd(y:2<=j){L:List (List Nat)}(m:n<bY L)(f:iD H nv L)(p:qhf H cb nv)(z:Ac 2 tC H0 H w (yN (gM L n 0) (nS (bY L)))):Ok (G8 (C j) (iN n) (.ptr cb 0) w H) λr H'=>Ac 2 tC H0 H' r (mO L n):=by
 have I:bY L<=12:=vT _ _;have a:n<L.length:=AE m (qi _ _);unfold G8;have e0:=p.is;simp only[go_sem,e0];refine Ok.ve (Lq (k:=j) om f a) ?_;rintro _ H1 ⟨rfl,g⟩;have c:=z.no g;unfold mO;have J:=YA f n 1;by_cases h:gM L n 1%2=1
 ·rw[sB h];refine dI h ?_;rw[dD];refine LG y om (f.fm g) om (λu G q=>?_) bT 0 .aA H1 om lf (Ac.nil _ _ om);unfold Ki;have i:=q.fm;have A:=((p.fm g).fm i).is;simp only[go_sem,A];refine Ok.ve (Lq (k:=j) om ((f.fm g).fm i) a) ?_;rintro _ K ⟨rfl,t⟩;have d:=q.no t;have B:=d.bF;have e:gM L n 1 / 2%(vQ (bY L) n).length<(vQ (bY L) n).length:=ah _ (HW m);obtain⟨b,o,F,_,x⟩:=(d.rs fz).oG e;have D:(vQ (bY L) n).getD (gM L n 1 / 2%(vQ (bY L) n).length) ⟨sE,sE⟩=(vQ (bY L) n)[gM L n 1 / 2%(vQ (bY L) n).length]:=om;rw[D];have s:=K3 (gM L n 0) (nS (bY L));have E:nS (bY L)<=3:=qi _ _;unfold tC at x;refine gW B F x ?_;refine Ok.ve ((((c.no i).no t).no om).add _ 32 rfl om om) ?_;intro M N l;exact Ok.ret l
 ·rw[sy h,DN];refine dI h ?_;exact Ok.ret c
theorem LH(o:2<=j){L:List (List Nat)}(e:n<bY L)(c:iD H0 nv L)(d:qhf H0 cb nv)(p:∀w H,Ac 2 tC H0 H w (yN (gM L n 0) (nS (bY L)))->Ok (qr w H) D):∀(k i:Nat) (w:AV) (H:Hp),i<=nS (bY L)->3-i<k->Ac 2 tC H0 H w (yN (gM L n 0) i) -> Ok (G5 (C j) qr (iN n) (.ptr cb 0) k w (iN i) H) D
 |0,i,_,_,_,h,_=>om
 |k+1,i,w,H,hi,hk,hw=>by
  show Ok (Kj (C j) _ _ _ (G5 (C j) _ _ _ k) _ _ H) D;unfold Kj;have G:bY L<=12:=vT _ _;have f:n<L.length:=AE e (qi _ _);have u:nS (bY L)<=3:=qi _ _;have e0:=(d.fm hw.fm).is;refine dI e0 ?_;refine Ok.ve (y6 (k:=j) om (c.fm hw.fm)) ?_;rintro _ K ⟨rfl,z⟩;have a:=hw.no z;by_cases b:i<nS (bY L)
  ·have g:4*i<bY L:=by unfold nS at b;omega
   have r:i<3:=om;simp only[go_sem,g,r];unfold Z5;have x:=(d.fm a.fm).is;simp only[go_sem,x];refine Ok.ve (Lq (k:=j) om (c.fm a.fm) f) ?_;rintro _ s ⟨rfl,A⟩;have l:=a.no A;have I:rg 0 (i+1)=rg 0 i++[i]:=xT om;by_cases t:gM L n 0 / 2 ^ i%2=1
   ·refine dI t ?_;refine Ok.ve (Gu (k:=j) om i om s) ?_;rintro _ M ⟨rfl,B⟩;have m:=l.no B;unfold SS.v;refine aS ?_;have J:=K3 (gM L n 0) i;refine Ok.ve ((m.no om).add ⟨dO i,sE⟩ 32 rfl om om) ?_;intro Q E F;unfold G7;refine aS ?_;refine LH o e c d p k (i+1) Q E om om ?_;have:yN (gM L n 0) (i+1)=yN (gM L n 0) i++[⟨dO i,sE⟩]:=by
     unfold yN;simp_all
    simp_all
   ·refine dI t ?_;unfold G7;refine aS ?_;refine LH o e c d p k (i+1) w s om om ?_;have:yN (gM L n 0) (i+1)=yN (gM L n 0) i:=by
     unfold yN;simp_all
    simp_all
  ·have y:i=nS (bY L):=om;rw[y]at a;by_cases g:4*i<bY L
   ·have r:¬i<3:=by unfold nS at b;omega
    omega
   ·simp only[go_sem,g];simp_all
theorem RO{k:Nat}(e:4<=k){v:AV}{L:List (List Nat)}(g:iD H v L)(c:n<bY L):Ok (C k (.f 116) [.agg [v],iN n] H) λr H'=>Ac 2 tC H H' r (mO L n):=by obtain⟨j,rfl⟩:=aO e;rw[lk (zsx ..)];unfold XG;simp only[go_sem];rw[dD];have a:qhf (aH H (aB 0 [v])) H.nx v:=⟨om,om⟩;have d:Fm No H (aH H (aB 0 [v])):=om;have h:=Ac.one (z:=2) (f:=tC) (H0:=aH H (aB 0 [v])) ⟨sU,sE⟩ rfl (Fm.refl _ _);refine LH om c om a (λw i b=>?_) bT 0 _ _ om lf h;refine(zjd om c ((g.fm d).fm b.fm) (a.fm b.fm) (b.trans (H0:=H) d)).mono om
theorem zy0(n a m b:Nat):eF (lQ .eql).f (.str n a) (.str m b)=.val (.bool (decide (n=m/\a=b))):=by show R0.val (.bool (Nat.beq n m&&Nat.beq a b))=_;rw[beq_eq,beq_eq,Bool.decide_and]
theorem ER(n a m b:Nat):eF (lQ .neq).f (.str n a) (.str m b)=.val (.bool (!decide (n=m/\a=b))):=by show R0.val (.bool (!(Nat.beq n m&&Nat.beq a b)))=_;rw[beq_eq,beq_eq,Bool.decide_and]
theorem zm4(n a:Nat):lV 64 (.str n a) (.str n a)=true:=by show(Nat.beq n n&&Nat.beq a a)=true;simp
attribute [go_sem] zy0 ER zm4
theorem pE(s t:SS):(s=t)↔(s.n=t.n/\s.a=t.a):=by cases s;cases t;simp
structure gO where
 rl:SS
 to:SS
 deriving DecidableEq
def jB(x:gO):List AV:=[uN 3,x.rl.v,x.to.v,.aA]
theorem z2i(t:gO):(jB t).length=4:=rfl
def iz(n:Nat)(neg:Bool)(t:jW)(j:Nat):Bool:=decide (t.rl=sE)&&decide (t.sp=dO (j / 4))&&gJ n j neg
def cG(n:Nat)(neg:Bool)(k:Nat)(t:jW)(m:Nat):List gO:=((rg 0 m).filter (iz n neg t)).map λj=>⟨gN k,gN j⟩
def AB(L:List (List Nat))(n:Nat)(neg:Bool)(k:Nat):List gO:=(mO L k).flatMap λt=>cG n neg k t (bY L)
def oL(L:List (List Nat))(n:Nat)(neg:Bool)(i:Nat):List gO:=(rg (n / 4*4) i).flatMap (AB L n neg)
theorem K9(n:Nat)(neg:Bool)(k:Nat)(t:jW)(m:Nat):(cG n neg k t m).length<=m:=by unfold cG;rw[vu];refine AL (ou _ _) ?_;rw[pc];omega
theorem zwc(n:Nat)(neg:Bool)(k:Nat)(t:jW)(i:Nat):cG n neg k t (i+1)=cG n neg k t i++if iz n neg t i then[⟨gN k,gN i⟩]else[]:=by
 unfold cG;rw[xT (vy _),lg,dm]
 grind
theorem EU{α:Type}(g:α->List β)(c:Nat)(h:∀x,(g x).length<=c):∀l:List α,(l.flatMap g).length<=c*l.length
 | []=>g3
 |a::l=>by rw[DM,nj,nk,Nat.mul_add,vx];have:=EU g c h l;have:=h a;omega
variable{ts:List jW}
theorem Bc(z:3<=j){L:List (List Nat)}{d:Nat}(B:n<100000)(e:d<100000)(p:∀H',Fm S H0 H'->iD H' nv L)(r:∀H',Fm S H0 H'->qhf H' cb nv)(s:∀H',Fm S H0 H'->Rs 2 tC H' sv ts){x:Nat}(t:x<ts.length){A:List gO}(Q:A.length<=1000000)(E:∀w H,mH 4 jB S H0 H w (A++cG n neg d ts[x] (bY L))->Ok (qr w H) D):∀(k i:Nat) (w:AV) (H:Hp),i<=bY L->bY L-i<k->mH 4 jB S H0 H w (A++cG n neg d ts[x] i) -> Ok (Hw (C j) qr (iN n) (.bool neg) (.ptr cb 0) (iN d) sv (iN x) k w (iN i) H) D
 |0,i,_,_,_,h,_=>om
 |k+1,i,w,H,hi,hk,hw=>by
  show Ok (KE (C j) _ _ _ _ _ _ _ (Hw (C j) _ _ _ _ _ _ _ k) _ _ H) D;unfold KE;have hm:bY L<=12:=vT _ _;have e0:=(r _ hw.fm).is;simp only[go_sem,e0];refine Ok.ve (y6 (k:=j) om (p _ hw.fm)) ?_;rintro _ F ⟨rfl,f2⟩;have u:=hw.no f2;by_cases y:i<bY L
  ·simp only[go_sem,y];unfold OM;have M:=s _ u.fm;obtain⟨b,o,e1,e2,_,e3,e4⟩:=M.at' x t;have Y:cB (F.get b) o=.val (.str ts[x].sp.n ts[x].sp.a):=e4 0 (by rw[fz];omega);have Z:cB (F.get b) (o+1)=.val (.str ts[x].rl.n ts[x].rl.a):=e4 1 (by rw[fz];omega);have a:=zwc n neg d ts[x] i;have hlen:=K9 n neg d ts[x] i;by_cases J:ts[x].rl.n=0/\ts[x].rl.a=0
   ·have f:ts[x].rl=sE:=(pE _ _).2 J;have N:=ae J;refine jF e1 Y Z N ?_;refine Ok.iC (Gu (k:=j) om (i / 4) om F) ?_;rintro _ G ⟨rfl,W⟩;have g:cB (G.get b) o=.val (.str ts[x].sp.n ts[x].sp.a):=om;have l:cB (G.get b) (o+1)=.val (.str ts[x].rl.n ts[x].rl.a):=om;have O:=u.no W;unfold SS.v;by_cases K:ts[x].sp.n=(dO (i / 4)).n/\ts[x].sp.a=(dO (i / 4)).a
    ·have m:ts[x].sp=dO (i / 4):=(pE _ _).2 K;have P:=ae K;simp only[go_sem,g,l,P];refine Ok.iC (zmo (k:=j) om n i om om neg G) ?_;rintro _ I ⟨rfl,X⟩;have R:cB (I.get b) o=.val (.str ts[x].sp.n ts[x].sp.a):=by rw[X.keep (AE e2 W.nx)];exact g
     have T:cB (I.get b) (o+1)=.val (.str ts[x].rl.n ts[x].rl.a):=by rw[X.keep (AE e2 W.nx)];exact l
     have U:=O.no X;have c:iz n neg ts[x] i=gJ n i neg:=by unfold iz;rw[j7 f,j7 m];simp
     rw[c]at a;cases hf:gJ n i neg
     ·unfold yq;refine aS ?_;refine Bc z B e p r s t Q E k (i+1) w I om om ?_;simp_all
     ·simp only[go_sem,R,T];refine Ok.ve (CX (k:=j) om d om I) ?_;rintro _ H5 ⟨rfl,f5⟩;refine Ok.ve (CX (k:=j) om i om H5) ?_;rintro _ H6 ⟨rfl,f6⟩;have V:=(U.no f5).no f6;unfold SS.v;refine aS ?_;refine Ok.ve ((V.no ((Fm.refl No H6).push (aB 0 (jB ⟨gN d,gN i⟩)))).add ⟨gN d,gN i⟩ 64 rfl om om) ?_;intro w7 H7 hw7;unfold yq;refine aS ?_;refine Bc z B e p r s t Q E k (i+1) w7 H7 om om ?_;simp_all
    ·have m:¬ts[x].sp=dO (i / 4):=λh=>K ((pE _ _).1 h);have c:iz n neg ts[x] i=false:=by unfold iz;rw[sT m];simp
     rw[c]at a;simp only[go_sem,g,l,K];unfold yq;refine aS ?_;refine Bc z B e p r s t Q E k (i+1) w G om om ?_;simp_all
   ·have f:¬ts[x].rl=sE:=λh=>J ((pE _ _).1 h);have c:iz n neg ts[x] i=false:=by unfold iz;rw[sT f];simp
    rw[c]at a;simp only[go_sem,e1,Y,Z,J];unfold yq;refine aS ?_;refine Bc z B e p r s t Q E k (i+1) w F om om ?_;simp_all
  ·have he:i=bY L:=om;simp only[go_sem,y];simp_all
theorem Fc(L:List (List Nat))(n:Nat):(mO L n).length<=5:=by
 unfold mO;have:=K3 (gM L n 0) (nS (bY L));have a:nS (bY L)<=3:=qi _ _
 grind
theorem S9(g:3<=j){L:List (List Nat)}(l:n<100000)(c:b<100000){S:Nat->Prop}(m:∀H',Fm S H0 H'->iD H' nv L)(o:∀H',Fm S H0 H'->qhf H' cb nv)(e:∀H',Fm S H0 H'->Rs 2 tC H' sv ts)(f:ts.length<=5){A:List gO}(r:A.length<=900000)(s:∀w H,mH 4 jB S H0 H w (A++ts.flatMap λt=>cG n neg b t (bY L))->Ok (qr w H) D):∀(k i:Nat) (w:AV) (H:Hp),i<=ts.length->ts.length-i<k->mH 4 jB S H0 H w (A++(ts.take i).flatMap λt=>cG n neg b t (bY L)) -> Ok (Cf (C j) qr (iN n) (.bool neg) (.ptr cb 0) (iN b) sv k w (iN i) H) D
 |0,i,_,_,_,h,_=>om
 |k+1,i,w,H,hi,hk,hw=>by
  show Ok (KF (C j) _ _ _ _ _ _ (Cf (C j) _ _ _ _ _ _ k) _ _ H) D;unfold KF;have z:bY L<=12:=vT _ _;have p:=(e _ hw.fm).len;by_cases a:i<ts.length
  ·simp only[go_sem,p,a];unfold zhp;rw[dD];have d:(A++(ts.take i).flatMap λt=>cG n neg b t (bY L)).length<=1000000:=by
    rw[nj];have B:=EU (λt=>cG n neg b t (bY L)) 12 (λt=>AL (K9 n neg b t _) z) (ts.take i)
    grind
   refine Bc g l c m o e a d (λu x y=>?_) bT 0 w H om lf ?_
   ·unfold KD;refine aS ?_;refine S9 g l c m o e f r s k (i+1) u x om om ?_;rw[nh a,nt,AJ,<-sR]
    grind
   ·have:cG n neg b ts[i] 0=[]:=by unfold cG;rw[Ib];rfl
    simp_all
  ·have Q:i=ts.length:=om;simp only[go_sem,p,a];simp_all
theorem zwa(L:List (List Nat))(n:Nat)(neg:Bool)(i:Nat)(h:i<=12):(oL L n neg i).length<=60*12:=by unfold oL;have a:bY L<=12:=vT _ _;have b:=EU (AB L n neg) 60 (λk=>by unfold AB;have b:=EU (λt=>cG n neg k t (bY L)) 12 (λt=>AL (K9 n neg k t _) a) (mO L k);have c:=Fc L k;omega) (rg (n / 4*4) i);have c:=pc (n / 4*4) i;omega
theorem Uf(t:4<=j){L:List (List Nat)}(r:n<100000)(l:iD H1 nv L)(m:qhf H1 cb nv)(s:∀w H,Ac 4 jB H1 H w (oL L n neg (min (bY L) (n / 4*4+4)))->Ok (qr w H) D):∀(k i:Nat) (w:AV) (H:Hp),n / 4*4<=i->i<=max (min (bY L) (n / 4*4+4)) (n / 4*4)->n / 4*4+4-i<k->Ac 4 jB H1 H w (oL L n neg i) -> Ok (Cg (C j) qr (iN n) (.bool neg) (.ptr cb 0) k w (iN i) H) D
 |0,i,_,_,_,_,h,_=>om
 |k+1,i,w,H,hi,hi2,hk,hw=>by
  show Ok (KG (C j) _ _ _ _ (Cg (C j) _ _ _ _ k) _ _ H) D;unfold KG;have I:bY L<=12:=vT _ _;have e0:=(m.fm hw.fm).is;simp only[go_sem,e0];refine Ok.ve (y6 (k:=j) om (l.fm hw.fm)) ?_;rintro _ E ⟨rfl,F⟩;have a:=hw.no F;by_cases g:i<bY L/\i<n / 4*4+4
  ·obtain⟨d,e⟩:=g;refine dS d e ?_;unfold zho;have y:=(m.fm a.fm).is;simp only[go_sem,seval,y];refine Ok.ve (RO (k:=j) om (l.fm a.fm) d) ?_;intro tv G p;have c:=a.no p.fm;rw[dD];have z:=zwa L n neg i om;have B:∀b,In tv b->¬In w b:=λb d e=>by
    have:=p.nw b d;have:=a.gl.lt e;omega
   refine S9 (A:=oL L n neg i) (S:=In w) om r om (λH' f=>l.fm (c.old f)) (λH' f=>m.fm (c.old f)) (λH' f=>(p.rs fz).dR f B) (Fc L i) om (λu x o=>?_) bT 0 w G om (by have:=Fc L i;rw[rO];omega) ?_
   ·unfold lx;refine aS ?_;refine Uf t r l m s k (i+1) u x om om om ?_;have:oL L n neg (i+1)=oL L n neg i++AB L n neg i:=by
     unfold oL;rw[xT hi,nt,AJ]
    rw[this];exact c.fin o
   ·rw[ry,List.flatMap_nil,DN];exact c.start
  ·have Q:rg (n / 4*4) i=rg (n / 4*4) (min (bY L) (n / 4*4+4)):=by
    by_cases h:n / 4*4<=min (bY L) (n / 4*4+4)
    ·grind
    ·unfold rg;rw[ig g2,ig g2]
   unfold oL at a;rw[Q]at a;by_cases d:i<bY L
   ·have e:¬i<n / 4*4+4:=λh=>g ⟨d,h⟩;refine dS d e ?_
    grind
   ·simp only[go_sem,d];exact s w E a
def mU(L:List (List Nat))(n:Nat)(neg:Bool):List gO:=oL L n neg (min (bY L) (n / 4*4+4))
def aPp(neg:Bool):AV:=if neg then ir 2 (gN 0) sE .aA else ir 1 sE sE .aA
def Dz(L:List (List Nat))(n c:Nat)(neg:Bool):AV:=
 if(mU L n neg).length=0 then aPp neg else ir 3 ((mU L n neg).getD (c%(mU L n neg).length) ⟨sE,sE⟩).rl ((mU L n neg).getD (c%(mU L n neg).length) ⟨sE,sE⟩).to .aA
theorem zv9{k:Nat}(s:6<=k){v:AV}{L:List (List Nat)}(t:iD H v L)(u:n<100000)(z:c<256):Ok (C k (.f 169) [.agg [v],iN n,uN c,.bool neg] H) λr H'=>r=Dz L n c neg/\Fm No H H':=by
 obtain⟨j,rfl⟩:=aO s;rw[lk (zsk ..)];unfold Xt;refine aS ?_;rw[dD];have m:Fm No H (aH (aH H (aB 0 [v])) (aB 0 [uN 0,zS,zS,.aA])):=om;have f:Fm No (aH H (aB 0 [v])) (aH (aH H (aB 0 [v])) (aB 0 [uN 0,zS,zS,.aA])):=om;have g:qhf (aH H (aB 0 [v])) H.nx v:=⟨gx,om⟩;refine Uf om u (t.fm m) (g.fm f) (λw l e=>?_) bT (n / 4*4) .aA _ om om lf ?_
 ·unfold Hy;have h:=e.bF;have i:=e.fm;have A:=i.nx;have k2:l.get (H.nx+1)=aB 0 [uN 0,zS,zS,.aA]:=(i.keep gx).trans om;unfold Dz mU;by_cases d:(oL L n neg (min (bY L) (n / 4*4+4))).length=0
  ·rw[sB d];simp only[go_sem,h,d];refine Ok.ve (ox (k:=j) om neg l) ?_;rintro _ x ⟨rfl,p⟩;have k3:x.get (H.nx+1)=aB 0 [uN 0,zS,zS,.aA]:=(p.keep om).trans k2;cases neg<;>(unfold ir;simp only[go_sem,seval,k3];exact Ok.ret ⟨rfl,((m.trans i).trans p).aN _ _ om⟩)
  ·rw[sy d];simp only[go_sem,h,d];unfold zxz;have a:c%(oL L n neg (min (bY L) (n / 4*4+4))).length<(oL L n neg (min (bY L) (n / 4*4+4))).length:=ah _ om;obtain⟨b,o,y,B,q⟩:=(e.rs z2i).oG a;unfold jB at q;refine jF h y q k2 ?_;refine Ok.ret ⟨?_,om⟩;rw[vt,j0 a];rfl
 ·unfold oL;rw[Ib];exact Ac.nil _ _ om
inductive Ru where
 |leaf (kind:Nat) (rl to:SS)
 |node (kind:Nat) (a b:Ru)
 deriving DecidableEq
def j8(k:Nat)(rl to:SS):List AV:=[uN k,rl.v,to.v,.aA]
def j5(P:Nat->Prop)(H:Hp):Ru->List AV->Prop
 | .leaf k rl to,cs=>cs=j8 k rl to
 | .node k a b,cs=>∃bl ca cb,cs=[uN k,sE.v,sE.v,.sl bl 0 2 2 true]/\bl<H.nx/\P bl/\H.get bl=aB 0 (ca++cb)/\j5 P H a ca/\j5 P H b cb
theorem j5.dR{P S:Nat->Prop}(f:Fm S H H')(a:∀b,P b->¬S b):∀{r:Ru} {cs:List AV},j5 P H r cs->j5 P H' r cs
 | .leaf _ _ _,_,h=>h
 | .node _ _ _,_,⟨bl,ca,cb,h1,h2,h6,h3,h4,h5⟩=>⟨bl,ca,cb,h1,AE h2 f.nx,h6,by rw[f.get bl h2 (a bl h6)];exact h3,j5.dR f a h4,j5.dR f a h5⟩
variable{U:Ru}
theorem j5.fm(f:Fm No H H')(h:j5 S H U cs):j5 S H' U cs:=h.dR f λ_ _ h=>h
attribute [grind .] j5.fm
theorem j5.mono{P Q:Nat->Prop}(a:∀b,b<H.nx->P b->Q b):∀{r:Ru} {cs:List AV},j5 P H r cs->j5 Q H r cs
 | .leaf _ _ _,_,h=>h
 | .node _ _ _,_,⟨bl,ca,cb,h1,h2,h6,h3,h4,h5⟩=>⟨bl,ca,cb,h1,h2,a bl h2 h6,h3,j5.mono a h4,j5.mono a h5⟩
theorem j5.four:∀{r:Ru} {cs:List AV},j5 S H r cs->∃a b c d,cs=[a,b,c,d]
 | .leaf _ _ _,_,h=>⟨_,_,_,_,h⟩
 | .node _ _ _,_,⟨_,_,_,h1,_⟩=>⟨_,_,_,_,h1⟩
def eM(neg:Bool):Ru:=if neg then .leaf 2 (gN 0) sE else .leaf 1 sE sE
def xW(L:List (List Nat))(n c:Nat)(neg:Bool):Ru:=
 if(mU L n neg).length=0 then eM neg else .leaf 3 ((mU L n neg).getD (c%(mU L n neg).length) ⟨sE,sE⟩).rl ((mU L n neg).getD (c%(mU L n neg).length) ⟨sE,sE⟩).to
theorem oy(neg:Bool):∃k rl to,eM neg=.leaf k rl to/\(if neg then ir 2 (gN 0) sE .aA else ir 1 sE sE .aA)=.agg [uN k,.str rl.n rl.a,.str to.n to.a,.aA]:=by
 cases neg
 ·exact⟨1,sE,sE,rfl,rfl⟩
 ·exact⟨2,gN 0,sE,rfl,rfl⟩
theorem xbz(L:List (List Nat))(n c:Nat)(neg:Bool):∃k rl to,xW L n c neg=.leaf k rl to/\Dz L n c neg=.agg [uN k,.str rl.n rl.a,.str to.n to.a,.aA]:=by
 unfold xW Dz;by_cases h:(mU L n neg).length=0
 ·rw[sB h,sB h];exact oy neg
 ·rw[sy h,sy h];exact⟨_,_,_,rfl,rfl⟩
def sc(L:List (List Nat))(n c:Nat)(neg:Bool):Ru:=.leaf 2 ((bM (bY L) n neg).getD (c%(bM (bY L) n neg).length) sE) sE
def xV(n c:Nat):Nat:=if c%8=6 then 5 else if c%8=7/\0<bB n then 6 else 4
def fQ(L:List (List Nat))(n:Nat):Nat->Nat->Bool->Ru×Nat
 |0,i,neg=>(eM neg,i)
 |d+1,i,neg=>
  if(L.getD n []).length<=i\/12<=i then(eM neg,i)else
  if gM L n i%8<2 then(eM neg,i+1)else
  if gM L n i%8<4 then(sc L n (gM L n i / 8) neg,i+1)else
  if gM L n i%8=4 then(xW L n (gM L n i / 8) neg,i+1)else
  let a:=fQ L n d (i+1) neg
  let b:=fQ L n d a.2 (neg||decide (xV n (gM L n i)=6))
  (.node (xV n (gM L n i)) a.1 b.1,b.2)
theorem Gy(L:List (List Nat))(n:Nat):∀(d i:Nat) (neg:Bool),i<=max i 12/\(fQ L n d i neg).2<=max i 12
 |0,i,neg=>by unfold fQ;omega
 |d+1,i,neg=>by
  unfold fQ;split
  ·omega
  split
  ·omega
  split
  ·omega
  split
  ·omega
  have a:=(Gy L n d (i+1) neg).2;have b:=(Gy L n d (fQ L n d (i+1) neg).2 (neg||decide (xV n (gM L n i)=6))).2;simp only;omega
def zzd(C:Nat->Ev.Call)(L:List (List Nat))(n:Nat)(v:AV)(k d:Nat):Prop:=
 ∀(i dep:Nat) (neg:Bool) (H:Hp),dep+d=7->i<1000000->iD H v L->At (bY L) n neg ->
  Ok (C k (.f 114) [.agg [v],iN n,iN i,iN dep,.bool neg] H) λr a=>
   ∃cs,r=.aX [.agg cs,iN ((fQ L n d i neg).2)]/\j5 (λb=>H.nx<=b) a (fQ L n d i neg).1 cs/\Fm No H a
theorem Gx{d:Nat}{L:List (List Nat)}(y:zzd C L n nv j d)(T:gb+d+1=7)(U:i<900000)(z:iD H nv L)(G:At (bY L) n neg)(o:At (bY L) n (neg||decide (sb=6))){rb:Nat}(f:qhf H cb nv)(I:Fm No H0 H)(J:H0.nx<=rb)(p:rb<H.nx)(K:H.get rb=aB 0 [uN 0,zS,zS,.aA])(M:cb<rb\/rb<cb):Ok (tY (C j) (iN n) (iN i) (iN gb) (.bool neg) (.ptr cb 0) (.ptr rb 0) (uN sb) H) λr H'=>
   ∃cs,r=.aX [.agg cs,iN ((fQ L n d (fQ L n d i neg).2 (neg||decide (sb=6))).2)] /\
    j5 (λb=>H0.nx<=b) H' (.node sb (fQ L n d i neg).1 (fQ L n d (fQ L n d i neg).2 (neg||decide (sb=6))).1) cs/\Fm No H0 H':=by
 unfold tY;have e0:=f.is;simp(disch:=omega)only[go_sem,e0];simp(disch:=first|go_size|omega)only[go_sem,rB,rI,rK,rL,rN,rS,r6];refine Ok.ve (y i (gb+1) neg H om om z G) ?_;rintro _ H1 ⟨ca,rfl,g,k⟩;obtain⟨t,u,w,x,rfl⟩:=g.four;have N:=(Gy L n d i neg).2;have q:Fm No H1 ((aH H1 (aB 0 [uN 0,zS,zS,.aA])).put H1.nx (aB 0 [t,u,w,x])):=om;have A:=f.fm k;have O:=A.is;have l1:=A.lt;have W:=k.nx;cases neg<;>(
  simp(disch:=go_size)only[go_sem,rB,rI,rK,rL,rN,rS,r6,O];refine Ok.ve (y _ (gb+1) _ _ om om ((z.fm k).fm q) o) ?_;rintro _ e ⟨S,rfl,l,m⟩;obtain⟨B,D,E,F,rfl⟩:=l.four;have P:=m.nx;simp only[np,nq]at P;have k2:e.get H1.nx=aB 0 [t,u,w,x]:=(m.keep gx).trans om;have Q:e.get rb=aB 0 [uN 0,zS,zS,.aA]:=((k.trans om).keep p).trans K;simp(disch:=first|go_size|omega)only[go_sem,seval,k2,Q];have s:Fm (λb=>b=rb) e (((aH ((aH e (aB 0 [uN 0,zS,zS,.aA])).put e.nx (aB 0 [B,D,E,F])) (aB 0 [t,u,w,x,B,D,E,F]))).put rb (aB 0 [uN sb,zS,zS,.sl (e.nx+1) 0 2 2 true])):=fm;have R:=(((I.trans k).trans q).trans m).then s λc V h=>om;refine Ok.ret ⟨_,rfl,⟨e.nx+1,_,_,rfl,gx,om,?_,(((g.fm q).fm m).dR s om).mono om,(l.dR s om).mono om⟩,R⟩;simp(disch:=go_size)only[go_sem])
theorem z0h{L:List (List Nat)}{v:AV}:∀(d k:Nat),10+d<=k->zzd C L n v k d:=by
 intro d
 induction d with
 |zero=>
  intro k U i G neg H V W M u;obtain⟨j,rfl⟩:∃j,k=j+1:=⟨k-1,om⟩;rw[lk (RF ..)];unfold ID;have y:n<L.length:=AE u.lt (qi _ _);have I:Fm No H (aH (aH H (aB 0 [v])) (aB 0 [uN 0,zS,zS,.aA])):=om;obtain⟨b,o,w,m,X,p,N⟩:=(M.fm I).at y;have a:=N.len;rw[show(cQ L[n]).length=L[n].length by simp[cQ]]at a;have O:6<G:=om;have g:fQ L n 0 i neg=(eM neg,i):=rfl;rw[g];by_cases E:L[n].length<=i
  ·refine jF m p a E ?_;refine Ok.ve (ox (k:=j) om neg _) ?_;rintro _ f ⟨rfl,c⟩;obtain⟨lk,A,B,a,l⟩:=oy neg;rw[l];have k3:f.get (H.nx+1)=aB 0 [uN 0,zS,zS,.aA]:=(c.keep gz).trans g5;have t:=om;simp only[go_sem,seval,k3];exact Ok.ret ⟨_,rfl,by rw[a];rfl,om⟩
  ·by_cases J:12<=i
   ·refine lW m p a E J ?_;refine Ok.ve (ox (k:=j) om neg _) ?_;rintro _ f ⟨rfl,c⟩;obtain⟨lk,A,B,a,l⟩:=oy neg;rw[l];have k3:f.get (H.nx+1)=aB 0 [uN 0,zS,zS,.aA]:=(c.keep gz).trans g5;have t:=om;simp only[go_sem,seval,k3];exact Ok.ret ⟨_,rfl,by rw[a];rfl,om⟩
   ·refine cF m p a E J O ?_;refine Ok.ve (ox (k:=j) om neg _) ?_;rintro _ f ⟨rfl,c⟩;obtain⟨lk,A,B,a,l⟩:=oy neg;rw[l];have k3:f.get (H.nx+1)=aB 0 [uN 0,zS,zS,.aA]:=(c.keep gz).trans g5;have t:=om;simp only[go_sem,seval,k3];exact Ok.ret ⟨_,rfl,by rw[a];rfl,om⟩
 |succ d ih=>
  intro k U i G neg H V W M u;obtain⟨j,rfl⟩:∃j,k=j+1:=⟨k-1,om⟩;rw[lk (RF ..)];unfold ID;have y:n<L.length:=AE u.lt (qi _ _);have S:n<12:=AE u.lt u.le;have I:Fm No H (aH (aH H (aB 0 [v])) (aB 0 [uN 0,zS,zS,.aA])):=om;have q:=M.fm I;have F:qhf (aH (aH H (aB 0 [v])) (aB 0 [uN 0,zS,zS,.aA])) H.nx v:=⟨g1,g6⟩;have z:(aH (aH H (aB 0 [v])) (aB 0 [uN 0,zS,zS,.aA])).get (H.nx+1)=aB 0 [uN 0,zS,zS,.aA]:=g5;obtain⟨b,o,w,m,X,p,N⟩:=q.at y;have a:=N.len;rw[show(cQ L[n]).length=L[n].length by simp[cQ]]at a;have e:L.getD n []=L[n]:=by rw[vt,j0 y];rfl
  have O:¬6<G:=om;by_cases x:L[n].length<=i\/12<=i
  ·have g:fQ L n (d+1) i neg=(eM neg,i):=by unfold fQ;rw[e,sB x]
   rw[g];by_cases E:L[n].length<=i
   ·refine jF m p a E ?_;refine Ok.ve (ox (k:=j) om neg _) ?_;rintro _ f ⟨rfl,c⟩;obtain⟨lk,A,B,a,l⟩:=oy neg;rw[l];have k3:f.get (H.nx+1)=aB 0 [uN 0,zS,zS,.aA]:=(c.keep gz).trans g5;have t:=om;simp only[go_sem,seval,k3];exact Ok.ret ⟨_,rfl,by rw[a];rfl,om⟩
   ·have J:12<=i:=om;refine lW m p a E J ?_;refine Ok.ve (ox (k:=j) om neg _) ?_;rintro _ f ⟨rfl,c⟩;obtain⟨lk,A,B,a,l⟩:=oy neg;rw[l];have k3:f.get (H.nx+1)=aB 0 [uN 0,zS,zS,.aA]:=(c.keep gz).trans g5;have t:=om;simp only[go_sem,seval,k3];exact Ok.ret ⟨_,rfl,by rw[a];rfl,om⟩
  ·have E:¬L[n].length<=i:=om;have J:¬12<=i:=om;have P:i<L[n].length:=om;obtain⟨Z,o1,g1,g2,g3⟩:=N.at' i (by simp[cQ];omega);have Q:(cQ L[n])[i]'(by simp[cQ];omega)=uN ((gM L n i)):=by
    unfold gM;rw[e,vt,j0 P];simp[cQ]
   rw[Q]at g3;have Y:=YA M n i;refine cF m p a E J O ?_;unfold Z6;have T:gM L n i%8=0\/gM L n i%8=1\/gM L n i%8=2\/gM L n i%8=3\/gM L n i%8=4\/gM L n i%8=5\/gM L n i%8=6\/gM L n i%8=7:=om;rcases T with h|h|h|h|h|h|h|h
   ·have g:fQ L n (d+1) i neg=(eM neg,i+1):=by unfold fQ;rw[e,sy x,sB om]
    rw[g];refine lW m p g1 g3 h ?_;unfold ia;refine Ok.ve (ox (k:=j) om neg _) ?_;rintro _ f ⟨rfl,c⟩;obtain⟨lk,A,B,a,l⟩:=oy neg;rw[l];have k3:f.get (H.nx+1)=aB 0 [uN 0,zS,zS,.aA]:=(c.keep gz).trans g5;have t:=om;refine dI k3 ?_;exact Ok.ret ⟨_,rfl,by rw[a];rfl,om⟩
   ·have g:fQ L n (d+1) i neg=(eM neg,i+1):=by unfold fQ;rw[e,sy x,sB om]
    rw[g];refine lW m p g1 g3 h ?_;unfold ia;refine Ok.ve (ox (k:=j) om neg _) ?_;rintro _ f ⟨rfl,c⟩;obtain⟨lk,A,B,a,l⟩:=oy neg;rw[l];have k3:f.get (H.nx+1)=aB 0 [uN 0,zS,zS,.aA]:=(c.keep gz).trans g5;have t:=om;simp only[go_sem,seval,k3];exact Ok.ret ⟨_,rfl,by rw[a];rfl,om⟩
   ·have g:fQ L n (d+1) i neg=(sc L n (gM L n i / 8) neg,i+1):=by unfold fQ;rw[e,sy x,sy om,sB om]
    rw[g];refine lW m p g1 g3 h ?_;unfold ia;unfold lE;have K:=om;refine dI K ?_;refine Ok.ve (Tk (k:=j) om q u om) ?_;rintro _ f ⟨rfl,c⟩;obtain⟨lk,A,B,a,l⟩:=(⟨2,(bM (bY L) n neg).getD (gM L n i / 8%(bM (bY L) n neg).length) sE,sE,rfl,rfl⟩:∃k rl to,sc L n (gM L n i / 8) neg=.leaf k rl to/\ir 2 ((bM (bY L) n neg).getD (gM L n i / 8%(bM (bY L) n neg).length) sE) sE .aA=.agg [uN k,.str rl.n rl.a,.str to.n to.a,.aA]);rw[l];have k3:f.get (H.nx+1)=aB 0 [uN 0,zS,zS,.aA]:=(c.keep gz).trans g5;have t:=om;simp only[go_sem,seval,k3];exact Ok.ret ⟨_,rfl,by rw[a];rfl,om⟩
   ·have g:fQ L n (d+1) i neg=(sc L n (gM L n i / 8) neg,i+1):=by unfold fQ;rw[e,sy x,sy om,sB om]
    rw[g];refine lW m p g1 g3 h ?_;unfold ia;unfold lE;have K:=om;refine dI K ?_;refine Ok.ve (Tk (k:=j) om q u om) ?_;rintro _ f ⟨rfl,c⟩;obtain⟨lk,A,B,a,l⟩:=(⟨2,(bM (bY L) n neg).getD (gM L n i / 8%(bM (bY L) n neg).length) sE,sE,rfl,rfl⟩:∃k rl to,sc L n (gM L n i / 8) neg=.leaf k rl to/\ir 2 ((bM (bY L) n neg).getD (gM L n i / 8%(bM (bY L) n neg).length) sE) sE .aA=.agg [uN k,.str rl.n rl.a,.str to.n to.a,.aA]);rw[l];have k3:f.get (H.nx+1)=aB 0 [uN 0,zS,zS,.aA]:=(c.keep gz).trans g5;have t:=om;simp only[go_sem,seval,k3];exact Ok.ret ⟨_,rfl,by rw[a];rfl,om⟩
   ·have g:fQ L n (d+1) i neg=(xW L n (gM L n i / 8) neg,i+1):=by unfold fQ;rw[e,sy x,sy om,sy om,sB h]
    rw[g];refine lW m p g1 g3 h ?_;unfold ia;unfold lE;have K:=om;refine dI K ?_;refine Ok.ve (zv9 (k:=j) om q om om) ?_;rintro _ f ⟨rfl,c⟩;obtain⟨lk,A,B,a,l⟩:=xbz L n (gM L n i / 8) neg;rw[l];have k3:f.get (H.nx+1)=aB 0 [uN 0,zS,zS,.aA]:=(c.keep gz).trans g5;have t:=om;simp only[go_sem,seval,k3];exact Ok.ret ⟨_,rfl,by rw[a];rfl,om⟩
   ·have r:xV n (gM L n i)=4:=by unfold xV;rw[sy om,sy om]
    have s:At (bY L) n (neg||decide (4=6)):=om;have g:fQ L n (d+1) i neg=(.node 4 (fQ L n d (i+1) neg).1 (fQ L n d (fQ L n d (i+1) neg).2 (neg||decide (4=6))).1,(fQ L n d (fQ L n d (i+1) neg).2 (neg||decide (4=6))).2):=by rw[fQ,e,sy x,sy om,sy om,sy om,r]
    rw[g];refine lW m p g1 g3 h ?_;unfold ia;unfold lE;exact Gx om om om q u s F I om gx z om
   ·have r:xV n (gM L n i)=5:=by unfold xV;rw[sB h]
    have s:At (bY L) n (neg||decide (5=6)):=om;have g:fQ L n (d+1) i neg=(.node 5 (fQ L n d (i+1) neg).1 (fQ L n d (fQ L n d (i+1) neg).2 (neg||decide (5=6))).1,(fQ L n d (fQ L n d (i+1) neg).2 (neg||decide (5=6))).2):=by rw[fQ,e,sy x,sy om,sy om,sy om,r]
    rw[g];refine lW m p g1 g3 h ?_;unfold ia;unfold lE;exact Gx om om om q u s F I om gx z om
   ·by_cases D:0<bB n
    ·have r:xV n (gM L n i)=6:=by unfold xV;rw[sy om,sB ⟨h,D⟩]
     have s:At (bY L) n (neg||decide (6=6)):=⟨u.lt,u.le,om⟩;have g:fQ L n (d+1) i neg=(.node 6 (fQ L n d (i+1) neg).1 (fQ L n d (fQ L n d (i+1) neg).2 (neg||decide (6=6))).1,(fQ L n d (fQ L n d (i+1) neg).2 (neg||decide (6=6))).2):=by rw[fQ,e,sy x,sy om,sy om,sy om,r]
     rw[g];refine lW m p g1 g3 h ?_;unfold ia;unfold lE;refine Ok.ve (ot (k:=j) om n om _) ?_;rintro _ f ⟨rfl,c⟩;have R:f.get (H.nx+1)=aB 0 [uN 0,zS,zS,.aA]:=(c.keep gx).trans z;have t:=c.nx;simp only[np]at t;simp only[go_sem,D];exact Gx (ih j om) om om om u s om om om om R om
    ·have r:xV n (gM L n i)=4:=by unfold xV;rw[sy om,sy (λh=>D h.2)]
     have s:At (bY L) n (neg||decide (4=6)):=om;have g:fQ L n (d+1) i neg=(.node 4 (fQ L n d (i+1) neg).1 (fQ L n d (fQ L n d (i+1) neg).2 (neg||decide (4=6))).1,(fQ L n d (fQ L n d (i+1) neg).2 (neg||decide (4=6))).2):=by rw[fQ,e,sy x,sy om,sy om,sy om,r]
     rw[g];refine lW m p g1 g3 h ?_;unfold ia;unfold lE;refine Ok.ve (ot (k:=j) om n om _) ?_;rintro _ f ⟨rfl,c⟩;have R:f.get (H.nx+1)=aB 0 [uN 0,zS,zS,.aA]:=(c.keep gx).trans z;have t:=c.nx;simp only[np]at t;simp only[go_sem,D];exact Gx om om om (q.fm c) u s (F.fm c) (I.trans c) om om R om
theorem j5.flat:∀{r:Ru} {cs:List AV},j5 S H r cs->cs.all wW=true
 | .leaf _ _ _,_,h=>by rw[show _=_ from h];rfl
 | .node _ _ _,_,⟨_,_,_,h1,_⟩=>by rw[h1];rfl
structure Nd where
 k:Nat
 rl:SS
 to:SS
 neg:Bool
 deriving DecidableEq
def lD(x:Nd×AV):List AV:=[uN x.1.k,x.1.rl.v,x.1.to.v,x.2,.bool x.1.neg]
theorem sG(x:Nd×AV):(lD x).length=5:=rfl
def Ru.nodes:Ru->Bool->List Nd
 | .leaf k rl to,neg=>[⟨k,rl,to,neg⟩]
 | .node k a b,neg=>⟨k,sE,sE,neg⟩::(a.nodes neg++b.nodes (neg||decide (k=6)))
def Ru.size:Ru->Nat
 | .leaf _ _ _=>1
 | .node _ a b=>a.size+b.size+1
def Ru.depth:Ru->Nat
 | .leaf _ _ _=>1
 | .node _ a b=>max a.depth b.depth+1
theorem ep:∀(r:Ru) (neg:Bool),(r.nodes neg).length=r.size
 | .leaf _ _ _,_=>rfl
 | .node _ a b,neg=>by unfold Ru.nodes Ru.size;rw[nk,nj,ep a,ep b]
theorem zkd(L:List AV)(o i:Nat)(x:AV)(h:o+i<L.length):(aY L (o+i) [x]).drop o=aY (L.drop o) i [x]:=by unfold aY;simp only[nk,DP,nr,sR];rw[oh g2,List.drop_take,mf,su];congr 3
theorem Gl.set1(h:Gl z H nv n l)(a:i<n)(s:j<z)(x:AV):∃b o H',aG z nv (iN i)=.val (.ptr b o)/\storeAt H b (o+j) [x] .undef=.ok .undef H'/\Gl z H' nv n (aY l (i*z+j) [x])/\Fm (In nv) H H'/\H'.nx=H.nx:=by
 have d:=h.len;rcases h.is with⟨rfl,rfl⟩|⟨b,o,e,q,L,rfl,g,k,m,p,r⟩
 ·omega
 ·have t:i*z+z<=n*z:=by
   have:(i+1)*z<=n*z:=vL z a
   grind
  have u:o+n*z=L.length:=om;have c:o+i*z+j+[x].length<=L.length:=g2;have f:i*z+j+[x].length<=l.length:=om;refine⟨b,o+i*z,_,sD _ _ _ _ _ _ _ _ a,h7 H b _ [x] _ q L g c,⟨?_,.inr ⟨b,o,e,q,_,rfl,gX _ _ _,?_,?_,p,r⟩⟩,(Fm.refl _ _).put b _ λ_=>⟨_,_,_,_,rfl⟩,rfl⟩
  ·rw[A7 _ _ _ f,d]
  ·rw[A7 _ _ _ c];exact k
  ·rw[af,zkd _ _ _ _ om,m]
theorem O9(a:AV):∀(l:List (Nd×AV)) (i:Nat) (h:i<l.length),aY (l.flatMap lD) (i*5+3) [a]=(l.set i (l[i].1,a)).flatMap lD
 | [],_,h=>by simp at h
 |x::l,0,_=>by simp[aY,lD]
 |x::l,i+1,h=>by
  have:=O9 a l i om;rw[yc,DM,DM,zx,<-this];unfold aY;have e:(i+1)*5+3=(lD x).length+(i*5+3):=by rw[sG];omega
  rw[e,qm,sR,sR];congr 1;rw[sR];congr 2;rw[af,qo]
theorem mH.comp{f:β->List AV}{l g:List β}(h:mH z f S H0 H nv l)(d:mH z f (In nv) H H' sv g):mH z f S H0 H' sv g:=
 ⟨d.gl,h.fm.then d.fm λc k i=>by
  rcases h.nw c i with a|a
  ·exact a
  ·omega,λb j=>by
  rcases d.nw b j with a|a
  ·exact h.nw b a
  ·exact .inr (AL h.fm.nx a)⟩
def zon(C:Nat->Ev.Call)(r:Ru)(k:Nat):Prop:=
 ∀(v:AV) (neg:Bool) (H:Hp) {l:List (Nd×AV)} {cs:List AV} {P:Nat->Prop},Gl 5 H v l.length (l.flatMap lD)->j5 P H r cs->(∀b,P b->¬In v b)->l.length+r.size<=1000000 ->
  Ok (C k (.f 76) [v,.agg cs,.bool neg] H) λw a=>∃l',mH 5 lD (In v) H a w l'/\l'.map Prod.fst=l.map Prod.fst++r.nodes neg
variable{F:List (Nd×AV)}
theorem K7(h:i<F.length)(x:AV):(F.set i (F[i].1,x)).map Prod.fst=F.map Prod.fst:=by
 refine List.ext_getElem g3 λj a b=>?_
 grind
theorem Vb(h:mH 5 lD S H0 H w F)(a:i<F.length){x:AV}(p:x=.aA\/∃b o n m e,x=.sl b o n m e):Ok (HI O w (iN i) x H) λr H'=>∃d,mH 5 lD S H0 H' r d/\d.map Prod.fst=F.map Prod.fst:=by
 obtain⟨b,o,H',s,t,g,f,nx⟩:=h.gl.set1 a (j:=3) om x;unfold HI;rw[O9 x F i a]at g;refine Ok.mono (Q:=λr q=>r=w/\q=H') ?_ ?_
 ·rcases p with rfl|⟨_,_,_,_,_,rfl⟩<;>(simp only[go_sem,s,t];exact Ok.ret ⟨rfl,rfl⟩)
 ·rintro _ _ ⟨rfl,rfl⟩;exact⟨_,⟨by rw[iy];exact g,h.fm.then f λc u a=>by
   rcases h.nw c a with k|k
   ·exact k
   ·omega,h.nw⟩,K7 a x⟩
variable{xs:List AV}
theorem T4{r:Ru}(X:zon C r j){g:AV->AV->pD}{x:AV}{ca cb cc:List AV}{bl kd t:Nat}{P:Nat->Prop}(Y:Gl 5 H w F.length (F.flatMap lD))(Z:Gl 1 H x t xs)(ht:t<2)(B:F.length+r.size<=1000000)(ha:c<H.nx)(f:bl<H.nx)(ka:H.get c=aB 0 [uN kd,sE.v,sE.v,.sl bl 0 2 2 true])(kb:H.get bl=aB 0 (ca++cb))(hrd:eY (aB 0 (ca++cb)) (t*4) 4=some cc)(o:j5 P H r cc)(d1:∀b,In x b->¬In w b)(m:¬In w c/\¬In x c)(Q:¬In w bl/\¬In x bl)(E:∀b,P b->¬In w b)(l:∀b,P b->¬In x b)(hg:∀(w' G:AV) (H':Hp) (s:List (Nd×AV)) (I:List AV),Gl 5 H' w' s.length (s.flatMap lD)->(∀b,In w' b->In w b\/H.nx<=b)->s.map Prod.fst=F.map Prod.fst++r.nodes (neg||(decide (kd=6)&&decide (t=1))) -> Fm (λb=>In w b\/In x b) H H'->Gl 1 H' G (t+1) I->(∀b,In G b->H.nx<=b/\¬In w' b)->Ok (g w' G (iN ((t+1))) H') D):Ok (KI (C j) g w (.bool neg) (.ptr c 0) x (iN t) H) D:=by
 unfold KI;have hl:=Y.bF;refine dI hl ?_;have fp:Fm No H (aH H (aB 0 [iN (F.length)])):=om;obtain⟨i,e2,g2,q2,f2,n2⟩:=(Z.no fp).append (k:=1) (w:=8) (x:=[iN (F.length)]) om rfl om om;simp only[np]at n2;refine Ok.veE e2 ?_;have S:Fm (In x) H i:=om;have T:∀b,b<H.nx->¬In x b->i.get b=H.get b:=om;have e:i.get c=aB 0 [uN kd,sE.v,sE.v,.sl bl 0 2 2 true]:=(T c ha m.2).trans ka;have kb2:i.get bl=aB 0 (ca++cb):=(T bl f Q.2).trans kb;have K:eY (i.get bl) (t*4) 4=some cc:=om;have L:=o.four;obtain⟨c0,u,v,y,R⟩:=L;subst R;have M:Gl 5 i w F.length (F.flatMap lD):=om;have fin:∀(b:Bool),b=(neg||(decide (kd=6)&&decide (t=1)))->∀(p:AV) (d:Hp) (l3:List (Nd×AV)),mH 5 lD (In w) i d p l3->l3.map Prod.fst=F.map Prod.fst++r.nodes b ->
   Ok (g p (.sl (aH H (aB 0 [iN (F.length)])).nx 0 (t+1) (t+1) false) (iN ((t+1))) d) D:=by
  rintro _ rfl p d l3 a n;refine hg p _ d l3 _ a.gl (λb f=>?_) n ?_ (g2.keep a.fm.nx λb f J=>a.fm.get b J λh=>?_) (λb f=>⟨?_,λh=>?_⟩)
  ·rcases a.nw b f with h|h
   ·grind
   ·omega
  ·exact(S.mono om).then a.fm om
  ·obtain⟨_,_,_,_,f⟩:=f
   grind
  ·obtain⟨_,_,_,_,f⟩:=f
   grind
  ·obtain⟨_,_,_,_,f⟩:=f;cases f;simp only[np]at h;rcases a.nw _ h with h|h
   ·grind
   ·omega
 have O:∀b:Bool,Ok (C j (.f 76) [w,.agg [c0,u,v,y],.bool b] i) λw' H'=>∃s,mH 5 lD (In w) i H' w' s/\s.map Prod.fst=F.map Prod.fst++r.nodes b:=λb=>X w b i M (o.dR S l) E B;have q:lV 64 (.agg [c0,u,v,y]) (.agg [c0,u,v,y])=true:=by have N:=o.flat;refine oB _ ?_;rw[N];rfl
 cases neg
 ·by_cases W:kd=6
  ·subst W;refine dS e K ?_;refine Ok.iC (O (decide (t=1))) ?_;rintro p d ⟨l3,a,n⟩;have z:=a.fm;have A:d.get c=aB 0 [uN 6,zS,zS,.sl bl 0 2 2 true]:=(z.get c om m.1).trans e;have U:eY (d.get bl) (t*4) 4=some [c0,u,v,y]:=om;have V:=q;unfold HH;refine aS ?_
   grind
  ·refine gW e K W ?_;refine Ok.iC (O false) ?_;rintro p d ⟨l3,a,n⟩;have z:=a.fm;have A:d.get c=aB 0 [uN kd,zS,zS,.sl bl 0 2 2 true]:=(z.get c om m.1).trans e;have U:eY (d.get bl) (t*4) 4=some [c0,u,v,y]:=om;have V:=q;unfold HH;refine aS ?_
   grind
 ·refine dS e K ?_;refine Ok.iC (O true) ?_;rintro p d ⟨l3,a,n⟩;have z:=a.fm;have A:d.get c=aB 0 [uN kd,zS,zS,.sl bl 0 2 2 true]:=(z.get c om m.1).trans e;have U:eY (d.get bl) (t*4) 4=some [c0,u,v,y]:=om;have V:=q;unfold HH;refine aS ?_
  grind
theorem mH.base{f:β->List AV}{l:List β}(a:Fm No H0 H1)(h:mH z f S H1 H nv l):mH z f S H0 H nv l:=
 ⟨h.gl,(a.mono om).then h.fm om,λb c=>(h.nw b c).imp id om⟩
theorem Gl.aEE{f:β->List AV}{l:List β}(h:Gl z H nv l.length (l.flatMap f))(a:Fm No H H1):mH z f (In nv) H1 H1 nv l:=⟨h.no a,om,om⟩
theorem DS(O:Ev.Call)(q:AV->pD)(x2 a:AV)(n:Nat):HG O q x2 a (n+1)=yr O q x2 a (HG O q x2 a n):=rfl
theorem M4:∀(r:Ru) (k:Nat),r.depth<=k->zon C r k:=by
 intro r
 induction r with
 |leaf kd rl to=>
  intro k K v neg H l cs P n L hP o;unfold Ru.depth at K;obtain⟨j,rfl⟩:∃j,k=j+1:=⟨k-1,om⟩;rw[lk (Rn ..)];unfold Pp;obtain rfl:cs=j8 kd rl to:=L;have B:=n.bF;unfold j8 SS.v;refine dI B ?_;have z:Fm No H (aH (aH H (aB 0 [uN kd,.str rl.n rl.a,.str to.n to.a,.aA])) (aB 0 (lD (⟨kd,rl,to,neg⟩,.aA)))):=by exact sw
  refine Ok.ve ((n.aEE z).add (⟨kd,rl,to,neg⟩,.aA) 72 rfl om om) ?_;intro w H1 d;have e:H1.get H.nx=aB 0 [uN kd,.str rl.n rl.a,.str to.n to.a,.aA]:=(d.fm.get _ g1 om).trans g6;obtain⟨m,M⟩:∃m,bT=m+1:=⟨999999,by rw[rO]⟩;rw[dD,M];rw[DS];unfold yr;simp only[go_sem,e];refine(Vb (O:=C j) d g3 om).mono ?_;rintro r N ⟨Q,R,S⟩;exact⟨Q,R.base z,by rw[S];simp[Ru.nodes]⟩
 |node kd a b iha ihb=>
  intro k K v neg H l cs P n L hP o;unfold Ru.depth at K;obtain⟨j,rfl⟩:∃j,k=j+1:=⟨k-1,om⟩;rw[lk (Rn ..)];unfold Pp;obtain⟨bl,ca,cb,rfl,T,hPb,kb,p,q⟩:=L;have B:=n.bF;unfold sE SS.v;refine dI B ?_;have z:Fm No H (aH (aH H (aB 0 [uN kd,zS,zS,.sl bl 0 2 2 true])) (aB 0 (lD (⟨kd,sE,sE,neg⟩,.aA)))):=by exact sw
  unfold Ru.size at o;refine Ok.ve ((n.aEE z).add (⟨kd,sE,sE,neg⟩,.aA) 72 rfl om om) ?_;intro w H1 d;have f1:=d.fm;have n1:=f1.nx;simp only[np]at n1;have e:H1.get H.nx=aB 0 [uN kd,zS,zS,.sl bl 0 2 2 true]:=(d.fm.get _ g1 om).trans g6;have A:Fm (In v) H H1:=om;have f:H1.get bl=aB 0 (ca++cb):=(A.get bl T om).trans kb;have D:j5 (λx=>P x/\x<H.nx) H1 a ca:=(p.mono om).dR A om;have E:j5 (λx=>P x/\x<H.nx) H1 b cb:=(q.mono om).dR A om;have dw:∀x,In w x->In v x\/H.nx+2<=x:=λx h=>by
   rcases d.nw x h with h|h
   ·grind
   ·grind
  have Y:ca.length=4:=by obtain⟨_,_,_,_,h⟩:=p.four;rw[h];rfl
  have lb:cb.length=4:=by obtain⟨_,_,_,_,h⟩:=q.four;rw[h];rfl
  have Z:∀x,¬In AV.aA x:=λx h=>by obtain⟨_,_,_,_,h⟩:=h;cases h
  have no:∀x,x<H.nx+2->¬In v x->¬In w x:=om;obtain⟨m,M⟩:∃m,bT=m+3:=⟨999997,by rw[rO]⟩;rw[dD,M];rw[DS];unfold yr;refine dI e ?_;refine T4 (r:=a) (P:=λx=>P x/\x<H.nx) (ca:=ca) (cb:=cb) (cc:=ca) (kd:=kd) (bl:=bl) (iha j om) d.gl (Gl.nil 1 H1) om g2 om om e f (by rw[sL,y7,sB g2,pq,List.take_left' Y]) D (om)
   ⟨om,Z _⟩ ⟨om,Z _⟩ (om) (om) ?_
  intro w2 x2 N l2 xs2 U nw2 s f2 V u;rw[DS];unfold yr;have F:∀x,x<H1.nx->¬In w x->¬In w2 x:=om;have g:¬In w H.nx:=om;have G:¬In w bl:=om;have fw:∀x,x<H1.nx->¬In w x->N.get x=H1.get x:=om;have n2:=om;have k2:=(fw _ om g).trans e;have I:=(fw _ om G).trans f;simp only[go_sem,k2];have J:j5 (λx=>P x/\x<H.nx) N b cb:=E.dR f2 om;have l2n:l2.length=l.length+1+a.size:=by have:=congrArg List.length s;simp only[vu,nj,nk,DP,ep]at this;omega
  refine T4 (r:=b) (P:=λx=>P x/\x<H.nx) (ca:=ca) (cb:=cb) (cc:=cb) (kd:=kd) (bl:=bl) (t:=1) (ihb j om) U V om om om om k2 I (by rw[ut,y7,sB g2,List.drop_left' Y,<-lb,aj]) J (om)
   ⟨F _ om g,λh=>by have:=(u _ h).1;omega⟩ ⟨om,om⟩ om (λx hx h=>by have:=(u _ h).1;omega) ?_
  intro w3 x3 H3 l3 xs3 W nw3 y f3 X nx3;rw[DS];unfold yr;have k3:H3.get H.nx=aB 0 [uN kd,zS,zS,.sl bl 0 2 2 true]:=(f3.get _ om om).trans k2;simp only[go_sem,k3];have l3n:l3.length=l2.length+b.size:=by have:=congrArg List.length y;simp only[vu,nj,ep]at this;omega
  have hS:mH 5 lD (In v) H H3 w3 l3:=by
   refine⟨W,?_,?_⟩
   ·refine(A.then f2 λc hc h=>?_).then f3 λc hc h=>?_
    ·grind
    ·grind
   ·grind
  refine(Vb (O:=C j) hS (i:=l.length) om ?_).mono ?_
  ·rcases X.is with⟨h,_⟩|⟨_,_,_,_,_,h,_⟩
   ·grind
   ·simp_all
  ·rintro r H4 ⟨Q,R,S⟩;refine⟨Q,R,?_⟩;rw[S,y,s];simp[Ru.nodes]
def iJ(kd:Nat)(s:SS)(n:Nd):Bool:=decide (n.k=kd)&&decide (n.rl=s)
def gU(r:Ru)(kd:Nat)(s:SS):Bool:=(r.nodes false).any (iJ kd s)
variable{J:SS}{qe:pH}
theorem Ng(d:Rs 5 lD H nv F)(r:F.length<=1000000)(g:F.any (λx=>iJ N J x.1)=true->Ok (qr (.bool true) H) D)(t:F.any (λx=>iJ N J x.1)=false->Ok (qe H) D):∀(k i:Nat),i<=F.length->F.length-i<k->(F.take i).any (λx=>iJ N J x.1)=false -> Ok (Ey O qr qe (uN N) J.v nv k (iN i) H) D
 |0,i,_,h,_=>om
 |k+1,i,hi,hk,hn=>by
  show Ok (Z4 O _ _ _ _ _ (Ey O _ _ _ _ _ k) _ H) D;unfold Z4;have u:=d.len;by_cases a:i<F.length
  ·simp only[go_sem,u,a];unfold OG;obtain⟨b,o,p,A,_,B,y⟩:=d.at' i a;have j:cB (H.get b) o=.val (uN (F[i].1.k)):=y 0 (by rw[sG];omega);have m:cB (H.get b) (o+1)=.val (.str F[i].1.rl.n F[i].1.rl.a):=y 1 (by rw[sG];omega);have z:(F.take (i+1)).any (λx=>iJ N J x.1)=iJ N J F[i].1:=by
    rw[nh a,pg,hn];simp
   unfold SS.v;by_cases e:F[i].1.k=N
   ·have c:=ae e;by_cases f:F[i].1.rl.n=J.n/\F[i].1.rl.a=J.a
    ·have n:=ae f;have w:iJ N J F[i].1=true:=by unfold iJ;rw[j7 e,j7 ((pE _ _).2 f)];rfl
     simp only[go_sem,p,j,m,c,n];refine g ?_
     grind
    ·have w:iJ N J F[i].1=false:=by unfold iJ;rw[sT (λh=>f ((pE _ _).1 h))];simp
     simp only[go_sem,p,j,m,c,f];unfold zm;refine aS ?_;exact Ng d r g t k (i+1) om om om
   ·have w:iJ N J F[i].1=false:=by unfold iJ;rw[sT e];simp
    simp only[go_sem,p,j,m,e];unfold zm;refine aS ?_;exact Ng d r g t k (i+1) om om om
  ·simp only[go_sem,u,a]
   grind
theorem zyy{k:Nat}{r:Ru}(u:r.depth+1<=k)(y:r.size<=100000)(e:j5 S H r cs)(kd:Nat)(s:SS):Ok (C k (.f 117) [.agg cs,uN kd,s.v] H) λv H'=>v=.bool (gU r kd s)/\Fm No H H':=by
 obtain⟨j,rfl⟩:∃j,k=j+1:=⟨k-1,om⟩;rw[lk (zsw ..)];unfold XF;obtain⟨c0,p,q,t,rfl⟩:=e.four;refine aS ?_;have f:Fm No H (aH H (aB 0 [c0,p,q,t])):=by exact fh
 have g:∀x,¬In AV.aA x:=λx h=>by obtain⟨_,_,_,_,h⟩:=h;cases h
 refine Ok.ve (M4 r j om .aA false _ (l:=[]) (Gl.nil 5 _) (e.fm f) (λb _=>g b) g2) ?_;rintro w H1 ⟨l,m,n⟩;have i:Fm No H H1:=f.then m.fm λc _ h=>absurd h (g c);have o:l.length=r.size:=by have:=congrArg List.length n;simpa [ep] using this
 have a:gU r kd s=l.any (λx=>iJ kd s x.1):=by
  have d:l.map Prod.fst=r.nodes false:=by simpa using n
  unfold gU;rw[<-d,uq];rfl
 rw[dD];refine Ng (m.gl.rs sG) om (λh=>?_) (λh=>?_) bT 0 (vy _) lf rfl
 ·exact Ok.ret ⟨by rw[a,h],i⟩
 ·unfold CV;exact Ok.ret ⟨by rw[a,h],i⟩
structure kD where
 name:SS
 types:List jW
 rule:Ru
structure SpS where
 name:SS
 bX:List kD
structure bA where
 r:kD
 tv:AV
 cs:List AV
def iL(g:bA):List AV:=[g.r.name.v,g.tv,g.cs.getD 0 .undef,g.cs.getD 1 .undef,g.cs.getD 2 .undef,g.cs.getD 3 .undef]
theorem BF(g:bA):(iL g).length=6:=rfl
structure yQ(A B:Nat)(H:Hp)(rv:AV)(gs:List bA):Prop where
 gl:Gl 6 H rv gs.length (gs.flatMap iL)
 inn:∀b,In rv b->A<=b/\b<B
 ty:∀g∈gs,Rs 2 tC H g.tv g.r.types/\(g.tv=.aA\/∃b o n m e,g.tv=.sl b o n m e/\n<=m/\0<n)/\∀b,In g.tv b->A<=b/\b<B/\¬In rv b
 ru:∀g∈gs,j5 (λb=>A<=b/\b<B/\¬In rv b) H g.r.rule g.cs
theorem yQ.nil(A B:Nat)(H:Hp):yQ A B H .aA []:=⟨Gl.nil 6 H,(λb h=>by obtain⟨_,_,_,_,h⟩:=h;cases h),om,om⟩
variable{T:List bA}
theorem yQ.dR(h:yQ N cb H nv T)(f:Fm S H H')(e:∀b,N<=b->b<cb->¬S b):yQ N cb H' nv T:=
 ⟨h.gl.fm f λb c=>e b (h.inn b c).1 (h.inn b c).2,h.inn,λg a=>⟨(h.ty g a).1.dR f λb c=>e b ((h.ty g a).2.2 b c).1 ((h.ty g a).2.2 b c).2.1,(h.ty g a).2⟩,
  λg a=>(h.ru g a).dR f om⟩
structure aP where
 name:SS
 gs:List bA
 rv:AV
 A:Nat
 B:Nat
def yR(g:aP):List AV:=[g.name.v,g.rv]
theorem jd(g:aP):(yR g).length=2:=rfl
def aP.sp(g:aP):SpS:=⟨g.name,g.gs.map bA.r⟩
variable {X:List aP}
variable {g:aP}
structure mI(H:Hp)(sv:AV)(l:List aP):Prop where
 gl:Gl 2 H sv l.length (l.flatMap yR)
 ord:l.Pairwise λa b=>a.B<=b.A
 rel:∀g∈l,yQ g.A g.B H g.rv g.gs/\g.B<=H.nx
 dj:∀g∈l,∀b,In sv b->¬(g.A<=b/\b<g.B)
variable{h:List aP}
theorem mI.no(l:mI H sv h)(f:Fm No H H'):mI H' sv h:=
 ⟨l.gl.no f,l.ord,λg a=>⟨(l.rel g a).1.dR f om,AL (l.rel g a).2 f.nx⟩,l.dj⟩
attribute [grind .] mI.no
theorem mI.dR(l:mI H sv h)(f:Fm S H H')(c:∀b,In sv b->¬S b)(d:∀g∈h,∀b,g.A<=b->b<g.B->¬S b):mI H' sv h:=
 ⟨l.gl.fm f c,l.ord,λg a=>⟨(l.rel g a).1.dR f om,AL (l.rel g a).2 f.nx⟩,l.dj⟩
theorem mI.push(l:mI H sv h)(f:Fm S H H')(n:∀g∈h,∀b,g.A<=b->b<g.B->¬S b)(d:SS)(j:Gl 2 H' nv (h.length+1) (h.flatMap yR++[d.v,.aA]))(k:∀b,In nv b->H.nx<=b):mI H' nv (h++[⟨d,[],.aA,H'.nx,H'.nx⟩]):=by
 refine⟨?_,?_,?_,?_⟩
 ·rw[nj,nt,AJ];exact j
 ·rw[lI8];refine⟨l.ord,om,λa m b e=>?_⟩;rw[lAK]at e;subst e;exact AL (l.rel a m).2 f.nx
 ·intro g c;rw[lAJ,lAK]at c;rcases c with c|rfl
  ·exact⟨(l.rel g c).1.dR f om,AL (l.rel g c).2 f.nx⟩
  ·exact⟨yQ.nil _ _ _,om⟩
 ·intro g c b e;rw[lAJ,lAK]at c;rcases c with c|rfl
  ·have:=k b e;have:=(l.rel g c).2;omega
  ·simp
def nJ(L:List (List Nat))(n:Nat):kD:=⟨gN n,mO L n,(fQ L n 6 2 false).1⟩
structure ql(L:List (List Nat))(v:AV)(H0 H:Hp)(cb sb:Nat)(sv:AV)(l:List aP)(g:aP):Prop where
 cbk:qhf H cb v
 sbk:H.get sb=aB 0 [sv]
 sbl:H0.nx<=sb/\sb<g.A/\sb<H.nx
 cbl:cb<g.A
 ne:cb<sb\/sb<cb
 ns:¬In sv sb/\¬In sv cb
 svn:∀b,In sv b->H0.nx<=b/\b<g.A
 sbd:∀x∈l,¬(x.A<=sb/\sb<x.B)
 m:mI H sv (l++[g])
 an:∀x∈l++[g],H0.nx<=x.A
 ax:g.A<=H.nx
 fm:Fm No H0 H
theorem zkc(X:List AV)(a b c:AV):aY (X++[a,b]) (X.length+1) [c]=X++[a,c]:=by unfold aY;rw[qm,af,qo];simp
theorem zt2(hj:20<=j){L:List (List Nat)}(hn:n<bY L)(hv:iD H0 nv L)(d:ql L nv H0 H cb sb sv h g)(hl:h.length=1+n / 4)(hgs:g.gs.length<=12)(hG:∀(H':Hp) (Y:AV) (rg:bA),rg.r=nJ L n->ql L nv H0 H' cb sb sv h ⟨g.name,g.gs++[rg],Y,g.A,H'.nx⟩->Ok (qr (iN ((n+1))) H') D):Ok (kA oc (C j) qr (.ptr cb 0) (.ptr sb 0) (iN n) H) D:=by
 have hm:bY L<=12:=vT _ _;have P:=hv.fm d.fm;rw[kE oc];unfold oc;have e0:=d.cbk.is;simp only[go_sem,e0];refine Ok.ve (z0h 6 j om 2 1 false H om om P ⟨hn,hm,om⟩) ?_;rintro _ H1 ⟨cs,rfl,K,V⟩;obtain⟨c0,r,s,t,rfl⟩:=K.four;have n1:=V.nx;have p:=d.sbl;have s1:=(V.keep p.2.2).trans d.sbk;have m:=d.m.no V;have R:1+n / 4<(h++[g]).length:=g2;obtain⟨b,o,i1,i2,i3,i4,i5⟩:=(m.gl.rs jd).at' (1+n / 4) R;have F:(h++[g])[1+n / 4]=g:=om;rw[F]at i4 i5;have r1:cB (H1.get b) (o+1)=.val g.rv:=i5 1 (by rw[jd];omega);have cl:=d.cbk.lt;have S:cb<H1.nx:=om;have Z:=(d.cbk.fm V).is;refine jF s1 i1 r1 Z ?_;have er:lV 64 g.rv g.rv=true:=by refine wK ?_ 63;rcases(m.rel g g3).1.gl.is with⟨l,_⟩|⟨_,_,_,_,_,l,_⟩<;>(rw[l];rfl)
 have ev:lV 64 (.agg [nv]) (.agg [nv])=true:=oB _ (by unfold Tr;rw[lq,P.flat];rfl);have ec:lV 64 (.agg [c0,r,s,t]) (.agg [c0,r,s,t])=true:=oB _ (by unfold Tr;rw[K.flat];rfl);have fX:Fm No H1 ⟨((aH H1 (aB 0 [uN 0,zS,zS,.aA])).put H1.nx (aB 0 [c0,r,s,t])).t,H1.nx+1+17⟩:=fm;refine Ok.iC (CX (k:=j) om n om _) ?_;rintro _ X ⟨rfl,f3⟩;have n3:H1.nx+1+17<=X.nx:=f3.nx;have q3:X.get H1.nx=aB 0 [c0,r,s,t]:=(f3.keep om).trans om;have I:=fX.trans f3;have k3:=(I.keep S).trans Z;have r3:cB (X.get b) (o+1)=.val g.rv:=by rw[I.keep i2];exact r1
 unfold SS.v;simp only[go_sem,seval,q3,k3,r3,er,ev,ec];refine Ok.iC (RO (k:=j) om om hn) ?_;intro tv u W;have T:=W.fm;have n4:=T.nx;have q4:=(T.keep om).trans q3;have k4:=(T.keep om).trans k3;have r4:cB (u.get b) (o+1)=.val g.rv:=by rw[T.keep om];exact r3
 have htl:0<(mO L n).length:=by unfold mO yN;simp
 obtain⟨tb,to,B,htv⟩:∃tb to B,tv=.sl tb to (mO L n).length (mO L n).length B:=by
  rcases W.gl.is with⟨_,l⟩|⟨tb,to,B,_,_,l,_⟩
  ·omega
  ·grind
 subst htv;simp only[go_sem,seval,q4,k4,r4,er,ev,ec];have gB:g.B<=H.nx:=(d.m.rel g g3).2;have ax:=d.ax;have fV:Fm No H1 (u.put (H1.nx+1+12) (aB 0 [.str (gN n).n (gN n).a,.sl tb to (mO L n).length (mO L n).length B,c0,r,s,t])):=(I.trans T).aN _ _ om;have bDS:=(m.rel g g3).1.dR fV om;obtain⟨H5,e5,g5,q5,f5,n5⟩:=bDS.gl.append (k:=1) (w:=104) (x:=[.str (gN n).n (gN n).a,.sl tb to (mO L n).length (mO L n).length B,c0,r,s,t]) om rfl om om;simp only[nq]at e5 g5 q5 n5;refine Ok.vH e5 ?_;have rin:∀x,In g.rv x->g.A<=x/\x<g.B:=λx f=>(m.rel g g3).1.inn x f;have svn:=d.svn;have U:Fm (In g.rv) H1 H5:=om;have gl5:Gl 2 H5 sv (h++[g]).length ((h++[g]).flatMap yR):=m.gl.fm U om;obtain⟨b',o',z,N,e6,g6,f6,n6⟩:=gl5.set1 R (j:=1) om (.sl u.nx 0 (g.gs.length+1) (g.gs.length+1) false);rw[i1]at N;injection N with N;injection N with N i7;subst N i7;simp only[go_sem,seval,e6];rw[kE Gp];unfold Gp;refine aS ?_;have i:Fm (λx=>In g.rv x\/In sv x) H1 z:=(U.mono om).then f6 λ_ _ l=>.inr l;have n16:H1.nx<=z.nx:=i.nx;have Q:∀x,x<g.A->¬In sv x->x<H1.nx->z.get x=H1.get x:=om;refine hG z (.sl u.nx 0 (g.gs.length+1) (g.gs.length+1) false) ⟨nJ L n,.sl tb to (mO L n).length (mO L n).length B,[c0,r,s,t]⟩ rfl ⟨⟨om,(Q cb d.cbl d.ns.2 S).trans Z⟩,(Q sb p.2.1 d.ns.1 om).trans s1,⟨p.1,p.2.1,om⟩,d.cbl,d.ne,d.ns,d.svn,d.sbd,?_,?_,by show g.A<=z.nx;omega,?_⟩
 ·have aN4:∀x,In (.sl u.nx 0 (g.gs.length+1) (g.gs.length+1) false) x->x=u.nx:=λx f=>by
   obtain⟨_,_,_,_,f⟩:=f
   grind
  refine⟨?_,?_,?_,?_⟩
  ·rw[nj,nt,AJ]at g6 ⊢;rw[show(1+n / 4)*2+1=(h.flatMap yR).length+1 by
    have:∀q:List aP,(q.flatMap yR).length=q.length*2:=λq=>by
     induction q with
     |nil=>rfl
     |cons a q ih=>rw[DM,nj,ih,jd,nk];omega
    rw[this,hl]]at g6
   unfold yR at g6 ⊢;rw[zkc]at g6;exact g6
  ·have M:=m.ord;rw[lI8]at M ⊢;refine⟨M.1,List.pairwise_singleton _ _,λa ha c e=>?_⟩;rw[lAK]at e;subst e;exact M.2.2 a ha g g3
  ·intro x f;rw[lAJ,lAK]at f;rcases f with f|rfl
   ·have M:=m.ord;rw[lI8]at M;have hxg:=M.2.2 x f g g3;refine⟨(m.rel x om).1.dR i λc E O l=>?_,om⟩;rcases l with l|l
    ·grind
    ·exact m.dj x om c l ⟨E,O⟩
   ·have hr:=(m.rel g g3).1;refine⟨⟨?_,?_,?_,?_⟩,AF _⟩
    ·show Gl 6 z _ (g.gs++[_]).length ((g.gs++[_]).flatMap iL);rw[nj,nt,AJ];exact g5.fm f6 om
    ·grind
    ·intro y A;show _/\_/\∀c,In y.tv c->g.A<=c/\c<z.nx/\_;rw[lAJ,lAK]at A;rcases A with A|rfl
     ·obtain⟨E,O,h3⟩:=hr.ty y A;refine⟨E.dR i λc e l=>?_,O,om⟩
      grind
     ·have J:∀c,In (.sl tb to (mO L n).length (mO L n).length B) c->X.nx<=c/\c<u.nx:=λc e=>⟨W.nw c e,W.gl.lt e⟩;refine⟨?_,om,om⟩;have bDH:Fm (λx=>x=H1.nx+1+12) u (u.put (H1.nx+1+12) (aB 0 [.str (gN n).n (gN n).a,.sl tb to (mO L n).length (mO L n).length B,c0,r,s,t])):=(Fm.refl _ _).put _ _ λ_=>rfl;refine(((W.rs fz).dR bDH λc e l=>?_).dR f5 λc e l=>?_).dR f6 λc e l=>?_
      ·have:=(J c e).1;omega
      ·have:=(J c e).1;have:=(rin c l).2;omega
      ·have:=(J c e).1;have:=(svn c l).2;omega
    ·intro y A;show j5 (λc=>g.A<=c/\c<z.nx/\_) z _ _;rw[lAJ,lAK]at A;rcases A with A|rfl
     ·refine((hr.ru y A).dR i λc e l=>?_).mono λc _ e=>⟨e.1,om,om⟩
      grind
     ·have E:j5 (λc=>H.nx<=c/\c<H1.nx) H1 (fQ L n 6 2 false).1 [c0,r,s,t]:=K.mono λc E O=>⟨O,E⟩;refine(E.dR i λc e l=>?_).mono om
      grind
  ·intro x f c e;rw[lAJ,lAK]at f;rcases f with f|rfl
   ·exact m.dj x om c e
   ·grind
 ·intro x f;rw[lAJ,lAK]at f;rcases f with f|rfl
  ·exact d.an x om
  ·grind
 ·refine(d.fm.trans V).then i λc e l=>?_
  grind
theorem zk6(S:20<=j){L:List (List Nat)}(T:n<bY L)(z:n%4=0)(d:ql L nv H0 H cb sb sv h g)(U:h.length<=1000)(B:∀(H':Hp) (Q:AV) (A:Nat),ql L nv H0 H' cb sb Q (h++[g]) ⟨dO (n / 4),[],.aA,A,A⟩->Ok (kA oc (C j) qr (.ptr cb 0) (.ptr sb 0) (iN n) H') D):Ok (kA tA (C j) qr (.ptr cb 0) (.ptr sb 0) (iN n) H) D:=by
 have W:bY L<=12:=vT _ _;rw[kE tA];unfold tA;have f:=d.sbl;have s0:=d.sbk;have m0:=d.m;have es:lV 64 sv sv=true:=by refine wK ?_ 63;rcases m0.gl.is with⟨l,_⟩|⟨_,_,_,_,_,l,_⟩<;>(rw[l];rfl)
 refine dS s0 z ?_;have J:Fm No H ⟨H.t,H.nx+10⟩:=fm;refine Ok.iC (Gu (k:=j) om (n / 4) om _) ?_;rintro _ H1 ⟨rfl,u⟩;have p:=J.trans u;have X:H.nx+10<=H1.nx:=u.nx;have K:=(p.keep f.2.2).trans s0;unfold SS.v;simp only[go_sem,seval,K,es];have q:Fm No H (H1.put (H.nx+6) (aB 0 [.str (dO (n / 4)).n (dO (n / 4)).a,.aA])):=p.aN _ _ om;have M:=m0.no q;obtain⟨e,y,g2,q2,P,R⟩:=M.gl.append (k:=1) (w:=40) (x:=[.str (dO (n / 4)).n (dO (n / 4)).a,.aA]) om rfl g2 g2;simp only[nq]at y g2 q2 R;have i:e.get sb=aB 0 [sv]:=(P.get sb (by simp only[nq];omega) d.ns.1).trans ((q.keep f.2.2).trans s0);refine Ok.vH y ?_;simp only[go_sem,seval,i];have r:Fm (λx=>x=sb) e (e.put sb (aB 0 [.sl H1.nx 0 ((h++[g]).length+1) ((h++[g]).length+1) false])):=(Fm.refl _ _).put _ _ om;have s:Fm (In sv) H e:=om;have t:Fm (λx=>In sv x\/x=sb) H (e.put sb (aB 0 [.sl H1.nx 0 ((h++[g]).length+1) ((h++[g]).length+1) false])):=(s.mono om).then r om;have m:∀x,In (.sl H1.nx 0 ((h++[g]).length+1) ((h++[g]).length+1) false) x->x=H1.nx:=λx a=>by
  obtain⟨_,_,_,_,a⟩:=a
  grind
 have N:=d.svn;have O:=d.cbk.lt;have o:∀x∈h++[g],¬(x.A<=sb/\sb<x.B):=λx a=>by
  rw[lAJ,lAK]at a;rcases a with a|rfl
  ·exact d.sbd x a
  ·omega
 refine B _ (.sl H1.nx 0 ((h++[g]).length+1) ((h++[g]).length+1) false) e.nx ⟨⟨?_,?_⟩,gX _ _ _,⟨f.1,?_,?_⟩,?_,d.ne,⟨λl=>?_,λl=>?_⟩,λx a=>?_,o,?_,λx a=>?_,AF _,?_⟩
 ·show cb<e.nx;omega
 ·rw[jR _ _ _ _ (by have:=d.ne;omega)];exact(s.get cb O d.ns.2).trans d.cbk.is
 ·grind
 ·grind
 ·show cb<e.nx;omega
 ·grind
 ·grind
 ·grind
 ·refine m0.push t (λx a b E F l=>?_) _ ?_ λb I=>by have:=m _ I;omega
  ·rcases l with l|rfl
   ·exact m0.dj x a b l ⟨E,F⟩
   ·grind
  ·exact g2.fm r om
 ·rw[lAJ,lAK]at a;rcases a with a|rfl
  ·exact d.an x a
  ·grind
 ·refine d.fm.then t λc V l=>?_
  grind
def iu(L:List (List Nat))(i n:Nat):SpS:=⟨dO i,(rg (4*i) n).map (nJ L)⟩
def Nn(L:List (List Nat))(i:Nat):SpS:=iu L i (4*i+4)
def pre(L:List (List Nat))(q:Nat):List SpS:=⟨sU,[]⟩::(List.range q).map (Nn L)
theorem zui(L:List (List Nat))(q:Nat):pre L (q+1)=pre L q++[Nn L q]:=by unfold pre;rw[uA,AO];rfl
def Mid(L:List (List Nat))(n:Nat)(l:List aP)(g:aP):Prop:=∃q,l.map aP.sp=pre L q/\g.sp=iu L q n/\4*q<=n/\n<4*q+4
def St(L:List (List Nat))(n:Nat)(l:List aP)(g:aP):Prop:=(n=0/\l=[]/\g.sp=⟨sU,[]⟩)\/∃q,l.map aP.sp=pre L q/\g.sp=iu L q n/\4*q<n/\n<=4*q+4
theorem Mid.len{L:List (List Nat)}(l:Mid L n h g):h.length=1+n / 4/\g.gs.length<=4:=by obtain⟨q,c,d,e,f⟩:=l;have a:=congrArg List.length c;have b:=congrArg (λs=>s.bX.length) d;simp only[vu,pre,nk,yj,aP.sp,iu,pc]at a b;omega
variable{I:bA}
theorem Mid.rel{L:List (List Nat)}(l:Mid L n h g)(d:I.r=nJ L n):St L (n+1) h ⟨g.name,g.gs++[I],nv,N,cb⟩:=by
 obtain⟨q,a,b,c,e⟩:=l;refine .inr ⟨q,a,?_,om,om⟩;unfold aP.sp iu at *;injection b with e1 e2;rw[xT c,AO,AO,e1,e2]
 grind
theorem St.push{L:List (List Nat)}(l:St L n h g)(d:n%4=0)(A:Nat):Mid L n (h++[g]) ⟨dO (n / 4),[],.aA,A,A⟩:=by
 rcases l with⟨rfl,rfl,l⟩|⟨q,b,c,e,f⟩
 ·exact⟨0,by simp[pre,l],rfl,om,om⟩
 ·have a:n=4*q+4:=om;subst a;refine⟨q+1,by rw[AO,b,zui,cu,c];rfl,?_,om,om⟩;unfold aP.sp iu;rw[show(4*q+4) / 4=q+1 by omega,show 4*q+4=4*(q+1)by omega,Ib];rfl
theorem St.mid{L:List (List Nat)}(l:St L n h g)(c:¬n%4=0):Mid L n h g:=by
 rcases l with⟨rfl,_,_⟩|⟨q,a,b,d,e⟩
 ·omega
 ·exact⟨q,a,b,om,om⟩
theorem St.len{L:List (List Nat)}(l:St L n h g)(c:n<=12):h.length<=4:=by
 rcases l with⟨rfl,rfl,_⟩|⟨q,b,d,e,f⟩
 ·simp
 ·have a:=congrArg List.length b;simp only[vu,pre,nk,yj]at a;omega
theorem zlk(i:20<=j){L:List (List Nat)}{H0:Hp}{cb sb:Nat}(m:iD H0 nv L)(p:∀(H:Hp) (sv:AV) (l:List aP) (g:aP),ql L nv H0 H cb sb sv l g->St L (bY L) l g->Ok (qe H) D):∀(k n:Nat) (l:List aP) (g:aP) (sv:AV) (H:Hp),n<=bY L->bY L-n<k->ql L nv H0 H cb sb sv l g->St L n l g -> Ok (yO (C j) qe (.ptr cb 0) (.ptr sb 0) k (iN n) H) D
 |0,n,_,_,_,_,_,h,_,_=>om
 |k+1,n,l,g,sv,H,hi,hk,a,hS=>by
  show Ok (KY (C j) _ _ _ (yO (C j) _ _ _ k) _ H) D;unfold KY;have x:bY L<=12:=vT _ _;have e0:=a.cbk.is;simp only[go_sem,e0];refine Ok.ve (y6 (k:=j) om (m.fm a.fm)) ?_;rintro _ r ⟨rfl,e⟩;have d:ql L nv H0 r cb sb sv l g:=⟨a.cbk.fm e,(e.keep a.sbl.2.2).trans a.sbk,⟨a.sbl.1,a.sbl.2.1,AE a.sbl.2.2 e.nx⟩,a.cbl,a.ne,a.ns,a.svn,a.sbd,a.m.no e,a.an,AL a.ax e.nx,a.fm.trans e⟩;by_cases b:n<bY L
  ·simp only[go_sem,b];have next:∀(l:List aP) (g:aP) (sv:AV) (H:Hp),ql L nv H0 H cb sb sv l g->Mid L n l g->Ok (kA oc (C j) (yO (C j) qe (.ptr cb 0) (.ptr sb 0) k) (.ptr cb 0) (.ptr sb 0) (iN n) H) D:=by
    intro l g sv H a o;refine zt2 i b m a o.len.1 (by have:=o.len.2;omega) λH' s rg t c=>?_;exact zlk i m p k (n+1) l _ sv H' om om c (o.rel t)
   by_cases f:n%4=0
   ·refine zk6 i b f d (by have:=hS.len om;omega) λH' w A c=>?_;exact next _ _ _ _ c (hS.push f A)
   ·rw[kE tA];unfold tA;refine dI f ?_;exact next _ _ _ _ d (hS.mid f)
  ·have u:n=bY L:=om;subst u;simp only[go_sem,b];exact p r sv l g d hS
theorem Gl.sub(h:Gl z H nv n l)(a:i<n):∃b o,aG z nv (iN i)=.val (.ptr b o)/\b<H.nx/\In nv b/\∀s k,s+k<=z->eY (H.get b) (o+s) k=some ((((l.drop (i*z)).take z).drop s).take k):=by
 have m:=h.len;rcases h.is with⟨rfl,rfl⟩|⟨b,o,e,q,L,rfl,d,t,f,u,g⟩
 ·omega
 ·have p:i*z+z<=n*z:=by
   have:(i+1)*z<=n*z:=vL z a
   grind
  have r:o+n*z=L.length:=om;refine⟨b,o+i*z,sD _ _ _ _ _ _ _ _ a,g,⟨_,_,_,_,rfl⟩,λs k j=>?_⟩;have c:((l.drop (i*z)).take z).drop s=(L.drop (o+i*z+s)).take (z-s):=by rw[List.drop_take,<-f,su,su,af]
  rw[c,List.take_take,lh om,d,y7,sB om]
theorem yQ.at(h:yQ N cb H nv T)(c:i<T.length):∃b o,aG 6 nv (iN i)=.val (.ptr b o)/\b<H.nx/\In nv b/\cB (H.get b) o=.val (.str T[i].r.name.n T[i].r.name.a)/\cB (H.get b) (o+1)=.val T[i].tv/\eY (H.get b) (o+2) 4=some T[i].cs/\eY (H.get b) o 6=some (iL T[i]):=by
 obtain⟨b,o,d,e,f,g⟩:=h.gl.sub c;obtain⟨j,k,g1,_,_,g4,g5⟩:=(h.gl.rs BF).at' i c;rw[d]at g1;injection g1 with g1;injection g1 with g1 g2;subst g1 g2;refine⟨b,o,d,e,f,g5 0 (by rw[BF];omega),g5 1 (by rw[BF];omega),?_,g4⟩;rw[g 2 4 om,oA BF T i c];obtain⟨c0,l,m,n,p⟩:=(h.ru T[i] om).four;unfold iL
 grind
def mj(bX:List kD)(r:kD):Bool:=gU r.rule 1 sE||bX.any λx=>gU x.rule 3 r.name
theorem Mn(p:20<=j)(n:yQ N cb H0 nv T)(e:T.length<=1000)(m:∀g∈T,g.r.rule.depth<=12/\g.r.rule.size<=10000){f:Nat}(l:f<T.length){u0:Bool}(s:∀H,Fm No H0 H->Ok (qr (.bool (u0||T.any λx=>gU x.r.rule 3 T[f].r.name)) H) D):∀(k i:Nat) (u:Bool) (H:Hp),i<=T.length->T.length-i<k->Fm No H0 H->u=(u0||(T.take i).any λx=>gU x.r.rule 3 T[f].r.name) -> Ok (BT (C j) qr nv (iN f) k (.bool u) (iN i) H) D
 |0,i,_,_,_,h,_,_=>om
 |k+1,i,u,H,hi,hk,hf,hu=>by
  show Ok (KZ (C j) _ _ _ (BT (C j) _ _ _ k) _ _ H) D;unfold KZ;have d:=n.dR hf om;have t:=d.gl.bF;by_cases c:i<T.length
  ·simp only[go_sem,t,c];rw[kE Gt];unfold Gt;have z:((T.take (i+1)).any λx=>gU x.r.rule 3 T[f].r.name)=(((T.take i).any λx=>gU x.r.rule 3 T[f].r.name)||gU T[i].r.rule 3 T[f].r.name):=by
    rw[nh c,pg];simp
   cases u with
   |true=>
    rw[kE lx];unfold lx;refine aS ?_;refine Mn p n e m l s k (i+1) true H om om hf ?_
    grind
   |false=>obtain⟨b,o,v,E,_,_,_,w,_⟩:=d.at c;obtain⟨F,G,g1,g2,_,g4,_,_,_⟩:=d.at l;simp only[go_sem,v,w,g1,g4];refine Ok.iC (zyy (k:=j) (r:=T[i].r.rule) (by have:=(m _ (sx c)).1;omega) (by have:=(m _ (sx c)).2;omega) (d.ru _ om) 3 T[f].r.name) ?_;rintro _ y ⟨rfl,I⟩;rw[kE lx];unfold lx;refine aS ?_;refine Mn p n e m l s k (i+1) _ y om om om ?_;simp_all
  ·have Q:i=T.length:=om;simp only[go_sem,t,c];simp_all
def vB(bX:List kD)(r:kD):kD:=if mj bX r then r else⟨r.name,[],r.rule⟩
theorem ko(bX:List kD)(r:kD):(vB bX r).rule=r.rule:=by unfold vB;split<;>rfl
theorem Rs.nil(z:Nat)(f:β->List AV)(H:Hp):Rs z f H .aA ([]:List β):=⟨rfl,om⟩
def DD(g:bA):bA:=⟨⟨g.r.name,[],g.r.rule⟩,.aA,g.cs⟩
theorem zkq:∀(l:List bA) (i:Nat) (h:i<l.length),aY (l.flatMap iL) (i*6+1) [.aA]=(l.set i (DD l[i])).flatMap iL
 | [],_,h=>by simp at h
 |x::l,0,_=>by simp[aY,iL,DD]
 |x::l,i+1,h=>by
  have:=zkq l i om;rw[yc,DM,DM,zx,<-this];unfold aY;have e:(i+1)*6+1=(iL x).length+(i*6+1):=by rw[BF];omega
  rw[e,qm,sR,sR];congr 1;rw[sR];congr 2;rw[af,qo]
def mY(bX:List kD)(k:Nat):List kD:=(bX.take k).map (vB bX)++bX.drop k
theorem zlw{bX:List kD}(h:N<bX.length)(a:N<(mY bX N).length):(mY bX N)[N]=bX[N]:=by
 have e:(mY bX N)[N]? =some bX[N]:=by
  unfold mY;rw[AM g2]
  grind
 simp_all
theorem zuy(bX:List kD)(k:Nat)(s:SS):(mY bX k).any (λx=>gU x.rule 3 s)=bX.any (λx=>gU x.rule 3 s):=by
 unfold mY;rw[pg,uq]
 conv=>rhs;rw[<-qw k bX,pg]
 congr 2;funext x;simp only[Function.comp,ko]
theorem M9(bX:List kD)(k:Nat):(mY bX k).length=bX.length:=by unfold mY;simp;omega
theorem Ve{bX:List kD}(h:N<bX.length):mY bX (N+1)=(mY bX N).set N (vB bX bX[N]):=by
 unfold mY;rw[nh h,AO,cu,sR,List.set_append_right _ _ g2];simp only[vu,sY,lh (dE h),gq]
 conv=>rhs;rw[iP h]
 rfl
theorem yQ.set(h:yQ N cb H nv T)(k:i<T.length):∃b o H',aG 6 nv (iN i)=.val (.ptr b o)/\storeAt H b (o+1) [.aA] .undef=.ok .undef H'/\yQ N cb H' nv (T.set i (DD T[i]))/\Fm (In nv) H H':=by
 obtain⟨b,o,H',l,m,g,f,_⟩:=h.gl.set1 k (j:=1) om .aA;rw[zkq T i k]at g;refine⟨b,o,H',l,m,⟨om,h.inn,λy a=>?_,λy a=>?_⟩,f⟩
 ·rcases xq a with a|rfl
  ·exact⟨(h.ty y a).1.dR f λc e=>((h.ty y a).2.2 c e).2.2,(h.ty y a).2⟩
  ·exact⟨Rs.nil _ _ _,.inl rfl,λc e=>by obtain⟨_,_,_,_,e⟩:=e;cases e⟩
 ·rcases xq a with a|rfl
  ·exact(h.ru y a).dR f om
  ·exact(h.ru T[i] om).dR f om
theorem Mb(m:20<=j){A B:Nat}{rv:AV}{bX:List kD}{H1:Hp}(e:bX.length<=1000)(n:∀r∈bX,r.rule.depth<=12/\r.rule.size<=10000)(p:∀c H,c.map bA.r=bX.map (vB bX)->yQ A B H rv c->Fm (In rv) H1 H->Ok (qe H) D):∀(k i:Nat) (c:List bA) (H:Hp),i<=bX.length->bX.length-i<k->c.map bA.r=mY bX i->yQ A B H rv c->Fm (In rv) H1 H -> Ok (Cm (C j) qe rv k (iN i) H) D
 |0,i,_,_,_,h,_,_,_=>om
 |k+1,i,c,H,hi,hk,hg,hI,hf=>by
  show Ok (K0 (C j) _ _ (Cm (C j) _ _ k) _ H) D;unfold K0;have y:=hI.gl.bF;have F:c.length=bX.length:=by have:=congrArg List.length hg;rwa [vu,M9]at this
  have f:∀g∈c,g.r.rule.depth<=12/\g.r.rule.size<=10000:=λg Q=>by
   have:g.r∈mY bX i:=om;unfold mY at this;rw[lAJ,lEA]at this;rcases this with⟨r,O,v⟩|h
   ·rw[<-v,ko];exact n r om
   ·grind
  by_cases d:i<bX.length
  ·have a:i<c.length:=om;simp only[go_sem,y,a];rw[kE Gr];unfold Gr;obtain⟨b,o,I,P,_,_,_,J,_⟩:=hI.at a;simp only[go_sem,I,J];refine Ok.ve (zyy (k:=j) (r:=c[i].r.rule) (by have:=(f _ (sx a)).1;omega) (by have:=(f _ (sx a)).2;omega) (hI.ru _ (sx a)) 1 sE) ?_;rintro _ K ⟨rfl,L⟩;have l:=hI.dR L om;have s:c[i].r=bX[i]:=by
    have G:(c.map bA.r)[i]'(by simpa using a)=c[i].r:=yw ..;rw[<-G,<-zlw d (by rw[M9];exact d)];congr 1
   have t:(gU c[i].r.rule 1 sE||c.any λx=>gU x.r.rule 3 c[i].r.name)=mj bX bX[i]:=by unfold mj;rw[s,<-zuy bX i,<-hg,uq];rfl
   rw[dD];refine Mn m l om f a (u0:=gU c[i].r.rule 1 sE) (λw E=>?_) bT 0 _ K om lf om g3;rw[t];rw[kE Bx];unfold Bx;have z:=l.dR E om;have u:Fm (In rv) H1 w:=om;cases N:mj bX bX[i]with
   |true=>
    rw[kE iS];unfold iS;refine aS ?_;refine Mb m e n p k (i+1) c w om om ?_ z u;rw[Ve d,hg];have:vB bX bX[i]=(mY bX i)[i]'(by rw[M9];exact d):=by rw[zlw d];unfold vB;rw[N];rfl
    simp_all
   |false=>obtain⟨R,S,M,g1,g2,g3,g4⟩:=z.set a;simp only[go_sem,g1,g2];rw[kE iS];unfold iS;refine aS ?_;refine Mb m e n p k (i+1) _ M om om ?_ g3 om;rw[Ve d,qj,hg];congr 1;unfold vB DD;simp_all
  ·have v:i=bX.length:=om;have a:¬i<c.length:=om;simp only[go_sem,y,a];refine p c H ?_ hI hf;rw[hg,v];unfold mY;simp
theorem zbr(L:List (List Nat))(n:Nat):∀(d i:Nat) (neg:Bool),i<=(fQ L n d i neg).2/\(fQ L n d i neg).1.size<=2*((fQ L n d i neg).2-i)+1/\(fQ L n d i neg).1.depth<=d+1:=by
 have a:∀neg,(eM neg).size=1/\(eM neg).depth=1:=λneg=>by cases neg<;>exact⟨rfl,rfl⟩
 have e:∀c neg,(xW L n c neg).size=1/\(xW L n c neg).depth=1:=λc neg=>by
  unfold xW;split
  ·grind
  ·trivial
 intro d
 induction d with
 |zero=>intro i neg;unfold fQ;have:=a neg;simp only;omega
 |succ d ih=>
  intro i neg;unfold fQ;have b:=a neg;split
  ·simp_all
  split
  ·simp_all
  split
  ·simp only[sc,Ru.size,Ru.depth];omega
  split
  ·grind
  have b:=ih (i+1) neg;have f:=ih (fQ L n d (i+1) neg).2 (neg||decide (xV n (gM L n i)=6));simp only[Ru.size,Ru.depth];omega
theorem S4(L:List (List Nat))(n:Nat):(nJ L n).rule.size<=21/\(nJ L n).rule.depth<=7:=by
 have a:=zbr L n 6 2 false;have b:=(Gy L n 6 2 false).2;unfold nJ
 grind
def IA(p:SpS):SpS:=⟨p.name,p.bX.map (vB p.bX)⟩
def vX(L:List (List Nat)):List SpS:=⟨sU,[]⟩::(List.range ((bY L+3) / 4)).map λi=>iu L i (min (bY L) (4*i+4))
def mS(L:List (List Nat)):List SpS:=(vX L).map IA
theorem St.raw{L:List (List Nat)}(l:St L (bY L) h g):(h++[g]).map aP.sp=vX L:=by
 unfold vX;rw[AO,cu];rcases l with⟨e,rfl,l⟩|⟨q,b,c,f,j⟩
 ·grind
 ·have a:(bY L+3) / 4=q+1:=om;rw[a,uA,AO,cu,b,c];unfold pre;rw[qg];congr 2
  ·refine qy λi d=>?_;unfold Nn
   grind
  ·simp_all
theorem zkv{L:List (List Nat)}{p:SpS}(a:p∈vX L):p.bX.length<=4/\∀r∈p.bX,∃n,n<bY L/\r=nJ L n:=by
 unfold vX at a;rw[lE4,lEA]at a;rcases a with rfl|⟨i,c,rfl⟩
 ·simp
 ·refine⟨by simp only[iu,vu,pc];omega,λr b=>?_⟩;simp only[iu,lEA,qg2]at b
  grind
theorem yQ.flat(h:yQ N b H nv T):wW nv=true:=by rcases h.gl.is with⟨h,_⟩|⟨_,_,_,_,_,h,_⟩<;>(rw[h];rfl)
theorem mI.aYf(m:mI H sv X)(l:i<X.length)(q:yQ X[i].A X[i].B H' X[i].rv T)(f:Fm (In X[i].rv) H H'):mI H' sv (X.set i ⟨X[i].name,T,X[i].rv,X[i].A,X[i].B⟩):=by
 have h:=sx l;have s:=(m.rel _ h).1.inn;refine⟨?_,?_,?_,?_⟩
 ·have e:(X.set i ⟨X[i].name,T,X[i].rv,X[i].A,X[i].B⟩).flatMap yR=X.flatMap yR:=by
   rw[List.flatMap_def,List.flatMap_def,qj];congr 1;have:(X.map yR)[i]'(by simpa using l)=yR ⟨X[i].name,T,X[i].rv,X[i].A,X[i].B⟩:=by rw[yw];rfl
   rw[<-this,List.set_getElem_self]
  rw[iy,e];exact m.gl.fm f λb n r=>m.dj _ h b n om
 ·have k:=m.ord;rw[lEL]at k ⊢
  grind
 ·intro g a;rw[lUM]at a;obtain⟨j,o,rfl⟩:=a;rw[iy]at o;rw[List.getElem_set];split
  ·exact⟨q,AL (m.rel _ h).2 f.nx⟩
  ·rename_i t;have c:=sx o;refine⟨(m.rel _ c).1.dR f λb n r u=>?_,AL (m.rel _ c).2 f.nx⟩;have v:=om;have k:=m.ord;rw[lEL]at k
   grind
 ·intro g a b p;rcases xq a with a|rfl
  ·exact m.dj g a b p
  ·exact m.dj _ h b p
structure PH(H0 H:Hp)(sb:Nat)(sv:AV)(X:List aP):Prop where
 m:mI H sv X
 an:∀x∈X,H0.nx<=x.A/\¬(x.A<=sb/\sb<x.B)
 sbk:H.get sb=aB 0 [sv]
 sbl:H0.nx<=sb/\sb<H.nx
 svn:∀b,In sv b->H0.nx<=b
 fm:Fm No H0 H
theorem SY(v:20<=j){H0:Hp}{sb:Nat}{sv:AV}{S:List SpS}(Q:S.length<=1000)(w:∀p∈S,p.bX.length<=1000/\∀r∈p.bX,r.rule.depth<=12/\r.rule.size<=10000)(y:∀X H,X.map aP.sp=S.map IA->PH H0 H sb sv X->Ok (qe H) D):∀(k i:Nat) (X:List aP) (H:Hp),i<=S.length->S.length-i<k->X.map aP.sp=(S.take i).map IA++S.drop i->PH H0 H sb sv X -> Ok (yW (C j) qe (.ptr sb 0) k (iN i) H) D
 |0,i,_,_,_,h,_,_=>om
 |k+1,i,X,H,hi,hk,hX,hI=>by
  show Ok (K1 (C j) _ _ (yW (C j) _ _ k) _ H) D;unfold K1;have z:=hI.m.gl.bF;have e0:=hI.sbk;have F:X.length=S.length:=by have:=congrArg List.length hX;simp only[vu,nj,sY,oz]at this;omega
  by_cases e:i<S.length
  ·have a:i<X.length:=om;simp only[go_sem,e0,z,a];rw[kE Gq];unfold Gq;obtain⟨b,o,I,P,_,_,J⟩:=(hI.m.gl.rs jd).at' i a;have G:cB (H.get b) (o+1)=.val X[i].rv:=J 1 (by rw[jd];omega);simp only[go_sem,e0,I,G];rw[dD];have g:X[i].sp=S[i]:=by
    have N:(X.map aP.sp)[i]'(by simpa using a)=X[i].sp:=yw ..;simp_all
   have s:X[i].gs.map bA.r=S[i].bX:=congrArg SpS.bX g;have l:=w S[i] (sx e);have t:=sx a;refine Mb v (bX:=S[i].bX) (A:=X[i].A) (B:=X[i].B) (rv:=X[i].rv) (H1:=H) l.1 l.2 (λK H' L E f=>?_) bT 0 X[i].gs H (vy _) lf (by rw[s];simp[mY]) (hI.m.rel _ t).1 (Fm.refl _ _);rw[kE w9];unfold w9;refine aS ?_;have m:=(hI.m.rel _ t).1.inn;have n:=hI.an _ t;have d:=hI.sbl;refine SY v Q w y k (i+1) _ H' om om ?_ ⟨hI.m.aYf a E f,?_,?_,?_,hI.svn,?_⟩
   ·rw[qj,hX,nh e,AO,cu,sR,List.set_append_right _ _ g2];simp only[vu,sY,lh hi,gq];rw[iP e,List.set_cons_zero,List.singleton_append];congr 2;unfold aP.sp IA;congr 1;exact congrArg SpS.name g
   ·intro x u;rcases xq u with u|rfl
    ·exact hI.an x u
    ·exact n
   ·exact(f.get _ d.2 λh=>n.2 (m _ h)).trans hI.sbk
   ·exact⟨d.1,AE d.2 f.nx⟩
   ·exact hI.fm.then f λc M h=>by have:=(m c h).1;omega
  ·have O:i=S.length:=om;have a:¬i<X.length:=om;simp only[go_sem,e0,z,a];refine y X H ?_ hI;simp_all
structure oI(H:Hp)(g:bA):Prop where
 ty:Rs 2 tC H g.tv g.r.types
 tc:g.tv=.aA\/∃b o n m e,g.tv=.sl b o n m e/\n<=m/\0<n
 ru:j5 (λ_=>True) H g.r.rule g.cs
structure SpR(H:Hp)(g:aP):Prop where
 len:aD g.rv=.val (iN (g.gs.length))
 fl:wW g.rv=true
 at':∀i (h:i<g.gs.length),∃b o,aG 6 g.rv (iN i)=.val (.ptr b o)/\b<H.nx/\cB (H.get b) o=.val (.str g.gs[i].r.name.n g.gs[i].r.name.a)/\cB (H.get b) (o+1)=.val g.gs[i].tv/\eY (H.get b) (o+2) 4=some g.gs[i].cs/\eY (H.get b) o 6=some (iL g.gs[i])
 rel:∀x∈g.gs,oI H x
structure dB(H:Hp)(sv:AV)(X:List aP):Prop where
 rs:Rs 2 yR H sv X
 fl:wW sv=true
 sp:∀g∈X,SpR H g
theorem oI.tf(h:oI H I):wW I.tv=true:=by rcases h.tc with h|⟨_,_,_,_,_,h,_⟩<;>(rw[h];rfl)
theorem oI.fm(h:oI H I)(f:Fm No H H'):oI H' I:=⟨h.ty.fm f,h.tc,h.ru.fm f⟩
attribute [grind .] oI.fm
theorem SpR.fm(h:SpR H g)(f:Fm No H H'):SpR H' g:=⟨h.len,h.fl,λi c=>by obtain⟨b,o,j,a,k,l,m,n⟩:=h.at' i c;have e:=f.keep a;exact⟨b,o,j,AE a f.nx,by rw[e];exact k,by rw[e];exact l,by rw[e];exact m,by rw[e];exact n⟩,λx d=>(h.rel x d).fm f⟩
attribute [grind .] SpR.fm
theorem dB.fm(h:dB H sv X)(f:Fm No H H'):dB H' sv X:=⟨h.rs.fm f,h.fl,λg a=>(h.sp g a).fm f⟩
attribute [grind .] dB.fm
theorem mI.sr(m:mI H sv X):dB H sv X:=by
 refine⟨m.gl.rs jd,?_,λg c=>?_⟩
 ·rcases m.gl.is with⟨h,_⟩|⟨_,_,_,_,_,h,_⟩<;>(rw[h];rfl)
 ·have r:=(m.rel g c).1;refine⟨r.gl.bF,r.flat,λi d=>?_,λx a=>⟨(r.ty x a).1,(r.ty x a).2.1,(r.ru x a).mono om⟩⟩
  ·obtain⟨b,o,e,f,_,j,k,l,n⟩:=r.at d
   grind
def kQ(X:List aP)(a b:SS):Option bA:=match X.find? λg=>decide (g.name=a)with
 |none=>none
 |some g=>g.gs.find? λx=>decide (x.r.name=b)
theorem zmt{p:β->Bool}{l:List β}(a:i<l.length)(h:p l[i]=true)(b:∀k (c:k<i),p (l[k]'om)=false):l.find? p=some l[i]:=by
 rw[List.find?_eq_some_iff_getElem]
 grind
theorem zms{p:β->Bool}{l:List β}(b:∀k (c:k<l.length),p (l[k])=false):l.find? p=none:=by rw[List.find?_eq_none];intro x a;obtain⟨i,d,rfl⟩:=ku a;simp_all
theorem TU(g:dB H sv h)(s:h.length<1000000)(d:H.get sb=aB 0 [sv])(a:SS)(j:∀i (t:i<h.length),h[i].name=a->(∀k (e:k<i),h[k].name≠a)->Ok (qr (iN i) H) D)(l:(∀k (e:k<h.length),h[k].name≠a)->Ok (qe H) D):∀(k i:Nat),i<=h.length->h.length-i<k->(∀k (e:k<i) (f:k<h.length),h[k].name≠a)->Ok (Et O qr qe a.v (.ptr sb 0) k (iN i) H) D
 |0,i,_,X,_=>om
 |k+1,i,t,e,hn=>by
  show Ok (Z8 O _ _ _ _ (Et O _ _ _ _ k) _ H) D;unfold Z8;have f:=g.rs.len;by_cases c:i<h.length
  ·simp only[go_sem,d,f,c];unfold OK;obtain⟨b,o,r,y,_,_,w⟩:=g.rs.at' i c;have p:cB (H.get b) o=.val (.str h[i].name.n h[i].name.a):=w 0 (by rw[jd];omega);unfold SS.v;by_cases X:h[i].name.n=a.n/\h[i].name.a=a.a
   ·have v:=ae X;simp only[go_sem,d,r,p,v];exact j i c ((pE _ _).2 X) λk e=>hn k e om
   ·simp only[go_sem,d,r,p,X];unfold lC;refine aS ?_;refine TU g s d a j l k (i+1) om om λm n f=>?_;by_cases x:m=i
    ·subst x;exact λu=>X ((pE _ _).1 u)
    ·exact hn m om f
  ·simp only[go_sem,d,f,c];exact l λm n=>hn m om n
theorem zwg{k:Nat}(c:1<=k)(d:dB H sv X)(e:X.length<1000000)(a:SS):Ok (C k (.f 79) [.agg [sv],a.v] H) λr H'=>Fm No H H'/\((∃i,∃b:i<X.length,r=iN i/\X.find? (λg=>decide (g.name=a))=some X[i])\/(r=.int .i64 (.negSucc 0)/\X.find? (λg=>decide (g.name=a))=none)):=by
 obtain⟨j,rfl⟩:=aO c;rw[lk (zr8 ..)];unfold Xl;simp only[go_sem];have f:Fm No H (aH H (aB 0 [sv])):=om;rw[dD];refine TU (d.fm f) e (uR _ _) a (λi b l m=>?_) (λh=>?_) bT 0 om lf om
 ·refine Ok.ret ⟨f,.inl ⟨i,b,rfl,zmt b om om⟩⟩
 ·unfold rF;refine Ok.ret ⟨f,.inr ⟨rfl,zms om⟩⟩
def mr:List AV:=[zS,.aA,uN 0,zS,zS,.aA]
def tn(X:List aP)(a b:SS)(r:AV):Prop:=match kQ X a b with
 |some g=>r=.aX [.agg (iL g),.bool true]
 |none=>r=.aX [.agg mr,.bool false]
theorem QE(j:dB H sv h){s:Nat}(l:s<h.length)(c:H.get sb=aB 0 [sv])(t:h[s].gs.length<1000000)(n:H.get N=aB 0 mr)(b:SS)(o:∀g,h[s].gs.find? (λx=>decide (x.r.name=b))=some g->Ok (qr (.bool true) (H.put N (aB 0 (iL g)))) D)(p:h[s].gs.find? (λx=>decide (x.r.name=b))=none->Ok (qe H) D):∀(k i:Nat),i<=h[s].gs.length->h[s].gs.length-i<k->(∀k (u:k<i) (d:k<h[s].gs.length),h[s].gs[k].r.name≠b)->Ok (CT O qr qe b.v (.ptr sb 0) (.ptr N 0) (iN s) k (iN i) H) D
 |0,i,_,X,_=>om
 |k+1,i,hi,u,hn=>by
  show Ok (CU O _ _ _ _ _ _ (CT O _ _ _ _ _ _ k) _ H) D;unfold CU;obtain⟨w,y,f,B,_,_,z⟩:=j.rs.at' s l;have e:cB (H.get w) (y+1)=.val h[s].rv:=z 1 (by rw[jd];omega);have r:=j.sp _ (sx l);have d:=r.len;by_cases a:i<h[s].gs.length
  ·simp only[go_sem,c,f,e,d,a,vy];unfold zhu;obtain⟨C,Q,g1,g2,g3,g4,g5,g6⟩:=r.at' i a;unfold SS.v;by_cases X:h[s].gs[i].r.name.n=b.n/\h[s].gs[i].r.name.a=b.a
   ·have v:=ae X;simp only[go_sem,c,f,e,g1,g3,v,g6];simp only[go_sem,n];refine o h[s].gs[i] (zmt a (by simpa using (pE _ _).2 X) om)
   ·simp only[go_sem,c,f,e,g1,g3,X];unfold zj;refine aS ?_;refine QE j l c t n b o p k (i+1) om om λm A d=>?_
    grind
  ·simp only[go_sem,c,f,e,d,a,vy];exact p (zms om)
theorem Cr{k:Nat}(o:2<=k)(p:dB H sv X)(q:X.length<1000000)(e:∀g∈X,g.gs.length<900000)(a b:SS):Ok (C k (.f 30) [.agg [sv],a.v,b.v] H) λr H'=>Fm No H H'/\tn X a b r:=by
 obtain⟨j,rfl⟩:=aO o;rw[lk (zsq ..)];unfold Xz;refine aS ?_;have f:Fm No H (aH (aH H (aB 0 [sv])) (aB 0 mr)):=om;refine Ok.ve (zwg (k:=j) om (p.fm f) q a) ?_;rintro r H1 ⟨n,h⟩;have s:H1.get H.nx=aB 0 [sv]:=(n.keep g1).trans g6;have c:H1.get (H.nx+1)=aB 0 mr:=(n.keep gz).trans g5;obtain⟨m,t⟩:∃m,bT=m+1:=⟨999999,by rw[rO]⟩;unfold tn kQ;have fin:Ok (Ew (C j) (.ptr (H.nx+1) 0) H1) λr H'=>Fm No H H'/\r=.aX [.agg mr,.bool false]:=by unfold Ew;unfold mr at c ⊢;simp only[go_sem,seval,c];exact Ok.ret ⟨om,rfl⟩
 rcases h with⟨i,d,rfl,h⟩|⟨rfl,h⟩
 ·rw[dD,h];refine QE om d s (by have:=e _ (sx d);omega) c b (λg l=>?_) (λl=>?_) bT 0 om (by have:=e _ (sx d);rw[rO];omega) om
  ·simp only;rw[l];simp only[go_sem];exact Ok.ret ⟨om,rfl⟩
  ·grind
 ·rw[dD,t,h];show Ok (CU (C j) _ _ _ _ _ _ (CT (C j) _ _ _ _ _ _ m) _ H1) _;unfold CU;simp only[go_sem]
  grind
def pC(p:SS×SS):List AV:=[p.1.v,p.2.v]
theorem ur(p:SS×SS):(pC p).length=2:=rfl
def aF(X:List aP):List (SS×SS):=X.flatMap λg=>g.gs.map λx=>(g.name,x.r.name)
structure sO(X:List aP):Prop where
 n:X.length<=100
 r:∀g∈X,g.gs.length<=100
 t:∀g∈X,∀x∈g.gs,x.r.types.length<=100
theorem sO.all(h:sO X):∀i,((X.take i).flatMap λg=>g.gs.map λx=>(g.name,x.r.name)).length<=10000:=λi=>by
 have c:∀l:List aP,(∀g∈l,g.gs.length<=100)->(l.flatMap λg=>g.gs.map λx=>(g.name,x.r.name)).length<=100*l.length:=by
  intro l
  induction l with
  |nil=>intro _;simp
  |cons a l ih=>intro h;rw[DM,nj,vu,nk];have:=ih λg b=>h g (DQ _ b);have:=h a vA;omega
 have d:=c (X.take i) λg b=>h.r g (AP b);have e:(X.take i).length<=X.length:=by rw[sY];omega
 have:=h.n;omega
variable{P:List (SS×SS)}
theorem Qu(j:dB H0 sv h)(l:sO h)(m:H0.get sb=aB 0 [sv])(c:sb<H0.nx)(e:N<h.length)(u:P.length<=1000000)(v:∀w H,Ac 2 pC H0 H w (P++h[N].gs.map λx=>(h[N].name,x.r.name))->Ok (qr w H) D):∀(k i:Nat) (w:AV) (H:Hp),i<=h[N].gs.length->h[N].gs.length-i<k->Ac 2 pC H0 H w (P++(h[N].gs.take i).map λx=>(h[N].name,x.r.name)) -> Ok (Ek O qr (.ptr sb 0) (iN N) k w (iN i) H) D
 |0,i,_,_,_,X,_=>om
 |k+1,i,w,H,hi,hk,hw=>by
  show Ok (OV O _ _ _ (Ek O _ _ _ k) _ _ H) D;unfold OV;have d:=j.fm hw.fm;have b:=(hw.fm.keep c).trans m;obtain⟨p,r,g,F,_,_,t⟩:=d.rs.at' N e;have y:cB (H.get p) r=.val (.str h[N].name.n h[N].name.a):=t 0 (by rw[jd];omega);have f:cB (H.get p) (r+1)=.val h[N].rv:=t 1 (by rw[jd];omega);have n:=d.sp _ (sx e);have o:=n.len;have E:=l.r _ (sx e);by_cases a:i<h[N].gs.length
  ·simp only[go_sem,b,g,f,o,a];unfold OU;obtain⟨G,I,g1,g2,g3,_,_,_⟩:=n.at' i a;have z:(P++(h[N].gs.take i).map λx=>(h[N].name,x.r.name)).length<=1001000:=om;simp only[go_sem,seval,b,g,y,f,g1,g3];refine Ok.iC ((hw.no (by(repeat(first|exact Fm.refl _ _|assumption|refine Fm.push ?_ _|refine Fm.up2 ?_ (by go_size)|refine Fm.aN ?_ _ _ om)))).add (h[N].name,h[N].gs[i].r.name) 32 rfl om om) ?_;intro B C Q;unfold t9;refine aS ?_;refine Qu j l m c e u v k (i+1) B C om om ?_;rw[nh a,AO,cu,<-sR]
   grind
  ·simp only[go_sem,b,g,f,o,a]
   grind
theorem Yb(e:dB H0 sv h)(c:sO h)(f:H0.get sb=aB 0 [sv])(b:sb<H0.nx)(l:∀w H,Ac 2 pC H0 H w (aF h)->Ok (qr w H) D):∀(k i:Nat) (w:AV) (H:Hp),i<=h.length->h.length-i<k->Ac 2 pC H0 H w ((h.take i).flatMap λg=>g.gs.map λx=>(g.name,x.r.name)) -> Ok (Cy O qr (.ptr sb 0) k w (iN i) H) D
 |0,i,_,_,_,X,_=>om
 |k+1,i,w,H,hi,hk,hw=>by
  show Ok (OW O _ _ (Cy O _ _ k) _ _ H) D;unfold OW;have s:=c.n;have j:=e.fm hw.fm;have d:=(hw.fm.keep b).trans f;have m:=j.rs.len;by_cases a:i<h.length
  ·simp only[go_sem,d,m,a];unfold zie;rw[dD];have t:=c.r _ (sx a);refine Qu e c f b a (AL (c.all i) om) (λn o p=>?_) bT 0 w H om lf om;unfold pf;refine aS ?_;refine Yb e c f b l k (i+1) n o om om ?_;rw[nh a,nt,AJ]
   grind
  ·simp only[go_sem,d,m,a];have r:i=h.length:=om;rw[r,aj]at hw;exact l w H hw
theorem A6{k:Nat}(b:1<=k)(c:dB H sv X)(a:sO X):Ok (C k (.f 28) [.agg [sv]] H) λr H'=>Ac 2 pC H H' r (aF X):=by obtain⟨j,rfl⟩:=aO b;rw[lk (zs6 ..)];unfold XN;simp only[go_sem];have f:Fm No H (aH H (aB 0 [sv])):=om;have g:=a.n;rw[dD];refine Yb (c.fm f) a (uR _ _) gx (λw e d=>?_) bT 0 .aA _ om lf (Ac.nil _ _ (Fm.refl _ _));exact Ok.ret (d.trans f)
def dA(X:List aP)(a b:SS):Nat:=(aF X).findIdx λp=>decide (p=(a,b))
theorem SA(j:Rs 2 pC H nv P)(a b:SS)(z:P.findIdx (λp=>decide (p=(a,b)))<P.length->Ok (qr (iN ((P.findIdx λp=>decide (p=(a,b))))) H) D)(u:(a,b)∉P->Ok (qe H) D)(n:P.length<=1000000000):∀(k i:Nat),i<=P.length->P.length-i<k->(∀m (_:m<i) (e:m<P.length),P[m]≠(a,b))->Ok (CW O qr qe a.v b.v nv k (iN i) H) D
 |0,i,_,h,_=>om
 |k+1,i,hi,hk,hn=>by
  show Ok (Z7 O _ _ _ _ _ (CW O _ _ _ _ _ k) _ H) D;unfold Z7;have e:=j.len;have next:i<P.length->P[i]? ≠ some (a,b)->Ok (zm O (CW O qr qe a.v b.v nv k) (iN i) H) D:=λc A=>by
   unfold zm;refine aS ?_;refine SA j a b z u n k (i+1) om om λm B e=>?_
   grind
  by_cases c:i<P.length
  ·simp only[go_sem,e,c];unfold OH;obtain⟨w,x,t,Q,_,_,y⟩:=j.at' i c;have o:cB (H.get w) x=.val (.str P[i].1.n P[i].1.a):=y 0 (by rw[ur];omega);have r:cB (H.get w) (x+1)=.val (.str P[i].2.n P[i].2.a):=y 1 (by rw[ur];omega);unfold SS.v;by_cases f:P[i].1.n=a.n/\P[i].1.a=a.a
   ·have d:=ae f;by_cases g:P[i].2.n=b.n/\P[i].2.a=b.a
    ·have s:=ae g;simp only[go_sem,t,o,r,d,s];have C:P[i]=(a,b):=Prod.ext ((pE _ _).2 f) ((pE _ _).2 g)
     grind
    ·simp only[go_sem,t,o,r,d,g];refine next c λh=>g ?_
     simp_all
   ·simp only[go_sem,t,o,r,f];refine next c λh=>f ?_
    simp_all
  ·simp only[go_sem,e,c];refine u λB=>?_
   grind
theorem zom(e:2<=N)(g:dB H sv X)(d:sO X)(a b:SS):Ok (C N (.f 29) [.agg [sv],a.v,b.v] H) λr H'=>Fm No H H'/\((dA X a b<(aF X).length/\r=iN ((dA X a b)))\/((a,b)∉aF X/\r=.int .i64 (.negSucc 0))):=by
 obtain⟨j,rfl⟩:=aO e;rw[lk (zs3 ..)];unfold XK;refine aS ?_;have f:Fm No H (aH H (aB 0 [sv])):=by exact fh
 refine Ok.ve (A6 (k:=j) om (g.fm f) d) ?_;intro w H1 c;have i:(aF X).length<=10000:=by have:=d.all X.length;rwa [aj]at this
 rw[dD];refine SA (c.rs ur) a b (λh=>?_) (λh=>?_) om bT 0 (vy _) lf (λm l=>om)
 ·exact Ok.ret ⟨f.trans c.fm,.inl ⟨h,rfl⟩⟩
 ·unfold rF;exact Ok.ret ⟨f.trans c.fm,.inr ⟨h,rfl⟩⟩
def jw(X:List aP)(to:SS)(t:jW):Bool:=decide (t.rl=sE)&&(kQ X t.sp to).isSome
def fZ(X:List aP)(to:SS)(l:List jW):List SS:=(l.filter (jw X to)).map jW.sp
def iK(X:List aP)(a rel to:SS):List SS:=match kQ X a rel with
 |none=>[]
 |some g=>fZ X to g.r.types
theorem GB(g:bA):∃a b c4 c5,iL g=[.str g.r.name.n g.r.name.a,g.tv,a,b,c4,c5]:=⟨_,_,_,_,rfl⟩
theorem HY(X:List aP)(to:SS)(l:List jW):(fZ X to l).length<=l.length:=by
 unfold fZ
 grind
theorem RQ(X:List aP)(to:SS)(h:i<ts.length):fZ X to (ts.take (i+1))=fZ X to (ts.take i)++if jw X to ts[i]then[ts[i].sp]else[]:=by
 unfold fZ;rw[nh h,lg,AO,dm]
 grind
variable{jZ:AV}
theorem Fx(Q:2<=j){W Y c4 c5:AV}(E:dB H0 sv h)(z:sO h)(F:H0.get sb=aB 0 [sv])(n:sb<H0.nx)(G:H0.get cb=aB 0 [jZ,nv,W,Y,c4,c5])(o:cb<H0.nx)(I:Rs 2 tC H0 nv ts)(p:ts.length<=1000)(to:SS)(R:∀w H,Ac 1 sC H0 H w (fZ h to ts)->Ok (qr w H) D):∀(k i:Nat) (w:AV) (H:Hp),i<=ts.length->ts.length-i<k->Ac 1 sC H0 H w (fZ h to (ts.take i)) -> Ok (un (C j) qr to.v (.ptr sb 0) (.ptr cb 0) k w (iN i) H) D
 |0,i,_,_,_,X,_=>om
 |k+1,i,w,H,hi,hk,hw=>by
  show Ok (Du (C j) _ _ _ _ (un (C j) _ _ _ _ k) _ _ H) D;unfold Du;have K:=E.fm hw.fm;have L:=(hw.fm.keep n).trans F;have d:=(hw.fm.keep o).trans G;have s:=I.fm hw.fm;have S:=s.len;have nx1:=hw.fm.nx;have hn:=z.n;by_cases l:i<ts.length
  ·simp only[go_sem,d,S,l];rw[kE FF];unfold FF;obtain⟨A,B,v,e2,_,_,U⟩:=s.at' i l;have r0:cB (H.get A) B=.val (.str ts[i].sp.n ts[i].sp.a):=U 0 (by rw[fz];omega);have r1:cB (H.get A) (B+1)=.val (.str ts[i].rl.n ts[i].rl.a):=U 1 (by rw[fz];omega);simp only[go_sem,seval,d,L,v,r0];have T:Fm No H ⟨H.t,H.nx+15⟩:=fm;refine Ok.iC (Cr (k:=j) Q (K.fm T) om (λg Z=>by have:=z.r g Z;omega) ts[i].sp to) ?_;rintro r V ⟨f2,b⟩;have t:=T.trans f2;have hs:=RQ h to l;have M:=HY h to (ts.take i);rw[sY]at M;have a:∀m,Fm No H m->jw h to ts[i]=false->Ok (cY (C j) (un (C j) qr to.v (.ptr sb 0) (.ptr cb 0) k) w (iN i) m) D:=λm f3 X=>by
    unfold cY;refine aS ?_;refine Fx Q E z F n G o I p to R k (i+1) w m om om ?_
    grind
   have c:∀m,Fm No H m->jw h to ts[i]=true->Ok (ve (jD 1 16 (aH m (aB 0 [.str ts[i].sp.n ts[i].sp.a])) w (some ⟨1,[.str ts[i].sp.n ts[i].sp.a]⟩)) λJ H=>cY (C j) (un (C j) qr to.v (.ptr sb 0) (.ptr cb 0) k) J (iN i) H) D:=λm f3 X=>by refine Ok.ve ((hw.no om).add ts[i].sp 16 rfl om om) ?_;intro w4 H4 hw4;unfold cY;refine aS ?_;refine Fx Q E z F n G o I p to R k (i+1) w4 H4 om om ?_;simp_all
   unfold tn at b;have e:=(t.keep om).trans d;have N:cB (V.get A) B=.val (.str ts[i].sp.n ts[i].sp.a):=om;have f:cB (V.get A) (B+1)=.val (.str ts[i].rl.n ts[i].rl.a):=om;unfold jw at a c;by_cases x:ts[i].rl.n=0/\ts[i].rl.a=0
   ·have O:ts[i].rl=sE:=(pE _ _).2 x;have u:=ae x;rw[j7 O]at a c;cases y:kQ h ts[i].sp to with
    |none=>rw[y]at b a;subst b;unfold mr;refine jF e v f u ?_;exact a _ (((t.aN (H.nx+12) _ om)).aN (H.nx+12) _ om) rfl
    |some g=>rw[y]at b c;subst b;obtain⟨d2,d3,d4,d5,P⟩:=GB g;rw[P];refine lW e v N f u ?_;exact c _ (((t.aN (H.nx+12) _ om)).aN (H.nx+12) _ om) rfl
   ·rw[sT (λX=>x ((pE _ _).1 X))]at a;cases y:kQ h ts[i].sp to with
    |none=>rw[y]at b a;subst b;unfold mr;refine jF e v f x ?_;exact a _ (((t.aN (H.nx+12) _ om)).aN (H.nx+12) _ om) rfl
    |some g=>rw[y]at b a;subst b;obtain⟨d2,d3,d4,d5,P⟩:=GB g;rw[P];refine jF e v f x ?_;exact a _ (((t.aN (H.nx+12) _ om)).aN (H.nx+12) _ om) rfl
  ·simp only[go_sem,d,S,l]
   grind
theorem Ug{k:Nat}(u:3<=k)(n:dB H sv X)(i:sO X)(a b to:SS):Ok (C k (.f 78) [.agg [sv],a.v,b.v,to.v] H) λr H'=>Ac 1 sC H H' r (iK X a b to):=by
 obtain⟨j,rfl⟩:=aO u;rw[lk (zso ..)];unfold Xx;refine aS ?_;have f:Fm No H (aH H (aB 0 [sv])):=om;have G:=i.n;refine Ok.ve (Cr (k:=j) om (n.fm f) om (λg l=>by have:=i.r g l;omega) a b) ?_;rintro r d ⟨q,c⟩;have x:=q.nx;simp only[np]at x;have y:=f.trans q;have s:d.get H.nx=aB 0 [sv]:=(q.keep gx).trans om;unfold tn at c;unfold iK;cases e:kQ X a b with
 |none=>rw[e]at c;subst c;refine aS ?_;have m:Fm No d ((aH d (aB 0 [zS,.aA,uN 0,zS,zS,.aA])).put d.nx (aB 0 [zS,.aA,uN 0,zS,zS,.aA])):=om;rw[dD];refine Fx om (n.fm (y.trans m)) i ((m.keep om).trans s) gz (gX _ _ _) gz (Rs.nil 2 tC _) g3 to (λw v o=>?_) bT 0 .aA _ om (by rw[rO];simp) (Ac.nil _ _ (Fm.refl _ _));exact Ok.ret (o.trans om)
 |some g=>
  rw[e]at c;subst c;obtain⟨A,B,D,E,F⟩:=GB g;rw[F];refine aS ?_;have m:Fm No d ((aH d (aB 0 [zS,.aA,uN 0,zS,zS,.aA])).put d.nx (aB 0 [.str g.r.name.n g.r.name.a,g.tv,A,B,D,E])):=om;rw[dD];obtain⟨p,t,l⟩:∃p∈X,g∈p.gs:=by
   unfold kQ at e;cases h:X.find? λg=>decide (g.name=a)with
   |none=>rw[h]at e;cases e
   |some p=>rw[h]at e;exact⟨p,gy h,gy e⟩
  have z:=i.t p t g l;refine Fx om om i ((m.keep om).trans s) gz (gX _ _ _) gz ((((n.sp p t).rel g l).ty).fm om) om to (λw v o=>?_) bT 0 .aA _ om lf (Ac.nil _ _ om);exact Ok.ret (o.trans om)
theorem zu8(a:1<=N)(n:Int)(H:Hp):C N (.f 316) [.int .i64 n] H=.ok (.bool false) H:=by obtain⟨j,rfl⟩:=aO a;rw[lk (zrj ..)];unfold WY;simp only[go_sem]
def qI(a b:Int):Int:=if a<b then -1 else if b<a then 1 else 0
theorem qw7(d:2<=N)(a b:Int)(H:Hp):C N (.f 301) [.int .i64 a,.int .i64 b] H=.ok (.int .i64 (qI a b)) H:=by
 obtain⟨j,rfl⟩:=aO d;rw[lk (zrr ..)];unfold W5;simp only[zu8 (show 1<=j by omega),go_sem];unfold zxw zxx zxy kJ qI;by_cases h:a<b
 ·simp only[h,go_sem];rfl
 ·by_cases c:b<a
  ·simp only[h,c,go_sem];rfl
  ·simp only[h,c,go_sem];rfl
def uW(s:Bool):Int:=if s then 1 else 0
theorem z0f(c:1<=N)(a b:AV)(s:Bool)(H:Hp):C N (.f 302) [.agg [a,b,.bool s]] H=.ok (.int .i64 (uW s)) (aH H (aB 0 [a,b,.bool s])):=by obtain⟨j,rfl⟩:=aO c;rw[lk (zrq ..)];unfold W4 kJ;cases s<;>simp(disch:=omega)only[go_sem,seval,Nat.beq]<;>rfl
def cx(l:List Int):List AV:=l.map (λn=>.int .i64 n)
theorem zva(l:List Int)(i:Nat)(h:i<l.length):(cx l)[i]? =some (.int .i64 l[i]):=by simp[cx,h]
def s9:List Int->Int
 | []=>0
 |x::l=>if x=0 then s9 l else x
theorem zol{l:List Int}(g:H.get b=aB N (cx l))(j:l.length<1000000):∀(k i:Nat),i<=l.length->l.length-i<k->DW O (λx2 H=>.ok x2 H) (λH=>gV O (.int .i64 (.ofNat 0)) H) (.int .i64 (.ofNat 0)) (.sl b 0 l.length m neg) (.int .i64 (.ofNat l.length)) k (.int .i64 (.ofNat i)) H=.ok (.int .i64 (s9 (l.drop i))) H
 |0,i,_,h=>om
 |k+1,i,hi,hk=>by
  show OA O _ _ _ _ _ (DW O _ _ _ _ _ k) _ H=_;unfold OA;by_cases a:i<l.length
  ·refine dI a ?_;unfold zxv;have d:l.drop i=l[i]::l.drop (i+1):=iP a;refine dS g (zva _ _ a) ?_;rw[d];show _=R1.ok (.int .i64 (if l[i]=0 then s9 (l.drop (i+1))else l[i])) H;by_cases f:l[i]=Int.ofNat 0
   ·have c:l[i]=0:=f;simp only[c,go_sem];unfold lC;refine aS ?_;exact zol g j k (i+1) om om
   ·have c:¬l[i]=0:=f;simp only[f,c,go_sem]
  ·have d:l.drop i=[]:=ig om;refine dI a ?_;rw[d];rfl
theorem aO5(a:1<=N){l:List Int}(c:l.length=n)(d:H.get b=aB cb (cx l))(f:l.length<1000000):C N (.f 151) [.sl b 0 n m neg] H=.ok (.int .i64 (s9 l)) H:=by obtain⟨j,rfl⟩:=aO a;subst c;rw[lk (zrp ..)];unfold W3;simp only[go_sem];rw[dD];exact zol d f _ 0 om lf
structure Edge where
 (f t:Nat)
 s:Bool
deriving DecidableEq
def Edge.cells(e:Edge):List AV:=[.int .i64 (.ofNat e.f),.int .i64 (.ofNat e.t),.bool e.s]
def yC(x y:Edge):Int:=s9 [qI (.ofNat x.f) (.ofNat y.f),qI (.ofNat x.t) (.ofNat y.t),qI (uW x.s) (uW y.s)]
theorem zcm(a:3<=N)(x y:Edge)(H:Hp):Ok (C N (.f 273) [.agg x.cells,.agg y.cells] H) λv H'=>v=.int .i64 (yC x y)/\Fm No H H':=by obtain⟨j,rfl⟩:=aO a;rw[lk (zr3 ..)];unfold Xh Edge.cells;simp(disch:=first|go_size|omega)only[go_sem,seval,Nat.beq,qw7 (show 2<=j by omega),z0f (show 1<=j by omega)];refine Ok.vH (aO5 om (l:=[qI (.ofNat x.f) (.ofNat y.f),qI (.ofNat x.t) (.ofNat y.t),qI (uW x.s) (uW y.s)]) rfl (gX _ _ _) g3) ?_;simp only[go_sem];exact Ok.ret ⟨rfl,fm⟩
structure lP(n:Nat)(es:List Edge):Prop where
 rng:∀e∈es,e.f<n/\e.t<n
 ord:∀i,(h:i+1<es.length)->yC es[i] es[i+1]<0
theorem Lj(a b:Int)(k:IntKind):rT pQ (.int k a) [.int k b]=.val (.int k (min a b)):=by
 show R0.val (.int k (bif rH b a then b else a))=_;rw[eH]
 grind
theorem Ll(a b:Int)(k:IntKind):rT qV (.int k a) [.int k b]=.val (.int k (max a b)):=by
 show R0.val (.int k (bif rH a b then b else a))=_;rw[eH]
 grind
structure lX(H:Hp)(v:AV)(es:List Edge):Prop where
 flat:wW v=true
 len:aD v=.val (.int .i64 (.ofNat es.length))
 lt':∀b,In v b->b<H.nx
 at':∀(i:Nat) (hi:i<es.length),∃b o,aG 3 v (.int .i64 (.ofNat i))=.val (.ptr b o)/\b<H.nx/\eY (H.get b) o 3=some es[i].cells
variable{E:List Edge}
theorem lX.at(h:lX H nv E)(a:i<E.length):∃b o,aG 3 nv (.int .i64 (.ofNat i))=.val (.ptr b o)/\b<H.nx/\eY (H.get b) o 3=some E[i].cells:=h.at' i a
theorem lX.fm(h:lX H nv E)(a:Fm No H H'):lX H' nv E:=⟨h.flat,h.len,λb d=>AE (h.lt' b d) a.nx,λi e=>by obtain⟨b,o,f,c,g⟩:=h.at' i e;exact⟨b,o,f,AE c a.nx,by rw[a.keep c];exact g⟩⟩
theorem xa1(h:aG z nv (.int .i64 (.ofNat i))=.val (.ptr b o)):In nv b:=by
 cases nv with
 |sl b' o' n m e=>
  have h:(bif Nat.blt i n then R0.val (.ptr b' (o'+i*z))else .bad)=.val (.ptr b o):=h;cases a:Nat.blt i n with
  |true=>rw[a]at h;cases h;exact⟨_,_,_,_,rfl⟩
  |false=>rw[a]at h;cases h
 |_=>cases h
theorem lX.keep(h:lX H nv E)(a:H.nx<=H'.nx)(e:∀b,In nv b->b<H.nx->H'.get b=H.get b):lX H' nv E:=⟨h.flat,h.len,λb f=>AE (h.lt' b f) a,λi g=>by obtain⟨b,o,c,d,j⟩:=h.at' i g;exact⟨b,o,c,AE d a,by rw[e b (xa1 c) d];exact j⟩⟩
attribute [grind .] lX.keep
theorem lX.lt(h:lX H nv E)(a:In nv b):b<H.nx:=h.lt' b a
attribute [grind ->] lX.lt
theorem Gl.flat(h:Gl z H nv n l):wW nv=true:=by rcases h.is with⟨rfl,rfl⟩|⟨b,o,e,q,L,rfl,_⟩<;>rfl
theorem lX.lV(h:lX H nv E):lV 64 nv nv=true:=wK h.flat 63
theorem Mh(m:3<=j)(l:lP n E)(c:E.length<1000000)(t:∀H,Fm No H0 H->Ok (qe H) D):∀(k i:Nat) (H:Hp),i<=E.length->E.length-i<k->lX H nv E->N<H.nx->H.get N=aB 0 [.int .i64 (.ofNat n),nv]->Fm No H0 H -> Ok (Er (C j) (λx2 H=>.ok x2 H) qe (.ptr N 0) nv (.int .i64 (.ofNat E.length)) k (.int .i64 (.ofNat i)) H) D
 |0,i,_,_,h,_,_,_,_=>om
 |k+1,i,H,hi,hk,hv,hg1,hg2,hf=>by
  show Ok (ZD (C j) _ _ _ _ _ (Er (C j) _ _ _ _ _ k) _ H) D;unfold ZD;by_cases a:i<E.length
  ·obtain⟨b,G,w,I,x⟩:=hv.at a;have F:=l.rng E[i] om;simp only[go_sem,a];unfold OE Xf;have d:(min (Int.ofNat E[i].f) (Int.ofNat E[i].t)<Int.ofNat 0)=False:=om;have e:(Int.ofNat n<=max (Int.ofNat E[i].f) (Int.ofNat E[i].t))=False:=om;by_cases y:0<i
   ·obtain⟨p,rfl⟩:∃p,i=p+1:=⟨i-1,om⟩;obtain⟨B,Q,o,es,q⟩:=hv.at (show p<E.length by omega);have f:=hv.lV;simp(disch:=go_size)only[go_sem,rB,rI,rK,rL,rN,rS,r6,w,x,Edge.cells,Lj,Ll,d,e,hg2,y,o,q,xF];refine Ok.iC (zcm m E[p] E[p+1] _) ?_;rintro J H' ⟨rfl,r⟩;have u:H'.get N=aB 0 [.int .i64 (.ofNat n),nv]:=(r.keep gz).trans om;have k2:eY (H'.get B) Q 3=some E[p].cells:=om;have k3:H'.get H.nx=aB 0 E[p+1].cells:=(r.keep gx).trans (by simp only[go_sem,seval,Edge.cells]);have z:(Int.ofNat 0<=yC E[p] E[p+1])=False:=by
     have:=l.ord p a;simp_all
    simp only[go_sem,u,k2,k3,f,Edge.cells,z];unfold w9;refine aS ?_;have A:Fm No H H':=by refine Fm.trans ?_ r;exact zL
    exact Mh m l c t k (p+1+1) H' om om om om u om
   ·simp(disch:=go_size)only[go_sem,rB,rI,rK,rL,rN,rS,r6,w,x,Edge.cells,Lj,Ll,d,e,hg2,y];unfold w9;refine aS ?_;have A:Fm No H ((aH H (aB 0 [.int .i64 (.ofNat 0),.int .i64 (.ofNat 0),.bool false])).put H.nx (aB 0 [.int .i64 (.ofNat E[i].f),.int .i64 (.ofNat E[i].t),.bool E[i].s])):=om;exact Mh m l c t k (i+1) _ om om om om om om
  ·simp only[go_sem,a]
   grind
theorem zwv{k:Nat}(b:4<=k)(c:lP n E)(h:n<=256)(a:E.length<1000000)(d:lX H nv E):Ok (C k (.f 277) [.agg [.int .i64 (.ofNat n),nv]] H) λr H'=>r=.int .i64 (.ofNat 0)/\Fm No H H':=by obtain⟨j,rfl⟩:=aO b;rw[lk (zr2 ..)];unfold Xg;have f:(256<n)=False:=om;refine dS f ui ?_;unfold Z0;have g:Fm No H (aH H (aB 0 [.int .i64 (.ofNat n),nv])):=om;refine dI d.len ?_;rw[dD];refine Mh om c a (λH e=>?_) _ 0 _ om lf om gz om g;exact Ok.ret ⟨rfl,e⟩
def aJ(l:List Nat):List AV:=l.map (λn=>.int .i64 (.ofNat n))
theorem hJ(l:List Int)(i:Nat)(n:Int)(h:i<l.length):aY (cx l) i [.int .i64 n]=cx (l.set i n):=by
 unfold aY cx;apply List.ext_getElem
 ·grind
 ·grind
theorem UP(l:List Nat):cx (l.map Int.ofNat)=aJ l:=by unfold cx aJ;rw[lL];rfl
theorem Gl.at(h:Gl 1 H nv n l){x:AV}(a:l[i]? =some x):∃b o,aG 1 nv (.int .i64 (.ofNat i))=.val (.ptr b o)/\b<H.nx/\In nv b/\cB (H.get b) o=.val x:=by
 have g:=h.len;have j:i<l.length:=om;rcases h.is with⟨rfl,rfl⟩|⟨b,o,e,q,L,rfl,c,k,d,m,f⟩
 ·omega
 ·refine⟨b,o+i,?_,f,⟨_,_,_,_,rfl⟩,?_⟩
  ·rw[sD _ _ _ _ _ _ _ _ om,vx]
  ·have:L[o+i]? =some x:=by rw[<-iq,d];exact a
   rw[c,gk,this]
theorem Gl.clip(h:Gl z H nv n l):∃w,kM z nv none (some (.int .i64 (.ofNat n))) (some (.int .i64 (.ofNat n)))=.val w/\Gl z H w n l/\dX w=.val (.int .i64 (.ofNat n))/\(∀b,In w b->In nv b):=by
 rcases h.is with⟨rfl,rfl⟩|⟨b,o,e,q,L,rfl,i,j,k,p,r⟩
 ·exact⟨.aA,rfl,h,rfl,om⟩
 ·have g:kM z (.sl b o n n e) none (some (.int .i64 (.ofNat n))) (some (.int .i64 (.ofNat n)))=jJ b o z ⟨0,n,n⟩ true:=by
   show(match aq n n none (some (.int .i64 (.ofNat n))) (some (.int .i64 (.ofNat n)))with|some bd=>jJ b o z bd true|none=>R0.bad)=_;have:aq n n none (some (.int .i64 (.ofNat n))) (some (.int .i64 (.ofNat n)))=some ⟨0,n,n⟩:=by show(match(bif Nat.ble n n then some n else none)with|none=>none|some m=>match(bif Nat.ble n m then some n else none)with|none=>none|some h=>match(some 0:Option Nat)with|none=>none|some l=>some (Bd.mk l h m))=_;rw[ble_eq,j7 (AF n)];simp only[AN,ble_eq,j7 (AF n)]
   grind
  rw[g];unfold jJ;simp only[beq_eq];by_cases f:n=0
  ·subst f;exact⟨.sl b o 0 0 true,rfl,⟨h.len,om⟩,rfl,λc a=>by obtain⟨_,_,_,_,d⟩:=a;cases d;exact⟨_,_,_,_,rfl⟩⟩
  ·rw[sT f];refine⟨.sl b o n n true,?_,⟨h.len,om⟩,rfl,λc a=>by obtain⟨_,_,_,_,d⟩:=a;cases d;exact⟨_,_,_,_,rfl⟩⟩;simp
theorem Iq{k:Nat}(a:1<=k)(h:Gl 1 H nv n l):∃w,C k (.f 196) [nv] H=.ok w H/\Gl 1 H w n l/\dX w=.val (.int .i64 (.ofNat n))/\(∀b,In w b->In nv b):=by obtain⟨j,rfl⟩:=aO a;obtain⟨w,e,c,d,f⟩:=h.clip;refine⟨w,?_,c,d,f⟩;rw[lk (Rm ..)];unfold NB jm;simp only[go_sem,h.bF,e]
theorem zuv(l:List Nat):(aJ l).length=l.length:=by simp[aJ]
theorem GH(l:List Nat)(i:Nat)(h:i<l.length):(aJ l)[i]? =some (.int .i64 (.ofNat l[i])):=by simp[aJ,h]
theorem Bs(l:List Nat)(i n:Nat)(h:i<l.length):aY (aJ l) i [.int .i64 (.ofNat n)]=aJ (l.set i n):=by rw[<-UP,hJ _ _ _ (by simpa using h),<-UP,qj]
structure MOk(n:Nat)(ms:List Nat):Prop where
 hn:n<=256
 len:ms.length=n*n
 le:∀x∈ms,x<=3
structure xN(H:Hp)(v:AV)(b n:Nat)(ms:List Nat):Prop where
 hv:v=.agg [.int .i64 (.ofNat n),.sl b 0 (n*n) (n*n) true]
 lt:b<H.nx
 get:H.get b=aB 0 (aJ ms)
 ok:MOk n ms
variable{W:List Nat}
theorem xN.fm(h:xN H nv b n W)(a:Fm No H H'):xN H' nv b n W:=⟨h.hv,AE h.lt a.nx,(a.keep h.lt).trans h.get,h.ok⟩
attribute [grind .] xN.fm
theorem vz(h:n<=256):n*n<=65536:=uj h h
theorem zyx(a:i<n)(b:N<n):i*n+N<n*n:=by
 have:(i+1)*n<=n*n:=vL n a
 grind
theorem xca{k:Nat}(b:1<=k)(a:n<=256):Ok (C k (.f 75) [.int .i64 (.ofNat n)] H) λr H'=>xN H' r (H.nx+1) n (List.replicate (n*n) 0)/\Fm No H H':=by
 obtain⟨j,rfl⟩:=aO b;rw[lk (zsr ..)];unfold XA;have d:=vz a;have c:aU [.int .i64 (.ofNat 0)] (n*n)=aJ (List.replicate (n*n) 0):=by rw[iT];simp[aJ]
 refine dS kP c ?_;refine Ok.ret ⟨⟨rfl,?_,?_,⟨a,xy,om⟩⟩,fm⟩
 ·grind
 ·simp(disch:=go_size)only[go_sem,seval]
def vj(n:Nat)(ms:List Nat)(f t:Nat)(s:Bool):List Nat:=
 if ms.getD (f*n+t) 0 / (if s then 2 else 1)%2=0 then ms.set (f*n+t) (ms.getD (f*n+t) 0+(if s then 2 else 1))else ms
theorem KT{k:Nat}(l:1<=k){t:Nat}(m:xN H nv b n W)(o:N<n)(p:t<n)(s:Bool):Ok (C k (.f 77) [nv,.int .i64 (.ofNat N),.int .i64 (.ofNat t),.bool s] H) λ_ H'=>xN H' nv b n (vj n W N t s)/\Fm (· =b) H H':=by
 obtain⟨j,rfl⟩:=aO l;obtain⟨rfl,F,g,a⟩:=m;rw[lk (zsp ..)];unfold Xy;have E:=vz a.hn;have r:=zyx o p;have u:=a.len;have c:=GH W (N*n+t) om;have w:=a.le W[N*n+t] om;have y:N*n+t+1<=n*n:=r;have z:W.getD (N*n+t) 0=W[N*n+t]:=by rw[vt,j0 om];rfl
 have fin:∀d:Nat,0<d->d<3->d=(if s then 2 else 1)->(W[N*n+t] / d%2=0->W[N*n+t]+d<=3)->Ok (HF (C j) (.int .i64 (.ofNat N)) (.int .i64 (.ofNat t)) (.ptr H.nx 0) (.int .i64 (.ofNat d)) (aH H (aB 0 [.int .i64 (.ofNat n),.sl b 0 (n*n) (n*n) true]))) λ_ H'=>xN H' (.agg [.int .i64 (.ofNat n),.sl b 0 (n*n) (n*n) true]) b n (vj n W N t s)/\Fm (· =b) H H':=by
  intro d A G B D;unfold HF;by_cases i:W[N*n+t] / d%2=0
  ·refine dG g c i zuv u y Bs ?_;have e:vj n W N t s=W.set (N*n+t) (W[N*n+t]+d):=by
    unfold vj;simp_all
   rw[e];refine Ok.ret ⟨⟨rfl,gx,om,⟨a.hn,om,λx q=>?_⟩⟩,fm⟩;rcases xq q with h|h
   ·exact a.le x h
   ·omega
  ·refine gW g c i ?_;have e:vj n W N t s=W:=by
    unfold vj;simp_all
   rw[e];exact Ok.ret ⟨⟨rfl,gx,om,a⟩,by(repeat refine Fm.push ?_ _);exact Fm.refl _ _⟩
 cases s
 ·simp only[go_sem]
  grind
 ·simp only[go_sem]
  grind
structure IX(X:List aP)(sv:AV)(cb gb b rb:Nat)(av nv:AV)(N:Nat)(g:bA)(l:List (Nd×AV))(H:Hp):Prop where
 sH:dB H sv X
 x1:H.get cb=aB 0 [sv]
 x3:Rs 2 pC H av (aF X)
 x4:H.get gb=aB 0 [iN N,.sl b 0 (N*N) (N*N) true]
 x6:H.get rb=aB 0 (iL g)
 ty:Rs 2 tC H g.tv g.r.types
 tf:wW g.tv=true
 x8:Rs 5 lD H nv l
variable{M:SS}
theorem uD(h:(J,M)∈aF X):dA X J M<(aF X).length:=by unfold dA;simp_all
theorem Mv{k:Nat}(c:2<=k)(d:dB H sv X)(e:sO X)(h:(J,M)∈aF X):Ok (C k (.f 29) [.agg [sv],J.v,M.v] H) λr H'=>r=iN ((dA X J M))/\Fm No H H':=
 (zom c d e J M).mono om
def dT(l:List jW):List (SS×SS):=(l.filter λt=> !decide (t.rl=sE)).map λt=>(t.sp,t.rl)
theorem ztj{l:List jW}(h:i<l.length):dT (l.take (i+1))=dT (l.take i)++if l[i].rl=sE then[]else[(l[i].sp,l[i].rl)]:=by
 unfold dT;rw[nh h,lg,AO,dm]
 grind
theorem Mi(s:2<=j)(t:sO h){Hb:Hp}(u:∀H,Fm (· =b) Hb H->IX h sv cb gb b sb jZ nv N I F H)(v:N=(aF h).length){x:Nat}(w:n<N)(y:x<F.length)(e:cb<Hb.nx/\gb<Hb.nx/\sb<Hb.nx)(f:I.r.types.length<=1000)(c:∀p∈dT I.r.types,p∈aF h)(z:∀H ms,xN H (.agg [iN N,.sl b 0 (N*N) (N*N) true]) b N ms->Fm (· =b) Hb H->Ok (qe H) D):∀(k i:Nat) (H:Hp) (ms:List Nat),i<=I.r.types.length->I.r.types.length-i<k->xN H (.agg [iN N,.sl b 0 (N*N) (N*N) true]) b N ms->Fm (· =b) Hb H -> Ok (HP (C j) qe (.ptr cb 0) (.ptr gb 0) (iN n) (.ptr sb 0) nv (iN x) k (iN i) H) D
 |0,i,_,_,_,X,_,_=>om
 |k+1,i,H,ms,hi,hk,hM,hf=>by
  show Ok (Kl (C j) _ _ _ _ _ _ _ (HP (C j) _ _ _ _ _ _ _ k) _ H) D;unfold Kl;have d:=u H hf;have m:=d.x6;obtain⟨d2,d3,d4,d5,Z⟩:=GB I;rw[Z]at m;have G:=d.ty.len;have U:=hf.nx;have hm:=vz hM.ok.hn;by_cases a:i<I.r.types.length
  ·refine gW m G a ?_;unfold ziq;obtain⟨L,M,O,e2,_,_,P⟩:=d.ty.at' i a;have V:cB (H.get L) M=.val (.str I.r.types[i].sp.n I.r.types[i].sp.a):=P 0 (by rw[fz];omega);have g:cB (H.get L) (M+1)=.val (.str I.r.types[i].rl.n I.r.types[i].rl.a):=P 1 (by rw[fz];omega);obtain⟨R,S,g1,g2,_,_,g4⟩:=d.x8.at' x y;have J:cB (H.get R) (S+4)=.val (.bool F[x].1.neg):=g4 4 (by rw[sG];omega);have W:=d.x1;have K:=d.x4;by_cases l:I.r.types[i].rl.n=0/\I.r.types[i].rl.a=0
   ·have A:=ae l;refine jF m O g A ?_;unfold HQ;refine aS ?_;exact Mi s t u v w y e f c z k (i+1) H ms om om hM hf
   ·have B:¬I.r.types[i].rl=sE:=λX=>l ((pE _ _).1 X);have o:(I.r.types[i].sp,I.r.types[i].rl)∈aF h:=c _ (by
     unfold dT;rw[lEA];exact⟨I.r.types[i],by rw[lEU];exact⟨sx a,by simpa using B⟩,rfl⟩)
    simp(disch:=go_size)only[go_sem,seval,m,W,K,O,V,g,l,g1,J];refine Ok.iC (Mv (k:=j) s d.sH t o) ?_;rintro _ H2 ⟨rfl,r⟩;have Y:=(r.keep om).trans K;have Q:cB (H2.get R) (S+4)=.val (.bool F[x].1.neg):=by rw[r.keep g2];exact J
    refine dS Y Q ?_;refine Ok.iC (KT (k:=j) om (hM.fm r) w (by rw[v];exact uD o) F[x].1.neg) ?_;rintro _ H3 ⟨E,f3⟩;refine aS ?_;unfold HQ;refine aS ?_;exact Mi s t u v w y e f c z k (i+1) H3 _ om om E ((hf.then r λ_ _ X=>absurd X id).then f3 λ_ _ X=>X)
  ·refine gW m G a ?_;exact z H ms hM hf
variable{V:List SS}
theorem U3(v:2<=j)(w:sO h){tv:AV}{Hb:Hp}(y:∀H,Fm (· =b) Hb H->IX h sv cb gb b sb jZ nv N I F H)(z:N=(aF h).length){x:Nat}(A:n<N)(B:x<F.length)(m:cb<Hb.nx/\gb<Hb.nx/\sb<Hb.nx)(Q:∀H,Fm (· =b) Hb H->Rs 1 sC H tv V)(o:V.length<=1000)(c:∀s∈V,(s,F[x].1.to)∈aF h)(E:∀H ms,xN H (.agg [iN N,.sl b 0 (N*N) (N*N) true]) b N ms->Fm (· =b) Hb H->Ok (qe H) D):∀(k i:Nat) (H:Hp) (ms:List Nat),i<=V.length->V.length-i<k->xN H (.agg [iN N,.sl b 0 (N*N) (N*N) true]) b N ms->Fm (· =b) Hb H -> Ok (Gf (C j) qe (.ptr cb 0) (.ptr gb 0) (iN n) nv (iN x) tv k (iN i) H) D
 |0,i,_,_,_,X,_,_=>om
 |k+1,i,H,ms,hi,hk,hM,hf=>by
  show Ok (MN (C j) _ _ _ _ _ _ _ (Gf (C j) _ _ _ _ _ _ _ k) _ H) D;unfold MN;have e:=y H hf;have l:=Q H hf;have G:=l.len;have M:=hf.nx;have W:=vz hM.ok.hn;by_cases a:i<V.length
  ·refine dS G a ?_;unfold Rb;obtain⟨Y,Z,S,e2,K⟩:=l.at1 (g:=SS.v) (λ_=>rfl) a;unfold SS.v at K;obtain⟨r,t,g1,g2,_,_,g4⟩:=e.x8.at' x B;have O:cB (H.get r) (t+2)=.val (.str F[x].1.to.n F[x].1.to.a):=g4 2 (by rw[sG];omega);have g:cB (H.get r) (t+4)=.val (.bool F[x].1.neg):=g4 4 (by rw[sG];omega);have P:=e.x1;have J:=e.x4;have d:=c V[i] (sx a);refine dG P J S K g1 O g ?_;refine Ok.iC (Mv (k:=j) v e.sH w d) ?_;rintro _ T ⟨rfl,f⟩;have R:=(f.keep om).trans J;have p:cB (T.get r) (t+4)=.val (.bool F[x].1.neg):=by rw[f.keep g2];exact g
   refine dS R p ?_;refine Ok.iC (KT (k:=j) om (hM.fm f) A (by rw[z];exact uD d) F[x].1.neg) ?_;rintro _ U ⟨u,ts⟩;refine aS ?_;unfold Re;refine aS ?_;exact U3 v w y z A B m Q o c E k (i+1) U _ om om u ((hf.then f λ_ _ X=>absurd X id).then ts λ_ _ X=>X)
  ·refine dS G a ?_;exact E H ms hM hf
def eo(X:List aP)(a:SS)(g:bA)(x:Nd):List (SS×SS):=
 if x.k=1 then dT g.r.types else if x.k=2 then[(a,x.rl)]else if x.k=3 then(iK X a x.rl x.to).map λs=>(s,x.to)else[]
theorem wi(d:sO X)(a b to:SS):(iK X a b to).length<=100:=by
 unfold iK;cases h:kQ X a b with
 |none=>simp
 |some g=>
  refine AL (HY X to _) ?_;unfold kQ at h;cases c:X.find? λg=>decide (g.name=a)with
  |none=>rw[c]at h;cases h
  |some p=>rw[c]at h;exact d.t p (gy c) g (gy h)
theorem U5(hj:4<=j){X:List aP}(v:sO X){sv I nv:AV}{cb gb b rb N:Nat}{g:bA}{l:List (Nd×AV)}{Hb:Hp}(E:∀H,Fm (· =b) Hb H->IX X sv cb gb b rb I nv N g l H)(F:N=(aF X).length)(V:n<(aF X).length)(J:cb<Hb.nx/\gb<Hb.nx/\rb<Hb.nx)(hb:b<Hb.nx)(K:g.r.types.length<=100)(L:l.length<=100000)(w:∀y∈l,∀p∈eo X (aF X)[n].1 g y.1,p∈aF X)(W:∀H ms,xN H (.agg [iN N,.sl b 0 (N*N) (N*N) true]) b N ms->Fm (· =b) Hb H->Ok (qe H) D):∀(k i:Nat) (H:Hp) (ms:List Nat),i<=l.length->l.length-i<k->xN H (.agg [iN N,.sl b 0 (N*N) (N*N) true]) b N ms->Fm (· =b) Hb H -> Ok (yH (C j) qe (.ptr cb 0) I (.ptr gb 0) (iN n) (.ptr rb 0) nv k (iN i) H) D
 |0,i,_,_,_,h,_,_=>om
 |k+1,i,H,ms,hi,hk,m,d=>by
  show Ok (Km (C j) _ _ _ _ _ _ _ (yH (C j) _ _ _ _ _ _ _ k) _ H) D;unfold Km;have u:=E H d;have Y:=u.x8.len;have hnx:=d.nx;have hm:=vz m.ok.hn;by_cases a:i<l.length
  ·simp(disch:=go_size)only[go_sem,rB,rI,rK,rL,rN,rS,r6,Y,a];unfold Ra;obtain⟨A,B,g1,g2,_,_,g4⟩:=u.x8.at' i a;have G:cB (H.get A) B=.val (uN (l[i].1.k)):=g4 0 (by rw[sG];omega);have Z:cB (H.get A) (B+1)=.val (.str l[i].1.rl.n l[i].1.rl.a):=g4 1 (by rw[sG];omega);have r2:cB (H.get A) (B+2)=.val (.str l[i].1.to.n l[i].1.to.a):=g4 2 (by rw[sG];omega);have r4:cB (H.get A) (B+4)=.val (.bool l[i].1.neg):=g4 4 (by rw[sG];omega);obtain⟨b3,o3,k1,k2,_,_,k4⟩:=u.x3.at' n V;have s0:cB (H.get b3) o3=.val (.str (aF X)[n].1.n (aF X)[n].1.a):=k4 0 (by rw[ur];omega);have x1:=u.x1;have x4:=u.x4;have M:=sx a;have f:=w _ M;have next:∀H ms,xN H (.agg [iN N,.sl b 0 (N*N) (N*N) true]) b N ms->Fm (· =b) Hb H ->
     Ok (t0 (C j) (yH (C j) qe (.ptr cb 0) I (.ptr gb 0) (iN n) (.ptr rb 0) nv k) (iN i) H) D:=λH ms m d=>by
    unfold t0;simp(disch:=go_size)only[go_sem,rB,rI,rK,rL,rN,rS,r6];exact U5 hj v E F V J hb K L w W k (i+1) H ms (by omega) (by omega) m d
   unfold eo at f;by_cases q1:l[i].1.k=1
   ·have O:=ae q1;rw[sB q1]at f;simp(disch:=go_size)only[go_sem,rB,rI,rK,rL,rN,rS,r6,g1,G,O];rw[dD];refine Mi (by omega) v (Hb:=H) (λH' e=>E H' (d.then e λ_ _ h=>h)) F (by omega) a ⟨by omega,by omega,by omega⟩ (by omega) f (λH' r t e=>next H' r t (d.then e λ_ _ h=>h)) bT 0 H ms (vy _) (by rw[rO];omega) m (Fm.refl _ _)
   ·rw[sy q1]at f;by_cases q2:l[i].1.k=2
    ·have P:=ae q2;rw[sB q2]at f;have x:=f _ vA;simp(disch:=go_size)only[go_sem,rB,rI,rK,rL,rN,rS,r6,g1,G,q1,P,x1,x4,k1,s0,Z,r4];refine Ok.iC (Mv (k:=j) (by omega) u.sH v x) ?_;rintro _ Q ⟨rfl,o⟩;have rZ:=(o.keep om).trans x4;have R:cB (Q.get A) (B+4)=.val (.bool l[i].1.neg):=by rw[o.keep g2];exact r4
     simp(disch:=go_size)only[go_sem,rB,rI,rK,rL,rN,rS,r6,rZ,R];refine Ok.iC (KT (k:=j) om (m.fm o) om (by rw[F];exact uD x) l[i].1.neg) ?_;rintro _ H3 ⟨T,f3⟩;simp(disch:=go_size)only[go_sem,rB,rI,rK,rL,rN,rS,r6];exact next H3 _ T ((d.then o λ_ _ h=>absurd h id).then f3 λ_ _ h=>h)
    ·rw[sy q2]at f;by_cases q3:l[i].1.k=3
     ·have S:=ae q3;rw[sB q3]at f;simp(disch:=go_size)only[go_sem,rB,rI,rK,rL,rN,rS,r6,g1,G,q1,q2,S,x1,k1,s0,Z,r2];refine Ok.iC (Ug (k:=j) (by omega) u.sH v (aF X)[n].1 l[i].1.rl l[i].1.to) ?_;intro tv Q U;simp(disch:=go_size)only[go_sem,rB,rI,rK,rL,rN,rS,r6];rw[dD];have o:=U.fm;have z:Fm (· =b) Hb Q:=d.then o λ_ _ h=>absurd h id;have n2:=o.nx;have htl:=wi v (aF X)[n].1 l[i].1.rl l[i].1.to;refine U3 om v (Hb:=Q) (λH' e=>E H' (z.then e λ_ _ h=>h)) F om a ⟨om,om,om⟩ (λH' e=>(U.rs pi).dR e λc hc h=>by have:=U.nw c hc;omega) om (λs hs=>f _ (ik hs)) (λH' r t e=>next H' r t (z.then e λ_ _ h=>h)) bT 0 Q ms (vy _) lf (m.fm o) (Fm.refl _ _)
     ·simp(disch:=go_size)only[go_sem,rB,rI,rK,rL,rN,rS,r6,g1,G,q1,q2,q3];exact next H ms m d
  ·simp(disch:=go_size)only[go_sem,rB,rI,rK,rL,rN,rS,r6,Y,a];exact W H ms m d
theorem cL(h:kQ X J M=some I):∃p∈X,I∈p.gs/\p.name=J/\I.r.name=M:=by
 unfold kQ at h;cases c:X.find? λI=>decide (I.name=J)with
 |none=>rw[c]at h;cases h
 |some p=>rw[c]at h;exact⟨p,gy c,gy h,by simpa using yx c,by simpa using yx h⟩
structure IY(X:List aP):Prop where
 sm:sO X
 n:(aF X).length<=256
 at':∀i (h:i<(aF X).length),∃g,kQ X (aF X)[i].1 (aF X)[i].2=some g/\g.r.rule.depth<=12/\g.r.rule.size<=10000/\∀x∈g.r.rule.nodes false,∀p∈eo X (aF X)[i].1 g x,p∈aF X
theorem U4(hj:14<=j)(d:IY h){sv Z:AV}{cb gb b N:Nat}{Hb:Hp}(K:∀H,Fm (· =b) Hb H->dB H sv h/\H.get cb=aB 0 [sv]/\Rs 2 pC H Z (aF h)/\H.get gb=aB 0 [iN N,.sl b 0 (N*N) (N*N) true])(hN:N=(aF h).length)(L:cb<Hb.nx/\gb<Hb.nx)(hb:b<Hb.nx)(hq:∀H ms,xN H (.agg [iN N,.sl b 0 (N*N) (N*N) true]) b N ms->Fm (· =b) Hb H->Ok (qe H) D):∀(k i:Nat) (H:Hp) (ms:List Nat),i<=N->N-i<k->xN H (.agg [iN N,.sl b 0 (N*N) (N*N) true]) b N ms->Fm (· =b) Hb H -> Ok (BS (C j) qe (.ptr cb 0) Z (.ptr gb 0) k (iN i) H) D
 |0,i,_,_,_,X,_,_=>om
 |k+1,i,H,ms,hi,hk,hM,hf=>by
  show Ok (Ko (C j) _ _ _ _ (BS (C j) _ _ _ _ k) _ H) D;unfold Ko;obtain⟨hX,x1,x3,x4⟩:=K H hf;have hl:=x3.len;have hnx:=hf.nx;have hm:=vz hM.ok.hn;have aIq:=d.n;have hsn:=d.sm.n;by_cases a:i<(aF h).length
  ·refine dS hl a ?_;unfold Q9;obtain⟨b3,o3,k1,k2,_,_,k4⟩:=x3.at' i a;have s0:cB (H.get b3) o3=.val (.str (aF h)[i].1.n (aF h)[i].1.a):=k4 0 (by rw[ur];omega);have s1:cB (H.get b3) (o3+1)=.val (.str (aF h)[i].2.n (aF h)[i].2.a):=k4 1 (by rw[ur];omega);refine jF x1 k1 s0 s1 ?_;have fU:Fm No H ⟨H.t,H.nx+18⟩:=fm;refine Ok.iC (Cr (k:=j) om (hX.fm fU) om (λg J=>by have:=d.sm.r g J;omega) (aF h)[i].1 (aF h)[i].2) ?_;rintro r f ⟨f2,m⟩;obtain⟨g,J,hgd,hgs,V⟩:=d.at' i a;unfold tn at m;rw[J]at m;subst m;have iF:=fU.trans f2;have n2:H.nx+18<=f.nx:=f2.nx;obtain⟨p,Q,n,_,_⟩:=cL J;have e:=(((hX.sp p Q).rel g n).ru);obtain⟨c0,E,F,G,I⟩:=e.four;have t:iL g=[.str g.r.name.n g.r.name.a,g.tv,c0,E,F,G]:=by unfold iL;rw[I];rfl
   rw[t];refine aS ?_;have f3:Fm No H (f.put (H.nx+15) (aB 0 [.str g.r.name.n g.r.name.a,g.tv,c0,E,F,G])):=iF.aN (H.nx+15) _ om;have u:Fm No H ((f.put (H.nx+15) (aB 0 [zS,.aA,uN 0,zS,zS,.aA])).put (H.nx+15) (aB 0 [.str g.r.name.n g.r.name.a,g.tv,c0,E,F,G])):=(iF.aN (H.nx+15) _ om).aN (H.nx+15) _ om;have S:∀x,¬In AV.aA x:=λx X=>by obtain⟨_,_,_,_,X⟩:=X;cases X
   refine Ok.ve (M4 g.r.rule j om .aA false _ (l:=[]) (P:=λ_=>True) (cs:=[c0,E,F,G]) (Gl.nil 5 _) ?_ (λb _=>S b) g2) ?_
   ·rw[I]at e;exact e.fm u
   rintro w o ⟨l,W,Y⟩;have T:Fm No ((f.put (H.nx+15) (aB 0 [zS,.aA,uN 0,zS,zS,.aA])).put (H.nx+15) (aB 0 [.str g.r.name.n g.r.name.a,g.tv,c0,E,F,G])) o:=W.fm.mono λc _ X=>absurd X (S c);have n4:f.nx<=o.nx:=T.nx;have v:=u.trans T;have z:Fm (· =b) Hb o:=hf.then v λ_ _ X=>absurd X id;have A:l.map Prod.fst=g.r.rule.nodes false:=by simpa using Y
   have hln:l.length=g.r.rule.size:=by have:=congrArg List.length A;simpa [ep] using this
   have x6:o.get (H.nx+15)=aB 0 (iL g):=by rw[t];exact(T.keep (show H.nx+15<f.nx by omega)).trans (gX _ _ _)
   have U:∀c,In w c->f.nx<=c:=λc M=>by
    rcases W.nw c M with X|X
    ·exact absurd X (S c)
    ·exact X
   rw[dD];have cAR:=hM.lt;refine U5 om d.sm (sv:=sv) (Hb:=o) (X:=h) (g:=g) (l:=l) (rb:=H.nx+15) (N:=N) (λH' s=>?_) hN a ⟨om,om,om⟩ om ?_ om ?_ (λH' O R s=>?_) bT 0 o ms (vy _) lf (hM.fm v) (Fm.refl _ _)
   ·obtain⟨y1,y2,y3,y4⟩:=K H' (z.then s λ_ _ X=>X);have B:=(y1.sp p Q).rel g n;exact⟨y1,y2,y3,y4,(s.get _ om om).trans x6,B.ty,B.tf,(W.gl.rs sG).dR s λc M X=>by have:=U c M;omega⟩
   ·have:=d.sm.t p Q g n;omega
   ·intro y hy p Q;refine V y.1 ?_ p Q;rw[<-A];exact ik hy
   ·unfold yM;refine aS ?_;exact U4 hj d K hN L hb hq k (i+1) H' O om om R (z.then s λ_ _ X=>X)
  ·refine dS hl a ?_;exact hq H ms hM hf
theorem zt4{k:Nat}(t:15<=k)(F:dB H sv X)(i:IY X):Ok (C k (.f 27) [.agg [sv]] H) λr H'=>∃b ms,xN H' r b (aF X).length ms/\Fm No H H':=by
 obtain⟨j,rfl⟩:=aO t;rw[lk (zs8 ..)];unfold XP;refine aS ?_;have f:Fm No H (aH (aH H (aB 0 [sv])) (aB 0 [iN 0,.aA])):=fm;have m:=i.n;refine Ok.ve (A6 (k:=j) om om i.sm) ?_;intro I H1 g;have q:=g.fm;have G:=q.nx;have v:=g.bF;refine dI v ?_;refine Ok.ve (xca (k:=j) om m) ?_;rintro r d ⟨z,A⟩;obtain⟨B,D,s,p⟩:=z;subst B;refine aS ?_;generalize E:(aH d (aB 0 [iN 0,.aA])).put d.nx (aB 0 [iN ((aF X).length),.sl (H1.nx+1) 0 ((aF X).length*(aF X).length) ((aF X).length*(aF X).length) true])=H4;have w:Fm No d H4:=om;have x:H4.get (H.nx+1)=aB 0 [iN 0,.aA]:=((q.trans om).keep gz).trans g5;have y:H4.get d.nx=aB 0 [iN ((aF X).length),.sl (H1.nx+1) 0 ((aF X).length*(aF X).length) ((aF X).length*(aF X).length) true]:=om;rw[dD];refine U4 om i (sv:=sv) (Hb:=H4) (b:=H1.nx+1) (N:=(aF X).length) (λH' e=>⟨om,om,?_,om⟩) rfl ⟨om,om⟩ om (λH' l a e=>?_) bT 0 H4 _ om lf ⟨rfl,om,om,p⟩ om
 ·refine(((g.rs ur).fm A).fm w).dR e λc u h=>?_;have:=g.gl.lt u;omega
 ·unfold HT;have n:=(e.get (H.nx+1) om om).trans x;have o:=(e.get d.nx om om).trans y;refine dS n o ?_;refine Ok.ret ⟨H1.nx+1,l,⟨rfl,om,?_,a.ok⟩,om⟩;rw[jR _ _ _ _ om];exact a.get
def nmL:List SS:=[sU,dO 0,dO 1,dO 2,gN 0,gN 1,gN 2,gN 3]
def Nm(s:SS):Prop:=s∈nmL
theorem Nm.ne(h:Nm J):¬(J.n=0/\J.a=0):=by have:∀J∈nmL,¬(J.n=0/\J.a=0):=g4;exact this J h
structure bEw(c:Ev.Call):Prop where
 r:∀s,Nm s->∀H,c (.f 309) [s.v] H=.ok (.bool true) H
 p:∀s,Nm s->∀H,c (.f 288) [s.v] H=.ok (.bool true) H
abbrev iO(C:Nat->Ev.Call):Prop:=∀k,bEw (C (k+1))
def Ru.Fit:Ru->Prop
 | .leaf k rl to=>(k=1/\rl=sE/\to=sE)\/(k=2/\Nm rl/\to=sE)\/(k=3/\Nm rl/\Nm to)
 | .node k a b=>(k=4\/k=5\/k=6)/\a.Fit/\b.Fit
theorem ly(a b c d:Bool):iQ true (dL (λxs e=>zI p1 ⟨zT⟩ 1 xs e 2 0) (.agg [.bool a,.bool b]) (.agg [.bool c,.bool d]))=.val (.bool (!(a==c&&b==d))):=by cases a<;>cases b<;>cases c<;>cases d<;>rfl
structure pR(H:Hp)(b o:Nat)(cs:List AV):Prop where
 lt:b<H.nx
 at':∀j (h:j<cs.length),cB (H.get b) (o+j)=.val cs[j]
theorem pR.keep(h:pR H b o cs)(a:H.nx<=H'.nx)(e:H'.get b=H.get b):pR H' b o cs:=⟨AE h.lt a,λj c=>by rw[e];exact h.at' j c⟩
attribute [grind .] pR.keep
theorem pR.fm(h:pR H b o cs)(f:Fm No H H'):pR H' b o cs:=h.keep f.nx (f.keep h.lt)
theorem zwd(i:iO C){k:Nat}(B:2<=k)(a:pR H b o cs)(m:j5 S H U cs)(n:U.Fit):Ok (C k (.f 284) [.ptr b o] H) λv H'=>v=iN 0/\Fm No H H':=by
 obtain⟨j,rfl⟩:∃j,k=j+1+1:=⟨k-2,om⟩;rw[lk (QZ ..)];unfold Pz;have s:=a.lt;cases U with
 |leaf kd rl to=>
  obtain rfl:cs=j8 kd rl to:=m;have c:cB (H.get b) o=.val (uN kd):=a.at' 0 (by simp[j8]);have d:cB (H.get b) (o+1)=.val (.str rl.n rl.a):=a.at' 1 (by simp[j8]);have e:cB (H.get b) (o+2)=.val (.str to.n to.a):=a.at' 2 (by simp[j8]);have f:cB (H.get b) (o+3)=.val .aA:=a.at' 3 (by simp[j8]);rcases n with⟨rfl,rfl,rfl⟩|⟨rfl,h,rfl⟩|⟨rfl,h,q⟩
  ·unfold sE at d e;refine lW c d e f and_self ?_;unfold ez;refine gW c ly and_self ?_;unfold h9 kJ;exact Ok.ret ⟨rfl,fm⟩
  ·have l:=h.ne;have g:=(i j).r rl h;unfold SS.v at g;refine cF c d e f l and_self ?_;unfold ez;refine jF c d ly g ?_;unfold h9 kJ;exact Ok.ret ⟨rfl,fm⟩
  ·have l:=h.ne;have t:=q.ne;have g:=(i j).r rl h;have p:=(i j).r to q;unfold SS.v at g p;refine cF c d e f l t ?_;unfold ez;refine cF c d e ly g p ?_;unfold h9 kJ;exact Ok.ret ⟨rfl,fm⟩
 |node kd x y=>
  obtain⟨bl,ca,cb,rfl,u,w,D,z,A⟩:=m;have c:cB (H.get b) o=.val (uN kd):=a.at' 0 g3;have d:cB (H.get b) (o+1)=.val zS:=a.at' 1 g3;have e:cB (H.get b) (o+2)=.val zS:=a.at' 2 g3;have f:cB (H.get b) (o+3)=.val (.sl bl 0 2 2 true):=a.at' 3 g3;rcases n.1 with rfl|rfl|rfl<;>(
   refine lW c d e f and_self ?_;unfold B7;unfold ez;refine gW c ly and_self ?_;unfold h9 kJ;exact Ok.ret ⟨rfl,fm⟩)
theorem UC(H:Hp)(b o:Nat)(f:FuncId)(x y:List AV):kL H (.ptr b o) (.fn f x y)=storeAt H b o [.fn f x y] .undef:=id rfl
theorem QO(O:Ev.Call)(f:FuncId)(c args:List AV)(H:Hp):oV O (.fn f [] c) args H=O (.f f) (args++c) H:=id rfl
theorem PU(a b:Nat):rT qV (iN a) [iN b]=.val (iN ((max a b))):=by
 show R0.val (.int .i64 (bif rH (.ofNat a) (.ofNat b)then .ofNat b else .ofNat a))=_;rw[eH]
 grind
attribute [go_sem] UC QO PU
structure f9(H:Hp)(nb db fb vb:Nat)(l:List (Nd×AV))(nv:AV)(d:Nat):Prop where
 n:H.get nb=aB 0 [nv]
 d:H.get db=aB 0 [iN d]
 f:H.get fb=aB 0 [iN 0]
 v:H.get vb=aB 0 [.fn 283 [] [.ptr nb 0,.ptr db 0,.ptr fb 0,.ptr vb 0]]
 o:nb<db/\db<fb/\fb<vb/\vb<H.nx
 gl:Gl 5 H nv l.length (l.flatMap lD)
 nin:∀c,In nv c->vb<c
def ff(nb a fb:Nat)(b:AV)(c:Nat):Prop:=c=nb\/c=a\/c=fb\/In b c
theorem Uy(y:1<=j){d:Nat}(a:f9 H N cb gb sb F nv d)(n:i<F.length)(z:Gl 1 H sv m xs):Ok (oM (C j) (.ptr N 0) (iN i) sv H) λr H'=>r=.bool true/\∃s,f9 H' N cb gb sb s nv d/\s.map Prod.fst=F.map Prod.fst/\Fm (In nv) H H':=by
 unfold oM;obtain⟨w,e,A,_,_⟩:=Iq (k:=j) y z;have e0:=a.n;have t:=wK (Gl.flat a.gl) 63;obtain⟨b,o,H',u,v,g,f,nx⟩:=a.gl.set1 n (j:=3) om w;rw[O9 w F i n]at g;obtain⟨D,E,l,G⟩:=a.o;have p:∀c,c<=sb->¬In nv c:=λc B h=>by have:=a.nin c h;omega
 have fin:f9 H' N cb gb sb (F.set i (F[i].1,w)) nv d:=⟨(f.get _ om (p _ om)).trans a.n,(f.get _ om (p _ om)).trans a.d,(f.get _ om (p _ om)).trans a.f,(f.get _ om (p _ om)).trans a.v,
  om,om,a.nin⟩
 simp only[go_sem,e0];refine Ok.vH e ?_;rcases A.is with⟨h,_⟩|⟨_,_,_,_,_,h,_⟩
 ·subst h;simp only[go_sem,e0,t,u,v];exact Ok.ret ⟨rfl,_,fin,K7 n _,f⟩
 ·subst h;simp only[go_sem,e0,t,u,v];exact Ok.ret ⟨rfl,_,fin,K7 n _,f⟩
def zob(C:Nat->Ev.Call)(r:Ru)(k:Nat):Prop:=
 ∀(b o lv:Nat) (neg:Bool) (H:Hp) (nb db fb vb:Nat) (l:List (Nd×AV)) (nv:AV) (d:Nat) (cs:List AV),f9 H nb db fb vb l nv d->pR H b o cs->j5 (· < nb) H r cs->b<nb->lv+r.depth<=9->l.length+r.size<=32->d<=8 ->
  Ok (C k (.f 283) [.ptr b o,iN lv,.bool neg,.ptr nb 0,.ptr db 0,.ptr fb 0,.ptr vb 0] H) λv a=>v=.bool true/\∃l' wO d',f9 a nb db fb vb l' wO d' /\
   l'.map Prod.fst=l.map Prod.fst++r.nodes neg/\d'<=8/\Fm (ff nb db fb nv) H a/\∀c,In wO c->In nv c\/H.nx<=c
theorem SV(M:iO C)(N:2<=j){f vb:Nat}{d:Nat}{r:Ru}{kd:Nat}{rl to:SS}(m:f9 H gb f sb vb F nv d)(t:pR H b o [uN kd,.str rl.n rl.a,.str to.n to.a,sv])(O:j5 (· < gb) H r [uN kd,.str rl.n rl.a,.str to.n to.a,sv])(P:r.Fit)(hb:b<gb)(R:cb<=8)(S:F.length<32)(hd:d<=8)(T:∀H' w J,f9 H' gb f sb vb (F++[(⟨kd,rl,to,neg⟩,.aA)]) w J->J<=8->Fm (ff gb f sb nv) H H'->(∀c,In w c->H.nx<=c) -> Ok (vq (aD sv) H' λy H=>jb (C j) (λz H=>.ok z H) (λU H=>oM (C j) (.ptr gb 0) (iN (F.length)) U H) (.ptr b o) (iN cb) (.bool neg) (.ptr gb 0) (.ptr vb 0) y bZ .aA (iN 0) H) D):Ok (te (C j) (.ptr b o) (iN cb) (.bool neg) (.ptr gb 0) (.ptr f 0) (.ptr sb 0) (.ptr vb 0) H) D:=by
 unfold te;obtain⟨o1,o2,o3,o4⟩:=m.o;have e0:=m.n;have X:=m.d;have K:=m.f;have u:=m.gl.bF;have A:¬F.length=32:=om;have Y:¬8<cb:=om;have v:∀c,c<=vb->¬In nv c:=λc n h=>by have:=m.nin c h;omega
 refine jF e0 u A Y ?_;unfold Ka;refine dS X K ?_;have Z:Fm (λc=>c=f) H (H.put f (aB 0 [iN ((max d cb))])):=(Fm.refl _ _).put _ _ om;refine Ok.ve (zwd M (k:=j) N om (O.dR Z om) P) ?_;rintro _ a ⟨rfl,f2⟩;have n2:H.nx<=a.nx:=om;have d2:a.get f=aB 0 [iN ((max d cb))]:=(f2.keep om).trans (gX _ _ _);have e:∀c,c<H.nx->c≠f->a.get c=H.get c:=om;have B:=(e sb om om).trans K;simp only[go_sem,B];unfold Hi;have q:=(e gb om om).trans e0;have Q:=(e vb om om).trans m.v;have g:=e b om om;have r0:cB (a.get b) o=.val (uN kd):=by rw[g];exact t.at' 0 g3
 have r1:cB (a.get b) (o+1)=.val (.str rl.n rl.a):=by rw[g];exact t.at' 1 g3
 have r2:cB (a.get b) (o+2)=.val (.str to.n to.a):=by rw[g];exact t.at' 2 g3
 have r3:cB (a.get b) (o+3)=.val sv:=by rw[g];exact t.at' 3 g3
 refine lW q u r0 r1 r2 ?_;have g2:Gl 5 ((Hp.mk (a.put sb (aB 0 [iN 0])).t (a.nx+18)).put (a.nx+15) (aB 0 [uN kd,.str rl.n rl.a,.str to.n to.a,.aA,.bool neg])) nv F.length (F.flatMap lD):=by refine m.gl.keep (show H.nx<=a.nx+18 by omega) λc n u=>?_;rw[jR _ _ _ _ om];show(a.put sb _).get c=_;rw[jR _ _ _ _ om];exact e c u om
 obtain⟨s,L,g3,q3,I,n3⟩:=g2.append (k:=1) (w:=72) (x:=[uN kd,.str rl.n rl.a,.str to.n to.a,.aA,.bool neg]) om rfl om om;simp only[nq]at L g3 q3 n3 I;refine Ok.vH L ?_;have i:∀c,c<a.nx->c≠sb->¬In nv c->s.get c=a.get c:=λc h1 h2 V=>by
  refine(I.get c om V).trans ?_
  grind
 have f33:s.get sb=aB 0 [iN 0]:=by
  refine(I.get sb om (v _ om)).trans ?_
  grind
 have E:=(i gb om om om).trans q;have d33:=(i f om om (v _ om)).trans d2;have v33:=(i vb om om (v _ om)).trans Q;have l:=i b om om (v _ om);have G:cB (s.get b) (o+3)=.val sv:=by rw[l];exact r3
 refine dS E G ?_;refine T _ _ (max d cb) ⟨gX _ _ _,?_,?_,?_,⟨o1,o2,o3,show vb<s.nx by omega⟩,?_,?_⟩ om ⟨show H.nx<=s.nx by omega,λc n W=>?_⟩ ?_
 ·grind
 ·grind
 ·grind
 ·rw[nj,nt,AJ];exact g3.keep om λc n _=>by
   obtain⟨_,_,_,_,n⟩:=n
   grind
 ·rintro c ⟨_,_,_,_,n⟩
  grind
 ·unfold ff at W
  grind
 ·rintro c ⟨_,_,_,_,n⟩
  grind
theorem TJ{r:Ru}(hR:zob C r j){g:AV->pD}{kd t d nb q fb vb:Nat}{x:AV}{ca cb cc:List AV}(f:f9 H nb q fb vb F nv d)(hx:Gl 1 H x t xs)(ht:t<2)(hxd:∀c,In x c->vb<c/\¬In nv c)(V:pR H b o [uN kd,zS,zS,.sl sb 0 2 2 true])(hb:b<nb)(G:sb<nb)(kb:H.get sb=aB 0 (ca++cb))(la:ca.length=4)(lb:cb.length=4)(A:cc=if t=0 then ca else cb)(I:j5 (· < nb) H r cc)(hlv:gb+1+r.depth<=9)(J:F.length+r.size<=32)(hd:d<=8)(hg:∀(K:AV) (H':Hp) (m:List (Nd×AV)) (a:AV) (p:Nat) (L:List AV),f9 H' nb q fb vb m a p->m.map Prod.fst=F.map Prod.fst++r.nodes (neg||(decide (kd=6)&&decide (t=1)))->p<=8 -> Fm (λc=>ff nb q fb nv c\/In x c) H H'->(∀c,In a c->In nv c\/H.nx<=c)->Gl 1 H' K (t+1) L->(∀c,In K c->vb<c/\¬In a c/\H.nx<=c)->Ok (g K (iN ((t+1))) H') D):Ok (Hj (C j) qr g (.ptr b o) (iN gb) (.bool neg) (.ptr nb 0) (.ptr vb 0) x (iN t) H) D:=by
 unfold Hj;obtain⟨o1,o2,o3,o4⟩:=f.o;have e0:=f.n;have hl:=f.gl.bF;refine dS e0 hl ?_;have fp:Fm No H (aH H (aB 0 [iN (F.length)])):=by exact fh
 obtain⟨e,e2,g2,q2,f2,n2⟩:=(hx.no fp).append (k:=1) (w:=8) (x:=[iN (F.length)]) om rfl om om;simp only[np]at n2;refine Ok.veE e2 ?_;have X:Fm (In x) H e:=om;have B:∀c,c<H.nx->¬In x c->e.get c=H.get c:=om;have nix:∀c,c<=vb->¬In x c:=om;have Y:f9 e nb q fb vb F nv d:=⟨om,(B _ om om).trans f.d,(B _ om om).trans f.f,(B _ om om).trans f.v,om,
  f.gl.keep X.nx om,f.nin⟩
 have N:=Y.v;have Q:=B b om om;have P:cB (e.get b) o=.val (uN kd):=by rw[Q];exact V.at' 0 g3
 have R:cB (e.get b) (o+3)=.val (.sl sb 0 2 2 true):=by rw[Q];exact V.at' 3 g3
 have S:=(B sb om om).trans kb;have a4:pR e sb (t*4) cc:=⟨om,λi W=>by
  rw[S,gk];have:(ca++cb)[t*4+i]? =some cc[i]:=by
   by_cases h0:t=0
   ·subst h0;subst A;rw[sL,nr,sX om,j0 W]
   ·have h1:t=1:=om;subst h1;subst A;rw[AM om,show 1*4+i-ca.length=i by omega,j0 W]
  rw[this]⟩
 have T:j5 (· < nb) e r cc:=I.dR X om;have O:∀n:Bool,Ok (C j (.f 283) [.ptr sb (t*4),iN ((gb+1)),.bool n,.ptr nb 0,.ptr q 0,.ptr fb 0,.ptr vb 0] e) _:=λn=>hR sb (t*4) (gb+1) n e nb q fb vb F nv d cc Y a4 T G om J hd;have fin:∀(n:Bool),n=(neg||(decide (kd=6)&&decide (t=1)))->∀(z:Hp) (m:List (Nd×AV)) (a:AV) (p:Nat),f9 z nb q fb vb m a p->m.map Prod.fst=F.map Prod.fst++r.nodes n->p<=8->Fm (ff nb q fb nv) e z->(∀c,In a c->In nv c\/e.nx<=c) ->
   Ok (g (.sl (aH H (aB 0 [iN (F.length)])).nx 0 (t+1) (t+1) false) (iN ((t+1))) z) D:=by
  rintro _ rfl z m a p l u v E y;have Z:¬ff nb q fb nv (H.nx+1):=λh=>by
   rcases h with h|h|h|h
   ·omega
   ·omega
   ·omega
   ·have:=f.gl.lt h;omega
  refine hg _ z m a p _ l u v om (λc s=>?_) (g2.keep E.nx λc s M=>E.get c M λh=>?_) λc s=>?_
  ·grind
  ·obtain⟨_,_,_,_,s⟩:=s
   grind
  ·obtain⟨_,_,_,_,s⟩:=s;injection s with s;rw[np]at s;refine⟨om,λh=>?_,om⟩;rcases y c h with h|h
   ·have:=f.gl.lt h;omega
   ·omega
 cases neg
 ·by_cases h6:kd=6
  ·have U:=ae h6;refine jF N P R U ?_;refine Ok.iC (O (decide (t=1))) ?_;rintro _ z ⟨rfl,m,a,p,l,u,v,E,y⟩;simp only[go_sem];unfold tU;refine aS ?_
   grind
  ·refine jF N P R h6 ?_;refine Ok.iC (O false) ?_;rintro _ z ⟨rfl,m,a,p,l,u,v,E,y⟩;unfold tU;refine aS ?_
   grind
 ·refine gW N P R ?_;refine Ok.iC (O true) ?_;rintro _ z ⟨rfl,m,a,p,l,u,v,E,y⟩;unfold tU;refine aS ?_
  grind
theorem Iw(O:Ev.Call)(qr:pD)(q:pD)(a b c d e f:AV)(n:Nat):jb O qr q a b c d e f (n+1)=jc O qr q a b c d e f (jb O qr q a b c d e f n):=rfl
theorem ztf(hN:iO C):∀(r:Ru) (k:Nat),r.Fit->r.depth+2<=k->zob C r k:=by
 intro r
 induction r with
 |leaf kd rl to=>
  intro k D U b o lv neg H nb V fb vb l nv d cs E F G p q s W;unfold Ru.depth at U q;unfold Ru.size at s;obtain⟨j,rfl⟩:∃j,k=j+1:=⟨k-1,om⟩;rw[lk (MG ..)];have S:cs=j8 kd rl to:=G;subst S;refine SV hN (r:=.leaf kd rl to) om E F G D p om om W λH' w d' P Q f' O=>?_;obtain⟨m,X⟩:∃m,bT=m+1:=⟨999999,by rw[rO]⟩;rw[dD,X];simp only[go_sem];rw[Iw];unfold jc;refine(Uy (j:=j) om P (i:=l.length) g3 (Gl.nil 1 H')).mono ?_;rintro r H2 ⟨rfl,Y,u,f,v⟩;refine⟨rfl,Y,w,d',u,by rw[f];simp[Ru.nodes],Q,f'.then v λc a h=>?_,om⟩
  grind
 |node kd x y ihx ihy=>
  intro k D U b o lv neg H nb V fb vb l nv d cs E F G p q s W;unfold Ru.depth at U q;unfold Ru.size at s;obtain⟨j,rfl⟩:∃j,k=j+1:=⟨k-1,om⟩;rw[lk (MG ..)];have T:=G;obtain⟨bl,ca,cb,rfl,I,g,kb,J,K⟩:=G;have la:ca.length=4:=by obtain⟨_,_,_,_,h⟩:=J.four;rw[h];rfl
  have lb:cb.length=4:=by obtain⟨_,_,_,_,h⟩:=K.four;rw[h];rfl
  refine SV hN (r:=.node kd x y) (rl:=sE) (to:=sE) om E F T D p om om W λH1 w d1 A R e O=>?_;obtain⟨o1,o2,o3,o4⟩:=E.o;have nS:∀c,c<nb->¬ff nb V fb nv c:=λc a h=>by
   rcases h with h|h|h|h
   ·omega
   ·omega
   ·omega
   ·have:=E.nin c h;omega
  obtain⟨m,X⟩:∃m,bT=m+3:=⟨999997,by rw[rO]⟩;rw[dD,X];simp only[go_sem];rw[Iw];unfold jc;simp only[go_sem];have nn:∀c,¬In AV.aA c:=λc h=>by obtain⟨_,_,_,_,h⟩:=h;cases h
  have l1:(l++[((⟨kd,sE,sE,neg⟩:Nd),AV.aA)]).length=l.length+1:=g3;refine TJ (r:=x) (t:=0) (ca:=ca) (cb:=cb) (cc:=ca) (ihx j D.2.1 om) A (Gl.nil 1 H1) om (om) (F.keep e.nx om) p g ((e.get _ I om).trans kb) la lb rfl (J.dR e λc a=>nS c a) om (by rw[l1];omega) R ?_;intro x2 H2 l2 nv2 d2 xs2 u f Z v L gx2 z;have l2n:l2.length=l.length+1+x.size:=by have:=congrArg List.length f;simp only[vu,nj,nk,DP,ep]at this;omega
  have n1:=e.nx;have n2:=v.nx;have n:∀c,c<nb->¬(ff nb V fb w c\/In AV.aA c):=λc a h=>by
   rcases h with(h|h|h|h)|h
   ·omega
   ·omega
   ·omega
   ·have:=A.nin c h;omega
   ·exact nn c h
  rw[Iw];unfold jc;simp only[go_sem];refine TJ (r:=y) (t:=1) (ca:=ca) (cb:=cb) (cc:=cb) (ihy j D.2.2 om) u gx2 om (λc h=>⟨(z c h).1,(z c h).2.1⟩) ((F.keep e.nx (e.get _ om (nS _ p))).keep n2 (v.get _ om (n _ p))) p g ((v.get _ om (n _ g)).trans ((e.get _ I (nS _ g)).trans kb)) la lb rfl ((K.dR e λc a=>nS c a).dR v λc a=>n c a) om om Z ?_;intro x3 H3 l3 M d3 xs3 xB N hd3 f3 hn3 gx3 hx3;rw[Iw];unfold jc;have l3n:l3.length=l2.length+y.size:=by have:=congrArg List.length N;simp only[vu,nj,ep]at this;omega
  have B:∀c,In M c->H.nx<=c:=λc a=>by
   rcases hn3 c a with h|h
   ·rcases L c h with h|h
    ·exact O c h
    ·omega
   ·omega
  refine(Uy (j:=j) om xB (i:=l.length) om gx3).mono ?_;rintro r H4 ⟨rfl,Y,hI4,hl4,f4⟩;refine⟨rfl,Y,M,d3,hI4,?_,hd3,((e.then v λc a h=>?_).then f3 λc a h=>?_).then f4 λc a h=>?_,λc a=>.inr (B c a)⟩
  ·rw[hl4,N,f];simp[Ru.nodes]
  ·rcases h with(h|h|h|h)|h
   ·exact .inl h
   ·exact .inr (.inl h)
   ·exact .inr (.inr (.inl h))
   ·have:=O c h;omega
   ·simp_all
  ·rcases h with(h|h|h|h)|h
   ·exact .inl h
   ·exact .inr (.inl h)
   ·exact .inr (.inr (.inl h))
   ·rcases L c h with h|h
    ·have:=O c h;omega
    ·omega
   ·have:=(z c h).2.2;omega
  ·have:=B c h;omega
theorem Yh{k:Nat}(a:1<=k)(h:Gl 5 H nv n l):∃w,C k (.f 285) [nv] H=.ok w H/\Gl 5 H w n l/\dX w=.val (iN n)/\(∀b,In w b->In nv b):=by obtain⟨j,rfl⟩:=aO a;obtain⟨w,e,c,d,f⟩:=h.clip;refine⟨w,?_,c,d,f⟩;rw[lk (zrs ..)];unfold W6;simp only[go_sem,h.bF,e]
structure Ru.Rt(r:Ru):Prop where
 fit:r.Fit
 dp:r.depth<=8
 sz:r.size<=32
theorem zi8(A:iO C){k:Nat}(B:12<=k){P:Nat->Prop}(t:pR H b 0 cs)(D:j5 P H U cs)(g:U.Rt):Ok (C k (.f 249) [.ptr b 0] H) λv H'=>∃nv l d,v=.aX [nv,iN d,iN 0]/\Ac 5 lD H H' nv l/\l.map Prod.fst=U.nodes false:=by
 obtain⟨j,rfl⟩:=aO B;rw[lk (Rj ..)];unfold PC;refine aS ?_;generalize s:(aH ((aH (aH (aH H (aB 0 [.aA])) (aB 0 [iN 0])) (aB 0 [iN 0])).put (H.nx+1+1) (aB 0 [iN 0])) (aB 0 [.iV])).put (H.nx+1+1+1) (aB 0 [.fn 283 [] [.ptr H.nx 0,.ptr (H.nx+1) 0,.ptr (H.nx+1+1) 0,.ptr (H.nx+1+1+1) 0]])=H1;have i:Fm No H H1:=om;have R:H1.nx=H.nx+4:=by rw[<-s];rfl
 have k0:H1.get H.nx=aB 0 [.aA]:=om;have F:H1.get (H.nx+1)=aB 0 [iN 0]:=om;have k2:H1.get (H.nx+1+1)=aB 0 [iN 0]:=om;have k3:H1.get (H.nx+1+1+1)=aB 0 [.fn 283 [] [.ptr H.nx 0,.ptr (H.nx+1) 0,.ptr (H.nx+1+1) 0,.ptr (H.nx+1+1+1) 0]]:=om;have G:f9 H1 H.nx (H.nx+1) (H.nx+1+1) (H.nx+1+1+1) [] .aA 0:=⟨k0,F,k2,k3,om,Gl.nil 5 _,λc h=>by obtain⟨_,_,_,_,h⟩:=h;cases h⟩;have m:=t.lt;have n:j5 (· < H.nx) H1 U cs:=(D.mono (Q:=λc=>c<H.nx) λc h _=>h).fm i;refine Ok.ve (ztf A U j g.fit (by have:=g.dp;omega) b 0 1 false H1 _ _ _ _ [] .aA 0 cs G (t.fm i) (n) m (by have:=g.dp;omega) (by have:=g.sz;simpa using this) om) ?_;rintro _ p ⟨rfl,l,nv,d,a,K,L,M,q⟩;have S:=om;have e0:=a.n;have o:=a.d;have I:=a.f;refine aS ?_;unfold JO;refine dI I ?_;unfold JP;obtain⟨w,e,N,_,O⟩:=Yh (k:=j) om a.gl;have f:=wK (Gl.flat a.gl) 63;refine dS e0 o ?_;refine Ok.vH e ?_;have T:Fm No H p:=i.then M λc E h=>by
  rcases h with h|h|h|⟨_,_,_,_,h⟩
  ·omega
  ·omega
  ·omega
  ·cases h
 have J:∀c,In w c->H.nx+4<=c:=λc E=>by
  rcases q c om with⟨_,_,_,_,h⟩|h
  ·cases h
  ·omega
 have u:∀(x y:cZ),Gl 5 ((p.put H.nx x).put (H.nx+1) y) w l.length (l.flatMap lD):=om;have z:∀(x y:cZ),Fm No H ((p.put H.nx x).put (H.nx+1) y):=om;rcases N.is with⟨h,_⟩|⟨_,_,_,_,_,h,_⟩
 ·subst h;refine gW e0 o f ?_;exact Ok.ret ⟨_,l,d,rfl,⟨u _ _,z _ _,om⟩,om⟩
 ·subst h;refine gW e0 o f ?_;exact Ok.ret ⟨_,l,d,rfl,⟨u _ _,z _ _,om⟩,om⟩
theorem pR.push:pR (aH H (aB 0 cs)) H.nx 0 cs:=⟨om,λj h=>by rw[uR,gk,nr,j0 h]⟩
theorem Mu(c:iO C){k:Nat}(e:13<=k)(b:j5 S H U cs)(g:U.Rt):Ok (C k (.f 234) [.agg cs] H) λv H'=>∃nv l,v=.aX [nv,iN 0]/\Ac 5 lD H H' nv l/\l.map Prod.fst=U.nodes false:=by obtain⟨j,rfl⟩:=aO e;rw[lk (Rk ..)];unfold PG;obtain⟨c0,h,i,m,a⟩:=b.four;subst a;have f:Fm No H (aH H (aB 0 [c0,h,i,m])):=om;refine Ok.ve (zi8 c (k:=j) om pR.push (b.fm f) g) ?_;rintro _ H1 ⟨nv,l,d,rfl,n,o⟩;exact Ok.ret ⟨nv,l,rfl,n.trans f,o⟩
theorem zc3(c:iO C){k:Nat}(e:13<=k)(b:j5 S H U cs)(g:U.Rt):Ok (C k (.f 201) [.agg cs] H) λv H'=>v=iN 0/\Fm No H H':=by
 obtain⟨j,rfl⟩:=aO e;rw[lk (Q0 ..)];unfold PA;obtain⟨c0,h,i,m,a⟩:=b.four;subst a;have f:Fm No H (aH H (aB 0 [c0,h,i,m])):=by exact fh
 refine Ok.ve (zi8 c (k:=j) om pR.push (b.fm f) g) ?_;rintro _ H1 ⟨nv,l,d,rfl,n,o⟩;exact Ok.ret ⟨rfl,f.trans n.fm⟩
structure PrX(X:List aP):Prop where
 n:X.length<=16
 r:∀g∈X,g.gs.length<=16/\Nm g.name
 x:∀g∈X,∀x∈g.gs,x.r.types.length<=8/\Nm x.r.name/\x.r.rule.Rt/\∀t∈x.r.types,Nm t.sp/\(t.rl=sE\/Nm t.rl)
theorem PrX.sml(h:PrX X):sO X:=⟨by have:=h.n;omega,λg a=>by have:=(h.r g a).1;omega,λg a x b=>by have:=(h.x g a x b).1;omega⟩
theorem Mq{Hb:Hp}{j:Nat}{nv:AV}{qr:pD}{D:pL}{ts:List jW}{qe:pH}(d:iO C)(o:1<=j)(e:Rs 2 tC Hb nv ts)(c:ts.length<=8)(b:∀t∈ts,Nm t.sp/\(t.rl=sE\/Nm t.rl))(p:∀H,Fm No Hb H->Ok (qe H) D):∀(k i:Nat) (H:Hp),i<=ts.length->ts.length-i<k->Fm No Hb H->Ok (En (C j) qr qe nv (iN (ts.length)) k (iN i) H) D
 |0,i,_,_,h,_=>om
 |k+1,i,H,hi,hk,hf=>by
  show Ok (ZU (C j) _ _ _ _ (En (C j) _ _ _ _ k) _ H) D;unfold ZU;obtain⟨m,rfl⟩:∃m,j=m+1:=⟨j-1,om⟩;by_cases a:i<ts.length
  ·simp only[go_sem,a];unfold OB;have v:=e.fm hf;obtain⟨w,x,u,y,_,l,z⟩:=v.at' i a;have r:=b ts[i] (sx a);have f:=(d m).p _ r.1;unfold tC SS.v at l;unfold SS.v at f;by_cases n:ts[i].rl.n=0/\ts[i].rl.a=0
   ·have g:=ae n;refine jF u l f g ?_;unfold iS;refine aS ?_;exact Mq d o e c b p k (i+1) _ om om om
   ·have s:=(d m).p ts[i].rl (by
     rcases r.2 with h|h
     ·exact absurd ((pE _ _).1 h) n
     ·exact h)
    unfold SS.v at s;refine lW u l f n s ?_;unfold iS;refine aS ?_;exact Mq d o e c b p k (i+1) _ om om om
  ·simp only[go_sem,a]
   grind
theorem z2m(c:iO C){k:Nat}(u:14<=k)(d:oI H I)(b:I.r.types.length<=8/\Nm I.r.name/\I.r.rule.Rt/\∀t∈I.r.types,Nm t.sp/\(t.rl=sE\/Nm t.rl)):Ok (C k (.f 289) [.agg (iL I)] H) λv H'=>v=iN 0/\Fm No H H':=by
 obtain⟨j,rfl⟩:∃j,k=j+1+1:=⟨k-2,om⟩;rw[lk (zry ..)];unfold Xc;obtain⟨c0,h,i,l,a⟩:=d.ru.four;have e:iL I=[.str I.r.name.n I.r.name.a,I.tv,c0,h,i,l]:=by unfold iL;rw[a];rfl
 rw[e];have n:=(c j).p _ b.2.1;unfold SS.v at n;have s:¬8<I.r.types.length:=om;have f:Fm No H (aH H (aB 0 [.str I.r.name.n I.r.name.a,I.tv,c0,h,i,l])):=om;have o:=d.ty.fm f;have p:=o.len;refine gW n p s ?_;unfold ZT;refine dI p ?_;rw[dD];refine Mq c om o b.1 b.2.2.2 (λr m=>?_) bT 0 _ om lf om;unfold ZS;have k2:r.get H.nx=aB 0 [.str I.r.name.n I.r.name.a,I.tv,c0,h,i,l]:=(m.keep gx).trans om;simp only[go_sem,k2];have q:=d.ru.fm (f.trans m);rw[a]at q;refine Ok.ve (zc3 c (k:=j+1) om q b.2.2.1) ?_;rintro _ w ⟨rfl,x⟩;exact Ok.ret ⟨rfl,om⟩
theorem S6(e:iO C)(f:14<=j)(l:SpR Hb g)(b:g.gs.length<=16)(r:∀x∈g.gs,x.r.types.length<=8/\Nm x.r.name/\x.r.rule.Rt/\∀t∈x.r.types,Nm t.sp/\(t.rl=sE\/Nm t.rl))(s:∀H,Fm No Hb H->Ok (qe H) D):∀(k i:Nat) (H:Hp),i<=g.gs.length->g.gs.length-i<k->Fm No Hb H->Ok (Hm (C j) qr qe g.rv (iN (g.gs.length)) k (iN i) H) D
 |0,i,_,_,h,_=>om
 |k+1,i,H,hi,hk,hf=>by
  show Ok (JQ (C j) _ _ _ _ (Hm (C j) _ _ _ _ k) _ H) D;unfold JQ;by_cases a:i<g.gs.length
  ·simp only[go_sem,a];unfold ZJ;have m:=l.fm hf;obtain⟨A,B,v,Q,_,_,_,p⟩:=m.at' i a;have u:=sx a;have n:=m.rel _ u;obtain⟨c0,w,y,z,d⟩:=n.ru.four;have c:iL g.gs[i]=[.str g.gs[i].r.name.n g.gs[i].r.name.a,g.gs[i].tv,c0,w,y,z]:=by unfold iL;rw[d];rfl
   have o:Fm No H ((aH H (aB 0 [zS,.aA,uN 0,zS,zS,.aA])).put H.nx (aB 0 (iL g.gs[i]))):=om;have O:=z2m e (k:=j) f (n.fm o) om;rw[c]at p o O;refine dS v p ?_;refine Ok.ve O ?_;rintro _ E ⟨rfl,F⟩;unfold Ou;refine aS ?_;exact S6 e f l b r s k (i+1) _ om om om
  ·simp only[go_sem,a]
   grind
theorem T0{Hb:Hp}{j:Nat}{sv:AV}{qr:pD}{D:pL}{qe:pH}{h:List aP}(c:iO C)(g:14<=j)(l:dB Hb sv h)(b:PrX h)(t:∀H,Fm No Hb H->Ok (qe H) D):∀(k i:Nat) (H:Hp),i<=h.length->h.length-i<k->Fm No Hb H->Ok (CP (C j) qr qe sv (iN (h.length)) k (iN i) H) D
 |0,i,_,_,X,_=>om
 |k+1,i,H,hi,hk,hf=>by
  show Ok (ZK (C j) _ _ _ _ (CP (C j) _ _ _ _ k) _ H) D;unfold ZK;obtain⟨m,rfl⟩:∃m,j=m+1:=⟨j-1,om⟩;have x:=b.n;by_cases a:i<h.length
  ·simp only[go_sem,a];unfold ZH;have n:=l.fm hf;obtain⟨z,A,u,B,_,s,_⟩:=n.rs.at' i a;have d:=sx a;unfold yR SS.v at s;have o:=b.r _ d;have p:=(c m).p _ o.2;unfold SS.v at p;have e:=n.sp _ d;have r:=e.len;have f:¬16<h[i].gs.length:=om;refine lW u s p r f ?_;unfold ZI;refine dI r ?_;rw[dD];have y:Fm No H ((aH H (aB 0 [zS,.aA])).put H.nx (aB 0 [.str h[i].name.n h[i].name.a,h[i].rv])):=om;refine S6 c g om o.1 (b.x _ d) (λv w=>?_) bT 0 _ om lf om;unfold w9;refine aS ?_;exact T0 c g l b t k (i+1) _ om om om
  ·simp only[go_sem,a]
   grind
theorem zoj(e:iO C){k:Nat}(g:15<=k)(b:dB H sv X)(c:PrX X):Ok (C k (.f 263) [.agg [sv]] H) λv H'=>v=iN 0/\Fm No H H':=by
 obtain⟨j,rfl⟩:=aO g;rw[lk (zr6 ..)];unfold Xk;have f:Fm No H (aH H (aB 0 [sv])):=by exact fh
 have d:=b.rs.len;have l:=c.n;have a:¬16<X.length:=om;refine dS d a ?_;unfold ZG;refine dI d ?_;rw[dD];refine T0 e om (b.fm f) c (λi h=>?_) bT 0 _ (vy _) lf (Fm.refl _ _);exact Ok.ret ⟨rfl,f.trans h⟩
theorem zmu(e:AV->AV->Option Bool)(k:AV)(i:Nat):vU e k [] i=some none:=rfl
theorem zch(e:AV->AV->Option Bool)(k:AV)(x:eT)(es:List eT)(i:Nat):vU e k (x::es) i=match e k x.key with|some true=>some (some ⟨i,x⟩)|some false=>vU e k es (i+1)|none=>none:=rfl
def Jj:AV->AV->Option Bool:=dL (eqFields [(p1,⟨bH⟩,0),(p1,⟨bH⟩,1)])
theorem cV(s t:SS):bH s.v t.v=some (decide (s=t)):=by show some (Nat.beq s.n t.n&&Nat.beq s.a t.a)=_;rw[beq_eq,beq_eq,<-Bool.decide_and];congr 1;exact decide_eq_decide.2 (pE s t).symm
theorem y9(p q:SS×SS):Jj (.agg (pC p)) (.agg (pC q))=some (decide (p=q)):=by
 show andThen (bH p.1.v q.1.v) (andThen (bH p.2.v q.2.v) (some true))=_;rw[cV,cV];obtain⟨a,b⟩:=p;obtain⟨c,d⟩:=q;by_cases e:a=c
 ·by_cases f:b=d
  ·simp[e,f,andThen]
  ·simp[e,f,andThen]
 ·simp[e,andThen]
theorem iW[DecidableEq β]{e:AV->AV->Option Bool}{a:β->AV}(c:∀p q,e (a p) (a q)=some (decide (p=q)))(p:β):∀(es:List eT) (ps:List β) (i:Nat),es.map eT.key=ps.map a -> (p∉ps->vU e (a p) es i=some none)/\(p∈ps->∃x,es[ps.findIdx λq=>decide (q=p)]? =some x/\vU e (a p) es i=some (some ⟨i+ps.findIdx (λq=>decide (q=p)),x⟩))
 | [],[],i,_=>⟨λ_=>zmu _ _ _,λh=>by cases h⟩
 | [],_::_,_,h=>by cases h
 |_::_,[],_,h=>by cases h
 |x::es,q::ps,i,h=>by
  injection h with h1 h2;obtain⟨g,f⟩:=iW c p es ps (i+1) h2;rw[zch,h1,c];by_cases b:p=q
  ·subst b;refine⟨om,λ_=>⟨x,?_,?_⟩⟩
   ·grind
   ·grind
  ·refine⟨λh=>?_,λh=>?_⟩
   ·simp_all
   ·have d:p∈ps:=by
     simp_all
    obtain⟨y,j,k⟩:=f d;refine⟨y,?_,?_⟩
    ·grind
    ·grind
structure kY{α:Type}(ky:α->AV)(vl:Nat->Nat)(H:Hp)(b:Nat)(ps:List α):Prop where
 ex:∃es c,H.get b=.map es c/\es.map eT.key=ps.map ky/\es.map eT.val=(List.range ps.length).map λi=>iN ((vl i))
theorem kY.eq{a:β->AV}{vl:Nat->Nat}{ps:List β}(h:kY a vl H b ps)(e:H'.get b=H.get b):kY a vl H' b ps:=by obtain⟨es,c,g,d,f⟩:=h.ex;exact⟨es,c,om,d,f⟩
theorem kY.len{a:β->AV}{vl:Nat->Nat}{ps:List β}(h:kY a vl H b ps):sd H (.map b)=.val (iN (ps.length)):=by
 obtain⟨es,c,e,f,g⟩:=h.ex;have d:es.length=ps.length:=by have:=congrArg List.length f;simpa using this
 show(match H.get b with| .map es _=>R0.val (i64 es.length)|_=>.bad)=_;rw[e,<-d];rfl
theorem kY.look[DecidableEq β]{a:β->AV}{vl:Nat->Nat}{ps:List β}(h:kY a vl H b ps){e:AV->AV->Option Bool}{s:Option Nat}(g:∀p q,e (a p) (a q)=some (decide (p=q)))(i:∀p,gr s (a p)=true)(z:AV)(d:Bool)(p:β):mX ⟨e,s⟩ z d H (.map b) (a p)=if p∈ps then .val (bif d then .aX [iN ((vl (ps.findIdx λq=>decide (q=p)))),.bool true]else iN ((vl (ps.findIdx λq=>decide (q=p)))))else .val (bif d then .aX [z,.bool false]else z):=by
 obtain⟨es,c,l,m,r⟩:=h.ex;obtain⟨g1,g2⟩:=iW g p es ps 0 m;show(match(match H.get b with| .map es _=>some es|_=>none)with|some es=>pW d z (bif gr s (a p)then vU e (a p) es 0 else none)|none=>.bad)=_;rw[l,i];simp only[AN];by_cases f:p∈ps
 ·rw[sB f];obtain⟨x,n,x2⟩:=g2 f;rw[x2];have j:x.val=iN ((vl (ps.findIdx λq=>decide (q=p)))):=by
   have k:(ps.findIdx λq=>decide (q=p))<ps.length:=om;have o:(es.map eT.val)[ps.findIdx λq=>decide (q=p)]? =some x.val:=by rw[AS,n];rfl
   simp_all
  show R0.val (bif d then .aX [x.val,.bool true]else x.val)=_;rw[j]
 ·rw[sy f,g1 f];rfl
theorem kY.upd[DecidableEq β]{a:β->AV}{vl:Nat->Nat}{ps:List β}(h:kY a vl H b ps){e:AV->AV->Option Bool}{s:Option Nat}(d:∀p q,e (a p) (a q)=some (decide (p=q)))(i:∀p,gr s (a p)=true){p:β}(j:p∉ps):∃k,jN ⟨e,s⟩ H (.map b) (a p) (iN ((vl ps.length)))=.ok .undef (H.put b k)/\kY a vl (H.put b k) b (ps++[p]):=by
 obtain⟨es,c,m,f,g⟩:=h.ex;obtain⟨g1,_⟩:=iW d p es ps 0 f;refine⟨.map (es++[⟨a p,iN ((vl ps.length)),c⟩]) (c+1),?_,⟨_,_,gX _ _ _,?_,?_⟩⟩
 ·have l:fN ⟨e,s⟩ (a p) es=some none:=by
   show(bif gr s (a p)then vU e (a p) es 0 else none)=_;simp_all
  unfold jN;simp_all
 ·simp_all
 ·rw[AO,g,nj,xx,uA,AO];rfl
theorem kY.nil(a:β->AV)(vl:Nat->Nat)(h:H.get b=.map [] c):kY a vl H b ([]:List β):=⟨[],c,h,rfl,rfl⟩
def hU(p:SS×SS):AV:=.agg [.str p.1.n p.1.a,.str p.2.n p.2.a]
def Jk(s:SS):AV:=.str s.n s.a
theorem pd(p q:SS×SS):dL (eqFields [(p1,⟨bH⟩,0),(p1,⟨bH⟩,1)]) (hU p) (hU q)=some (decide (p=q)):=y9 p q
theorem Pa(p q:SS):bH (Jk p) (Jk q)=some (decide (p=q)):=cV p q
abbrev jG(H:Hp)(b:Nat)(ps:List (SS×SS)):Prop:=kY hU id H b ps
abbrev vO(H:Hp)(b:Nat)(a:List SS):Prop:=kY Jk (λ_=>1) H b a
theorem jG.find{ps:List (SS×SS)}(h:jG H b ps)(z:AV)(x y:SS)(a:(x,y)∈ps):mX ⟨dL (eqFields [(p1,⟨bH⟩,0),(p1,⟨bH⟩,1)]),some 2⟩ z true H (.map b) (.agg [.str x.n x.a,.str y.n y.a])=.val (.aX [iN ((ps.findIdx λq=>decide (q=(x,y)))),.bool true]):=by have:=h.look (s:=some 2) pd (λ_=>rfl) z true (x,y);rw[sB a]at this;exact this
theorem jG.aOC(h:jG H b P)(z:AV)(x y:SS)(a:(x,y)∈P):mX ⟨dL (eqFields [(p1,⟨bH⟩,0),(p1,⟨bH⟩,1)]),some 2⟩ z false H (.map b) (.agg [.str x.n x.a,.str y.n y.a])=.val (iN ((P.findIdx λq=>decide (q=(x,y))))):=by have:=h.look (s:=some 2) pd (λ_=>rfl) z false (x,y);rw[sB a]at this;exact this
theorem jG.miss(h:jG H b P)(z:AV)(x y:SS)(a:(x,y)∉P):mX ⟨dL (eqFields [(p1,⟨bH⟩,0),(p1,⟨bH⟩,1)]),some 2⟩ z true H (.map b) (.agg [.str x.n x.a,.str y.n y.a])=.val (.aX [z,.bool false]):=by have:=h.look (s:=some 2) pd (λ_=>rfl) z true (x,y);rw[sy a]at this;exact this
theorem jG.put(h:jG H b P)(x y:SS)(a:(x,y)∉P):∃k,jN ⟨dL (eqFields [(p1,⟨bH⟩,0),(p1,⟨bH⟩,1)]),some 2⟩ H (.map b) (.agg [.str x.n x.a,.str y.n y.a]) (iN (P.length))=.ok .undef (H.put b k)/\jG (H.put b k) b (P++[(x,y)]):=
 h.upd (s:=some 2) pd (λ_=>rfl) a
theorem vO.find{a:List SS}(h:vO H b a)(z:AV)(x:SS)(c:x∈a):mX ⟨bH,none⟩ z false H (.map b) (.str x.n x.a)=.val (iN 1):=by have:=h.look (s:=none) Pa (λ_=>rfl) z false x;rw[sB c]at this;exact this
theorem vO.miss(h:vO H b V)(z:AV)(x:SS)(c:x∉V):mX ⟨bH,none⟩ z false H (.map b) (.str x.n x.a)=.val z:=by have:=h.look (s:=none) Pa (λ_=>rfl) z false x;rw[sy c]at this;exact this
theorem vO.put(h:vO H b V)(x:SS)(c:x∉V):∃k,jN ⟨bH,none⟩ H (.map b) (.str x.n x.a) (iN 1)=.ok .undef (H.put b k)/\vO (H.put b k) b (V++[x]):=
 h.upd (s:=none) Pa (λ_=>rfl) c
def DU(q:Nat×Nat):List AV:=[.ptr q.1 q.2]
theorem HO(q:Nat×Nat):(DU q).length=1:=rfl
def DT(q:SS×bA):List AV:=[q.1.v]
def kq(q:SS×bA):SS×SS:=(q.1,q.2.r.name)
def eG(X:List aP):List (SS×bA):=X.flatMap λg=>g.gs.map λx=>(g.name,x)
theorem vC(X:List aP):(eG X).map kq=aF X:=by unfold eG aF;rw[List.map_flatMap];congr 1;funext g;rw[lL];rfl
structure PtR(H:Hp)(q:Nat×Nat)(x:bA):Prop where
 lt:q.1<H.nx
 nm:cB (H.get q.1) q.2=.val (.str x.r.name.n x.r.name.a)
 tv:cB (H.get q.1) (q.2+1)=.val x.tv
 ru:eY (H.get q.1) (q.2+2) 4=some x.cs
 all:eY (H.get q.1) q.2 6=some (iL x)
variable{R:Nat×Nat}
theorem PtR.fm(h:PtR H R I)(f:Fm No H H'):PtR H' R I:=by have e:=f.keep h.lt;exact⟨AE h.lt f.nx,by rw[e];exact h.nm,by rw[e];exact h.tv,by rw[e];exact h.ru,by rw[e];exact h.all⟩
attribute [grind .] PtR.fm
theorem SpR.pt(h:SpR H g)(a:i<g.gs.length):∃b o,aG 6 g.rv (iN i)=.val (.ptr b o)/\PtR H (b,o) g.gs[i]:=by obtain⟨b,o,c,d,e,f,j,k⟩:=h.at' i a;exact⟨b,o,c,d,e,f,j,k⟩
structure qt(H0 H:Hp)(ib mb nb:Nat)(sv av iv:AV)(ss:List SS)(rs:List (SS×bA))(qs:List (Nat×Nat)):Prop where
 blk:H.get ib=aB 0 [sv,.map mb,.map nb,av,iv]
 ms:vO H mb ss
 mn:jG H nb (rs.map kq)
 a:Gl 1 H av qs.length (qs.flatMap DU)
 i:Gl 1 H iv rs.length (rs.flatMap DT)
 len:qs.length=rs.length
 pt:∀i (h:i<qs.length) (h':i<rs.length),PtR H0 qs[i] rs[i].2
 o:H0.nx<=mb/\mb<nb/\nb<ib/\ib<H.nx
 an:∀c,In av c->ib<c/\¬In iv c
 inn:∀c,In iv c->ib<c
 fm:Fm No H0 H
theorem zbi(H:Hp)(b o x y:Nat):kL H (.ptr b o) (.ptr x y)=storeAt H b o [.ptr x y] .undef:=id rfl
theorem zcr(a b:Nat):vJ (.ptr a b)=some [.ptr a b]:=id rfl
theorem z88(a b c d e x:AV):aY [a,b,c,d,e] 3 [x]=[a,b,c,x,e]:=id rfl
theorem z81(a b c d e x:AV):aY [a,b,c,d,e] 4 [x]=[a,b,c,d,x]:=id rfl
attribute [go_sem] zbi zcr z88 z81
theorem z1h{pb:Nat}{j:AV}{e:List (SS×bA)}{f:List (Nat×Nat)}(a:qt H0 H cb gb sb sv j nv V e f)(E:aG 6 g.rv (iN i)=.val (.ptr b o))(F:PtR H0 (b,o) I)(n:(g.name,I.r.name)∉e.map kq)(hi:i<1000)(l:H.get pb=aB 0 [.str g.name.n g.name.a,g.rv])(hpl:pb<H.nx)(hrl:e.length<=1000)(G:¬In j pb/\¬In nv pb/\cb<pb)(hg:∀H' s t,qt H0 H' cb gb sb sv s t V (e++[(g.name,I)]) (f++[(b,o)])->Fm (λc=>c=sb\/c=cb\/In j c\/In nv c) H H'->(∀c,In s c\/In t c->H.nx<=c)->Ok (qr (iN ((i+1))) H') D):Ok (JR O qr (.ptr cb 0) (.ptr pb 0) (iN i) H) D:=by
 unfold JR;obtain⟨o1,o2,o3,o4⟩:=a.o;have e0:=a.blk;have p1:=F.fm a.fm;have Z:cB (H.get b) o=.val (.str I.r.name.n I.r.name.a):=p1.nm;have em:=a.mn.miss (iN 0) g.name I.r.name n;have la:=a.a.bF;have u:=a.len;have x:=wK (Gl.flat a.i) 63;refine lW l E e0 Z em ?_;obtain⟨k,eu,mu⟩:=a.mn.put g.name I.r.name n;rw[vu,<-u]at eu;refine jF l e0 Z la ?_;refine Ok.vH eu ?_;unfold JS;have v:∀c,c≠sb->(H.put sb k).get c=H.get c:=λc h=>jR _ _ _ _ h;have e1:(H.put sb k).get cb=aB 0 [sv,.map gb,.map sb,j,nv]:=(v _ om).trans e0;have q1:(H.put sb k).get pb=aB 0 [.str g.name.n g.name.a,g.rv]:=(v _ om).trans l;simp only[go_sem,seval,e1,q1];have bVR:∀c,In nv c->c<H.nx:=λc d=>a.i.lt d;have g2:Gl 1 ((Hp.mk (H.put sb k).t (H.nx+23)).put (H.nx+7) (aB 0 [.ptr b o])) j f.length (f.flatMap DU):=by
  refine a.a.keep (show H.nx<=H.nx+23 by omega) λc d C=>?_;have:=(a.an c d).1;rw[jR _ _ _ _ om]
  grind
 obtain⟨p,e2,a2,_,T,n2⟩:=g2.append (k:=1) (w:=8) (x:=[.ptr b o]) om rfl om om;simp only[nq]at e2 a2 T n2;refine Ok.vH e2 ?_;have q:∀c,c<H.nx->c≠sb->¬In j c->p.get c=H.get c:=λc W X Y=>by
  refine(T.get c om Y).trans ?_;rw[jR _ _ _ _ om]
  grind
 have y:¬In j cb:=λh=>by have:=(a.an cb h).1;omega
 have J:¬In nv cb:=λh=>by have:=a.inn cb h;omega
 have K:=(q cb om om y).trans e0;have L:=(q pb om om G.1).trans l;simp only[go_sem,seval,K,L,x];have g3:Gl 1 (p.put (H.nx+15) (aB 0 [.str g.name.n g.name.a])) nv e.length (e.flatMap DT):=by refine a.i.keep (show H.nx<=p.nx by omega) λc d C=>?_;have:=a.inn c d;rw[jR _ _ _ _ om];exact q c C om λh=>(a.an c h).2 d
 obtain⟨Q,e3,a3,_,U,n3⟩:=g3.append (k:=1) (w:=16) (x:=[.str g.name.n g.name.a]) om rfl om om;simp only[nq]at e3 a3 U n3;refine Ok.vH e3 ?_;have z:∀c,c<H.nx->c≠sb->¬In j c->¬In nv c->Q.get c=H.get c:=λc W X Y h4=>by refine(U.get c om h4).trans ?_;rw[jR _ _ _ _ om];simp_all
 have M:=(z cb om om y J).trans e0;simp only[go_sem,seval,M];unfold zhd;refine aS ?_;have N:∀c,In (.sl (H.nx+23) 0 (f.length+1) (f.length+1) false) c->c=H.nx+23:=λc d=>by obtain⟨_,_,_,_,d⟩:=d;simp_all
 have P:∀c,In (.sl p.nx 0 (e.length+1) (e.length+1) false) c->c=p.nx:=λc d=>by obtain⟨_,_,_,_,d⟩:=d;simp_all
 generalize B:((Q.put cb (aB 0 [sv,.map gb,.map sb,.sl (H.nx+23) 0 (f.length+1) (f.length+1) false,nv])).put cb (aB 0 [sv,.map gb,.map sb,.sl (H.nx+23) 0 (f.length+1) (f.length+1) false,.sl p.nx 0 (e.length+1) (e.length+1) false]))=H4;have n4:H4.nx=Q.nx:=by rw[<-B];rfl
 have A:∀c,c≠cb->H4.get c=Q.get c:=om;have b4:H4.get cb=aB 0 [sv,.map gb,.map sb,.sl (H.nx+23) 0 (f.length+1) (f.length+1) false,.sl p.nx 0 (e.length+1) (e.length+1) false]:=by rw[<-B];exact gX _ _ _
 have R:H4.get gb=H.get gb:=(A gb om).trans (z gb om om (λh=>by have:=(a.an gb h).1;omega) (λh=>by have:=a.inn gb h;omega));have S:H4.get sb=(H.put sb k).get sb:=by refine(A sb om).trans ((U.get sb om (λh=>by have:=a.inn sb h;omega)).trans ?_);rw[jR _ _ _ _ om];refine(T.get sb om (λh=>by have:=(a.an sb h).1;omega)).trans ?_;rw[jR _ _ _ _ om];rfl
 have fF:Fm (λc=>c=sb\/c=cb\/In j c\/In nv c) H H4:=⟨om,om⟩;refine hg H4 (.sl (H.nx+23) 0 (f.length+1) (f.length+1) false) (.sl p.nx 0 (e.length+1) (e.length+1) false) ⟨b4,a.ms.eq R,?_,?_,?_,?_,?_,⟨o1,o2,o3,om⟩,?_,?_,?_⟩ fF ?_
 ·rw[AO];exact mu.eq S
 ·rw[nj,nt,AJ];refine a2.keep om λc d C=>?_
  grind
 ·rw[nj,nt,AJ];refine a3.keep om λc d C=>?_
  grind
 ·simp[u]
 ·intro m W X;rw[List.getElem_append,List.getElem_append];split
  ·rename_i h;rw[dif_pos om];exact a.pt m h om
  ·grind
 ·intro c d;have:=N c d;refine⟨om,λh=>?_⟩;have:=P c h;omega
 ·grind
 ·refine a.fm.then fF λc d h=>?_;rcases h with h|h|h|h
  ·omega
  ·omega
  ·have:=(a.an c h).1;omega
  ·have:=a.inn c h;omega
 ·grind
theorem SK{l:List β}(h:l.Nodup)(a:i<l.length):l[i]∉l.take i:=λb=>by obtain⟨j,c,e⟩:=ku b;rw[yl]at e;exact lEL.1 h j i om a om e
theorem tx{α:Type}(g:α->List β)(c:Nat):∀l:List α,(∀x∈l,(g x).length<=c)->(l.flatMap g).length<=c*l.length
 | [],_=>g3
 |a::l,h=>by rw[DM,nj,nk,Nat.mul_add,vx];have:=tx g c l om;have:=h a vA;omega
theorem PrX.len(h:PrX X):(eG X).length<=256:=by
 have:=tx (λg:aP=>g.gs.map λx=>(g.name,x)) 16 X λg a=>by rw[vu];exact(h.r g a).1
 have:=h.n;unfold eG;omega
def dM(X:List aP)(s:Nat):List (SS×bA):=eG (X.take s)
theorem So(X:List aP)(s:Nat):(dM X s).length<=(eG X).length:=by
 unfold dM eG
 conv=>rhs;rw[<-qw s X,nt,nj]
 omega
theorem zk8(a:N<X.length)(b:i<X[N].gs.length):∃Z,eG X=(dM X N++(X[N].gs.take i).map λx=>(X[N].name,x))++(X[N].name,X[N].gs[i])::Z:=by
 refine⟨(X[N].gs.drop (i+1)).map (λx=>(X[N].name,x))++eG (X.drop (N+1)),?_⟩;have c:X=X.take N++X[N]::X.drop (N+1):=by rw[<-iP a,qw]
 have d:X[N].gs=X[N].gs.take i++X[N].gs[i]::X[N].gs.drop (i+1):=by rw[<-iP b,qw]
 unfold dM eG
 grind
theorem GD(a:(aF X).Nodup)(b:N<X.length)(c:i<X[N].gs.length):(X[N].name,X[N].gs[i].r.name)∉(dM X N++(X[N].gs.take i).map λx=>(X[N].name,x)).map kq:=by obtain⟨Z,h⟩:=zk8 b c;rw[<-vC,h,AO,og]at a;intro d;exact(lI2.1 a).2.2 _ d (kq (X[N].name,X[N].gs[i])) vA rfl
theorem R8{H0 Hb:Hp}(m:dB H0 sv h)(n:(aF h).Nodup)(r:(eG h).length<=256){s:Nat}(p:s<h.length)(e:h[s].gs.length<=16)(t:∀H c iv d,qt H0 H N cb gb sv c iv V (dM h s++h[s].gs.map λx=>(h[s].name,x)) d->Hb.nx<=H.nx->Ok (qe H) D):∀(k i:Nat) (H:Hp) (c iv:AV) (d:List (Nat×Nat)),i<=h[s].gs.length->h[s].gs.length-i<k->qt H0 H N cb gb sv c iv V (dM h s++(h[s].gs.take i).map λx=>(h[s].name,x)) d -> H.get sb=aB 0 [.str h[s].name.n h[s].name.a,h[s].rv]->sb<H.nx->(¬In c sb/\¬In iv sb/\N<sb)->Hb.nx<=H.nx -> Ok (Ho O qe (.ptr N 0) (.ptr sb 0) (iN (h[s].gs.length)) k (iN i) H) D
 |0,i,_,_,_,_,_,X,_,_,_,_,_=>om
 |k+1,i,H,c,iv,d,hi,hk,hI,hpb,hpl,hpn,hbn=>by
  show Ok (Kq O _ _ _ _ (Ho O _ _ _ _ k) _ H) D;unfold Kq;by_cases a:i<h[s].gs.length
  ·simp only[go_sem,a];obtain⟨b,o,y,p1⟩:=(m.sp _ om).pt a;have j:(dM h s++(h[s].gs.take i).map λx=>(h[s].name,x)).length<=1000:=by
    have:=So h s
    grind
   obtain⟨z,A,B,C⟩:=hI.o;refine z1h hI y p1 (GD n p a) om hpb hpl j hpn λH' f g u v w=>?_;refine R8 m n r p e t k (i+1) H' f g (d++[(b,o)]) om om ?_ ((v.get sb hpl λX=>?_).trans hpb) om ⟨λX=>?_,λX=>?_,hpn.2.2⟩ om
   ·rw[nh a,AO,cu,<-sR]
    grind
   ·grind
   ·grind
   ·grind
  ·simp only[go_sem,a]
   grind
theorem R7(n:dB H0 sv h)(Q:(aF h).Nodup)(E:(h.map aP.name).Nodup)(o:PrX h)(F:∀H d iv e,qt H0 H cb gb sb sv d iv (h.map aP.name) (eG h) e->Ok (qe H) D):∀(k s:Nat) (H:Hp) (d iv:AV) (e:List (Nat×Nat)),s<=h.length->h.length-s<k->qt H0 H cb gb sb sv d iv ((h.take s).map aP.name) (dM h s) e -> Ok (Cd O qe (.ptr cb 0) sv (iN (h.length)) k (iN s) H) D
 |0,s,_,_,_,_,_,X,_=>om
 |k+1,s,H,d,iv,e,hs,hk,hI=>by
  show Ok (Kr O _ _ _ _ (Cd O _ _ _ _ k) _ H) D;unfold Kr;have hn:=o.n;by_cases a:s<h.length
  ·simp only[go_sem,a];unfold Z9;have p:=n.fm hI.fm;obtain⟨b1,J,V,e2,_,K,_⟩:=p.rs.at' s a;unfold yR SS.v at K;have I:=sx a;obtain⟨J,W,Y,L⟩:=hI.o;have e0:=hI.blk;have b:h[s].name∉(h.take s).map aP.name:=by
    have G:=SK E (i:=s) (by simpa using a);simp_all
   have v:Fm No H ((aH H (aB 0 [zS,.aA])).put H.nx (aB 0 [.str h[s].name.n h[s].name.a,h[s].rv])):=by exact zL
   have l:vO ((aH H (aB 0 [zS,.aA])).put H.nx (aB 0 [.str h[s].name.n h[s].name.a,h[s].rv])) gb ((h.take s).map aP.name):=hI.ms.eq (v.keep om);have S:=l.miss (iN 0) h[s].name b;have w:=(v.keep L).trans e0;have y:mX ⟨bH,none⟩ (iN 0) false ⟨((aH H (aB 0 [zS,.aA])).put H.nx (aB 0 [.str h[s].name.n h[s].name.a,h[s].rv])).t,H.nx+1⟩ (.map gb) (.str h[s].name.n h[s].name.a)=.val (iN 0):=S;refine jF V K w y ?_;obtain⟨Z,eu,M⟩:=l.put h[s].name b;refine Ok.vH eu ?_;have z:=n.sp _ I;have j:=z.len;have A:=(o.r _ I).1;refine dI j ?_;rw[dD];generalize f:((aH H (aB 0 [zS,.aA])).put H.nx (aB 0 [.str h[s].name.n h[s].name.a,h[s].rv])).put gb Z=H2 at M;have n2:H2.nx=H.nx+1:=by rw[<-f];rfl
   have m:∀c,c<H.nx->c≠gb->H2.get c=H.get c:=λc p G=>by rw[<-f,jR _ _ _ _ G];exact v.keep p
   have B:H2.get H.nx=aB 0 [.str h[s].name.n h[s].name.a,h[s].rv]:=by rw[<-f,jR _ _ _ _ om];exact gX _ _ _
   have C:qt H0 H2 cb gb sb sv d iv ((h.take s).map aP.name++[h[s].name]) (dM h s++(h[s].gs.take 0).map λx=>(h[s].name,x)) e:=by
    rw[ry,List.map_nil,DN];refine⟨(m cb L om).trans e0,M,hI.mn.eq (m sb om om),hI.a.keep om λc g j=>m c j ?_,hI.i.keep om λc g j=>m c j ?_,hI.len,hI.pt,⟨J,W,Y,om⟩,hI.an,hI.inn,?_⟩
    ·have:=(hI.an c g).1;omega
    ·have:=hI.inn c g;omega
    ·exact⟨by have:=hI.fm.nx;omega,λc g _=>(m c (AE g hI.fm.nx) om).trans (hI.fm.keep g)⟩
   refine R8 n Q o.len a A (Hb:=H2) (λN r t u P R=>?_) bT 0 H2 d iv e (vy _) lf C B om ⟨λX=>?_,λX=>?_,om⟩ (AF _)
   ·unfold JT;refine aS ?_;refine R7 n Q E o F k (s+1) N r t u om om ?_;have T:dM h (s+1)=dM h s++h[s].gs.map λx=>(h[s].name,x):=by
     unfold dM eG;rw[nh a,nt,AJ]
    rw[nh a,AO,cu,T];exact P
   ·have:=hI.a.lt X;omega
   ·have:=hI.i.lt X;omega
  ·simp only[go_sem,a];have U:s=h.length:=om;rw[U,aj]at hI;refine F H d iv e ?_;have:dM h h.length=eG h:=by unfold dM;rw[aj]
   simp_all
structure zO(H:Hp)(ib:Nat)(sv:AV)(X:List aP):Prop where
 ex:∃mb nb av iv qs,H.get ib=aB 0 [sv,.map mb,.map nb,av,iv]/\vO H mb (X.map aP.name)/\jG H nb (aF X)/\Rs 1 DU H av qs/\Rs 1 DT H iv (eG X)/\wW av=true/\wW iv=true/\qs.length=(eG X).length /\
  (∀i (h:i<qs.length) (h':i<(eG X).length),PtR H qs[i] (eG X)[i].2)/\mb<H.nx/\nb<H.nx
 lt:ib<H.nx
theorem zO.fm(h:zO H N sv X)(f:Fm No H H'):zO H' N sv X:=by obtain⟨mb,nb,d,iv,e,g,j,k,l,m,n,o,p,q,l1,c⟩:=h.ex;exact⟨⟨mb,nb,d,iv,e,(f.keep h.lt).trans g,j.eq (f.keep l1),k.eq (f.keep c),l.fm f,m.fm f,n,o,p,λi a b=>(q i a b).fm f,AE l1 f.nx,AE c f.nx⟩,AE h.lt f.nx⟩
attribute [grind .] zO.fm
theorem zlo(q:SS×bA):(DT q).length=1:=rfl
theorem Po{k:Nat}(o:1<=k)(l:dB H sv X)(m:PrX X)(p:(aF X).Nodup)(q:(X.map aP.name).Nodup):Ok (C k (.f 236) [.agg [sv]] H) λr H'=>∃ib,r=.ptr ib 0/\zO H' ib sv X/\Fm No H H':=by
 obtain⟨j,rfl⟩:=aO o;rw[lk (zr9 ..)];unfold Xm;have n:=l.rs.len;have y:=m.n;have e:vJ sv=some [sv]:=by cases sv<;>first|rfl|(exfalso;revert n;exact λh=>by cases h)
 have f:∀b,vJ (.map b)=some [.map b]:=λb=>rfl;refine gW e n f ?_;rw[dD];generalize g:aH (aH (aH (aH H (aB 0 [sv])) (.map [] 0)) (.map [] 0)) (aB 0 [sv,.map (H.nx+1),.map (H.nx+1+1),.aA,.aA])=H1;have u:Fm No H H1:=by rw[<-g];exact fP4
 have z:H1.nx=H.nx+4:=om;have v:H1.get (H.nx+1)=.map [] 0:=om;have k2:H1.get (H.nx+1+1)=.map [] 0:=om;have k3:H1.get (H.nx+1+1+1)=aB 0 [sv,.map (H.nx+1),.map (H.nx+1+1),.aA,.aA]:=om;have A:∀c,¬In AV.aA c:=λc h=>by obtain⟨_,_,_,_,h⟩:=h;cases h
 refine R7 l p q m (λx s iv t d=>?_) bT 0 H1 .aA .aA [] om lf ⟨k3,kY.nil _ _ v,kY.nil _ _ k2,Gl.nil 1 _,Gl.nil 1 _,rfl,om,om,om,om,u⟩;obtain⟨B,D,E,w⟩:=d.o;refine Ok.ret ⟨_,rfl,⟨⟨_,_,s,iv,t,d.blk,d.ms,?_,d.a.rs HO,d.i.rs zlo,Gl.flat d.a,Gl.flat d.i,d.len,λi a b=>(d.pt i a b).fm d.fm,om,om⟩,w⟩,d.fm⟩;have:=d.mn;rw[vC]at this
 grind
structure bV(X:List aP):Prop where
 pr:PrX X
 al:(aF X).Nodup
 sp:(X.map aP.name).Nodup
 ty:∀g∈X,∀x∈g.gs,x.r.types.Nodup/\∀t∈x.r.types,t.sp∈X.map aP.name/\(t.rl=sE\/(t.sp,t.rl)∈aF X)
 nd:∀g∈X,∀x∈g.gs,∀y∈x.r.rule.nodes false,(y.k=2\/y.k=3->(g.name,y.rl)∈aF X)/\(y.k=3->iK X g.name y.rl y.to≠[])
 us:∀g∈X,∀x∈g.gs,((x.r.rule.nodes false).any (λn=>decide (n.k=1))=true->x.r.types≠[])/\((x.r.rule.nodes false).any (λn=>decide (n.k=1))=false->x.r.types≠[]->(g.gs.any λz=>gU z.r.rule 3 x.r.name)=true)
theorem qgs:(J,I)∈eG X↔∃g∈X,I∈g.gs/\g.name=J:=by
 unfold eG
 grind
theorem qes:(J,M)∈aF X↔∃g∈X,∃x∈g.gs,g.name=J/\x.r.name=M:=by
 rw[<-vC,lEA];constructor
 ·rintro ⟨⟨f,x⟩,h,e⟩;injection e with e1 e2;subst e1;obtain⟨g,c,d,e⟩:=qgs.1 h
  grind
 ·rintro ⟨g,c,x,d,rfl,rfl⟩;exact⟨(g.name,x),qgs.2 ⟨g,c,d,rfl⟩,rfl⟩
theorem Mk{α:Type}{f:α->β}:∀{l:List α},(l.map f).Nodup->∀{x y:α},x∈l->y∈l->f x=f y->x=y
 | [],_,_,_,h,_,_=>by cases h
 |a::l,hn,x,y,hx,hy,e=>by
  rw[og,lOI]at hn;rcases lE4.1 hx with c|c
  ·rcases lE4.1 hy with b|b
   ·rw[c,b]
   ·exact absurd (by rw[<-c,e];exact ik b) hn.1
  ·rcases lE4.1 hy with b|b
   ·simp_all
   ·exact Mk hn.2 c b e
theorem Mw[DecidableEq β]{l:List β}(h:l.Nodup)(a:i<l.length):(l.findIdx λq=>decide (q=l[i]))=i:=by rw[List.findIdx_eq a];refine⟨g3,λj b=>?_⟩;have:=lEL.1 h j i om a b;simp_all
theorem li(f:(aF X).Nodup)(j:(X.map aP.name).Nodup)(h:(J,M)∈aF X):∃x,kQ X J M=some x/\(eG X)[dA X J M]? =some (J,x):=by
 obtain⟨g,o,x,w,rfl,rfl⟩:=qes.1 h;have r:X.find? (λp=>decide (p.name=g.name))=some g:=by
  cases d:X.find? (λp=>decide (p.name=g.name))with
  |none=>
   grind
  |some p=>
   have e:p.name=g.name:=by simpa using yx d
   rw[Mk j (gy d) o e]
 obtain⟨y,m⟩:∃y,g.gs.find? (λz=>decide (z.r.name=x.r.name))=some y:=by
  cases d:g.gs.find? (λz=>decide (z.r.name=x.r.name))with
  |none=>
   rw[List.find?_eq_none]at d
   grind
  |some y=>exact⟨y,rfl⟩
 have k:kQ X g.name x.r.name=some y:=by unfold kQ;rw[r];exact m
 have s:y.r.name=x.r.name:=by simpa using yx m
 refine⟨y,k,?_⟩;have t:(g.name,y)∈eG X:=qgs.2 ⟨g,o,gy m,rfl⟩;obtain⟨n,q,e⟩:=ku t;have u:(eG X).length=(aF X).length:=by rw[<-vC,vu]
 have v:(aF X)[n]'om=(g.name,x.r.name):=by
  have c:(aF X)[n]? =some (kq (eG X)[n]):=by rw[<-vC,AS,j0 q];rfl
  rw[j0 om]at c;injection c with c;rw[c,e];show(g.name,y.r.name)=_;rw[s]
 have l:dA X g.name x.r.name=n:=by have:=Mw f (i:=n) om;rw[v]at this;exact this
 rw[l,j0 q,e]
theorem E9(c:(aF X).Nodup)(d:(X.map aP.name).Nodup)(a b:SS):(kQ X a b).isSome=decide ((a,b)∈aF X):=by
 by_cases h:(a,b)∈aF X
 ·obtain⟨x,k,_⟩:=li c d h;simp_all
 ·rw[sT h];cases j:kQ X a b with
  |none=>rfl
  |some x=>obtain⟨p,e,f,g,i⟩:=cL j;exact absurd (qes.2 ⟨p,e,x,f,g,i⟩) h
theorem zvk(a b:Nat):eN (.ptr a b) .bQ=some false:=id rfl
theorem zvl:eN .bQ .bQ=some true:=id rfl
theorem Al(n b:Bool):iQ n (some b)=.val (.bool (bif n then !b else b)):=id rfl
attribute [go_sem] zvk zvl Al
theorem xc{k:Nat}(l:1<=k)(m:zO H N sv X)(d:(aF X).Nodup)(e:(X.map aP.name).Nodup)(h:(J,M)∈aF X):∃q x,kQ X J M=some x/\C k (.f 237) [.ptr N 0,.str J.n J.a,.str M.n M.a] H=.ok (.ptr q.1 q.2) H/\PtR H q x:=by
 obtain⟨j,rfl⟩:=aO l;obtain⟨x,s,A⟩:=li d e h;obtain⟨mb,nb,B,iv,c,i,D,t,u,E,F,G,I,a,l1,K⟩:=m.ex;have n:=uD h;have o:(eG X).length=(aF X).length:=by rw[<-vC,vu]
 have p:dA X J M<c.length:=om;obtain⟨v,w,y,L,_,_,z⟩:=u.at' _ p;have r:cB (H.get v) w=.val (.ptr c[dA X J M].1 c[dA X J M].2):=z 0 (by rw[HO];omega);refine⟨c[dA X J M],x,s,?_,?_⟩
 ·rw[lk (Ri ..)];unfold PB;have g:=t.find (iN 0) J M h;have f:(List.findIdx (λq=>decide (q=(J,M))) (aF X))=dA X J M:=rfl;rw[f]at g;refine dS i g ?_;unfold ZF;simp only[go_sem,i,y,r]
 ·grind
theorem zwm{k:Nat}(c:1<=k)(d:zO H N sv X)(h:(J,M)∉aF X):C k (.f 237) [.ptr N 0,.str J.n J.a,.str M.n M.a] H=.ok .bQ H:=by obtain⟨j,rfl⟩:=aO c;obtain⟨mb,nb,i,iv,l,f,m,g,n,o,p,q,r,s,l1,t⟩:=d.ex;rw[lk (Ri ..)];unfold PB;have e:=g.miss (iN 0) J M h;simp(disch:=go_size)only[go_sem,seval,f,e]
theorem MM(m:1<=j)(r:zO H0 N sv h)(b:(aF h).Nodup)(c:(h.map aP.name).Nodup)(s:Rs 2 tC H0 nv ts)(f:ts.length<=1000)(to:SS)(B:∀w H,Ac 1 sC H0 H w (fZ h to ts)->Ok (qr w H) D):∀(k i:Nat) (w:AV) (H:Hp),i<=ts.length->ts.length-i<k->Ac 1 sC H0 H w (fZ h to (ts.take i)) -> Ok (CO (C j) qr (.ptr N 0) to.v nv (iN (ts.length)) k w (iN i) H) D
 |0,i,_,_,_,X,_=>om
 |k+1,i,w,H,hi,hk,hw=>by
  show Ok (ZE (C j) _ _ _ _ _ (CO (C j) _ _ _ _ _ k) _ _ H) D;unfold ZE;by_cases d:i<ts.length
  ·simp only[go_sem,d];unfold Ot;have t:=s.fm hw.fm;obtain⟨J,K,A,L,_,o,_⟩:=t.at' i d;unfold tC SS.v at o;have u:=RQ h to d;have v:=HY h to (ts.take i);rw[sY]at v;have a:∀n,Fm No H n->jw h to ts[i]=false->Ok (cY (C j) (CO (C j) qr (.ptr N 0) (.str to.n to.a) nv (iN (ts.length)) k) w (iN i) n) D:=λn I X=>by
    unfold cY;refine aS ?_;refine MM m r b c s f to B k (i+1) w n om om ?_
    grind
   have Q:Fm No H ((aH H (aB 0 [zS,zS])).put H.nx (aB 0 [.str ts[i].sp.n ts[i].sp.a,.str ts[i].rl.n ts[i].rl.a])):=om;have g:=(r.fm hw.fm).fm Q;unfold SS.v;unfold jw at a u;by_cases p:ts[i].rl.n=0/\ts[i].rl.a=0
   ·have y:ts[i].rl=sE:=(pE _ _).2 p;have l:=ae p;rw[j7 y,E9 b c]at a u;by_cases e:(ts[i].sp,to)∈aF h
    ·obtain⟨M,x,_,z,_⟩:=xc (k:=j) m g b c e;rw[j7 e]at u;refine jF A o l z ?_;refine Ok.ve ((hw.no om).add ts[i].sp 16 rfl om om) ?_;intro E F G;unfold cY;refine aS ?_;refine MM m r b c s f to B k (i+1) E F om om ?_;simp_all
    ·have z:=zwm (k:=j) m g e;refine jF A o l z ?_;simp_all
   ·rw[sT (λX=>p ((pE _ _).1 X))]at a;refine gW A o p ?_;simp_all
  ·simp only[go_sem,d]
   grind
theorem zwt{k:Nat}(a:1<=k)(h:Gl 1 H nv n l):∃w,C k (.f 194) [nv] H=.ok w H/\Gl 1 H w n l/\(∀b,In w b->In nv b):=by obtain⟨j,rfl⟩:=aO a;obtain⟨w,e,c,f,d⟩:=h.clip;refine⟨w,?_,c,d⟩;rw[lk (Q5 ..)];unfold jm;simp only[go_sem,h.bF,e]
theorem Td{k:Nat}(t:2<=k)(u:dB H sv X)(v:sO X)(n:zO H N sv X)(d:(aF X).Nodup)(f:(X.map aP.name).Nodup)(a b to:SS)(l:(a,b)∈aF X):Ok (C k (.f 238) [.ptr N 0,.str a.n a.a,.str b.n b.a,.str to.n to.a] H) λr H'=>Ac 1 sC H H' r (iK X a b to):=by obtain⟨j,rfl⟩:=aO t;rw[lk (zr4 ..)];unfold Xi;obtain⟨q,x,o,B,D⟩:=xc (k:=j) om n d f l;have y:=D.tv;obtain⟨p,i,s,_,_⟩:=cL o;have h:=((u.sp p i).rel x s).ty;have z:=v.t p i x s;have A:=h.len;simp only[go_sem,B,y,A];rw[dD];refine MM om n d f h om to (λw E m=>?_) bT 0 .aA H om lf (Ac.nil _ _ om);unfold Es;obtain⟨w',e,g,G⟩:=zwt (k:=j) om m.gl;simp only[go_sem,e];unfold iK;rw[o];exact Ok.ret ⟨g,m.fm,λc F=>m.nw c om⟩
theorem QR(n m i:Nat)(h:i<=m):aq n m none (some (iN i)) none=some ⟨0,i,m⟩:=by show(match(bif Nat.ble i m then some i else none)with|none=>none|some h=>match(some 0:Option Nat)with|none=>none|some l=>some (Bd.mk l h m))=_;rw[ble_eq,j7 h];rfl
theorem Rs.pre{f:β->List AV}{l:List β}(h:Rs z f H nv l)(d:nv=.aA\/∃b o n m e,nv=.sl b o n m e/\n<=m/\0<n)(s:i<l.length):∃w,kM z nv none (some (iN i)) none=.val w/\Rs z f H w (l.take i):=by
 have u:=h.len;rcases d with rfl|⟨b,o,n,m,e,rfl,q⟩
 ·exfalso;have:l.length=0:=by
   have k:aD .aA=R0.val (iN 0):=rfl
   grind
  omega
 ·have p:n=l.length:=by
   have k:aD (.sl b o n m e)=R0.val (iN n):=rfl
   grind
  subst p;have x:kM z (.sl b o l.length m e) none (some (iN i)) none=jJ b o z ⟨0,i,m⟩ e:=by show(match aq l.length m none (some (iN i)) none with|some bd=>jJ b o z bd e|none=>R0.bad)=_;rw[QR _ _ _ om]
  have y:jJ b o z ⟨0,i,m⟩ e=.val (.sl b o i m e):=by
   unfold jJ;simp only[beq_eq]
   grind
  refine⟨.sl b o i m e,om,?_,λj g=>?_⟩
  ·rw[sY,lh om];rfl
  ·have c:j<i:=by rw[sY]at g;omega
   obtain⟨A,B,a,r,C,D,E⟩:=h.at' j om;rw[sD _ _ _ _ _ _ _ _ om]at a;injection a with a;injection a with a i6;subst a i6;refine⟨b,_,sD _ _ _ _ _ _ _ _ c,r,⟨_,_,_,_,rfl⟩,?_,λm t=>?_⟩
   ·simp_all
   ·grind
def m9(t:jW):SS×SS:=(t.sp,t.rl)
theorem z1g{t u:jW}(h:m9 t=m9 u):t=u:=by injection h with h1 h2;cases t;simp_all
theorem RP(g:Rs 2 tC H nv ts)(d:ts.length<=1000){t:jW}{pb:Nat}(e:H.get pb=aB 0 [.str t.sp.n t.sp.a,.str t.rl.n t.rl.a])(m:t∉ts->Ok (qe H) D)(j:t∈ts->∀i:Nat,Ok (qr (iN i) H) D):∀(k i:Nat),i<=ts.length->ts.length-i<k->t∉ts.take i->Ok (Ei O qr qe nv (.ptr pb 0) (iN (ts.length)) k (iN i) H) D
 |0,i,_,h,_=>om
 |k+1,i,hi,hk,hn=>by
  show Ok (Od O _ _ _ _ _ (Ei O _ _ _ _ _ k) _ H) D;unfold Od;by_cases a:i<ts.length
  ·simp only[go_sem,a];unfold Oc;obtain⟨n,o,l,p,_,f,_⟩:=g.at' i a;unfold tC SS.v at f;have c:dL (eqFields [(p1,⟨bH⟩,0),(p1,⟨bH⟩,1)]) (.agg [.str t.sp.n t.sp.a,.str t.rl.n t.rl.a]) (.agg [.str ts[i].sp.n ts[i].sp.a,.str ts[i].rl.n ts[i].rl.a])=some (decide (m9 t=m9 ts[i])):=pd (m9 t) (m9 ts[i]);by_cases b:m9 t=m9 ts[i]
   ·rw[j7 b]at c;simp only[go_sem,seval,e,l,f,c];exact j (by rw[z1g b];exact sx a) i
   ·rw[sT b]at c;simp only[go_sem,seval,e,l,f,c];unfold zxs;refine aS ?_;refine RP g d e m j k (i+1) om om λh=>?_;rw[nh a,lAJ,lAK]at h;simp_all
  ·simp only[go_sem,a]
   grind
theorem SO{k:Nat}(e:2<=k)(c:Rs 2 tC H nv ts)(a:ts.length<=1000)(t:jW):Ok (C k (.f 229) [nv,.agg [.str t.sp.n t.sp.a,.str t.rl.n t.rl.a]] H) λr H'=>r=.bool (decide (t∈ts))/\Fm No H H':=by
 obtain⟨j,rfl⟩:∃j,k=j+1+1:=⟨k-2,om⟩;rw[lk (zrh ..)];unfold WW;refine aS ?_;rw[lk (zrb ..)];unfold WQ;have d:=c.len;simp only[go_sem,d];have f:Fm No H (aH (aH H (aB 0 [.str t.sp.n t.sp.a,.str t.rl.n t.rl.a])) (aB 0 [.str t.sp.n t.sp.a,.str t.rl.n t.rl.a])):=om;rw[dD];refine Ok.ve (R:=λr H'=>((t∉ts/\r=.int .i64 (.negSucc 0))\/(t∈ts/\∃i:Nat,r=iN i))/\Fm No H H') (RP om a (t:=t) (pb:=H.nx+1) om (λh=>?_) (λh i=>Ok.ret ⟨om,f⟩) bT 0 om lf om) ?_
 ·unfold rF;exact Ok.ret ⟨om,f⟩
 ·rintro _ g ⟨⟨h,rfl⟩|⟨h,i,rfl⟩,b⟩
  ·simp only[go_sem];exact Ok.ret ⟨om,b⟩
  ·simp only[go_sem];exact Ok.ret ⟨om,b⟩
theorem q09(b:2<=N)(c:Rs 2 tC H nv ts)(a:ts.length<=1000){t:jW}(d:t∉ts):Ok (C N (.f 229) [nv,.agg [.str t.sp.n t.sp.a,.str t.rl.n t.rl.a]] H) λr H'=>r=.bool false/\Fm No H H':=
 (SO b c a t).mono om
theorem Sm(G:2<=j)(x:zO Hb cb sv h)(o:bV h)(e:PtR Hb R I)(f:oI Hb I)(p:I.r.types.length<=8)(g:I.r.types.Nodup)(l:∀t∈I.r.types,t.sp∈h.map aP.name/\(t.rl=sE\/(t.sp,t.rl)∈aF h))(d:∀H,Fm No Hb H->Ok (qe H) D):∀(k i:Nat) (H:Hp),i<=I.r.types.length->I.r.types.length-i<k->Fm No Hb H->Ok (zc (C j) qr qe (.ptr cb 0) (.ptr R.1 R.2) I.tv (iN (I.r.types.length)) k (iN i) H) D
 |0,i,_,_,X,_=>om
 |k+1,i,H,hi,hk,hf=>by
  show Ok (ZO (C j) _ _ _ _ _ _ (zc (C j) _ _ _ _ _ _ k) _ H) D;unfold ZO;by_cases b:i<I.r.types.length
  ·simp only[go_sem,b];rw[kE FD];unfold FD;have J:=f.fm hf;obtain⟨T,U,N,V,_,E,_⟩:=J.ty.at' i b;unfold tC SS.v at E;have u:=x.fm hf;have K:=l _ (sx b);have v:Fm No H ((aH H (aB 0 [zS,zS])).put H.nx (aB 0 [.str I.r.types[i].sp.n I.r.types[i].sp.a,.str I.r.types[i].rl.n I.r.types[i].rl.a])):=by exact zL
   have m:=u.fm v;obtain⟨mb,nb,W,iv,Y,g1,g2,g3,_⟩:=m.ex;have L:mX ⟨bH,none⟩ (iN 0) false ⟨((aH H (aB 0 [zS,zS])).put H.nx (aB 0 [.str I.r.types[i].sp.n I.r.types[i].sp.a,.str I.r.types[i].rl.n I.r.types[i].rl.a])).t,H.nx+1⟩ (.map mb) (.str I.r.types[i].sp.n I.r.types[i].sp.a)=.val (iN 1):=g2.find _ _ K.1;have z:=(e.fm hf).fm v;have M:=z.tv;have n:=J.fm v;obtain⟨w,O,Z⟩:=n.ty.pre n.tc b;have c:∀a,Fm No ((aH H (aB 0 [zS,zS])).put H.nx (aB 0 [.str I.r.types[i].sp.n I.r.types[i].sp.a,.str I.r.types[i].rl.n I.r.types[i].rl.a])) a->Ok (C j (.f 229) [w,.agg [.str I.r.types[i].sp.n I.r.types[i].sp.a,.str I.r.types[i].rl.n I.r.types[i].rl.a]] a) λr H'=>r=.bool false/\Fm No a H':=λa s=>
    q09 G om om (t:=I.r.types[i]) (SK g b)
   have fin:∀a,Fm No H a->Ok (kA jg (C j) (zc (C j) qr qe (.ptr cb 0) (.ptr R.1 R.2) I.tv (iN (I.r.types.length)) k) (iN i) a) D:=λa s=>by rw[kE jg];unfold jg;refine aS ?_;exact Sm G x o e f p g l d k (i+1) a om om om
   by_cases F:I.r.types[i].rl.n=0/\I.r.types[i].rl.a=0
   ·have A:=ae F;refine dG N E g1 L A M O ?_;refine Ok.iC (c _ om) ?_;rintro _ a ⟨rfl,s⟩;simp only[go_sem];exact fin a om
   ·have B:(I.r.types[i].sp,I.r.types[i].rl)∈aF h:=by
     rcases K.2 with X|X
     ·exact absurd ((pE _ _).1 X) F
     ·exact X
    obtain⟨P,y,_,S,_⟩:=xc (k:=j) om m o.al o.sp B;have Q:C j (.f 237) [.ptr cb 0,.str I.r.types[i].sp.n I.r.types[i].sp.a,.str I.r.types[i].rl.n I.r.types[i].rl.a] ⟨((aH H (aB 0 [zS,zS])).put H.nx (aB 0 [.str I.r.types[i].sp.n I.r.types[i].sp.a,.str I.r.types[i].rl.n I.r.types[i].rl.a])).t,H.nx+1⟩=.ok (.ptr P.1 P.2) ((aH H (aB 0 [zS,zS])).put H.nx (aB 0 [.str I.r.types[i].sp.n I.r.types[i].sp.a,.str I.r.types[i].rl.n I.r.types[i].rl.a])):=S;simp(disch:=first|go_size|omega)only[go_sem,seval,N,E,g1,L,F,Q,M,O];refine Ok.iC (c _ om) ?_;rintro _ a ⟨rfl,s⟩;simp only[go_sem];exact fin a om
  ·simp only[go_sem,b]
   grind
theorem zoi{k:Nat}(g:3<=k)(h:zO H N sv X)(i:bV X)(a:PtR H R I)(b:oI H I)(d:I.r.types.length<=8)(e:I.r.types.Nodup)(f:∀t∈I.r.types,t.sp∈X.map aP.name/\(t.rl=sE\/(t.sp,t.rl)∈aF X)):Ok (C k (.f 293) [.ptr N 0,.ptr R.1 R.2] H) λr H'=>r=iN 0/\Fm No H H':=by obtain⟨j,rfl⟩:=aO g;rw[lk (zrm ..)];unfold W1;have m:=a.tv;have n:=b.ty.len;simp only[go_sem,m,n];rw[dD];refine Sm om h i a b d e f (λo l=>?_) bT 0 H om lf om;rw[kE kJ];exact Ok.ret ⟨rfl,l⟩
theorem zv3(nm n a:Nat):lM nm (.str n a)=.new (.ptr nm 0) (aB 0 [.str n a]):=id rfl
theorem zv4(nm n a:Nat):lM nm (.ptr n a)=.new (.ptr nm 0) (aB 0 [.ptr n a]):=id rfl
attribute [go_sem] zv3 zv4
theorem LW(G:2<=j)(r:dB Hb sv h)(t:zO Hb cb sv h)(c:bV h)(s:SS)(v:Rs 5 lD Hb nv F)(f:F.length<=1000)(d:∀y∈F,(y.1.k=2\/y.1.k=3->(s,y.1.rl)∈aF h)/\(y.1.k=3->iK h s y.1.rl y.1.to≠[])){q:pD}{qr:AV->pD}(w:∀H,Fm No Hb H->Ok (q (.bool (F.any λy=>decide (y.1.k=1))) H) D):∀(k i:Nat) (u:Bool) (H:Hp),i<=F.length->F.length-i<k->Fm No Hb H->u=((F.take i).any λy=>decide (y.1.k=1))->Ok (CM (C j) qr q (.ptr cb 0) (.str s.n s.a) nv (iN (F.length)) k (.bool u) (iN i) H) D
 |0,i,_,_,_,X,_,_=>om
 |k+1,i,u,H,hi,hk,hf,hu=>by
  show Ok (ZL (C j) _ _ _ _ _ _ (CM (C j) _ _ _ _ _ _ k) _ _ H) D;unfold ZL;by_cases b:i<F.length
  ·simp only[go_sem,b];unfold Ov;have K:=v.fm hf;obtain⟨S,T,l,U,_,p,_⟩:=K.at' i b;unfold lD SS.v at p;have z:=d _ (sx b);have m:Fm No H ((aH H (aB 0 [uN 0,zS,zS,.aA,.bool false])).put H.nx (aB 0 [uN (F[i].1.k),.str F[i].1.rl.n F[i].1.rl.a,.str F[i].1.to.n F[i].1.to.a,F[i].2,.bool F[i].1.neg])):=by exact zL
   obtain⟨H1,a⟩:∃H1,H1=(aH H (aB 0 [uN 0,zS,zS,.aA,.bool false])).put H.nx (aB 0 [uN (F[i].1.k),.str F[i].1.rl.n F[i].1.rl.a,.str F[i].1.to.n F[i].1.to.a,F[i].2,.bool F[i].1.neg]):=⟨_,rfl⟩;rw[<-a]at m;have pb:H1.get H.nx=aB 0 [uN (F[i].1.k),.str F[i].1.rl.n F[i].1.rl.a,.str F[i].1.to.n F[i].1.to.a,F[i].2,.bool F[i].1.neg]:=by rw[a];exact gX _ _ _
   have L:H.nx<H1.nx:=by rw[a];simp only[np,nq];omega
   have e:=(t.fm hf).fm m;have I:((F.take (i+1)).any λy=>decide (y.1.k=1))=(((F.take i).any λy=>decide (y.1.k=1))||decide (F[i].1.k=1)):=by rw[nh b,pg];simp
   have fin:∀g,Fm No H1 g->Ok (J4 (C j) (CM (C j) qr q (.ptr cb 0) (.str s.n s.a) nv (iN (F.length)) k) (.bool u) (.ptr H.nx 0) (iN i) g) D:=λg x=>by
    unfold J4;have M:=(x.keep L).trans pb;cases u with
    |true=>unfold pf;refine aS ?_;exact LW G r t c s v f d w k (i+1) true g om om (hf.trans (m.trans x)) (by rw[I,<-hu];rfl)
    |false=>simp only[go_sem,M];unfold pf;refine aS ?_;exact LW G r t c s v f d w k (i+1) _ g om om (hf.trans (m.trans x)) (by rw[I,<-hu];rfl)
   by_cases q2:F[i].1.k=2
   ·have A:=ae q2;obtain⟨P,y,_,o,_⟩:=xc (k:=j) om e c.al c.sp (z.1 (.inl q2));have q3:¬F[i].1.k=3:=om;rw[a]at o;refine lW l p A q3 o ?_;rw[<-a];exact fin H1 (Fm.refl _ _)
   ·by_cases q3:F[i].1.k=3
    ·have B:=ae q3;have n:=z.1 (.inr q3);obtain⟨P,y,_,o,_⟩:=xc (k:=j) om e c.al c.sp n;have N:=Td (k:=j) om ((r.fm hf).fm m) c.pr.sml e c.al c.sp s F[i].1.rl F[i].1.to n;rw[a]at o;refine lW l p B q2 o ?_;rw[<-a];refine Ok.ve N ?_;intro tv R J;have Q:=J.bF;have E:¬(iK h s F[i].1.rl F[i].1.to).length=0:=λX=>z.2 q3 (lE5.1 X);simp only[go_sem,Q,E];exact fin R J.fm
    ·refine jF l p q2 q3 ?_;rw[<-a];exact fin H1 (Fm.refl _ _)
  ·simp only[go_sem,b];have O:i=F.length:=om;rw[O,aj]at hu;rw[hu];exact w H hf
theorem zwl{k:Nat}(e:3<=k)(f:dB H sv X)(g:zO H N sv X)(h:bV X)(s:SS)(d:Rs 5 lD H nv F)(a:F.length<=1000)(b:∀y∈F,(y.1.k=2\/y.1.k=3->(s,y.1.rl)∈aF X)/\(y.1.k=3->iK X s y.1.rl y.1.to≠[])):Ok (C k (.f 295) [.ptr N 0,.str s.n s.a,nv] H) λr H'=>r=.aX [.bool (F.any λy=>decide (y.1.k=1)),iN 0]/\Fm No H H':=by obtain⟨j,rfl⟩:=aO e;rw[lk (zrl ..)];unfold W0;have c:=d.len;simp only[go_sem,c];rw[dD];refine LW om f g h s d a b (λm i=>?_) bT 0 false H om lf om rfl;exact Ok.ret ⟨rfl,i⟩
theorem SC{Hb:Hp}{j:Nat}{sb:Nat}{nv:AV}{qr:pD}{D:pL}{F:List (Nd×AV)}{J:SS}{qe:pH}(u:1<=j)(p:Rs 5 lD Hb nv F)(n:F.length<=1000)(r:Hb.get sb=aB 0 [.str J.n J.a])(b:sb<Hb.nx)(v:∀i H,F.any (λy=>iJ 3 J y.1)=true->Fm No Hb H->Ok (qr (iN i) H) D)(w:∀H,F.any (λy=>iJ 3 J y.1)=false->Fm No Hb H->Ok (qe H) D):∀(k i:Nat) (H:Hp),i<=F.length->F.length-i<k->Fm No Hb H->(F.take i).any (λy=>iJ 3 J y.1)=false->Ok (CL (C j) qr qe nv (.fn 314 [] [.ptr sb 0]) (iN (F.length)) k (iN i) H) D
 |0,i,_,_,h,_,_=>om
 |k+1,i,H,hi,hk,hf,hn=>by
  show Ok (Zi (C j) _ _ _ _ _ (CL (C j) _ _ _ _ _ k) _ H) D;unfold Zi;obtain⟨m,rfl⟩:∃m,j=m+1:=⟨j-1,om⟩;by_cases a:i<F.length
  ·simp only[go_sem,a];unfold zxq;have x:=p.fm hf;obtain⟨E,l,B,G,_,t,_⟩:=x.at' i a;unfold lD SS.v at t;have c:=(hf.keep b).trans r;have z:=hf.nx;simp only[go_sem,B,t];rw[lk (zra ..)];unfold WP;have Q:Fm No H (aH H (aB 0 [uN (F[i].1.k),.str F[i].1.rl.n F[i].1.rl.a,.str F[i].1.to.n F[i].1.to.a,F[i].2,.bool F[i].1.neg])):=by exact fh
   have A:(F.take (i+1)).any (λy=>iJ 3 J y.1)=iJ 3 J F[i].1:=by rw[nh a,pg,hn];simp
   have d:iJ 3 J F[i].1=false->Ok (lC (C (m+1)) (CL (C (m+1)) qr qe nv (.fn 314 [] [.ptr sb 0]) (iN (F.length)) k) (iN i) (aH H (aB 0 [uN (F[i].1.k),.str F[i].1.rl.n F[i].1.rl.a,.str F[i].1.to.n F[i].1.to.a,F[i].2,.bool F[i].1.neg]))) D:=λf=>by unfold lC;refine aS ?_;exact SC u p n r b v w k (i+1) _ om om om om
   by_cases q3:F[i].1.k=3
   ·have e:=ae q3;by_cases g:F[i].1.rl.n=J.n/\F[i].1.rl.a=J.a
    ·have o:=ae g;have f:iJ 3 J F[i].1=true:=by unfold iJ;rw[j7 q3,j7 ((pE _ _).2 g)];rfl
     refine gW e c o ?_
     grind
    ·have f:iJ 3 J F[i].1=false:=by unfold iJ;rw[sT (λh=>g ((pE _ _).1 h))];simp
     refine gW e c g ?_;exact d f
   ·have f:iJ 3 J F[i].1=false:=by unfold iJ;rw[sT q3];simp
    refine dI q3 ?_
    grind
  ·simp only[go_sem,a]
   grind
theorem q1b{k:Nat}(n:3<=k)(d:Rs 5 lD H nv F)(a:F.length<=1000){s:SS}(m:H.get sb=aB 0 [.str s.n s.a])(b:sb<H.nx):Ok (C k (.f 313) [nv,.fn 314 [] [.ptr sb 0]] H) λr H'=>r=.bool (F.any λy=>iJ 3 s y.1)/\Fm No H H':=by
 obtain⟨j,rfl⟩:∃j,k=j+1+1:=⟨k-2,om⟩;rw[lk (zq9 ..)];unfold WO;simp only[go_sem];rw[lk (zq5 ..)];unfold WL;have c:=d.len;simp only[go_sem,c];rw[dD];refine Ok.ve (R:=λr H'=>Fm No H H'/\((F.any (λy=>iJ 3 s y.1)=true/\∃i,r=iN i)\/(F.any (λy=>iJ 3 s y.1)=false/\r=.int .i64 (.negSucc 0)))) (SC om d a m b (λi e h f=>Ok.ret ⟨f,om⟩) (λe h f=>?_) bT 0 H om lf om rfl) ?_
 ·unfold rF;exact Ok.ret ⟨f,om⟩
 ·rintro r e ⟨g,⟨h,i,rfl⟩|⟨h,rfl⟩⟩
  ·simp only[go_sem,vy];exact Ok.ret ⟨om,g⟩
  ·simp only[go_sem];exact Ok.ret ⟨om,g⟩
theorem x9(h:oI H I):∃c0 b c d,I.cs=[c0,b,c,d]/\iL I=[.str I.r.name.n I.r.name.a,I.tv,c0,b,c,d]:=by obtain⟨c0,b,c,d,a⟩:=h.ru.four;exact⟨c0,b,c,d,a,by unfold iL;rw[a];rfl⟩
theorem zn6(m:iO C)(n:14<=N)(e:oI H I)(g:I.r.rule.Rt)(o:H.get sb=aB 0 [.str J.n J.a])(a:sb<H.nx):Ok (C N (.f 312) [.agg (iL I),.ptr sb 0] H) λr H'=>r=.bool (gU I.r.rule 3 J)/\Fm No H H':=by
 obtain⟨j,rfl⟩:=aO n;rw[lk (zrg ..)];unfold WV;obtain⟨c0,q,t,u,c,d⟩:=x9 e;rw[d];have f:Fm No H (aH H (aB 0 [.str I.r.name.n I.r.name.a,I.tv,c0,q,t,u])):=by exact fh
 have h:=e.ru.fm f;rw[c]at h;refine aS ?_;refine Ok.ve (Mu m (k:=j) om h g) ?_;rintro _ w ⟨nv,l,rfl,b,i⟩;have p:l.length<=32:=by have:=congrArg List.length i;simp only[vu,ep]at this;have:=g.sz;omega
 refine Ok.ve (q1b (k:=j) om (b.rs sG) om (s:=J) ((b.fm.keep (show sb<(aH H _).nx by simp only[np,nq];omega)).trans ((f.keep a).trans o)) (AE a (AL f.nx b.fm.nx))) ?_;rintro _ y ⟨rfl,v⟩;refine Ok.ret ⟨?_,f.trans (b.fm.trans v)⟩;unfold gU;rw[<-i,uq];rfl
theorem RK(f:iO C){j:Nat}(l:14<=j)(m:SpR Hb g)(e:g.gs.length<=16)(r:∀x∈g.gs,x.r.rule.Rt){s:SS}{sb:Nat}(n:Hb.get sb=aB 0 [.str s.n s.a])(c:sb<Hb.nx)(d:∀i H,g.gs.any (λx=>gU x.r.rule 3 s)=true->Fm No Hb H->Ok (qr (iN i) H) D)(t:∀H,g.gs.any (λx=>gU x.r.rule 3 s)=false->Fm No Hb H->Ok (qe H) D):∀(k i:Nat) (H:Hp),i<=g.gs.length->g.gs.length-i<k->Fm No Hb H->(g.gs.take i).any (λx=>gU x.r.rule 3 s)=false->Ok (Eh (C j) qr qe g.rv (.fn 312 [] [.ptr sb 0]) (iN (g.gs.length)) k (iN i) H) D
 |0,i,_,_,h,_,_=>om
 |k+1,i,H,hi,hk,hf,hn=>by
  show Ok (Zj (C j) _ _ _ _ _ (Eh (C j) _ _ _ _ _ k) _ H) D;unfold Zj;by_cases a:i<g.gs.length
  ·simp only[go_sem,a];unfold zxr;have p:=m.fm hf;obtain⟨b,o,w,_,_,_,_,y⟩:=p.at' i a;have u:=sx a;simp only[go_sem,w,y];refine Ok.ve (zn6 f l (p.rel _ u) om ((hf.keep c).trans n) om) ?_;rintro _ z ⟨rfl,A⟩;have v:(g.gs.take (i+1)).any (λx=>gU x.r.rule 3 s)=gU g.gs[i].r.rule 3 s:=by
    rw[nh a,pg,hn];simp
   cases B:gU g.gs[i].r.rule 3 s with
   |true=>exact d i _ om om
   |false=>unfold lC;refine aS ?_;exact RK f l m e r n c d t k (i+1) _ om om om om
  ·simp only[go_sem,a]
   grind
theorem zok(l:iO C){k:Nat}(n:17<=k)(e:SpR H g)(b:g.gs.length<=16)(m:∀x∈g.gs,x.r.rule.Rt)(s:SS):Ok (C k (.f 297) [.agg [.str g.name.n g.name.a,g.rv],.str s.n s.a] H) λr H'=>r=.bool (g.gs.any λx=>gU x.r.rule 3 s)/\Fm No H H':=by
 obtain⟨j,rfl⟩:∃j,k=j+1+1+1:=⟨k-3,om⟩;rw[lk (zrk ..)];unfold WZ;refine aS ?_;have f:Fm No H (aH (aH H (aB 0 [.str g.name.n g.name.a,g.rv])) (aB 0 [.str s.n s.a])):=om;rw[lk (zrf ..)];unfold WU;simp only[go_sem];rw[lk (zq8 ..)];unfold WN;have d:=e.len;simp only[go_sem,d];rw[dD];refine Ok.ve (R:=λr H'=>r=.bool (g.gs.any λx=>gU x.r.rule 3 s)/\Fm No H H') (Ok.ve (R:=λr H'=>Fm No H H'/\((g.gs.any (λx=>gU x.r.rule 3 s)=true/\∃i,r=iN i)\/(g.gs.any (λx=>gU x.r.rule 3 s)=false/\r=.int .i64 (.negSucc 0)))) (RK l (j:=j) om (e.fm f) b m (s:=s) (sb:=H.nx+1) g5 gz (λi c h a=>Ok.ret ⟨f.trans a,.inl ⟨h,i,rfl⟩⟩) (λc h a=>?_) bT 0 _ (vy _) lf (Fm.refl _ _) rfl) ?_) ?_
 ·unfold rF;exact Ok.ret ⟨om,om⟩
 ·rintro r c ⟨a,⟨h,i,rfl⟩|⟨h,rfl⟩⟩
  ·simp only[go_sem,vy];exact Ok.ret ⟨om,a⟩
  ·simp only[go_sem];exact Ok.ret ⟨om,a⟩
 ·rintro _ c ⟨rfl,a⟩;exact Ok.ret ⟨rfl,a⟩
structure RlI(H:Hp)(X:List aP)(g:aP)(x:bA)(sv:AV)(ib n A0 A1 AR A2:Nat)(q:Nat×Nat):Prop where
 sH:dB H sv X
 id:zO H ib sv X
 mem:g∈X/\x∈g.gs
 a0:H.get A0=aB 0 [.ptr ib 0]
 a1:H.get A1=aB 0 [.str g.name.n g.name.a,g.rv]
 ar:H.get AR=aB 0 [.ptr q.1 q.2]
 a2:H.get A2=aB 0 [iN n]
 lt:A0<H.nx/\A1<H.nx/\AR<H.nx/\A2<H.nx
 pt:PtR H q x
 nu:dA X g.name x.r.name=n
theorem RlI.fm(h:RlI H X g I sv N n cb b c gb R)(f:Fm No H H'):RlI H' X g I sv N n cb b c gb R:=by obtain⟨e,l1,i,l3⟩:=h.lt;have:=f.nx;exact⟨h.sH.fm f,h.id.fm f,h.mem,(f.keep e).trans h.a0,(f.keep l1).trans h.a1,(f.keep i).trans h.ar,(f.keep l3).trans h.a2,⟨om,om,om,om⟩,h.pt.fm f,h.nu⟩
attribute [grind .] RlI.fm
theorem z0o(i:1<=N)(h:RlI H X g I sv cb n b c gb sb R):C N (.f 291) [.ptr b 0,.ptr c 0,.ptr gb 0,.ptr sb 0] H=.ok (iN 0) H:=by obtain⟨j,rfl⟩:=aO i;rw[lk (zrx ..)];unfold Xb;have l:=h.a0;have m:=h.a1;have o:=h.ar;have p:=h.a2;have r:=h.pt.nm;obtain⟨mb,nb,s,iv,t,g1,g2,g3,_⟩:=h.id.ex;have f:=g3.aOC (iN 0) g.name I.r.name (qes.2 ⟨g,h.mem.1,I,h.mem.2,rfl,rfl⟩);have a:(List.findIdx (λR=>decide (R=(g.name,I.r.name))) (aF X))=n:=h.nu;rw[a]at f;refine dG l m o p r g1 f ?_;rfl
theorem z0n(e:4<=N)(h:RlI H X g I sv cb n b gb c i R)(a:bV X):Ok (C N (.f 292) [.ptr b 0,.ptr c 0] H) λr H'=>r=iN 0/\Fm No H H':=by obtain⟨j,rfl⟩:=aO e;rw[lk (zrw ..)];unfold Xa;have l:=h.a0;have m:=h.ar;simp only[go_sem,l,m];have d:=a.ty _ h.mem.1 _ h.mem.2;refine Ok.ve (zoi (k:=j) om h.id a h.pt ((h.sH.sp _ h.mem.1).rel _ h.mem.2) (a.pr.x _ h.mem.1 _ h.mem.2).1 d.1 d.2) ?_;rintro _ p ⟨rfl,o⟩;exact Ok.ret ⟨rfl,o⟩
theorem z0m(t:4<=N){w a:Nat}(h:RlI H X g I sv cb n o gb sb w R)(d:bV X)(z:Rs 5 lD H nv F)(c:F.map Prod.fst=I.r.rule.nodes false)(e:H.get b=aB 0 [nv])(f:H.get a=aB 0 [.bool neg])(i:a<H.nx):Ok (C N (.f 294) [.ptr o 0,.ptr gb 0,.ptr b 0,.ptr a 0] H) λr H'=>r=iN 0/\∃H1,Fm No H H1/\H'=H1.put a (aB 0 [.bool ((I.r.rule.nodes false).any λy=>decide (y.k=1))]):=by
 obtain⟨j,rfl⟩:=aO t;rw[lk (zrv ..)];unfold W9;have A:=h.a0;have B:=h.a1;simp only[go_sem,A,B,e];have D:F.length<=32:=by have:=congrArg List.length c;simp only[vu,ep]at this;have:=(d.pr.x _ h.mem.1 _ h.mem.2).2.2.1.sz;omega
 refine Ok.ve (zwl (k:=j) om h.sH h.id d g.name z om λy l=>?_) ?_
 ·exact d.nd _ h.mem.1 _ h.mem.2 y.1 om
 rintro _ E ⟨rfl,s⟩;have m:=(s.keep i).trans f;simp only[go_sem,m];refine Ok.ret ⟨rfl,E,s,?_⟩;rw[<-c,uq];rfl
theorem z0l(u:iO C)(v:18<=N){s z:Nat}(h:RlI H X g I sv cb n gb sb s z R)(d:bV X)(a:H.get b=aB 0 [.bool ((I.r.rule.nodes false).any λy=>decide (y.k=1))]):Ok (C N (.f 296) [.ptr b 0,.ptr s 0,.ptr sb 0] H) λr H'=>r=iN 0/\Fm No H H':=by
 obtain⟨j,rfl⟩:=aO v;rw[lk (zru ..)];unfold W8;have B:=h.a1;have e:=h.ar;have D:=h.pt.nm;have f:=h.pt.tv;have c:=h.sH.sp _ h.mem.1;have i:=((c.rel _ h.mem.2).ty).len;have E:=d.us _ h.mem.1 _ h.mem.2;cases o:(I.r.rule.nodes false).any λy=>decide (y.k=1)with
 |true=>rw[o]at a;have l:¬I.r.types.length=0:=om;simp only[go_sem,a,e,f,i,l];exact Ok.ret ⟨rfl,om⟩
 |false=>
  rw[o]at a;by_cases t:0<I.r.types.length
  ·have m:=E.2 o om;refine dG a e f i t B D ?_;refine Ok.iC (zok u (k:=j) om c (d.pr.r _ h.mem.1).1 (λy A=>(d.pr.x _ h.mem.1 y A).2.2.1) I.r.name) ?_;rintro _ G ⟨rfl,F⟩;rw[m];simp only[go_sem];exact Ok.ret ⟨rfl,F⟩
  ·simp only[go_sem,a,e,f,i,t];exact Ok.ret ⟨rfl,om⟩
theorem C7(O:Ev.Call)(qr:pD)(q:pH)(a b:AV)(n:Nat):DX O qr q a b (n+1)=ue O qr q a b (DX O qr q a b n):=rfl
theorem znz(f:FuncId)(x y:List AV):vJ (.fn f x y)=some [.fn f x y]:=id rfl
attribute [go_sem] znz
theorem xbe{k:Nat}(u:1<=k){g h i l:FuncId}{p c4:List AV}(c:H.get b=aB 0 [.fn g [] cs,.fn h [] xs,.fn i [] p,.fn l [] c4]){R1' R2' R3' a:Hp->Prop}(v:Ok (C (k-1) (.f g) cs H) λr H'=>r=iN 0/\R1' H')(g1:∀H',R1' H'->H'.get b=H.get b)(w:∀H1,R1' H1->Ok (C (k-1) (.f h) xs H1) λr H'=>r=iN 0/\R2' H')(g2:∀H',R2' H'->H'.get b=H.get b)(x:∀H1,R2' H1->Ok (C (k-1) (.f i) p H1) λr H'=>r=iN 0/\R3' H')(g3:∀H',R3' H'->H'.get b=H.get b)(y:∀H1,R3' H1->Ok (C (k-1) (.f l) c4 H1) λr H'=>r=iN 0/\a H'):Ok (C k (.f 290) [.sl b 0 4 4 true] H) λr H'=>r=iN 0/\a H':=by obtain⟨j,rfl⟩:=aO u;rw[lk (zrt ..)];unfold W7;simp only[go_sem];obtain⟨m,z⟩:∃m,bT=m+5:=⟨999995,by rw[rO]⟩;rw[dD,z,C7];unfold ue;unfold Ca;refine dI c ?_;refine Ok.ve v ?_;rintro _ H1 ⟨rfl,q⟩;unfold lC;rw[C7];unfold ue;unfold Ca;have d:=(g1 _ q).trans c;refine dI d ?_;refine Ok.ve (w _ q) ?_;rintro _ B ⟨rfl,s⟩;unfold lC;rw[C7];unfold ue;unfold Ca;have e:=(g2 _ s).trans c;refine dI e ?_;refine Ok.ve (x _ s) ?_;rintro _ D ⟨rfl,t⟩;unfold lC;rw[C7];unfold ue;unfold Ca;have f:=(g3 _ t).trans c;refine dI f ?_;refine Ok.ve (y _ t) ?_;rintro _ E ⟨rfl,A⟩;unfold lC;rw[C7];unfold ue;exact Ok.ret ⟨rfl,A⟩
theorem q1a(K:iO C)(B:20<=cb)(L:dB H sv X)(M:zO H gb sv X)(p:bV X)(hn:(eG X)[n]? =some (g.name,I))(m:g∈X/\I∈g.gs):Ok (C cb (.f 264) [.ptr gb 0,.agg [.str g.name.n g.name.a,g.rv],iN n] H) λr H'=>r=iN 0/\Fm No H H':=by
 obtain⟨j,rfl⟩:=aO B;rw[lk (zr5 ..)];unfold Xj;obtain⟨mb,nb,av,iv,u,g1,g2,g3,g4,g5,g6,g7,g8,W,_⟩:=M.ex;have d:n<(eG X).length:=om;have v:(eG X)[n]=(g.name,I):=om;have N:=W n om d;rw[v]at N;obtain⟨Y,Z,e1,e2,_,_,e4⟩:=g4.at' n om;have S:cB (H.get Y) Z=.val (.ptr (u[n]'om).1 (u[n]'om).2):=e4 0 (by rw[HO];omega);have il:=M.lt;simp(disch:=first|go_size|omega)only[go_sem,seval,g1,e1,S];have T:=p.pr.x _ m.1 _ m.2;generalize t:(((Hp.mk (aH (aH (aH H (aB 0 [.ptr gb 0])) (aB 0 [.str g.name.n g.name.a,g.rv])) (aB 0 [iN n])).t (H.nx+1+1+1+9)).put (H.nx+1+1+1+7) (aB 0 [.bQ])).put (H.nx+1+1+1+7) (aB 0 [.ptr (u[n]'om).1 (u[n]'om).2]))=Ha;have O:Fm No H Ha:=om;have na:Ha.nx=H.nx+12:=om;have P:RlI Ha X g I sv gb n H.nx (H.nx+1) (H.nx+1+1+1+7) (H.nx+1+1) (u[n]'om):=by
  refine⟨om,om,m,?_,?_,?_,?_,om,om,?_⟩
  ·rw[<-t];simp(disch:=first|omega|exact ti rfl|simp only[np,nq];first|done|omega)only[go_sem]
  ·rw[<-t];simp(disch:=first|omega|exact ti rfl|simp only[np,nq];first|done|omega)only[go_sem]
  ·grind
  ·rw[<-t];simp(disch:=first|omega|exact ti rfl|simp only[np,nq];first|done|omega)only[go_sem]
  ·obtain⟨y,_,hy⟩:=li p.al p.sp (qes.2 ⟨g,m.1,I,m.2,rfl,rfl⟩);have w:=Mw p.al (i:=n) (by rw[<-vC,vu];exact d);have B:(aF X)[n]'(by rw[<-vC,vu];exact d)=(g.name,I.r.name):=by
    have Q:(aF X)[n]? =some (kq (eG X)[n]):=by rw[<-vC,AS,j0 d];rfl
    rw[j0 (by rw[<-vC,vu];exact d),v]at Q;exact Option.some.inj Q
   rw[B]at w;exact w
 have U:=(N.fm O).ru;obtain⟨c0,c1,c2,c3,hcs,_⟩:=x9 ((L.sp _ m.1).rel _ m.2);have V:=(((L.sp _ m.1).rel _ m.2).ru).fm O;simp only[go_sem,U];refine Ok.ve (Mu K (k:=j) om V T.2.2.1) ?_;rintro _ a ⟨nv,l,rfl,A,hl⟩;have n2:=A.fm.nx;obtain⟨b,s⟩:∃b,b=aH ((aH ((aH a (aB 0 [.aA])).put a.nx (aB 0 [nv])) (aB 0 [.bool false])).put (a.nx+1) (aB 0 [.bool false])) (aB 0 [.fn 291 [] [.ptr H.nx 0,.ptr (H.nx+1) 0,.ptr (H.nx+1+1+1+7) 0,.ptr (H.nx+1+1) 0],.fn 292 [] [.ptr H.nx 0,.ptr (H.nx+1+1+1+7) 0],.fn 294 [] [.ptr H.nx 0,.ptr (H.nx+1) 0,.ptr a.nx 0,.ptr (a.nx+1) 0],.fn 296 [] [.ptr (a.nx+1) 0,.ptr (H.nx+1+1+1+7) 0,.ptr (H.nx+1) 0]]):=⟨_,rfl⟩;have R:Fm No a b:=by rw[s];repeat first|exact Fm.refl _ _|assumption|refine Fm.push ?_ _|refine Fm.aN ?_ _ _ om
 have nf:b.nx=a.nx+3:=om;have D:b.get a.nx=aB 0 [nv]:=om;have E:b.get (a.nx+1)=aB 0 [.bool false]:=om;have F:b.get (a.nx+1+1)=aB 0 [.fn 291 [] [.ptr H.nx 0,.ptr (H.nx+1) 0,.ptr (H.nx+1+1+1+7) 0,.ptr (H.nx+1+1) 0],.fn 292 [] [.ptr H.nx 0,.ptr (H.nx+1+1+1+7) 0],.fn 294 [] [.ptr H.nx 0,.ptr (H.nx+1) 0,.ptr a.nx 0,.ptr (a.nx+1) 0],.fn 296 [] [.ptr (a.nx+1) 0,.ptr (H.nx+1+1+1+7) 0,.ptr (H.nx+1) 0]]:=om;have G:Fm No Ha b:=A.fm.trans R;have q:=P.fm G;have x:Rs 5 lD b nv l:=(A.rs sG).fm R;have o:Ok (C j (.f 290) [.sl (a.nx+1+1) 0 4 4 true] b) λr H'=>r=iN 0/\∃c,Fm No b c/\Fm No (c.put (a.nx+1) (aB 0 [.bool ((I.r.rule.nodes false).any λy=>decide (y.k=1))])) H':=by
  refine xbe (k:=j) om F (R1':=λH'=>H'=b) (R2':=λH'=>Fm No b H') (R3':=λH'=>∃c,Fm No b c/\H'=c.put (a.nx+1) (aB 0 [.bool ((I.r.rule.nodes false).any λy=>decide (y.k=1))])) ?_ ?_ ?_ ?_ ?_ ?_ ?_
  ·rw[z0o om q];exact Ok.ret ⟨rfl,rfl⟩
  ·simp
  ·rintro _ rfl;exact z0n om q p
  ·grind
  ·intro H1 z;exact z0m om (q.fm z) p (x.fm z) hl ((z.keep om).trans D) ((z.keep om).trans E) (by have:=z.nx;omega) |>.mono om
  ·grind
  ·rintro _ ⟨c,fm,rfl⟩;have J:RlI (c.put (a.nx+1) (aB 0 [.bool ((I.r.rule.nodes false).any λy=>decide (y.k=1))])) X g I sv gb n H.nx (H.nx+1) (H.nx+1+1+1+7) (H.nx+1+1) (u[n]'om):=P.fm om;exact(z0l K om J p om).mono om
 have done:∀r H',r=AV.int .i64 (.ofNat 0)/\(∃c,Fm No b c/\Fm No (c.put (a.nx+1) (aB 0 [.bool ((I.r.rule.nodes false).any λy=>decide (y.k=1))])) H')->Ok (.ok r H') λr H'=>r=iN 0/\Fm No H H':=λr H' ⟨e,c,f,f'⟩=>
  Ok.ret ⟨e,om⟩
 rcases A.gl.is with⟨h,_⟩|⟨_,_,_,_,_,h,_⟩
 ·subst h;simp(disch:=first|omega|exact ti rfl)only[go_sem,seval];simp(disch:=first|go_size|omega)only[go_sem,rB,rI,rK,rL,rN,rS,r6];rw[<-s];exact Ok.ve o done
 ·subst h;simp(disch:=first|omega|exact ti rfl)only[go_sem,seval];simp(disch:=first|go_size|omega)only[go_sem,rB,rI,rK,rL,rN,rS,r6];rw[<-s];exact Ok.ve o done
theorem Sp(a:N<X.length)(b:i<X[N].gs.length):(eG X)[(dM X N).length+i]? =some (X[N].name,X[N].gs[i]):=by
 obtain⟨Z,h⟩:=zk8 a b;rw[h,AM g2]
 grind
theorem Uc(f:iO C)(g:20<=j){ib pb:Nat}(l:dB Hb sv h)(m:zO Hb ib sv h)(c:bV h)(d:N<h.length)(n:Hb.get pb=aB 0 [.str h[N].name.n h[N].name.a,h[N].rv])(b:pb<Hb.nx){q:pD}(o:∀H,Fm No Hb H->Ok (q (iN (((dM h N).length+h[N].gs.length))) H) D):∀(k i:Nat) (H:Hp),i<=h[N].gs.length->h[N].gs.length-i<k->Fm No Hb H->Ok (Hu (C j) qr q (.ptr ib 0) (.ptr pb 0) (iN (h[N].gs.length)) k (iN (((dM h N).length+i))) (iN i) H) D
 |0,i,_,_,X,_=>om
 |k+1,i,H,hi,hk,hf=>by
  show Ok (KC (C j) _ _ _ _ _ (Hu (C j) _ _ _ _ _ k) _ _ H) D;unfold KC;have u:=c.pr.len;have p:=So h N;by_cases a:i<h[N].gs.length
  ·have r:=(c.pr.r _ (sx d)).1;simp only[go_sem,a];unfold zhl;have e:=(hf.keep b).trans n;simp only[go_sem,e];refine Ok.ve (q1a f g (l.fm hf) (m.fm hf) c (Sp d a) ⟨sx d,sx a⟩) ?_;rintro _ t ⟨rfl,v⟩;unfold OL;unfold vM;refine aS ?_;exact Uc f g l m c d n b o k (i+1) t om om om
  ·simp only[go_sem,a]
   grind
theorem QN(e:iO C){j:Nat}(f:20<=j)(g:dB Hb sv h)(m:zO Hb N sv h)(b:bV h){Q:pL}{q:pH}{qr:pD}(n:∀H,Fm No Hb H->Ok (q H) Q):∀(k s:Nat) (H:Hp),s<=h.length->h.length-s<k->Fm No Hb H->Ok (CQ (C j) qr q (.ptr N 0) sv (iN (h.length)) k (iN ((dM h s).length)) (iN s) H) Q
 |0,i,_,_,X,_=>om
 |k+1,s,H,hi,hk,hf=>by
  show Ok (Dt (C j) _ _ _ _ _ (CQ (C j) _ _ _ _ _ k) _ _ H) Q;unfold Dt;have x:=b.pr.n;by_cases a:s<h.length
  ·simp only[go_sem,a];unfold zhk;have c:=g.fm hf;obtain⟨y,z,v,A,_,l,_⟩:=c.rs.at' s a;unfold yR SS.v at l;have d:=c.sp _ (sx a);have p:=d.len;have r:=(b.pr.r _ (sx a)).1;refine gW v l p ?_;have t:Fm No H ((aH H (aB 0 [zS,.aA])).put H.nx (aB 0 [.str h[s].name.n h[s].name.a,h[s].rv])):=by exact zL
   rw[dD];refine Uc e f (c.fm t) om b a (pb:=H.nx) om gz (λo w=>?_) bT 0 _ om lf om;unfold KB;refine aS ?_;have u:(dM h s).length+h[s].gs.length=(dM h (s+1)).length:=by unfold dM eG;rw[nh a,nt,AJ,nj,vu]
   rw[u];exact QN e f g m b n k (s+1) o om om om
  ·simp only[go_sem,a]
   grind
theorem Mt(h:iO C){k:Nat}(o:21<=k)(p:dB H sv X)(a:bV X):Ok (C k (.f 235) [.agg [sv]] H) λr H'=>r=iN 0/\Fm No H H':=by
 obtain⟨j,rfl⟩:=aO o;rw[lk (zsh ..)];unfold Xq;refine aS ?_;have f:Fm No H (aH H (aB 0 [sv])):=om;refine Ok.ve (zoj h (k:=j) om om a.pr) ?_;rintro _ H1 ⟨rfl,g⟩;unfold zhi;have v:=g.nx;have i:H1.get H.nx=aB 0 [sv]:=(g.keep gx).trans om;simp only[go_sem,seval,i];have b:=(p.fm f).fm g;refine Ok.ve (Po (k:=j) om b a.pr a.al a.sp) ?_;rintro _ s ⟨ib,rfl,m,n⟩;have k2:=(n.keep om).trans i;have c:=b.fm n;obtain⟨mb,nb,y,iv,z,g1,g2,_⟩:=m.ex;have e:=g2.len;have d:=c.rs.len;have w:=a.pr.n;simp only[go_sem,g1,e,k2,d,dC];unfold zhj;simp only[go_sem,k2,d];rw[dD];have x:(0:Nat)=(dM X 0).length:=by unfold dM eG;simp
 have l:=QN h (j:=j) om c m a (Q:=λr H'=>r=iN 0/\Fm No H H') (q:=λH=>kJ (C j) H) (qr:=λx2 H=>.ok x2 H) (λt u=>by exact Ok.ret ⟨rfl,om⟩) bT 0 s om lf om;trivial
theorem Tc(l:iO C){k:Nat}(m:22<=k)(n:dB H sv X)(c:bV X)(a b to:SS)(d:(a,b)∈aF X)(o:iK X a b to≠[]):Ok (C k (.f 183) [.agg [sv],.str a.n a.a,.str b.n b.a,.str to.n to.a] H) λr H'=>∃tv,r=.aX [tv,iN 0]/\Ac 1 sC H H' tv (iK X a b to):=by obtain⟨j,rfl⟩:=aO m;rw[lk (zsf ..)];unfold Xp;refine aS ?_;have f:Fm No H (aH H (aB 0 [sv])):=om;refine Ok.ve (Mt l (k:=j) om om c) ?_;rintro _ H1 ⟨rfl,g⟩;unfold zhh;have p:H1.get H.nx=aB 0 [sv]:=(g.keep gx).trans om;simp only[go_sem,p];have e:=(n.fm f).fm g;refine Ok.ve (Po (k:=j) om e c.pr c.al c.sp) ?_;rintro _ v ⟨ib,rfl,h,w⟩;obtain⟨q,x,_,u,_⟩:=xc (k:=j) om h c.al c.sp d;simp only[go_sem,u];refine Ok.ve (Td (k:=j) om om c.pr.sml h c.al c.sp a b to d) ?_;intro tv y i;have s:=i.bF;have t:¬(iK X a b to).length=0:=om;simp only[go_sem,s,t];exact Ok.ret ⟨tv,rfl,i.trans om⟩
theorem zmb(p q:SS×SS):dL (λxs a=>zI p1 ⟨bH⟩ 1 xs a 2 0) (hU p) (hU q)=some (decide (p=q)):=y9 p q
theorem jG.aHS(h:jG H b P)(z:AV)(x y:SS)(a:(x,y)∈P):mX ⟨dL λxs c=>zI p1 ⟨bH⟩ 1 xs c 2 0,some 2⟩ z false H (.map b) (.agg [.str x.n x.a,.str y.n y.a])=.val (iN ((P.findIdx λq=>decide (q=(x,y))))):=by have:=h.look (s:=some 2) zmb (λ_=>rfl) z false (x,y);rw[sB a]at this;exact this
theorem jG.bBn(h:jG H b P)(x y:SS)(a:(x,y)∉P):∃k,jN ⟨dL λxs c=>zI p1 ⟨bH⟩ 1 xs c 2 0,some 2⟩ H (.map b) (.agg [.str x.n x.a,.str y.n y.a]) (iN (P.length))=.ok .undef (H.put b k)/\jG (H.put b k) b (P++[(x,y)]):=
 h.upd (s:=some 2) zmb (λ_=>rfl) a
structure sI(Hb:Hp)(jZ:AV)(H:Hp)(gb N:Nat)(ev:AV)(es:List Edge):Prop where
 blk:H.get gb=aB 0 [iN N,ev]
 lt:gb<Hb.nx
 gl:Gl 3 H ev es.length (es.flatMap Edge.cells)
 fm:Fm (λc=>c=gb\/In jZ c) Hb H
 nw:∀c,In ev c->In jZ c\/Hb.nx<=c
 nin:∀c,In ev c->gb<c
theorem sI.no(h:sI Hb jZ H gb N nv E)(f:Fm No H H'):sI Hb jZ H' gb N nv E:=
 ⟨(f.keep (AE h.lt h.fm.nx)).trans h.blk,h.lt,h.gl.no f,h.fm.then f λ_ _ h=>absurd h id,h.nw,h.nin⟩
attribute [grind .] sI.no
theorem sI.base(h:sI Hb jZ H gb N nv E)(f:Fm No H H'):sI H' nv H' gb N nv E:=
 ⟨(f.keep (AE h.lt h.fm.nx)).trans h.blk,AE h.lt (AL h.fm.nx f.nx),h.gl.no f,Fm.refl _ _,λ_ h=>.inl h,h.nin⟩
theorem sI.comp{b:List Edge}(h:sI Hb jZ H gb N nv E)(f:Fm No H H1)(d:sI H1 nv H' gb N sv b):sI Hb jZ H' gb N sv b:=
 ⟨d.blk,h.lt,d.gl,(h.fm.then f λ_ _ h=>absurd h id).then d.fm λc j e=>by
  rcases e with e|e
  ·omega
  ·rcases h.nw c e with h|h
   ·exact .inr h
   ·omega,λc j=>by
  have l:=h.fm.nx;have m:=f.nx;rcases d.nw c j with k|k
  ·exact h.nw c k
  ·exact .inr om,d.nin⟩
structure Dq(X:List aP)(g:aP)(x:bA)(y:Nd×AV)(nb mb pb rb yb:Nat)(H:Hp):Prop where
 n:H.get nb=aB 0 [.map mb]
 m:jG H mb (aF X)
 p:H.get pb=aB 0 [.str g.name.n g.name.a,g.rv]
 r:∃c1 c2 c3 c4 c5,H.get rb=aB 0 [.str x.r.name.n x.r.name.a,c1,c2,c3,c4,c5]
 y:H.get yb=aB 0 (lD y)
theorem Ps(D:1<=cb)(e:sI Hb jZ H gb N nv E)(es:E.length<=1000000){y:Nd×AV}{mb pb rb v:Nat}(i:Dq X g I y sb mb pb rb v H)(f:(g.name,I.r.name)∈aF X)(m:(J,M)∈aF X)(P:(aF X).length<=256):Ok (C cb (.f 242) [.str J.n J.a,.str M.n M.a,.ptr gb 0,.ptr sb 0,.ptr pb 0,.ptr rb 0,.ptr v 0] H) λ_ H'=>∃o,sI Hb jZ H' gb N o (E++[⟨dA X g.name I.r.name,dA X J M,y.1.neg⟩]):=by
 obtain⟨j,rfl⟩:=aO D;rw[lk (zsg ..)];unfold PF;have e0:=e.blk;have F:=i.n;have G:=i.p;obtain⟨S,T,U,c4,c5,L⟩:=i.r;have z:=i.y;have x:=i.m.aHS (iN 0) g.name I.r.name f;have a:=i.m.aHS (iN 0) J M m;have Q:(List.findIdx (λq=>decide (q=(g.name,I.r.name))) (aF X))=dA X g.name I.r.name:=rfl;have R:(List.findIdx (λq=>decide (q=(J,M))) (aF X))=dA X J M:=rfl;have p:mX ⟨dL λxs n=>zI p1 ⟨bH⟩ 1 xs n 2 0,some 2⟩ (iN 0) false ⟨H.t,H.nx+21⟩ (.map mb) (.agg [.str g.name.n g.name.a,.str I.r.name.n I.r.name.a])=.val (iN ((dA X g.name I.r.name))):=x;have r:mX ⟨dL λxs n=>zI p1 ⟨bH⟩ 1 xs n 2 0,some 2⟩ (iN 0) false ⟨H.t,H.nx+21⟩ (.map mb) (.agg [.str J.n J.a,.str M.n M.a])=.val (iN ((dA X J M))):=a;unfold lD SS.v at z;refine dG e0 F G L z p r ?_;have s:=AE e.lt e.fm.nx;have t:Fm No H ((Hp.mk H.t (H.nx+21)).put (H.nx+17) (aB 0 [iN ((dA X g.name I.r.name)),iN ((dA X J M)),.bool y.1.neg])):=fm;obtain⟨b,A,g2,_,B,O⟩:=(e.gl.no t).append (k:=1) (w:=24) (x:=Edge.cells ⟨dA X g.name I.r.name,dA X J M,y.1.neg⟩) om rfl om om;simp only[nq]at A g2 O;refine Ok.vH A ?_;have u:¬In nv gb:=λh=>by have:=e.nin gb h;omega
 have k2:b.get gb=aB 0 [iN N,nv]:=(B.get gb (show gb<H.nx+21 by omega) u).trans ((t.keep s).trans e0);simp only[go_sem,seval,k2];have K:=e.fm.nx;refine Ok.ret ⟨.sl (H.nx+21) 0 (E.length+1) (E.length+1) false,gX _ _ _,e.lt,?_,?_,?_,?_⟩
 ·rw[nj,nt,AJ];refine g2.keep (AF _) λc d _=>?_;obtain⟨_,_,_,_,d⟩:=d;injection d with d;rw[jR _ _ _ _ om]
 ·refine((e.fm.then t λ_ _ h=>absurd h id).then B λc d h=>?_).put _ _ λ_=>.inl rfl;rcases e.nw c h with h|h
  ·exact .inr h
  ·omega
 ·rintro c ⟨_,_,_,_,d⟩;injection d with d;omega
 ·rintro c ⟨_,_,_,_,d⟩;injection d with d;omega
def eE(X:List aP)(n:Nat)(neg:Bool)(p:SS×SS):Edge:=⟨n,dA X p.1 p.2,neg⟩
def Vg(a nb pb rb b:Nat):AV:=.fn 242 [] [.ptr a 0,.ptr nb 0,.ptr pb 0,.ptr rb 0,.ptr b 0]
theorem K2(l:List jW):(dT l).length<=l.length:=by unfold dT;rw[vu];exact ou _ _
theorem Ni(m:1<=j){Hb:Hp}{jZ tv:AV}{gb N nb mb pb rb Q:Nat}{y:Nd×AV}(n:∀H,Fm (λc=>c=gb\/In jZ c) Hb H->Dq h g I y nb mb pb rb Q H)(o:∀H,Fm (λc=>c=gb\/In jZ c) Hb H->Rs 2 tC H tv I.r.types)(e:I.r.types.length<=8)(a:(g.name,I.r.name)∈aF h)(r:(aF h).length<=256)(d:∀p∈dT I.r.types,p∈aF h)(F:E.length<=900000)(G:∀H f,sI Hb jZ H gb N f (E++(dT I.r.types).map (eE h (dA h g.name I.r.name) y.1.neg))->Ok (qe H) D):∀(k i:Nat) (H:Hp) (f:AV),i<=I.r.types.length->I.r.types.length-i<k->sI Hb jZ H gb N f (E++(dT (I.r.types.take i)).map (eE h (dA h g.name I.r.name) y.1.neg)) -> Ok (G2 (C j) qe (Vg gb nb pb rb Q) tv (iN (I.r.types.length)) k (iN i) H) D
 |0,i,_,_,_,X,_=>om
 |k+1,i,H,f,hi,hk,hG=>by
  show Ok (KN (C j) _ _ _ _ (G2 (C j) _ _ _ _ k) _ H) D;unfold KN;by_cases b:i<I.r.types.length
  ·simp only[go_sem,b];unfold Z3;obtain⟨K,L,J,M,_,z,_⟩:=(o H hG.fm).at' i b;unfold tC SS.v at z;have s:=ztj b;have x:Fm No H ((aH H (aB 0 [zS,zS])).put H.nx (aB 0 [.str I.r.types[i].sp.n I.r.types[i].sp.a,.str I.r.types[i].rl.n I.r.types[i].rl.a])):=om;have t:=K2 (I.r.types.take i);rw[sY]at t;by_cases l:I.r.types[i].rl.n=0/\I.r.types[i].rl.a=0
   ·have u:=ae l;rw[sB ((pE _ _).2 l),DN]at s;refine gW J z u ?_;unfold G4;refine aS ?_;exact Ni m n o e a r d F G k (i+1) _ f om om om
   ·have v:¬I.r.types[i].rl=sE:=λX=>l ((pE _ _).1 X);rw[sy v]at s;have w:(I.r.types[i].sp,I.r.types[i].rl)∈aF h:=d _ (by
     unfold dT;rw[lEA];exact⟨I.r.types[i],om,rfl⟩)
    refine gW J z l ?_;refine Ok.ve (Ps m (hG.no x) (by rw[nj,vu];omega) (n _ (hG.no x).fm) a w r) ?_;rintro _ O ⟨A,B⟩;unfold G4;refine aS ?_;refine Ni m n o e a r d F G k (i+1) _ A om om ?_;rw[s,AO,<-sR];exact B
  ·simp only[go_sem,b]
   grind
theorem Sa(o:1<=j){Hb:Hp}{jZ tv:AV}{gb N nb mb pb rb e:Nat}{y:Nd×AV}(p:∀H,Fm (λc=>c=gb\/In jZ c) Hb H->Dq h g I y nb mb pb rb e H)(t:∀H,Fm (λc=>c=gb\/In jZ c) Hb H->Rs 1 sC H tv V)(f:V.length<=100)(a:(g.name,I.r.name)∈aF h)(u:(aF h).length<=256)(l:∀s∈V,(s,y.1.to)∈aF h)(v:E.length<=900000)(w:∀H d,sI Hb jZ H gb N d (E++(V.map λs=>(s,y.1.to)).map (eE h (dA h g.name I.r.name) y.1.neg))->Ok (qe H) D):∀(k i:Nat) (H:Hp) (d:AV),i<=V.length->V.length-i<k->sI Hb jZ H gb N d (E++((V.take i).map λs=>(s,y.1.to)).map (eE h (dA h g.name I.r.name) y.1.neg)) -> Ok (G1 (C j) qe (.ptr e 0) (Vg gb nb pb rb e) tv (iN (V.length)) k (iN i) H) D
 |0,i,_,_,_,X,_=>om
 |k+1,i,H,d,hi,hk,hG=>by
  show Ok (KM (C j) _ _ _ _ _ (G1 (C j) _ _ _ _ _ k) _ H) D;unfold KM;by_cases b:i<V.length
  ·simp only[go_sem,b];unfold RD;obtain⟨Q,F,A,G,B⟩:=(t H hG.fm).at1 (g:=SS.v) (λ_=>rfl) b;have r:=p H hG.fm;have z:=r.y;simp only[go_sem,A,B,z];refine Ok.ve (Ps o hG om r a om u) ?_;rintro _ x ⟨m,n⟩;unfold Z2;refine aS ?_;refine Sa o p t f a u l v w k (i+1) _ m om om ?_;rw[nh b,AO,AO,<-sR];exact n
  ·simp only[go_sem,b]
   grind
def en(X:List aP)(g:aP)(x:bA)(y:Nd):List Edge:=(eo X g.name x y).map (eE X (dA X g.name x.r.name) y.neg)
structure NdR(X:List aP)(g:aP)(x:bA)(sv nv:AV)(l:List (Nd×AV))(xb nb mb pb rb:Nat)(H:Hp):Prop where
 sH:dB H sv X
 x1:H.get xb=aB 0 [sv]
 n:H.get nb=aB 0 [.map mb]
 m:jG H mb (aF X)
 p:H.get pb=aB 0 [.str g.name.n g.name.a,g.rv]
 r:∃c2 c3 c4 c5,H.get rb=aB 0 [.str x.r.name.n x.r.name.a,x.tv,c2,c3,c4,c5]
 nd:Rs 5 lD H nv l
theorem z07(b:sO X)(c:I.r.types.length<=100)(y:Nd):(eo X J I y).length<=100:=by
 unfold eo;split
 ·have:=K2 I.r.types;omega
 split
 ·simp
 split
 ·rw[vu];exact wi b _ _ _
 ·simp
theorem z08(a:sO X)(b:I.r.types.length<=100)(y:Nd):(en X g I y).length<=100:=by unfold en;rw[vu];exact z07 a b y
theorem Yj(hN:iO C)(hj:22<=j){Hb:Hp}{jZ sv nv:AV}{gb N xb nb mb pb rb:Nat}(z:bV h){x:bA}(m:g∈h/\x∈g.gs){l:List (Nd×AV)}(F:∀H,Fm (λc=>c=gb\/In jZ c) Hb H->NdR h g x sv nv l xb nb mb pb rb H)(G:xb<Hb.nx/\nb<Hb.nx/\mb<Hb.nx/\pb<Hb.nx/\rb<Hb.nx)(S:l.length<=32)(T:l.map Prod.fst=x.r.rule.nodes false)(I:∀y∈l,∀p∈eo h g.name x y.1,p∈aF h)(hE:E.length<=800000)(hq:∀H n,sI Hb jZ H gb N n (E++l.flatMap λy=>en h g x y.1)->Ok (qe H) D):∀(k i:Nat) (H:Hp) (n:AV),i<=l.length->l.length-i<k->sI Hb jZ H gb N n (E++(l.take i).flatMap λy=>en h g x y.1) -> Ok (yy (C j) qe (.ptr xb 0) (.ptr nb 0) (.ptr gb 0) (.ptr pb 0) (.ptr rb 0) nv (iN (l.length)) k (iN i) H) D
 |0,i,_,_,_,X,_=>om
 |k+1,i,H,n,hi,hk,hG=>by
  show Ok (KO (C j) _ _ _ _ _ _ _ _ (yy (C j) _ _ _ _ _ _ _ _ k) _ H) D;unfold KO;obtain⟨t1,t2,t3,t4,t5⟩:=G;by_cases s:i<l.length
  ·simp only[go_sem,s];unfold RC;have r:=F H hG.fm;obtain⟨b1,o1,R,e2,_,O,_⟩:=r.nd.at' i s;unfold lD SS.v at O;have K:=z.pr.sml;have V:=(z.pr.x _ m.1 _ m.2).1;have f:(g.name,x.r.name)∈aF h:=qes.2 ⟨g,m.1,x,m.2,rfl,rfl⟩;have W:(aF h).length<=256:=by have:=z.pr.len;rw[<-vC,vu];exact this
   have B:Fm No H ((aH H (aB 0 [uN 0,zS,zS,.aA,.bool false])).put H.nx (aB 0 [uN (l[i].1.k),.str l[i].1.rl.n l[i].1.rl.a,.str l[i].1.to.n l[i].1.to.a,l[i].2,.bool l[i].1.neg])):=by exact zL
   obtain⟨H1,b⟩:∃H1,H1=(aH H (aB 0 [uN 0,zS,zS,.aA,.bool false])).put H.nx (aB 0 [uN (l[i].1.k),.str l[i].1.rl.n l[i].1.rl.a,.str l[i].1.to.n l[i].1.to.a,l[i].2,.bool l[i].1.neg]):=⟨_,rfl⟩;rw[<-b]at B;have kb:H1.get H.nx=aB 0 (lD l[i]):=by rw[b];exact gX _ _ _
   have n1:H1.nx=H.nx+1:=by rw[b];rfl
   have d:=hG.no B;have nx0:=hG.fm.nx;have L:(E++(l.take i).flatMap λy=>en h g x y.1).length<=900000:=by
    have h1:=tx (λy:Nd×AV=>en h g x y.1) 100 (l.take i) λy _=>z08 K om _
    grind
   have next:∀H' e,sI Hb jZ H' gb N e ((E++(l.take i).flatMap λy=>en h g x y.1)++en h g x l[i].1)->Ok (tW (C j) (yy (C j) qe (.ptr xb 0) (.ptr nb 0) (.ptr gb 0) (.ptr pb 0) (.ptr rb 0) nv (iN (l.length)) k) (iN i) H') D:=λH' e X=>by unfold tW;refine aS ?_;refine Yj hN hj z m F ⟨t1,t2,t3,t4,t5⟩ S T I hE hq k (i+1) H' e om om ?_;rw[nh s,nt,AJ,<-sR];exact X
   have vG:∀c,In n c->c<H.nx:=λc J=>hG.gl.lt J;have gbl:=hG.lt;have w:∀v,Fm No H1 v->∀H',Fm (λc=>c=gb\/In n c) v H'->Dq h g x l[i] nb mb pb rb H.nx H':=λv U H' A=>by
    have Y:Fm (λc=>c=gb\/In jZ c) Hb H':=((d.fm).then U om).then A λc J o=>by
     rcases o with o|o
     ·omega
     ·rcases hG.nw c o with X|X
      ·grind
      ·omega
    have P:=F H' Y;refine⟨P.n,P.m,P.p,?_,?_⟩
    ·obtain⟨c2,c3,c4,c5,X⟩:=P.r
     grind
    ·have:=U.nx;refine(A.get H.nx om λo=>?_).trans ((U.keep om).trans kb)
     grind
   have r1:=F H1 d.fm;have u:=I _ (sx s);have a:en h g x l[i].1=(eo h g.name x l[i].1).map (eE h (dA h g.name x.r.name) l[i].1.neg):=rfl;unfold eo at u a;by_cases q1:l[i].1.k=1
   ·have Z:=ae q1;rw[sB q1]at u a;obtain⟨c2,c3,c4,c5,hrb⟩:=r.r;have rr:=(B.keep om).trans hrb;rw[b]at rr;have hty:=((r.sH.sp _ m.1).rel _ m.2).ty;have hl:=hty.len;refine lW R O Z rr hl ?_;rw[dD,<-b];have t:=d.base (Fm.refl No H1);refine Ni om (N:=N) (Hb:=H1) (jZ:=n) (y:=l[i]) (w H1 om) (λH' A=>?_) V f W u L (λH' e X=>?_) bT 0 H1 n (vy _) lf ?_
    ·have Y:Fm (λc=>c=gb\/In jZ c) Hb H':=(d.fm).then A λc J o=>by
      rcases o with o|o
      ·omega
      ·rcases hG.nw c o with X|X
       ·grind
       ·omega
     exact(((F H' Y).sH.sp _ m.1).rel _ m.2).ty
    ·refine next H' e ?_
     rw[a];exact d.comp om X
    ·rw[ry];simpa [dT] using t
   ·rw[sy q1]at u a;by_cases q2:l[i].1.k=2
    ·have q2t:=ae q2;rw[sB q2]at u a;have M:=(B.keep om).trans r.p;rw[b]at M;refine lW R O q1 q2t M ?_;rw[<-b];have t:=d.base (Fm.refl No H1);refine Ok.ve (Ps om t om (w H1 om H1 om) f (u _ vA) W) ?_;rintro _ H3 ⟨ev3,hG3⟩;refine next H3 ev3 ?_
     rw[a];exact d.comp om hG3
    ·rw[sy q2]at u a;by_cases q3:l[i].1.k=3
     ·have q3t:=ae q3;rw[sB q3]at u a;have M:=(B.keep om).trans r.p;have rx:=(B.keep om).trans r.x1;rw[b]at M rx;refine dG R O q1 q2 q3t M rx ?_;rw[<-b];have hnd:=z.nd _ m.1 _ m.2 l[i].1 om;refine Ok.ve (Tc hN (k:=j) om r1.sH z g.name l[i].1.rl l[i].1.to om om) ?_;rintro _ v ⟨tv,rfl,Q⟩;have hl:=Q.bF;simp only[go_sem,hl];rw[dD];have t:=d.base Q.fm;have htl:=wi K g.name l[i].1.rl l[i].1.to;refine Sa om (N:=N) (Hb:=v) (jZ:=n) (y:=l[i]) (w v Q.fm) (λH' A=>(Q.rs pi).dR A λc J o=>?_) htl f W (om) L (λH' e X=>?_) bT 0 v n (vy _) lf ?_
      ·have:=Q.nw c J
       grind
      ·refine next H' e ?_
       rw[a];exact d.comp Q.fm X
      ·simp_all
     ·rw[sy q3]at a;refine lW R O q1 q2 q3 ?_;rw[<-b];refine next H1 n ?_
      simp_all
  ·simp only[go_sem,s]
   grind
theorem bV.tg(c:bV X){to s:SS}(h:s∈iK X J M to):(s,to)∈aF X:=by
 unfold iK at h;cases f:kQ X J M with
 |none=>rw[f]at h;cases h
 |some x=>rw[f]at h;unfold fZ at h;rw[lEA]at h;obtain⟨t,e,rfl⟩:=h;rw[lEU]at e;have d:=e.2;unfold jw at d;rw[sA,E9 c.al c.sp]at d;simp_all
theorem bV.ndt(c:bV X)(b:g∈X/\I∈g.gs){y:Nd}(e:y∈I.r.rule.nodes false):∀p∈eo X g.name I y,p∈aF X:=by
 intro p a;unfold eo at a;have f:=c.nd _ b.1 _ b.2 y e;split at a
 ·unfold dT at a;rw[lEA]at a;obtain⟨t,d,rfl⟩:=a;rw[lEU]at d;rcases((c.ty _ b.1 _ b.2).2 t d.1).2 with h|h
  ·grind
  ·exact h
 split at a
 ·simp_all
 split at a
 ·rw[lEA]at a;obtain⟨s,i,rfl⟩:=a;exact c.tg i
 ·cases a
theorem LX(c:PrX X)(a b to:SS):(iK X a b to).length<=8:=by
 unfold iK;cases h:kQ X a b with
 |none=>simp
 |some g=>refine AL (HY X to _) ?_;obtain⟨p,d,e,_,_⟩:=cL h;exact(c.x p d g e).1
theorem zuu(a:PrX X)(b:I.r.types.length<=8)(y:Nd):(en X g I y).length<=8:=by
 unfold en eo;rw[vu];split
 ·have:=K2 I.r.types;omega
 split
 ·simp
 split
 ·rw[vu];exact LX a _ _ _
 ·simp
def cq(X:List aP)(g:aP)(x:bA):List Edge:=(x.r.rule.nodes false).flatMap (en X g x)
theorem Sg(b:PrX X)(a:g∈X/\I∈g.gs):(cq X g I).length<=256:=by unfold cq;have c:=tx (en X g I) 8 (I.r.rule.nodes false) λy _=>zuu b (b.x _ a.1 _ a.2).1 y;have d:=ep I.r.rule false;have e:=(b.x _ a.1 _ a.2).2.2.1.sz;omega
def fi(X:List aP)(l:List aP):List Edge:=l.flatMap λg=>g.gs.flatMap (cq X g)
structure PL(X:List aP)(sv:AV)(xb nb mb:Nat)(H:Hp):Prop where
 sH:dB H sv X
 x1:H.get xb=aB 0 [sv]
 n:H.get nb=aB 0 [.map mb]
 m:jG H mb (aF X)
theorem Sc(w:iO C)(V:22<=j){Hb:Hp}{jZ sv:AV}{gb N xb nb mb pb:Nat}(f:bV h)(d:g∈h)(z:∀H,Fm (λc=>c=gb\/In jZ c) Hb H->PL h sv xb nb mb H/\H.get pb=aB 0 [.str g.name.n g.name.a,g.rv])(m:xb<Hb.nx/\nb<Hb.nx/\mb<Hb.nx/\pb<Hb.nx){E:List Edge}(hE:E.length<=100000)(hq:∀H e,sI Hb jZ H gb N e (E++g.gs.flatMap (cq h g))->Ok (qe H) D):∀(k i:Nat) (H:Hp) (e:AV),i<=g.gs.length->g.gs.length-i<k->sI Hb jZ H gb N e (E++(g.gs.take i).flatMap (cq h g)) -> Ok (Cj (C j) qe (.ptr xb 0) (.ptr nb 0) (.ptr gb 0) (.ptr pb 0) g.rv (iN (g.gs.length)) k (iN i) H) D
 |0,i,_,_,_,X,_=>om
 |k+1,i,H,e,hi,hk,hG=>by
  show Ok (Kg (C j) _ _ _ _ _ _ _ (Cj (C j) _ _ _ _ _ _ _ k) _ H) D;unfold Kg;obtain⟨t1,t2,t3,t4⟩:=m;by_cases a:i<g.gs.length
  ·simp only[go_sem,a];unfold RA;obtain⟨r,rp⟩:=z H hG.fm;have o:=r.sH.sp _ d;obtain⟨b1,o1,e1,e2,_,_,_,Z⟩:=o.at' i a;have n:=sx a;have p:=o.rel _ n;obtain⟨c0,K,L,M,P,R⟩:=x9 p;have s:=f.pr.x _ d _ n;rw[R]at Z;have h16:=(f.pr.r _ d).1;obtain⟨H1,S⟩:∃H1,H1=(aH H (aB 0 [zS,.aA,uN 0,zS,zS,.aA])).put H.nx (aB 0 [.str g.gs[i].r.name.n g.gs[i].r.name.a,g.gs[i].tv,c0,K,L,M]):=⟨_,rfl⟩;have Q:Fm No H H1:=om;have kb:H1.get H.nx=aB 0 [.str g.gs[i].r.name.n g.gs[i].r.name.a,g.gs[i].tv,c0,K,L,M]:=om;have n1:H1.nx=H.nx+1:=om;have W:=p.ru.fm Q;rw[P]at W;have O:=Mu w (k:=j) om W s.2.2.1;refine dS e1 Z ?_;rw[<-S];refine Ok.ve O ?_;rintro _ H2 ⟨nv,l,rfl,u,T⟩;have F:=u.bF;simp only[go_sem,F];rw[dD];have Y:=u.fm;have n2:=om;have nx0:=hG.fm.nx;have gbl:=hG.lt;have vG:∀c,In e c->c<H.nx:=λc t=>hG.gl.lt t;have G:l.length<=32:=by
    have:=congrArg List.length T;simp only[vu,ep]at this;have:=s.2.2.1.sz;omega
   have I:(E++(g.gs.take i).flatMap (cq h g)).length<=800000:=by
    have h1:=tx (cq h g) 256 (g.gs.take i) λx n=>Sg f.pr ⟨d,om⟩
    grind
   have hG2:=hG.base (Q.trans Y);refine Yj w V (N:=N) (Hb:=H2) (jZ:=e) (sv:=sv) (mb:=mb) f (x:=g.gs[i]) ⟨d,n⟩ (l:=l) (λH' A=>?_) ⟨om,om,om,om,om⟩ G T (λy hy=>f.ndt ⟨d,n⟩ om) I (λH' B X=>?_) bT 0 H2 e om lf om
   ·have ft:Fm (λc=>c=gb\/In jZ c) Hb H':=(hG.fm.then (Q.trans Y) λ_ _ X=>absurd X id).then A λc t b=>by
     rcases b with b|b
     ·grind
     ·rcases hG.nw c b with X|X
      ·grind
      ·omega
    obtain⟨v,U⟩:=z H' ft;refine⟨v.sH,v.x1,v.n,v.m,U,⟨c0,K,L,M,?_⟩,(u.rs sG).dR A λc t b=>?_⟩
    ·refine(A.get H.nx om λb=>?_).trans om
     grind
    ·have:=u.nw c t;rcases b with b|b
     ·omega
     ·grind
   ·unfold KL;refine aS ?_;refine Sc w V f d z ⟨t1,t2,t3,t4⟩ hE hq k (i+1) H' B om om ?_;have J:cq h g g.gs[i]=l.flatMap λy=>en h g g.gs[i] y.1:=by
     unfold cq;rw[<-T,uf]
    rw[nh a,nt,AJ,<-sR,J];exact hG.comp om X
  ·simp only[go_sem,a]
   grind
theorem Yi(b:PrX X)(i:Nat):(fi X (X.take i)).length<=65536:=by
 unfold fi;have f:=tx (λg:aP=>g.gs.flatMap (cq X g)) 4096 (X.take i) λg c=>by have a:=AP c;have e:=tx (cq X g) 256 g.gs λx d=>Sg b ⟨a,d⟩;have:=(b.r g a).1;omega
 have e:(X.take i).length<=16:=by rw[sY];have:=b.n;omega
 omega
theorem Sb(o:iO C){j:Nat}(p:22<=j){Hb:Hp}{jZ sv:AV}{gb N xb nb mb:Nat}(d:bV h)(t:∀H,Fm (λc=>c=gb\/In jZ c) Hb H->PL h sv xb nb mb H)(e:xb<Hb.nx/\nb<Hb.nx/\mb<Hb.nx)(x:∀H b,sI Hb jZ H gb N b (fi h h)->Ok (qe H) D):∀(k s:Nat) (H:Hp) (b:AV),s<=h.length->h.length-s<k->sI Hb jZ H gb N b (fi h (h.take s)) -> Ok (yz (C j) qe (.ptr xb 0) (.ptr nb 0) (.ptr gb 0) sv (iN (h.length)) k (iN s) H) D
 |0,i,_,_,_,X,_=>om
 |k+1,s,H,b,hi,hk,hG=>by
  show Ok (Kh (C j) _ _ _ _ _ _ (yz (C j) _ _ _ _ _ _ k) _ H) D;unfold Kh;obtain⟨G,I,J⟩:=e;have L:=d.pr.n;by_cases a:s<h.length
  ·simp only[go_sem,a];unfold Rz;have r:=t H hG.fm;obtain⟨P,R,K,S,_,w,_⟩:=r.sH.rs.at' s a;unfold yR SS.v at w;have l:=sx a;have y:=(r.sH.sp _ l).len;have z:=(d.pr.r _ l).1;obtain⟨H1,n⟩:∃H1,H1=(aH H (aB 0 [zS,.aA])).put H.nx (aB 0 [.str h[s].name.n h[s].name.a,h[s].rv]):=⟨_,rfl⟩;have m:Fm No H H1:=om;have A:H1.get H.nx=aB 0 [.str h[s].name.n h[s].name.a,h[s].rv]:=om;have M:H1.nx=H.nx+1:=om;refine gW K w y ?_;rw[<-n];rw[dD];have B:=hG.fm.nx;have Q:=hG.lt;have vG:∀c,In b c->c<H.nx:=λc u=>hG.gl.lt u;have F:=hG.base m;refine Sc o p (N:=N) (Hb:=H1) (jZ:=b) (sv:=sv) (mb:=mb) d l (λH' v=>?_) ⟨om,om,om,om⟩ (E:=fi h (h.take s)) (by have:=Yi d.pr s;omega) (λH' g X=>?_) bT 0 H1 b om lf om
   ·have O:Fm (λc=>c=gb\/In jZ c) Hb H':=(hG.fm.then m om).then v λc u f=>by
     rcases f with f|f
     ·omega
     ·rcases hG.nw c f with X|X
      ·grind
      ·omega
    refine⟨om,(v.get H.nx om λf=>?_).trans A⟩
    grind
   ·unfold yG;refine aS ?_;refine Sb o p d t ⟨G,I,J⟩ x k (s+1) H' g om om ?_;unfold fi at X ⊢;rw[nh a,nt,AJ];exact hG.comp m X
  ·simp only[go_sem,a]
   grind
def s7(x y:Edge):Bool:=decide (yC x y<0)
def bn(b:Bool):Nat:=if b then 1 else 0
theorem xbx{a b:Bool}(h:bn a=bn b):a=b:=by cases a<;>cases b<;>first|rfl|(simp[bn]at h)
theorem zyj(b:Bool):uW b=(bn b:Int):=by cases b<;>rfl
def xH(x y:Edge):Prop:=x.f<y.f\/(x.f=y.f/\(x.t<y.t\/(x.t=y.t/\bn x.s<bn y.s)))
theorem zl1(x y:Edge):s7 x y=true↔xH x y:=by unfold s7 yC xH;rw[zyj,zyj];simp only[s9,qI,qf,mE];omega
theorem Lf(x y:Edge):s7 x y=false↔¬xH x y:=by rw[<-zl1];cases s7 x y<;>simp
theorem xH.tri{x y:Edge}(g:¬xH x y)(h:¬xH y x):x=y:=by unfold xH at g h;obtain⟨a,b,c⟩:=x;obtain⟨d,e,f⟩:=y;simp only at g h;have i:a=d:=om;have j:b=e:=om;have k:bn c=bn f:=om;subst i;subst j;rw[xbx k]
theorem xH.irr(x:Edge):¬xH x x:=by unfold xH;omega
abbrev Asc(l:List Edge):Prop:=l.Pairwise xH
theorem zv0{x y:Edge}:yC x y<0↔xH x y:=by rw[<-zl1];unfold s7;simp
theorem Asc.ok(h:Asc E)(a:∀e∈E,e.f<n/\e.t<n):lP n E:=
 ⟨a,λi b=>zv0.2 (lEL.1 h i (i+1) om b om)⟩
def gE{α:Type}[DecidableEq α](S:List α)(i:Nat):Bool:=decide (i=0)|| !decide (S[i]? =S[i-1]?)
def nV{α:Type}[DecidableEq α](S:List α)(m:Nat):List α:=(List.range m).filterMap λi=>if gE S i then S[i]? else none
def j6{α:Type}[DecidableEq α](S:List α):List α:=nV S S.length
theorem MY[DecidableEq β](S:List β)(h:m<S.length):nV S (m+1)=nV S m++if gE S m then[S[m]]else[]:=by
 unfold nV;rw[uA,List.filterMap_append];congr 1;rw[List.filterMap_cons,List.filterMap_nil,j0 h]
 grind
theorem qqr[DecidableEq β]{S:List β}{x:β}:x∈j6 S↔x∈S:=by
 unfold j6 nV;rw[List.mem_filterMap];constructor
 ·grind
 ·intro f;have a:S.findIdx (λy=>decide (y=x))<S.length:=om;have c:=om;refine⟨S.findIdx λy=>decide (y=x),om,?_⟩;have b:S[S.findIdx λy=>decide (y=x)]=x:=om;have d:gE S (S.findIdx λy=>decide (y=x))=true:=by
   unfold gE;rw[ny];by_cases g:(S.findIdx λy=>decide (y=x))=0
   ·simp_all
   ·right;rw[dh,oq];intro h;have e:=om;rw[j0 a,j0 om,b]at h
    grind
  simp_all
theorem znl[DecidableEq β]{R:β->β->Prop}{S:List β}(h:∀x∈S,¬R x x)(e:∀x∈S,∀y∈S,¬R x y->¬R y x->x=y)(k:S.Pairwise λx y=>¬R y x):(j6 S).Pairwise R:=by
 unfold j6 nV;rw[List.pairwise_filterMap];refine List.Pairwise.imp_of_mem ?_ List.pairwise_lt_range;intro i j r s f x b y c;have a:j<S.length:=om;have d:i<S.length:=om;split at c
 ·rename_i n;split at b
  ·rw[j0 d]at b;rw[j0 a]at c;injection b with b;injection c with c;subst b c;have g:=lEL.1 k;have p:=g i j d a f;by_cases o:R S[i] S[j]
   ·grind
   ·exfalso;have l:=g (j-1) j om a om;have m:¬R S[j-1] S[j]:=om;have q:=e _ om _ om m l;unfold gE at n
    grind
  ·cases b
 ·cases c
theorem z1z(a:E.Pairwise λx y=>¬xH y x):Asc (j6 E):=znl (R:=xH) (λx _=>xH.irr x) (λ_ _ _ _=>xH.tri) a
def sortE(S:List Edge):List Edge:=S.mergeSort λx y=> !s7 y x
theorem ztv(S:List Edge):(sortE S).Pairwise λx y=>¬xH y x:=by
 have h:=List.pairwise_mergeSort (le:=λx y=> !s7 y x) (λa b c=>by
  simp only[dh,Lf];unfold xH;omega) (λa b=>by
  simp only[ny,dh,Lf];unfold xH;omega) S
 refine List.Pairwise.imp ?_ h;intro a b h;rwa [dh,Lf]at h
theorem qpi{x:Edge}:x∈sortE E↔x∈E:=(List.mergeSort_perm _ _).mem_iff
theorem UI(S:List Edge):(sortE S).length=S.length:=zy _
structure An{α:Type}[DecidableEq α](z:Nat)(f:α->List AV)(e0:AV->AV->Option Bool)(zs:List AV):Prop where
 len:∀x,(f x).length=z
 pos:0<z
 eq:∀(neg:Bool) (x y:α),iQ neg (e0 (.agg (f x)) (.agg (f y)))=.val (.bool (bif neg then !decide (x=y)else decide (x=y)))
 zl:zs.length=z
theorem dN{f:β->List AV}(b:∀x,(f x).length=N):∀l:List β,(l.flatMap f).length=l.length*N
 | []=>g3
 |a::l=>by rw[DM,nj,dN b l,b,nk,bz];omega
variable {α:Type} [DecidableEq α] {z:Nat} {f:α->List AV} {e0:AV->AV->Option Bool} {zs:List AV}
theorem zlt(z:Nat)(h:i<n):i*z+z<=n*z:=by
 have:=vL z h
 grind
omit [DecidableEq α]in
theorem Ae(a:∀x,(f x).length=z)(q:Nat)(A Z:List AV)(S:List α)(h:i<S.length):eY (aB q (A++S.flatMap f++Z)) (A.length+i*z) z=some (f S[i]):=by have b:=dN a S;have c:=zlt z h;rw[y7,sB (by simp only[nj];omega),sR,<-su,List.drop_left' rfl,oh om,xm (by rw[oz];omega),oA a S i h]
omit [DecidableEq α]in
theorem z18(c:∀x,(f x).length=z)(A Z:List AV)(e:α):∀(S:List α) (i:Nat),i<S.length->aY (A++S.flatMap f++Z) (A.length+i*z) (f e)=A++(S.set i e).flatMap f++Z:=by
 have b:∀(S:List α) (i:Nat),i<S.length->aY (S.flatMap f++Z) (i*z) (f e)=(S.set i e).flatMap f++Z:=by
  intro S
  induction S with
  |nil=>intro i h;simp at h
  |cons a S ih=>
   intro i h;have d:=c a;cases i with
   |zero=>unfold aY;simp_all
   |succ i=>have:=ih i om;rw[yc,DM,DM,sR,sR,<-this];unfold aY;rw[show(i+1)*z=(f a).length+i*z by rw[d,Nat.succ_mul];omega,qm,sR,sR,sR,af,qo]
 intro S i h;rw[sR,sR,<-b S i h];unfold aY;rw[qm,af,qo];simp
theorem zn4(n m i:Nat)(h:i<=n)(a:n<=m):aq n m (some (iN i)) none none=some ⟨i,n,m⟩:=by show(match(bif Nat.ble i n then some i else none)with|none=>none|some l=>some (Bd.mk l n m))=_;rw[ble_eq,j7 h];rfl
theorem RZ(z b o n i:Nat)(e:Bool)(h:i<n):kM z (.sl b o n n e) (some (iN i)) none none=.val (.sl b (o+i*z) (n-i) (n-i) e):=by
 show(match aq n n (some (iN i)) none none with|some bd=>jJ b o z bd e|none=>R0.bad)=_;rw[zn4 _ _ _ om (AF _)];unfold jJ;simp only[beq_eq]
 grind
theorem R2(z b o n i:Nat)(e:Bool)(h:i<=n)(a:0<n):kM z (.sl b o n n e) none (some (iN i)) none=.val (.sl b o i n e):=by
 show(match aq n n none (some (iN i)) none with|some bd=>jJ b o z bd e|none=>R0.bad)=_;rw[QR _ _ _ h];unfold jJ;simp only[beq_eq]
 grind
structure Am{α:Type}(f:α->List AV)(H:Hp)(b q:Nat)(A:List AV)(l:List α)(w:AV)(e:Bool)(H':Hp):Prop where
 is:∃m Z,w=.sl b A.length l.length m e/\l.length<=m/\0<m/\H'.get b=aB q (A++(l.flatMap f)++Z)
 fm:Fm (· =b) H H'
 nx:H'.nx=H.nx
theorem QK(m:An z f e0 zs){O:Ev.Call}{b q k0:Nat}{A:List AV}{S:List α}{e:Bool}(M:b<H0.nx)(C:0<k0/\k0<S.length)(N:S.length<900000){Q:pL}{qe:pD}(L:∀H (d:List α),d.length=S.length->H.get b=aB q (A++(d.flatMap f)++[])->d.take (j6 S).length=j6 S->(j6 S).length<S.length->0<(j6 S).length->Fm (· =b) H0 H->H.nx=H0.nx->Ok (qe (iN ((j6 S).length)) H) Q):∀(k k2:Nat) (H:Hp) (d:List α),1<=k2->k0+k2<=S.length->S.length-(k0+k2)<k->d.length=S.length->H.get b=aB q (A++(d.flatMap f)++[])->(∀p (h:p<S.length) (P:p<d.length),k0+k2-1<=p->d[p]=S[p]) -> d.take (nV S (k0+k2)).length=nV S (k0+k2)->(nV S (k0+k2)).length<k0+k2->0<(nV S (k0+k2)).length->Fm (· =b) H0 H->H.nx=H0.nx -> Ok (Cu O z e0 zs qe (.sl b A.length S.length S.length e) (.sl b (A.length+k0*z) (S.length-k0) (S.length-k0) e) k (iN ((nV S (k0+k2)).length)) (iN k2) H) Q
 |0,k2,_,_,_,_,h,_,_,_,_,_,_,_,_=>om
 |k+1,k2,H,d,h1,h2,h3,hc,hg,hp,ht,hl,h0,hf,hx=>by
  show Ok (Lp O z e0 zs _ _ _ (Cu O z e0 zs _ _ _ k) _ _ H) Q;unfold Lp;obtain⟨J,K⟩:=C;by_cases r:k0+k2<S.length
  ·have l:k2<S.length-k0:=om;have n:k2-1<S.length-k0:=om;unfold znp;have s:=Ae m.len q A [] d (i:=k0+k2) om;have t:=Ae m.len q A [] d (i:=k0+k2-1) om;rw[hp (k0+k2) r om om]at s;rw[hp (k0+k2-1) om om om]at t;rw[show A.length+(k0+k2)*z=A.length+k0*z+k2*z by rw[bz,af]]at s;rw[show A.length+(k0+k2-1)*z=A.length+k0*z+(k2-1)*z by rw[show k0+k2-1=k0+(k2-1)by omega,bz,af]]at t;rw[DN]at s t;have u:H.get b=aB q (A++(d.flatMap f)):=om;have j:=MY S r;have next:∀(H':Hp) (g:List α) (D:Nat),D=(nV S (k0+k2+1)).length->g.length=S.length->H'.get b=aB q (A++(g.flatMap f)++[])->(∀p (h:p<S.length) (P:p<g.length),k0+(k2+1)-1<=p->g[p]=S[p]) ->
     g.take (nV S (k0+(k2+1))).length=nV S (k0+(k2+1))->(nV S (k0+(k2+1))).length<k0+(k2+1)->0<(nV S (k0+(k2+1))).length->Fm (· =b) H0 H'->H'.nx=H0.nx ->
     Ok (Ie O z e0 zs (Cu O z e0 zs qe (.sl b A.length S.length S.length e) (.sl b (A.length+k0*z) (S.length-k0) (S.length-k0) e) k) (iN D) (iN k2) H') Q:=λH' g D E R T U V W X Y Z=>by
    subst E;unfold Ie;simp(disch:=go_size)only[go_sem,rB,rI,rK,rL,rN,rS,r6];exact QK m M ⟨J,K⟩ N L k (k2+1) H' g (by omega) (by omega) (by omega) R T U V W X Y Z
   have v:gE S (k0+k2)= !decide (S[k0+k2]=S[k0+k2-1]):=by unfold gE;rw[sT (show ¬k0+k2=0 by omega),uk,j0 r,j0 om];simp
   by_cases B:S[k0+k2]=S[k0+k2-1]
   ·have F:=ae B;rw[v,j7 B]at j;rw[show nV S (k0+k2)++(if(!true)=true then[S[k0+k2]]else[])=nV S (k0+k2)by simp]at j;simp(disch:=go_size)only[go_sem,rB,rI,rK,rL,rN,rS,r6,l,n,u,s,t,m.eq,F]
    grind
   ·rw[v,sT B]at j;rw[show nV S (k0+k2)++(if(!false)=true then[S[k0+k2]]else[])=nV S (k0+k2)++[S[k0+k2]]by simp]at j;have G:(nV S (k0+k2)).length<S.length:=om;have w:=ae (show A.length+(nV S (k0+k2)).length*z+(f S[k0+k2]).length<=(A++(d.flatMap f)).length by
     have h1:=dN m.len d;have h2:=zlt z (show(nV S (k0+k2)).length<d.length by omega);rw[nj,m.len];omega)
    have o:=z18 m.len A [] S[k0+k2] d (nV S (k0+k2)).length om;rw[DN,DN]at o;have x:(f S[k0+k2]).length=z:=m.len _;simp(disch:=go_size)only[go_sem,rB,rI,rK,rL,rN,rS,r6,l,n,u,s,t,m.eq,B,G,RU,x];rw[x]at w;simp(disch:=go_size)only[go_sem,rB,rI,rK,rL,rN,rS,r6,w,o];have I:(d.set (nV S (k0+k2)).length S[k0+k2]).length=S.length:=om;have y:(nV S (k0+k2+1)).length=(nV S (k0+k2)).length+1:=om;refine next _ (d.set (nV S (k0+k2)).length S[k0+k2]) _ y.symm I ?_ (λp a b c=>?_) ?_ ?_ ?_ (hf.put _ _ λ_=>rfl) hx
    ·grind
    ·rw[List.getElem_set_ne om]
     grind
    ·rw[<-af,y,j];rw[nh om,List.take_set_of_le (AF _),ht,List.getElem_set_self]
    ·grind
    ·grind
  ·have he:k0+k2=S.length:=om;have l:¬k2<S.length-k0:=om;simp only[go_sem,l];rw[he]at ht hl h0 ⊢;exact L H d hc hg ht hl h0 hf hx
theorem Ic[DecidableEq α]{S:List α}:∀{m:Nat},m<=S.length->(∀i,i<m->gE S i=true)->nV S m=S.take m
 |0,_,_=>rfl
 |m+1,h,hk=>by rw[MY S h,Ic om λi a=>hk i om,hk m om,nh h];rfl
theorem Yx(d:An z f e0 zs){q:Nat}{A:List AV}{S:List α}{e:Bool}(E:b<H0.nx)(F:S.length<900000)(G:H0.get b=aB q (A++(S.flatMap f)++[]))(I:∀w H,Am f H0 b q A (j6 S) w e H->Ok (qr w H) D)(J:j6 S=S->Ok (qe H0) D):∀(k i:Nat),0<i->i<=S.length->S.length-i<k->(∀p,p<i->gE S p=true)->Ok (Iz O z e0 zs qr qe (.sl b A.length S.length S.length e) k (iN i) H0) D
 |0,i,_,_,h,_=>om
 |k+1,i,h0,hi,hk,hp=>by
  show Ok (Pn O z e0 zs _ _ _ (Iz O z e0 zs _ _ _ k) _ H0) D;unfold Pn;by_cases a:i<S.length
  ·have c:i-1<S.length:=om;unfold zno;have s:=Ae d.len q A [] S a;have t:=Ae d.len q A [] S c;rw[DN]at s t;have l:H0.get b=aB q (A++(S.flatMap f)):=om;have u:gE S i= !decide (S[i]=S[i-1]):=by
    unfold gE;rw[sT (show ¬i=0 by omega),uk,j0 a,j0 c];simp
   by_cases Q:S[i]=S[i-1]
   ·have v:=ae Q;have x:=RZ z b A.length S.length i e a;have y:=MY S a;have M:=Ic om hp;have V:nV S (i+1)=S.take i:=om;have W:(nV S (i+1)).length=i:=om;simp(disch:=go_size)only[go_sem,seval,a,c,l,s,t,d.eq,v,x];rw[dD];have N:=QK d (O:=O) (Q:=D) (e:=e) (qe:=λP H=>Ig O z e0 zs qr (.sl b A.length S.length S.length e) P H) E (k0:=i) (S:=S) (A:=A) (q:=q) ⟨h0,a⟩ F (λH g K o R L T fm U=>by
     unfold Ig;have X:=RZ z b A.length S.length (j6 S).length e L;have Y:=R2 z b A.length S.length (j6 S).length e om om;have Z:¬S.length-(j6 S).length=0:=om;have B:oY zs H (.sl b (A.length+(j6 S).length*z) (S.length-(j6 S).length) (S.length-(j6 S).length) e)=.ok .undef (H.put b (aB q (A++((j6 S).flatMap f)++aU zs (S.length-(j6 S).length)))):=by
      show(bif Nat.beq (S.length-(j6 S).length) 0 then _ else storeAt H b (A.length+(j6 S).length*z) (aU zs (S.length-(j6 S).length)) .undef)=_;rw[beq_eq,sT Z,bu];have m:∀n,(aU zs n).length=n*z:=λn=>by
       induction n with
       |zero=>exact(sL z).symm
       |succ n ih=>show(_++aU _ n).length=_;rw[nj,ih,d.zl,Nat.succ_mul];omega
      have hsm:=Nat.sub_mul S.length (j6 S).length z;have hml:=vL z (dE L);have C:=dN d.len g;rw[K]at C;have cEf:=dN d.len (j6 S);have j:(g.flatMap f)=((j6 S).flatMap f)++((g.drop (j6 S).length).flatMap f):=by
       rw[<-nt];congr 1
       conv=>lhs;rw[<-qw (j6 S).length g,R]
      rw[h7 H b _ _ _ q _ o (by rw[nj,nj,m,DP];omega)];congr 3;unfold aY;rw[j,DN,<-sR,List.take_left' (by rw[nj];omega),m];rw[ig (by rw[nj,nj,dN d.len,dN d.len,oz,K];omega),DN]
     refine gW X B Y ?_;exact I _ _ ⟨om,om,U⟩) bT 1 H0 S om om lf rfl G om om om om om rfl
    simp_all
   ·rw[sT Q]at u;refine dG a c l s t d.eq Q ?_;unfold zy5;refine aS ?_;refine Yx d E F G I J k (i+1) om om om λp r=>?_
    grind
  ·simp only[go_sem,a];refine J ?_;have:=Ic (AF S.length) λp r=>hp p om;rw[aj]at this;exact this
theorem zy4(a:An z f e0 zs){S:List α}{e:Bool}(c:b<H.nx)(d:S.length<900000)(i:0<S.length)(g:H.get b=aB N (cs++S.flatMap f++[])):Ok (Dj O z e0 zs (.sl b cs.length S.length S.length e) H) λw H'=>Am f H b N cs (j6 S) w e H':=by
 unfold Dj;have same:j6 S=S->Am f H b N cs (j6 S) (.sl b cs.length S.length S.length e) e H:=λh=>by rw[h];exact⟨om,om,rfl⟩
 have k0:gE S 0=true:=rfl;by_cases h:S.length<2
 ·simp only[go_sem,h];refine Ok.ret (same ?_);have:=Ic (S:=S) (AF S.length) λp j=>om;rw[aj]at this;exact this
 ·simp only[go_sem,h];unfold znn;rw[dD];refine Yx a c d g (λw H' h=>Ok.ret h) (λh=>?_) bT 1 om om lf (om);exact Ok.ret (same h)
abbrev cS(S:List Edge):List AV:=S.flatMap Edge.cells
theorem cT(e:Edge):e.cells.length=3:=rfl
theorem zvj(neg:Bool)(x y:Edge):iQ neg (dL (eqFields [(p1,⟨pI⟩,0),(p1,⟨pI⟩,1),(p1,⟨zT⟩,2)]) (.agg x.cells) (.agg y.cells))=.val (.bool (bif neg then !decide (x=y)else decide (x=y))):=by
 have e:dL (eqFields [(p1,⟨pI⟩,0),(p1,⟨pI⟩,1),(p1,⟨zT⟩,2)]) (.agg x.cells) (.agg y.cells)=some (decide (x=y)):=by
  show andThen (some (uI (.ofNat x.f) (.ofNat y.f))) (andThen (some (uI (.ofNat x.t) (.ofNat y.t))) (andThen (some (x.s==y.s)) (some true)))=_;obtain⟨a,b,c⟩:=x;obtain⟨d,e,f⟩:=y;simp only[eI,Sy];by_cases g:a=d
  ·by_cases h:b=e
   ·cases c<;>cases f<;>simp[andThen,g,h]
   ·simp[andThen,g,h]
  ·simp[andThen,g]
 rw[e];rfl
theorem aXP:An 3 Edge.cells rU rh:=⟨cT,g4,zvj,rfl⟩
theorem zc6{k:Nat}(a:1<=k){q:Nat}{A:List AV}{S:List Edge}{e:Bool}(c:b<H.nx)(d:S.length<900000)(f:0<S.length)(g:H.get b=aB q (A++cS S++[])):Ok (C k (.f 276) [.sl b A.length S.length S.length e] H) λw H'=>Am Edge.cells H b q A (j6 S) w e H':=by obtain⟨j,rfl⟩:=aO a;rw[lk (MH ..)];exact zy4 aXP c d f g
structure bDd(c:Ev.Call):Prop where
 srt:∀(H:Hp) (v:AV) (es:List Edge),Gl 3 H v es.length (cS es)->es.length<=1000000->Ok (c (.f 274) [v,.fn 273 [] []] H) λr H'=>r=.aX []/\Gl 3 H' v es.length (cS (sortE es))/\Fm (In v) H H'
abbrev fG(C:Nat->Ev.Call):Prop:=∀k,bDd (C (k+1))
theorem YB{k:Nat}(c:1<=k){e:Bool}(a:n<=m):C k (.f 275) [.sl b o n m e] H=.ok (.sl b o n n true) H:=by
 obtain⟨j,rfl⟩:=aO c;rw[lk (Rh ..)];unfold X7 Y3;have d:kM 3 (.sl b o n m e) none (some (iN n)) (some (iN n))=.val (.sl b o n n true):=by
  show(match aq n m none (some (iN n)) (some (iN n))with|some bd=>jJ b o 3 bd true|none=>R0.bad)=_;have:aq n m none (some (iN n)) (some (iN n))=some ⟨0,n,n⟩:=by show(match(bif Nat.ble n m then some n else none)with|none=>none|some m'=>match(bif Nat.ble n m' then some n else none)with|none=>none|some h=>match(some 0:Option Nat)with|none=>none|some l=>some (Bd.mk l h m'))=_;rw[ble_eq,j7 a];simp only[AN,ble_eq,j7 (AF n)]
  rw[this];unfold jJ;simp only[beq_eq]
  grind
 simp only[go_sem,d]
theorem zov{k:Nat}(a:1<=k):C k (.f 275) [.aA] H=.ok .aA H:=by obtain⟨j,rfl⟩:=aO a;rw[lk (Rh ..)];rfl
theorem Ah(z:fG C){k:Nat}(N:2<=k)(B:Gl 3 H nv E.length (cS E))(O:E.length<900000):Ok (C k (.f 243) [nv] H) λw H'=>lX H' w (j6 (sortE E))/\dX w=.val (iN ((j6 (sortE E)).length))/\Fm (In nv) H H'/\(w=.aA\/∃b o n m e,w=.sl b o n m e)/\∀c,In w c->In nv c:=by
 obtain⟨j,rfl⟩:∃j,k=j+1+1:=⟨k-2,om⟩;rw[lk (zse ..)];refine Ok.ve ((z j).srt H nv E B om) ?_;rintro _ H1 ⟨rfl,g1,t⟩;rcases g1.is with⟨rfl,y⟩|⟨b,o,e,q,L,rfl,F,Q,G,R,I⟩
 ·have g:E=[]:=lE5.1 y;subst g;have d:C (j+1) (.f 276) [.aA] H1=.ok .aA H1:=by
   rw[lk (MH ..)];rfl
  have f:=zov (k:=j+1) om (H:=H1);simp only[go_sem,d,f];have p:j6 (sortE [])=[]:=by simp[j6,nV,sortE]
  rw[p];exact Ok.ret ⟨⟨rfl,rfl,(λb D=>by obtain⟨_,_,_,_,h⟩:=D;cases h),(λi l=>by simp at l)⟩,rfl,t,.inl rfl,λ_ h=>h⟩
 ·by_cases y:0<E.length
  ·have es:L=L.take o++cS (sortE E)++[]:=by rw[<-G,qw,DN]
   have r:(L.take o).length=o:=by rw[sY];omega
   have s:=UI E;have d:=zc6 (k:=j+1) om (H:=H1) (b:=b) (q:=q) (A:=L.take o) (S:=sortE E) (e:=e) I om om (by rw[<-es];exact F);rw[r,s]at d;refine Ok.ve d ?_;rintro w J u;obtain⟨m,Z,rfl,K,M,x⟩:=u.is;have f:=YB (k:=j+1) om (H:=J) (b:=b) (o:=(L.take o).length) (e:=e) K;simp only[go_sem,f];have P:=u.nx;refine Ok.ret ⟨⟨rfl,rfl,λc a=>?_,λi l=>⟨b,(L.take o).length+i*3,sD _ _ _ _ _ _ _ _ l,om,?_⟩⟩,rfl,?_,.inr ⟨_,_,_,_,_,rfl⟩,λc a=>by obtain⟨_,_,_,_,a⟩:=a;injection a with a;subst a;exact⟨_,_,_,_,rfl⟩⟩
   ·obtain⟨_,_,_,_,a⟩:=a;injection a with a;omega
   ·rw[x];exact Ae cT q _ _ _ l
   ·exact t.then u.fm λc _ h=>by subst h;exact⟨_,_,_,_,rfl⟩
  ·have g:E=[]:=lE5.1 om;subst g;have d:C (j+1) (.f 276) [.sl b o 0 0 e] H1=.ok (.sl b o 0 0 e) H1:=by
    rw[lk (MH ..)];rfl
   have f:=YB (k:=j+1) om (H:=H1) (b:=b) (o:=o) (n:=0) (m:=0) (e:=e) (AF _);simp only[go_sem,d,f];have p:j6 (sortE [])=[]:=by simp[j6,nV,sortE]
   rw[p];exact Ok.ret ⟨⟨rfl,rfl,(λc a=>by obtain⟨_,_,_,_,h⟩:=a;injection h with h;omega),(λi l=>by simp at l)⟩,rfl,t,.inr ⟨_,_,_,_,_,rfl⟩,λc a=>by obtain⟨_,_,_,_,a⟩:=a;injection a with a;subst a;exact⟨_,_,_,_,rfl⟩⟩
structure Do(H0 H:Hp)(nb mb:Nat)(ps:List (SS×SS)):Prop where
 n:H.get nb=aB 0 [.map mb]
 m:jG H mb ps
 o:H0.nx<=mb/\mb<nb/\nb<H.nx
 fm:Fm No H0 H
theorem Ty{nb mb pb:Nat}(m:dB H0 sv h)(n:(aF h).Nodup)(o:PrX h){s:Nat}(e:s<h.length)(v:∀H,Do H0 H nb mb ((dM h s++h[s].gs.map λx=>(h[s].name,x)).map kq)->Ok (qe H) D):∀(k i:Nat) (H:Hp),i<=h[s].gs.length->h[s].gs.length-i<k->Do H0 H nb mb ((dM h s++(h[s].gs.take i).map λx=>(h[s].name,x)).map kq)->H.get pb=aB 0 [.str h[s].name.n h[s].name.a,h[s].rv]->nb<pb->pb<H.nx -> Ok (FJ O qe (.ptr nb 0) (.ptr pb 0) h[s].rv (iN (h[s].gs.length)) k (iN i) H) D
 |0,i,_,_,X,_,_,_,_=>om
 |k+1,i,H,hi,hk,hI,hp,hpn,hpl=>by
  show Ok (ME O _ _ _ _ _ (FJ O _ _ _ _ _ k) _ H) D;unfold ME;obtain⟨r,z,A⟩:=hI.o;by_cases a:i<h[s].gs.length
  ·simp only[go_sem,a];unfold Rw;have g:=m.fm hI.fm;have c:=g.sp _ (sx e);obtain⟨L,B,C,M,_,_,_,t⟩:=c.at' i a;obtain⟨c0,Q,E,F,_,l⟩:=x9 (c.rel _ (sx a));rw[l]at t;have w:=(o.r _ (sx e)).1;obtain⟨H1,b⟩:∃H1,H1=(aH H (aB 0 [zS,.aA,uN 0,zS,zS,.aA])).put H.nx (aB 0 [.str h[s].gs[i].r.name.n h[s].gs[i].r.name.a,h[s].gs[i].tv,c0,Q,E,F]):=⟨_,rfl⟩;have f:Fm No H H1:=by rw[b];exact zL
   have I:H1.nx=H.nx+1:=by rw[b];rfl
   have y:=(f.keep A).trans hI.n;have k2:=(f.keep hpl).trans hp;have p:jG H1 mb ((dM h s++(h[s].gs.take i).map λx=>(h[s].name,x)).map kq):=hI.m.eq (f.keep om);obtain⟨G,u,N⟩:=p.bBn h[s].name h[s].gs[i].r.name (GD n e a);have d:=p.len;have j:=hI.n;rw[b,vu]at d u;refine cF C t j hp d u ?_;rw[<-b];unfold Ry;refine aS ?_;refine Ty m n o e v k (i+1) (H1.put mb G) om om ⟨?_,?_,⟨r,z,show nb<H1.nx by omega⟩,(hI.fm.trans f).aN _ _ r⟩ ?_ hpn (show pb<H1.nx by omega)
   ·rw[jR _ _ _ _ om];exact y
   ·have J:(dM h s++(h[s].gs.take (i+1)).map λx=>(h[s].name,x)).map kq=(dM h s++(h[s].gs.take i).map λx=>(h[s].name,x)).map kq++[(h[s].name,h[s].gs[i].r.name)]:=by
     have g:((h[s].gs.take (i+1)).map λx=>(h[s].name,x))=((h[s].gs.take i).map λx=>(h[s].name,x))++[(h[s].name,h[s].gs[i])]:=by rw[nh a,AO];rfl
     rw[g,<-sR,AO];rfl
    simp_all
   ·rw[jR _ _ _ _ om];exact k2
  ·simp only[go_sem,a];have K:i=h[s].gs.length:=om;simp_all
theorem Tz{H0:Hp}{sv:AV}{nb mb:Nat}(c:dB H0 sv h)(e:(aF h).Nodup)(b:PrX h)(f:∀H,Do H0 H nb mb (aF h)->Ok (qe H) D):∀(k s:Nat) (H:Hp),s<=h.length->h.length-s<k->Do H0 H nb mb ((dM h s).map kq) -> Ok (Bw O qe (.ptr nb 0) sv (iN (h.length)) k (iN s) H) D
 |0,i,_,_,X,_=>om
 |k+1,s,H,hi,hk,hI=>by
  show Ok (MF O _ _ _ _ (Bw O _ _ _ _ k) _ H) D;unfold MF;obtain⟨t,u,j⟩:=hI.o;have y:=b.n;by_cases a:s<h.length
  ·simp only[go_sem,a];unfold Rr;have g:=c.fm hI.fm;obtain⟨A,v,w,B,_,l,_⟩:=g.rs.at' s a;unfold yR SS.v at l;have o:=(g.sp _ (sx a)).len;have p:=(b.r _ (sx a)).1;have d:Fm No H ((aH H (aB 0 [zS,.aA])).put H.nx (aB 0 [.str h[s].name.n h[s].name.a,h[s].rv])):=by exact zL
   refine gW w l o ?_;rw[dD];refine Ty c e b a (pb:=H.nx) (λm n=>?_) bT 0 _ (vy _) lf ⟨(d.keep j).trans hI.n,?_,⟨t,u,gx⟩,hI.fm.trans d⟩ (gX _ _ _) j gx
   ·unfold MD;refine aS ?_;refine Tz c e b f k (s+1) m om om ?_;have z:dM h (s+1)=dM h s++h[s].gs.map λx=>(h[s].name,x):=by
     unfold dM eG;rw[nh a,nt,AJ]
    simp_all
   ·rw[ry,List.map_nil,DN];exact hI.m.eq (d.keep om)
  ·simp only[go_sem,a];have r:s=h.length:=om;refine f H ?_;have:dM h h.length=eG h:=by unfold dM;rw[aj]
   rw[r,this,vC]at hI;exact hI
theorem zbj(H:Hp)(b o m:Nat):kL H (.ptr b o) (.map m)=storeAt H b o [.map m] .undef:=id rfl
theorem z9a(a b x:AV):aY [a,b] 1 [x]=[a,x]:=id rfl
attribute [go_sem] zbj z9a
theorem zzf(Q:iO C)(U:fG C){k:Nat}(V:23<=k)(W:dB H sv X)(l:bV X):Ok (C k (.f 188) [.agg [sv]] H) λr H'=>∃w,r=.aX [.agg [iN ((aF X).length),w],iN 0]/\lX H' w (j6 (sortE (fi X X)))/\dX w=.val (iN ((j6 (sortE (fi X X))).length))/\Fm No H H'/\(w=.aA\/∃b o n m e,w=.sl b o n m e):=by
 obtain⟨j,rfl⟩:=aO V;rw[lk (zsv ..)];unfold XE;refine aS ?_;have f:Fm No H (aH (aH H (aB 0 [sv])) (aB 0 [iN 0,.aA])):=by exact sw
 refine Ok.ve (Mt Q (k:=j) om om l) ?_;rintro _ H1 ⟨rfl,B⟩;have n1:=B.nx;simp only[np]at n1;have fA:=f.trans B;have R:H1.get H.nx=aB 0 [sv]:=(B.keep g1).trans g6;have rb1:H1.get (H.nx+1)=aB 0 [iN 0,.aA]:=(B.keep gz).trans g5;have i:=W.fm fA;have D:=i.rs.len;have S:=l.pr.n;unfold Rq;refine dS R D ?_;rw[dD];generalize d:(aH (aH H1 (.map [] 0)) (aB 0 [.bU])).put (H1.nx+1) (aB 0 [.map H1.nx])=Hn;have fn:Fm No H1 Hn:=by rw[<-d];repeat first|exact Fm.refl _ _|assumption|refine Fm.push ?_ _|refine Fm.aN ?_ _ _ om
 have nn:Hn.nx=H1.nx+2:=by rw[<-d];rfl
 have kn:Hn.get (H1.nx+1)=aB 0 [.map H1.nx]:=by rw[<-d];exact gX _ _ _
 have km:Hn.get H1.nx=.map [] 0:=by rw[<-d];simp(disch:=first|go_size|omega)only[go_sem,seval]
 have E:jG Hn H1.nx ((dM X 0).map kq):=by
  have:(dM X 0).map kq=[]:=by unfold dM eG;simp
  exact kY.nil _ _ km
 refine Tz (sv:=sv) i l.al l.pr (H0:=H1) (nb:=H1.nx+1) (mb:=H1.nx) (λa p=>?_) bT 0 Hn (vy _) lf ⟨kn,E,om,fn⟩;unfold FK;have F:=p.n;have G:=p.m.len;have T:=p.fm;obtain⟨_,_,o3⟩:=p.o;have x2:=(T.keep om).trans R;have I:=(i.fm T).rs.len;refine jF F G x2 I ?_;rw[dD];generalize v:(aH a (aB 0 [iN 0,.aA])).put a.nx (aB 0 [iN ((aF X).length),.aA])=Hg;have fg:Fm No a Hg:=by rw[<-v];exact zL
 have kg:Hg.get a.nx=aB 0 [iN ((aF X).length),.aA]:=by rw[<-v];exact gX _ _ _
 have J:∀c,¬In AV.aA c:=λc h=>by obtain⟨_,_,_,_,h⟩:=h;cases h
 have K:∀H',Fm (λc=>c=a.nx\/In AV.aA c) Hg H'->Fm No H H':=om;refine Sb Q (j:=j) om (sv:=sv) (mb:=H1.nx) (Hb:=Hg) (jZ:=.aA) (N:=(aF X).length) l (λH' f'=>?_) ⟨om,om,om⟩ (λY ev g=>?_) bT 0 Hg .aA (vy _) lf ⟨kg,om,?_,Fm.refl _ _,λc h=>.inl h,λc h=>absurd h (J c)⟩
 ·have ne:∀c,c<a.nx->¬(c=a.nx\/In AV.aA c):=λc A h=>by
   simp_all
  refine⟨om,?_,?_,?_⟩
  ·grind
  ·grind
  ·exact(p.m.eq (fg.keep om)).eq om
 ·unfold BN;have q:=g.blk;have L:=g.fm;have n3:=L.nx;have s:(fi X X).length<900000:=by
   have:=Yi l.pr X.length;rw[aj]at this;omega
  simp only[go_sem,q];refine Ok.ve (Ah U (k:=j) om g.gl s) ?_;rintro w M ⟨hw,A,O,P,hin⟩;have t:=(O.get a.nx om (λh=>by have:=g.nin _ h;omega)).trans q;have u:M.get (H.nx+1)=aB 0 [iN 0,.aA]:=by
   refine(O.get _ om (λh=>by have:=g.nin _ h;omega)).trans ((L.get _ om (λh=>?_)).trans om)
   grind
  have fin:∀x y z:cZ,lX (((M.put a.nx x).put (H.nx+1) y)) w (j6 (sortE (fi X X)))/\Fm No H ((M.put a.nx x).put (H.nx+1) y):=λx y z=>by
   refine⟨hw.keep (AF _) λc Z _=>?_,?_⟩
   ·have:=g.nin c om
    grind
   ·refine((((K Y L).then O λc A h=>?_).aN _ _ om).aN _ _ om);have:=g.nin c h;omega
  rcases P with rfl|⟨wb,wo,wn,wm,we,rfl⟩
  ·refine dS t u ?_;obtain⟨g1,g2⟩:=fin (aB 0 [iN ((aF X).length),.aA]) (aB 0 [iN ((aF X).length),.aA]) .dead;exact Ok.ret ⟨_,rfl,g1,A,g2,.inl rfl⟩
  ·refine dS t u ?_;obtain⟨g1,g2⟩:=fin (aB 0 [iN ((aF X).length),.sl wb wo wn wm we]) (aB 0 [iN ((aF X).length),.sl wb wo wn wm we]) .dead;exact Ok.ret ⟨_,rfl,g1,A,g2,.inr ⟨_,_,_,_,_,rfl⟩⟩
 ·rw[ry];exact Gl.nil 3 _
theorem Uu(h:gN N=gN b):N%4=b%4:=by injection h with _ h;omega
theorem MT(h:dO N=dO b):N%3=b%3:=by unfold dO at h;simp_all
theorem Ut(a:Nat):gN (a%4)=gN a:=by unfold gN;rw[Nat.mod_mod]
theorem ztt(a:Nat):dO (a%3)=dO a:=by unfold dO;rw[Nat.mod_mod]
theorem xL(a:Nat):Nm (gN a):=by rw[<-Ut];have:∀i,i<4->gN i∈nmL:=g4;exact this _ om
theorem K6(a:Nat):Nm (dO a):=by rw[<-ztt];have:∀i,i<3->dO i∈nmL:=g4;exact this _ om
theorem X1:Nm sU:=by show sU∈nmL;decide
theorem zt3(a:Nat):¬gN a=sE:=λh=>(xL a).ne (by rw[h];exact⟨rfl,rfl⟩)
def mN(m n k:Nat):Prop:=n / 4*4<=k/\k<n / 4*4+4/\k<m
def RuP(L:List (List Nat))(n:Nat):Ru->Prop
 | .leaf k rl to=>(k=1/\rl=sE/\to=sE)\/(k=2/\to=sE/\∃i,rl=gN i/\mN (bY L) n i)\/(k=3/\∃i j,rl=gN i/\mN (bY L) n i/\to=gN j/\j<bY L/\(⟨dO (j / 4),sE⟩:jW)∈mO L i)
 | .node k a b=>(k=4\/k=5\/k=6)/\RuP L n a/\RuP L n b
theorem RuP.fit{L:List (List Nat)}:∀{r:Ru},RuP L n r->r.Fit
 | .leaf _ _ _,h=>by
  rcases h with h|⟨h,a,i,rfl,_⟩|⟨h,i,j,rfl,_,rfl,_⟩
  ·exact .inl h
  ·exact .inr (.inl ⟨h,xL i,a⟩)
  ·exact .inr (.inr ⟨h,xL i,xL j⟩)
 | .node _ _ _,⟨h,ha,hb⟩=>⟨h,ha.fit,hb.fit⟩
def NdP(L:List (List Nat))(n:Nat)(y:Nd):Prop:=
 (y.k=1/\y.rl=sE)\/(y.k=2/\∃i,y.rl=gN i/\mN (bY L) n i)\/(y.k=3/\∃i j,y.rl=gN i/\mN (bY L) n i/\y.to=gN j/\j<bY L/\(⟨dO (j / 4),sE⟩:jW)∈mO L i)\/4<=y.k
theorem RuP.nd{L:List (List Nat)}:∀{r:Ru} {neg:Bool},RuP L n r->∀y∈r.nodes neg,NdP L n y
 | .leaf _ _ _,neg,h,y,c=>by
  rw[Ru.nodes,lAK]at c;subst c;rcases h with⟨h,d,_⟩|⟨h,_,d⟩|⟨h,d⟩
  ·exact .inl ⟨h,d⟩
  ·exact .inr (.inl ⟨h,d⟩)
  ·exact .inr (.inr (.inl ⟨h,d⟩))
 | .node k a b,neg,⟨h,ha,hb⟩,y,c=>by
  rw[Ru.nodes,lE4,lAJ]at c;rcases c with rfl|c|c
  ·exact .inr (.inr (.inr (by show 4<=k;omega)))
  ·exact ha.nd y c
  ·exact hb.nd y c
theorem tF{l:List α}{d:α}(h:i<l.length):l.getD i d∈l:=om
theorem Ij{L:List (List Nat)}(a:n<bY L)(neg:Bool):RuP L n (eM neg):=by
 cases neg
 ·exact .inl ⟨rfl,rfl,rfl⟩
 ·refine .inr (.inl ⟨rfl,rfl,n / 4*4,?_,om,om,om⟩);rw[<-Ut (n / 4*4),Nat.mul_mod_left]
theorem zwb{L:List (List Nat)}{x:gO}(h:x∈mU L n neg):∃i j,x.rl=gN i/\mN (bY L) n i/\x.to=gN j/\j<bY L/\(⟨dO (j / 4),sE⟩:jW)∈mO L i:=by
 unfold mU oL at h;rw[lEI]at h;obtain⟨i,b,h⟩:=h;rw[qg2]at b;unfold AB at h;rw[lEI]at h;obtain⟨t,d,h⟩:=h;unfold cG at h;rw[lEA]at h;obtain⟨j,a,rfl⟩:=h;rw[lEU,qg2]at a;obtain⟨a,c⟩:=a;unfold iz at c;rw[sA,sA,gp,gp]at c;refine⟨i,j,rfl,⟨b.1,om,om⟩,rfl,a.2,?_⟩;have:t=⟨dO (j / 4),sE⟩:=by cases t;simp_all
 simp_all
theorem KP{L:List (List Nat)}(a:n<bY L):∀(d i:Nat) (neg:Bool),(neg=true->0<bB n)->RuP L n (fQ L n d i neg).1
 |0,i,neg,_=>by unfold fQ;exact Ij a neg
 |d+1,i,neg,hneg=>by
  have c:At (bY L) n neg:=⟨a,vT _ _,hneg⟩;unfold fQ;split
  ·exact Ij a neg
  split
  ·exact Ij a neg
  split
  ·have e:=M0 c;have b:=tF (d:=sE) (ah (gM L n i / 8) e);unfold bM at b;rw[lEA]at b;obtain⟨k,f,g⟩:=b;rw[lEU,qg2]at f;refine .inr (.inl ⟨rfl,rfl,k,?_,om,om,om⟩);rw[g];rfl
  split
  ·unfold xW;split
   ·exact Ij a neg
   ·rename_i h;have b:=tF (d:=(⟨sE,sE⟩:gO)) (ah (gM L n i / 8) (show 0<(mU L n neg).length by omega));exact .inr (.inr ⟨rfl,zwb b⟩)
  refine⟨?_,KP a d _ _ hneg,KP a d _ _ λh=>?_⟩
  ·unfold xV
   grind
  ·rw[ny,gp]at h;rcases h with h|h
   ·grind
   ·unfold xV at h
    grind
theorem Fq{f:α->β}:∀{l:List α},l.Nodup->(∀x∈l,∀y∈l,f x=f y->x=y)->(l.map f).Nodup
 | [],_,_=>uB
 |a::l,h,hf=>by rw[lOI]at h;rw[og,lOI];refine⟨λc=>?_,Fq h.2 λx d y g=>hf x (DQ _ d) y (DQ _ g)⟩;obtain⟨b,i,e⟩:=lEA.1 c;have:=hf b (DQ _ i) a vA e;simp_all
theorem TO{L:List (List Nat)}(c:n<bY L){t:jW}(h:t∈mO L n):(t.rl=sE/\(t.sp=sU\/∃i,i<(bY L+3) / 4/\t.sp=dO i))\/∃k,k<bY L/\t=⟨dO (k / 4),gN k⟩:=by
 unfold mO at h;rw[lAJ]at h;rcases h with h|h
 ·left;unfold yN at h;rw[lE4]at h;rcases h with rfl|h
  ·simp
  ·rw[lEA]at h;obtain⟨i,e,rfl⟩:=h;rw[lEU,qg2]at e;have:=om;unfold nS at this;exact⟨rfl,.inr ⟨i,om,rfl⟩⟩
 ·right;split at h
  ·rw[lAK]at h;have a:=tF (d:=(⟨sE,sE⟩:jW)) (ah (gM L n 1 / 2) (HW c));rw[<-h]at a;unfold vQ at a;rw[lEA]at a;obtain⟨k,b,rfl⟩:=a;rw[lEU,qg2]at b;exact⟨k,b.1.2,rfl⟩
  ·cases h
theorem qyd{L:List (List Nat)}(j:n<bY L):(mO L n).Nodup:=by
 have p:(yN (gM L n 0) (nS (bY L))).Nodup:=by
  unfold yN;rw[lOI];constructor
  ·intro h;rw[lEA]at h;obtain⟨i,_,e⟩:=h;injection e with e;injection e with e;omega
  ·have f:(rg 0 (nS (bY L))).Nodup:=by
    unfold rg
    grind
   refine Fq om λx l y m e=>?_
   ·rw[lEU,qg2]at l m;injection e with e;have:=MT e;have q:nS (bY L)<=3:=qi _ _;omega
 unfold mO;split
 ·rw[lI2];refine⟨p,om,λa o b g=>?_⟩;rw[lAK]at g;intro e;subst e;have c:=tF (d:=(⟨sE,sE⟩:jW)) (ah (gM L n 1 / 2) (HW j));rw[<-g]at c;unfold vQ at c;rw[lEA]at c;obtain⟨k,_,e⟩:=c;have f:a.rl=sE:=by
   unfold yN at o
   grind
  rw[<-e]at f;exact zt3 k f
 ·simp_all
def nF(n:Nat):SS×SS:=(dO (n / 4),gN n)
def jt(L:List (List Nat))(i:Nat):List kD:=(rg (4*i) (min (bY L) (4*i+4))).map (nJ L)
theorem z02(c:N<12)(d:b<12)(h:nF N=nF b):N=b:=by injection h with h1 h2;have:=MT h1;have:=Uu h2;omega
theorem aX2(m:Nat)(h:m<13):((List.range ((m+3) / 4)).flatMap λi=>(rg (4*i) (min m (4*i+4))).map λn=>(dO i,gN n))=(List.range m).map nF:=by
 have:∀m,m<13->((List.range ((m+3) / 4)).flatMap λi=>(rg (4*i) (min m (4*i+4))).map λn=>(dO i,gN n))=(List.range m).map nF:=g4
 grind
theorem zj5(k:Nat)(h:k<4):(sU::(List.range k).map dO).Nodup:=by
 have:∀k,k<4->(sU::(List.range k).map dO).Nodup:=g4
 grind
theorem LU(L:List (List Nat)):bY L<13:=by have:bY L<=12:=vT _ _;omega
structure qZ(L:List (List Nat))(X:List aP):Prop where
 map:X.map aP.sp=mS L
theorem Bb(bX:List kD)(r:kD):(vB bX r).name=r.name:=by unfold vB;split<;>rfl
variable {L:List (List Nat)} {X:List aP}
theorem qZ.names(h:qZ L X):X.map aP.name=sU::(List.range ((bY L+3) / 4)).map dO:=by
 have e:X.map aP.name=(X.map aP.sp).map SpS.name:=by rw[lL];rfl
 rw[e,h.map];unfold mS vX;rw[lL,og,lL];rfl
theorem qZ.all(h:qZ L X):aF X=(List.range (bY L)).map nF:=by
 have e:aF X=(X.map aP.sp).flatMap λs=>s.bX.map λr=>(s.name,r.name):=by unfold aF;rw[uf];congr 1;funext g;unfold aP.sp;simp
 rw[e,h.map,<-aX2 _ (LU L)];unfold mS vX;rw[uf,DM,uf];show[]++_=_;rw[au];congr 1;funext i;show((iu L i (min (bY L) (4*i+4))).bX.map (vB _)).map _=_;unfold iu;rw[lL,lL];refine qy λn _=>?_;simp only[Function.comp,Bb];rfl
theorem qZ.xX(h:qZ L X)(a:N<bY L):(dO (N / 4),gN N)∈aF X:=by rw[h.all];exact lEA.2 ⟨N,om,rfl⟩
theorem qZ.gs(h:qZ L X)(b:g∈X):(g.name=sU/\g.gs=[])\/∃i,i<(bY L+3) / 4/\g.name=dO i/\g.gs.map bA.r=(jt L i).map (vB (jt L i)):=by
 have a:g.sp∈mS L:=by rw[<-h.map];exact ik b
 unfold mS vX at a;rw[og,lE4,lL,lEA]at a;rcases a with a|⟨i,e,a⟩
 ·left;have c:=congrArg SpS.name a;have d:=congrArg SpS.bX a;refine⟨c,?_⟩;have:g.gs.map bA.r=[]:=d;simp_all
 ·right;refine⟨i,om,(congrArg SpS.name a).symm,(congrArg SpS.bX a).symm⟩
theorem qZ.x(h:qZ L X)(d:g∈X)(e:I∈g.gs):∃i n,i<(bY L+3) / 4/\g.name=dO i/\g.gs.map bA.r=(jt L i).map (vB (jt L i))/\n / 4=i/\n<bY L/\I.r=vB (jt L i) (nJ L n):=by
 rcases h.gs d with⟨_,c⟩|⟨i,j,k,c⟩
 ·simp_all
 ·have b:I.r∈g.gs.map bA.r:=ik e;rw[c,lEA]at b;obtain⟨r,a,l⟩:=b;unfold jt at a;rw[lEA]at a;obtain⟨n,f,rfl⟩:=a;rw[qg2]at f
  grind
theorem Ly(bX:List kD)(r:kD):∀t∈(vB bX r).types,t∈r.types:=by
 unfold vB
 grind
theorem zvd(h:RuP L n U):((U.nodes false).any λy=>decide (y.k=1))=gU U 1 sE:=by
 unfold gU;have a:=h.nd (neg:=false);generalize U.nodes false=l at a
 induction l with
 |nil=>rfl
 |cons y l ih=>
  rw[List.any_cons,List.any_cons,ih λz c=>a z (DQ _ c)];congr 1;unfold iJ;rcases a y vA with⟨b,d⟩|⟨b,_⟩|⟨b,_⟩|b
  ·simp_all
  ·grind
  ·grind
  ·grind
theorem qZ.val(h:qZ L X):bV X:=by
 have bZN:bY L<=12:=vT _ _;have o:(X.map aP.name).Nodup:=by rw[h.names];exact zj5 _ om
 have u:(aF X).Nodup:=by rw[h.all];exact Fq List.nodup_range λa Y b Z e=>z02 (by have:=lOF.1 Y;omega) (by have:=lOF.1 Z;omega) e
 have v:∀n,n<bY L->RuP L n (nJ L n).rule:=λn d=>KP d 6 2 false om;have bRa:X.length<=4:=by have:=congrArg List.length h.names;simp at this;omega
 refine⟨⟨om,λg f=>⟨?_,?_⟩,λg f x r=>?_⟩,u,o,λg f x r=>?_,λg f x r y I=>?_,λg f x r=>?_⟩
 ·rcases h.gs f with⟨_,A⟩|⟨i,C,_,A⟩
  ·grind
  ·have:=congrArg List.length A;unfold jt at this;simp only[vu,pc]at this;omega
 ·rcases h.gs f with⟨p,_⟩|⟨i,C,p,_⟩
  ·rw[p];exact X1
  ·rw[p];exact K6 i
 ·obtain⟨i,n,C,p,A,B,d,c⟩:=h.x f r;have hsm:=S4 L n;refine⟨?_,?_,⟨?_,?_,?_⟩,λt s=>?_⟩
  ·have:x.r.types.length<=(mO L n).length:=by
    rw[c];unfold vB;split
    ·exact AF _
    ·simp
   have:=Fc L n;omega
  ·rw[c,Bb];exact xL n
  ·rw[c,ko];exact(v n d).fit
  ·rw[c,ko];omega
  ·rw[c,ko];omega
  ·rw[c]at s;have w:=Ly _ _ t s;rcases TO d w with⟨D,q⟩|⟨k,m,rfl⟩
   ·refine⟨?_,om⟩;rcases q with q|⟨i,_,q⟩
    ·rw[q];exact X1
    ·rw[q];exact K6 i
   ·exact⟨K6 _,.inr (xL _)⟩
 ·obtain⟨i,n,C,p,A,B,d,c⟩:=h.x f r;constructor
  ·rw[c];unfold vB;split
   ·exact qyd d
   ·simp
  ·intro t s;rw[c]at s;have w:=Ly _ _ t s;rw[h.names];rcases TO d w with⟨D,q⟩|⟨k,m,rfl⟩
   ·refine⟨?_,om⟩
    grind
   ·exact⟨om,.inr (h.xX m)⟩
 ·obtain⟨i,n,C,p,A,B,d,c⟩:=h.x f r;rw[c,ko]at I;have J:∀k,mN (bY L) n k->(g.name,gN k)∈aF X:=λk m=>by
   have:=h.xX m.2.2;unfold mN at m
   grind
  rcases(v n d).nd y I with⟨e,_⟩|⟨e,k,D,m⟩|⟨e,k,j,D,m,q,hj,s⟩|e
  ·omega
  ·simp_all
  ·refine⟨om,λ_=>?_⟩;rw[D,q];obtain⟨x',U,_⟩:=li u o (J k m);obtain⟨V,E,P,en1,F⟩:=cL U;have K:V=g:=Mk o E f om;subst K;obtain⟨W,G,hi',Q,h2',cBM,hn',H⟩:=h.x E P;have M:W=i:=by
    have:=MT (Q.symm.trans p);omega
   subst M;have N:G=k:=by rw[H,Bb]at F;have:=Uu F;unfold mN at m;omega
   subst N;have l:mj (jt L W) (nJ L G)=true:=by
    unfold mj;rw[ny];right;rw[lIE];refine⟨nJ L n,?_,?_⟩
    ·unfold jt;exact lEA.2 ⟨n,qg2.2 ⟨om,om⟩,rfl⟩
    ·unfold gU;rw[lIE];refine⟨y,I,?_⟩;unfold iJ;rw[j7 e,j7 (show y.rl=(nJ L G).name from D)];rfl
   have O:x'.r.types=mO L G:=by rw[H];unfold vB;rw[sB l];rfl
   have T:dO (j / 4)∈iK X V.name (gN G) (gN j):=by unfold iK;rw[U];unfold fZ;rw[lEA];refine⟨⟨dO (j / 4),sE⟩,?_,rfl⟩;rw[lEU,O];refine⟨s,?_⟩;unfold jw;rw[E9 u o,j7 (h.xX hj)];rfl
   grind
  ·omega
 ·obtain⟨i,n,C,p,A,B,d,c⟩:=h.x f r;rw[c,ko,zvd (v n d),Bb];constructor
  ·intro R;unfold vB;rw[sB (by unfold mj;rw[R];rfl)];show mO L n≠[];unfold mO yN;simp
  ·intro R S;have l:mj (jt L i) (nJ L n)=true:=by
    unfold vB at S
    grind
   unfold mj at l;rw[R,uk]at l;have e:(g.gs.any λz=>gU z.r.rule 3 (nJ L n).name)=(g.gs.map bA.r).any λz=>gU z.rule 3 (nJ L n).name:=om;rw[e,A,uq];refine Eq.trans ?_ l;congr 1;funext z;simp only[Function.comp,ko]
theorem Bi(X:List aP):(eG X).length=(aF X).length:=by rw[<-vC,vu]
theorem GA(X:i<(eG h).length)(a:i<(aF h).length):(aF h)[i]=((eG h)[i].1,(eG h)[i].2.r.name):=by
 have e:(aF h)[i]? =some (kq (eG h)[i]):=by rw[<-vC,AS,j0 X];rfl
 rw[j0 a]at e;exact Option.some.inj e
theorem bV.at(c:bV h)(X:i<(eG h).length):kQ h (eG h)[i].1 (eG h)[i].2.r.name=some (eG h)[i].2/\dA h (eG h)[i].1 (eG h)[i].2.r.name=i/\∃g∈h,(eG h)[i].2∈g.gs/\g.name=(eG h)[i].1:=by
 have b:i<(aF h).length:=by rw[<-Bi];exact X
 have j:=Mw c.al b;have k:dA h (eG h)[i].1 (eG h)[i].2.r.name=i:=by rw[GA X b]at j;exact j
 have a:((eG h)[i].1,(eG h)[i].2.r.name)∈aF h:=by rw[<-GA X b];exact sx b
 obtain⟨x,m,d⟩:=li c.al c.sp a;rw[k,j0 X]at d;injection d with d;refine⟨om,k,?_⟩;obtain⟨g,l,f,e⟩:=qgs.1 (show((eG h)[i].1,(eG h)[i].2)∈eG h from sx X);exact⟨g,l,f,e⟩
structure bEz(c d:Ev.Call):Prop where
 aXQ:∀(b o n m:Nat) (x:Bool) (H:Hp) (r:R1),uJ H b o n=some r->c (.f 304) [.sl b o n m x,.fn 305 [] []] H=r
 aJc:∀(H:Hp),c (.f 304) [.aA,.fn 305 [] []] H=.ok (.aX []) H
 aYb:∀(b o m:Nat) (x:Bool) (H:Hp),c (.f 304) [.sl b o 0 m x,.fn 305 [] []] H=.ok (.aX []) H
abbrev pP(C:Nat->Ev.Call):Prop:=∀k,bEz (C (k+1)) (C k)
structure aWD(c d:Ev.Call):Prop where
 kV:∀(x0:AV) (H:Hp),c (.f 282) [x0] H=Di.kV d x0 H
 srt:∀(b o n m:Nat) (x:Bool) (H:Hp) (r:R1),px H b o n=some r->c (.f 281) [.sl b o n m x] H=r
 aJc:∀(H:Hp),c (.f 281) [.aA] H=.ok (.aX []) H
abbrev qM(C:Nat->Ev.Call):Prop:=∀k,aWD (C (k+1)) (C k)
variable {LA LO:LP}
theorem Gl.rl(h:Gl 1 H nv n l):Rl H nv l:=by
 have a:l.length=n:=by have:=h.len;omega
 refine⟨by rw[h.bF,a],λi c=>?_⟩;obtain⟨b,o,d,e,_,f⟩:=h.at (i:=i) (x:=l[i]) g3
 grind
theorem tR(l:List Nat)(h:i<(aJ l).length):(aJ l)[i]=.int .i64 (.ofNat (l[i]'(by simpa [aJ] using h))):=by simp[aJ]
theorem oF(l:List Nat):(aJ l).length=l.length:=by simp[aJ]
variable{Y Z:List Nat}
theorem Ui(f:Rl H nv (aJ W))(p:W.length<900000)(q:W=Y++N::Z)(g:N∉Y)(m:Ok (qr (.int .i64 (.ofNat Y.length)) H) D):∀(k i:Nat),Y.length+1-i<k+1->i<=Y.length -> Ok (DV O qr qe nv (.int .i64 (.ofNat N)) (.int .i64 (.ofNat W.length)) k (.int .i64 (.ofNat i)) H) D
 |0,i,h,hi=>om
 |k+1,i,h,hi=>by
  show Ok (Zk O _ _ _ _ _ (DV O _ _ _ _ _ k) _ H) D;unfold Zk;have r:W.length=Y.length+1+Z.length:=om;have hil:i<W.length:=om;obtain⟨b,o,n,t,a⟩:=f.at' i (by rw[oF];exact hil);rw[tR]at a;simp only[go_sem,hil];unfold zxt;by_cases s:i=Y.length
  ·subst s;have d:W[Y.length]'hil=N:=om;rw[d]at a;simp only[go_sem,n,a];exact m
  ·have d:N≠W[i]'hil:=λe=>g (by
    have:W[i]'hil=Y[i]'om:=om;rw[e,this];exact sx _)
   simp only[go_sem,n,a,d];unfold lC;refine aS ?_;exact Ui f p q g m k (i+1) om om
theorem zwp{k:Nat}(c:1<=k)(a:Rl H nv (aJ W))(d:W.length<900000)(e:W=Y++N::Z)(f:N∉Y):Ok (C k (.f 351) [nv,.int .i64 (.ofNat N)] H) λr H'=>r=.int .i64 (.ofNat Y.length)/\H'=H:=by obtain⟨j,rfl⟩:=aO c;rw[lk (zre ..)];unfold WT;have b:=a.len;rw[oF]at b;simp only[go_sem,b];rw[dD];have g:W.length=Y.length+1+Z.length:=om;exact Ui a d e f (Ok.ret ⟨rfl,rfl⟩) bT 0 lf om
theorem zn0(O:Ev.Call)(l:Nat)(args:List AV)(H:Hp):oV O (.yield l) args H=O (.y l) args H:=id rfl
theorem Ta(m:l.length<900000)(f:Rl H0 nv l){Inv:Nat->Hp->Prop}(g:∀i H,Inv i H->Fm No H0 H)(j:∀i (h:i<l.length) H,Inv i H->Ok (O (.y N) [l[i]] H) λr H'=>r=.bool true/\Inv (i+1) H'){c:pH}(p:∀H,Inv l.length H->Ok (c H) D):∀(k i:Nat) (H:Hp),l.length-i<k->i<=l.length->Inv i H -> Ok (Ef O qe c (.yield N) nv (.int .i64 (.ofNat l.length)) k (.int .i64 (.ofNat i)) H) D
 |0,i,H,h,_,_=>om
 |k+1,i,H,h,hi,hI=>by
  show Ok (Ob O _ _ _ _ _ (Ef O _ _ _ _ _ k) _ H) D;unfold Ob;by_cases a:i<l.length
  ·obtain⟨b,o,q,t,s⟩:=(f.fm (g i H hI)).at' i a;simp only[go_sem,a];unfold Oa;simp only[go_sem,q,s,zn0];refine Ok.ve (j i a H hI) ?_;rintro r H' ⟨rfl,e⟩;unfold lC;refine aS ?_;exact Ta m f g j p k (i+1) H' om om e
  ·have:i=l.length:=om;simp only[go_sem,a];simp_all
theorem zc2{k:Nat}(b:1<=k)(c:l.length<900000)(a:Rl H0 nv l){vb y:Nat}(d:H.get vb=aB 0 [nv]){Inv:Nat->Hp->Prop}(e:∀i H',Inv i H'->Fm No H0 H')(f:∀i (h:i<l.length) H',Inv i H'->Ok (C (k-1) (.y y) [l[i]] H') λr H'=>r=.bool true/\Inv (i+1) H')(g:Inv 0 H):Ok (C k (.f 366) [.yield y,.ptr vb 0] H) λr H'=>r=.aX []/\Inv l.length H':=by obtain⟨j,rfl⟩:=aO b;rw[lk (zq7 ..)];unfold WM;have m:=a.len;simp only[go_sem,d,m];rw[dD];exact Ta c a e f (λH' h=>Ok.ret ⟨rfl,h⟩) bT 0 H lf om g
end Go.Di
end
