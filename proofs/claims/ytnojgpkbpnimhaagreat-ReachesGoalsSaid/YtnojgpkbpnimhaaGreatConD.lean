/-
 For ReachesGoals: functions in direct style, their contracts, and the plain mathematics, part 4 of 11. No conditions beyond those that each theorem states.
-/
import Derived.Test.YtnojgpkbpnimhaaGreatLinkA
import Derived.Test.YtnojgpkbpnimhaaGreatEv3
import Derived.Test.YtnojgpkbpnimhaaGreatEv4
import Derived.Test.YtnojgpkbpnimhaaGreatConA
import Derived.Test.YtnojgpkbpnimhaaGreatConB
set_option linter.unusedSimpArgs false
set_option linter.unusedVariables false
open Nat renaming reduceAdd->rB,reduceMul->rI,reduceSub->rK,reduceLeDiff->rL,reduceEqDiff->rN,reduceShiftRight->rS,reduceAnd->r6
noncomputable section
namespace Go.Di
open Go.Ev Go.Proofs
variable {H:Hp} {l:List AV}
theorem zbh{P:Program}{ext:Ext}{f:FuncId}{args:List AV}(h:ext f args H=none)(k:Nat):gT P ext (k+1) (.f f) args H=(aK P f).f (gT P ext k) args H:=by show @Option.rec R1 (fun _=>R1) ((zG P f).f (gT P ext k) args H) (fun r=>r) (ext f args H)=_;rw[h,q4b]
theorem q4n{P:Program}{ext:Ext}{f:FuncId}{args:List AV}{r:R1}(h:ext f args H=some r)(k:Nat):gT P ext (k+1) (.f f) args H=r:=by show @Option.rec R1 (fun _=>R1) ((zG P f).f (gT P ext k) args H) (fun r=>r) (ext f args H)=_;rw[h]
theorem z4p{P:Program}{ext:Ext}{l:Nat}{args:List AV}(k:Nat):gT P ext (k+1) (.y l) args H=qh1 P (gT P ext k) l args H:=by show q6w P (gT P ext k) l args H=_;rw[qw7]
def nZ:List (Nat×Nat):=[(4,1919251317),(1,97),(1,98),(1,99),(2,12402),(2,12658),(2,12914),(2,13170)]
def eZ0:Ext:=qhg 218 217 (qnc 247 248 (qus 225 (quh [252,231] nZ (q6x [4]))))
def eZ:Ext:=qhf 128 129 eZ0
attribute [local irreducible] Go.Ev.gT Go.Ev.aK Go.Ev.zG
def CZ(k:Nat):Ev.Call:=gT Tryz.prog eZ k
theorem zmb(k:Nat)(f:FuncId)(l:List AV)(H:Hp)(h:eZ f l H=none):CZ (k+1) (.f f) l H=(aK Tryz.prog f).f (CZ k) l H:=
 zbh (P:=Tryz.prog) (ext:=eZ) (f:=f) (args:=l) (H:=H) h k
theorem sz{k:Nat}{f:FuncId}(h:eZ f l H=none):CZ (k+1) (.f f) l H=(aK Tryz.prog f).f (CZ k) l H:=zmb _ _ _ _ h
theorem qdl(k:Nat)(f:FuncId)(l:List AV)(H:Hp){r:R1}(h:eZ f l H=some r):CZ (k+1) (.f f) l H=r:=
 q4n (P:=Tryz.prog) (ext:=eZ) (f:=f) (args:=l) (H:=H) h k
theorem aOb(k l:Nat)(a:List AV)(H:Hp):CZ (k+1) (.y l) a H=qh1 Tryz.prog (CZ k) l a H:=z4p k
theorem zt0(k:Nat)(H:Hp)(h:1<=k):CZ k (.f 4) [] H=.ok (.bool true) H:=by
 have:k=(k-1)+1:=by omega
 rw[this];exact qdl _ _ _ _ rfl
def C:Nat->Ev.Call:=(cK CZ).1
theorem xN:C=CZ:=(cK CZ).2
theorem lk{k:Nat}{f:FuncId}{r:R1}(h:(aK Tryz.prog f).f (C k) l H=r)(e:eZ f l H=none:=by rfl):C (k+1) (.f f) l H=r:=by rw[xN]at h ⊢;exact(zmb _ _ _ _ e).trans h
end Go.Di
end
noncomputable section
namespace Go.Di
open Go.Ev
variable {H H' H0 H1:Hp} {S:Nat->Prop} {b cb i j m n sb z:Nat} {O:Ev.Call} {cs l:List AV} {neg:Bool} {sv w:AV}
theorem wH:bZ=1000000:=rfl
attribute [go_sem] qoo qja qon qi9 qrq qm6 qrp qm5 qro qm4 qrn qm3 qrm qm2 qrl qm1 qrk qm0 qrd qmq qrc qmp qrb qmo qwr qte
theorem lf{p:Prop}(h:p:=by rw[wH];omega):p:=h
theorem Gl.oZ{v:AV}(h:Gl z H v n l)(c:i<n):∃ b o,aH z v (iN i)=.val (.ptr b o)/\b<H.nx/\In v b/\fD (H.get b) o z=some ((l.drop (i*z)).take z)/\∀(j:Nat),j<z->bX (H.get b) (o+j)=.val (l.getD (i*z+j) .undef):=by
 have f:=h.len;rcases h.is with⟨rfl,rfl⟩|⟨b,o,e,q,L,rfl,d,r,a,s,g⟩
 ·omega
 ·have m:i*z+z<=n*z:=by
   have:(i+1)*z<=n*z:=xh z c;rw[zk,lA5]at this;exact this
  have p:o+n*z=L.length:=by rw[<-a,vz]at f;omega
  refine⟨b,o+i*z,vL _ _ _ _ _ _ _ _ c,g,⟨_,_,_,_,rfl⟩,?_,fun j k=>?_⟩
  ·rw[d,yU,qj om,<-lAT,a]
  ·rw[d,qca];have:L[o+i*z+j]? =l[i*z+j]? :=by rw[<-a,zg];congr 1;omega
   rw[this,lq om];simp[gy,show i*z+j<l.length by omega]
structure Rs{α:Type}(z:Nat)(f:α->List AV)(H:Hp)(v:AV)(l:List α):Prop where
 len:aD v=.val (iN (l.length))
 at':∀ i (h:i<l.length),∃b o,aH z v (iN i)=.val (.ptr b o)/\b<H.nx/\In v b/\fD (H.get b) o z=some (f l[i])/\∀ j (h:j<(f l[i]).length),bX (H.get b) (o+j)=.val (f l[i])[j]
theorem Rs.dP{α:Type}{f:α->List AV}{v:AV}{l:List α}(h:Rs z f H v l)(a:Fm S H H')(g:∀ b,In v b->¬ S b):Rs z f H' v l:=⟨h.len,fun i k=>by obtain⟨b,o,n,c,d,p,q⟩:=h.at' i k;have e:=a.get b c (g b d);exact⟨b,o,n,ku c a.nx,d,by rw[e];exact p,fun j m=>by rw[e];exact q j m⟩⟩
theorem Rs.fm{α:Type}{f:α->List AV}{v:AV}{l:List α}(h:Rs z f H v l)(a:Fm No H H'):Rs z f H' v l:=h.dP a fun _ _ h=>h
structure Ac{α:Type}(z:Nat)(f:α->List AV)(H0 H:Hp)(v:AV)(l:List α):Prop where
 gl:Gl z H v l.length (l.flatMap f)
 fm:Fm No H0 H
 nw:∀ b,In v b->H0.nx<=b
theorem Ac.nil{α:Type}(z:Nat)(f:α->List AV)(h:Fm No H0 H):Ac z f H0 H .aA ([]:List α):=⟨Gl.nil z H,h,fun b a=>by obtain⟨_,_,_,_,h⟩:=a;cases h⟩
theorem Ac.no{α:Type}{f:α->List AV}{v:AV}{l:List α}(h:Ac z f H0 H v l)(a:Fm No H H'):Ac z f H0 H' v l:=⟨h.gl.no a,h.fm.trans a,h.nw⟩
theorem Ac.bM{α:Type}{f:α->List AV}{v:AV}{l:List α}(h:Ac z f H0 H v l):aD v=.val (iN (l.length)):=h.gl.bM
theorem Ac.add{α:Type}{f:α->List AV}{v:AV}{l:List α}(h:Ac z f H0 H v l)(x:α)(w:Nat)(o:(f x).length=z)(a:(l.length+1)*w<=1099511627776)(d:l.length+1<=1099511627776):Ok (iM z w H v (some ⟨1,f x⟩)) fun g H'=>Ac z f H0 H' g (l++[x]):=by
 obtain⟨H',e,j,_,m,nx'⟩:=h.gl.append (k:=1) (w:=w) (x:=f x) om om a d;refine⟨_,H',e,?_,h.fm.then m fun c p i=>by have:=h.nw c i;omega,fun b a=>?_⟩
 ·simp_all
 ·obtain⟨_,_,_,_,n⟩:=a;cases n;exact h.fm.nx
theorem qis{α:Type}{z:Nat}{f:α->List AV}(b:∀ x,(f x).length=z):∀(l:List α) (i:Nat) (h:i<l.length),((l.flatMap f).drop (i*z)).take z=f l[i]
 | [],_,h=>by simp at h
 |a::l,0,_=>by simp_all
 |a::l,i+1,h=>by rw[uA,zk,lA5,Nat.add_comm,<-lAT,List.drop_left' (b a)];exact qis b l i (by simpa using h)
theorem Gl.rs{α:Type}{f:α->List AV}(c:∀ x,(f x).length=z){v:AV}{l:List α}(h:Gl z H v l.length (l.flatMap f)):Rs z f H v l:=⟨h.bM,fun i d=>by
 obtain⟨b,o,g,k,m,e,n⟩:=h.oZ d;rw[qis c l i d]at e;refine⟨b,o,g,k,m,e,fun j a=>?_⟩;rw[n j (by rw[c]at a;exact a)];have:(f l[i])[j]? =(l.flatMap f)[i*z+j]?:=by rw[<-qis c l i d,lA9,qj (by rw[c]at a;exact a),zg]
 rw[lq a]at this;rw[gy,<-this];rfl⟩
theorem Ac.rs{α:Type}{f:α->List AV}(a:∀ x,(f x).length=z){v:AV}{l:List α}(h:Ac z f H0 H v l):Rs z f H v l:=h.gl.rs a
theorem Gl.lt{v:AV}(h:Gl z H v n l)(c:In v b):b<H.nx:=by
 obtain⟨o,d,m,e,rfl⟩:=c;rcases h.is with⟨a,_⟩|⟨f,g,i,q,L,a,_,_,_,_,j⟩
 ·cases a
 ·simp_all
structure lW{α:Type}(z:Nat)(f:α->List AV)(S:Nat->Prop)(H0 H:Hp)(v:AV)(l:List α):Prop where
 gl:Gl z H v l.length (l.flatMap f)
 fm:Fm S H0 H
 nw:∀ b,In v b->S b\/H0.nx<=b
theorem lW.no{α:Type}{f:α->List AV}{v:AV}{l:List α}(h:lW z f S H0 H v l)(a:Fm No H H'):lW z f S H0 H' v l:=⟨h.gl.no a,h.fm.then a fun _ _ h=>absurd h id,h.nw⟩
theorem lW.add{α:Type}{f:α->List AV}{v:AV}{l:List α}(h:lW z f S H0 H v l)(x:α)(w:Nat)(o:(f x).length=z)(a:(l.length+1)*w<=1099511627776)(d:l.length+1<=1099511627776):Ok (iM z w H v (some ⟨1,f x⟩)) fun g H'=>lW z f S H0 H' g (l++[x]):=by
 obtain⟨H',e,j,_,m,nx'⟩:=h.gl.append (k:=1) (w:=w) (x:=f x) om om a d;refine⟨_,H',e,?_,h.fm.then m fun c p i=>?_,fun b a=>?_⟩
 ·simp_all
 ·rcases h.nw c i with h|h
  ·exact h
  ·omega
 ·obtain⟨_,_,_,_,n⟩:=a;cases n;exact .inr h.fm.nx
theorem Ac.start{α:Type}{f:α->List AV}{v:AV}{l:List α}(h:Ac z f H0 H v l):lW z f (In v) H H v l:=⟨h.gl,Fm.refl _ _,fun _ h=>.inl h⟩
theorem Ac.old{α:Type}{f:α->List AV}{v:AV}{l:List α}(h:Ac z f H0 H v l)(a:Fm (In v) H H'):Fm No H0 H':=h.fm.then a fun c d b=>by have:=h.nw c b;omega
theorem Ac.fin{α:Type}{f:α->List AV}{v d:AV}{l e:List α}(h:Ac z f H0 H v l)(a:lW z f (In v) H H' d e):Ac z f H0 H' d e:=⟨a.gl,h.old a.fm,fun b g=>by
 rcases a.nw b g with c|c
 ·exact h.nw b c
 ·exact rq h.fm.nx c⟩
structure SS where
 n:Nat
 a:Nat
 deriving DecidableEq
def SS.v(s:SS):AV:=.str s.n s.a
def sE:SS:=⟨0,0⟩
def sU:SS:=⟨4,1919251317⟩
def lvl(n:Nat):Nat:=[0,1,1,2].getD (n%4) 0
def fO(n:Nat):SS:=⟨2,12402+256*(n%4)⟩
def dJ(n:Nat):SS:=⟨1,97+n%3⟩
def bS(L:List (List Nat)):Nat:=min L.length 12
def fJ(L:List (List Nat))(n i:Nat):Nat:=(L.getD n []).getD i 0
structure Rl(H:Hp)(v:AV)(l:List AV):Prop where
 len:aD v=.val (iN (l.length))
 at':∀ i (h:i<l.length),∃b o,aH 1 v (iN i)=.val (.ptr b o)/\b<H.nx/\bX (H.get b) o=.val l[i]
theorem Rl.fm{v:AV}(h:Rl H v l)(f:Fm No H H'):Rl H' v l:=⟨h.len,fun i c=>by obtain⟨b,o,d,a,e⟩:=h.at' i c;exact⟨b,o,d,ku a f.nx,by rw[f.keep a];exact e⟩⟩
def u8s(l:List Nat):List AV:=l.map fun x=>uN x
structure iB(H:Hp)(v:AV)(L:List (List Nat)):Prop where
 flat:vT v=true
 ex:∃ ws:List AV,Rl H v ws/\ws.length=L.length/\∀ i (h:i<ws.length) (h':i<L.length),Rl H ws[i] (u8s L[i])
 lt:∀ l∈L,∀x∈l,x<256
theorem iB.fm{v:AV}{L:List (List Nat)}(h:iB H v L)(f:Fm No H H'):iB H' v L:=by obtain⟨ws,c,d,e⟩:=h.ex;exact⟨h.flat,⟨ws,c.fm f,d,fun i a b=>(e i a b).fm f⟩,h.lt⟩
theorem iB.len{v:AV}{L:List (List Nat)}(h:iB H v L):aD v=.val (iN (L.length)):=by obtain⟨ws,a,b,_⟩:=h.ex;rw[a.len,b]
theorem iB.at{v:AV}{L:List (List Nat)}(h:iB H v L)(a:i<L.length):∃ b o w,aH 1 v (iN i)=.val (.ptr b o)/\b<H.nx/\bX (H.get b) o=.val w/\Rl H w (u8s L[i]):=by obtain⟨ws,c,j,d⟩:=h.ex;obtain⟨b,o,e,f,g⟩:=c.at' i om;exact⟨b,o,ws[i]'om,e,f,g,d i om a⟩
theorem qsu(n a:Nat):uQ (.str n a)=some [.str n a]:=id rfl
theorem z7b(x:List AV):aS x 4=x++(x++(x++x)):=id (by show x++(x++(x++(x++[])))=_;rw[uf])
attribute [go_sem] qsu z7b
theorem aVS(a b:Nat):qL o7 (iN a) [iN b]=.val (iN ((min a b))):=by
 show R0.val (.int .i64 (bif qZ (.ofNat b) (.ofNat a)then .ofNat b else .ofNat a))=_;rw[qel];by_cases h:b<a
 ·rw[qc (by simp only[ut];omega),Nat.min_eq_right om];rfl
 ·rw[ql (by simp only[ut];omega),yu om];rfl
theorem qk8{k:Nat}(a:1<=k){v:AV}{L:List (List Nat)}(h:iB H v L):Ok (C k (.f 53) [.agg [v]] H) fun r H'=>r=iN ((bS L))/\Fm No H H':=by obtain⟨j,rfl⟩:=aP a;rw[lk (zrb ..)];unfold zAn z1s;have e:=h.len;refine eF e aVS ?_;exact Ok.ret ⟨rfl,fm⟩
theorem at4{α:Type}(a b c d:α)(n:Nat):[a,b,c,d][n%4]? =some ([a,b,c,d].getD (n%4) a):=by
 have e:n%4<4:=xq _ om
 match n%4,e with
 |0,_|1,_|2,_|3,_=>rfl
theorem at3{α:Type}(a b c:α)(n:Nat):[a,b,c][n%3]? =some ([a,b,c].getD (n%3) a):=by
 have d:n%3<3:=xq _ om
 match n%3,d with
 |0,_|1,_|2,_=>rfl
theorem qem{k:Nat}(a:1<=k)(n:Nat)(c:n<1000000)(H:Hp):Ok (C k (.f 112) [iN n] H) fun r H'=>r=iN ((lvl n))/\Fm No H H':=by
 obtain⟨j,rfl⟩:=aP a;rw[lk (zqs ..)];unfold zBh z09;have b:n%4<4:=xq _ om;simp(disch:=go_size)only[go_sem,rB,rI,rK,rL,rN,rS,r6,at4];refine Ok.ret ⟨?_,fm⟩;unfold lvl
 match n%4,b with
 |0,_|1,_|2,_|3,_=>rfl
theorem qx2{k:Nat}(a:1<=k)(n:Nat)(c:n<1000000)(H:Hp):Ok (C k (.f 56) [iN n] H) fun r H'=>r=(fO n).v/\Fm No H H':=by
 obtain⟨j,rfl⟩:=aP a;rw[lk (zq8 ..)];unfold zAq z1q;have b:n%4<4:=xq _ om;simp(disch:=go_size)only[go_sem,rB,rI,rK,rL,rN,rS,r6,at4];refine Ok.ret ⟨?_,fm⟩;unfold fO SS.v
 match n%4,b with
 |0,_|1,_|2,_|3,_=>rfl
theorem qnb{k:Nat}(a:1<=k)(n:Nat)(c:n<1000000)(H:Hp):Ok (C k (.f 54) [iN n] H) fun r H'=>r=(dJ n).v/\Fm No H H':=by
 obtain⟨j,rfl⟩:=aP a;rw[lk (zra ..)];unfold zAo z1r;have b:n%3<3:=xq _ om;simp(disch:=go_size)only[go_sem,rB,rI,rK,rL,rN,rS,r6,at3];refine Ok.ret ⟨?_,fm⟩;unfold dJ SS.v
 match n%3,b with
 |0,_|1,_|2,_=>rfl
theorem q4j{k:Nat}(s:1<=k){v:AV}{L:List (List Nat)}(h:iB H v L)(l:n<L.length):Ok (C k (.f 113) [.agg [v],iN n,iN i] H) fun r H'=>r=uN ((fJ L n i))/\Fm No H H':=by
 obtain⟨j,rfl⟩:=aP s;rw[lk (zqr ..)];unfold zBi z08;have a:Fm No H (aI H (aB 0 [v])):=by exact jF
 obtain⟨b,o,w,m,t,p,q⟩:=(h.fm a).at l;have c:=q.len;have d:(u8s L[n]).length=L[n].length:=by simp[u8s]
 rw[d]at c;have e:L.getD n []=L[n]:=by rw[gy,lq l];rfl
 by_cases g:i<L[n].length
 ·obtain⟨u,x,g1,g2,g3⟩:=q.at' i om;have f:(u8s L[n])[i]'om=uN ((fJ L n i)):=by
   unfold fJ;rw[e,gy,lq g];simp[u8s]
  rw[f]at g3;refine siG m p c g g1 g3 ?_;exact Ok.ret ⟨rfl,a⟩
 ·have f:fJ L n i=0:=by
   unfold fJ;simp_all
  refine jD m p c g ?_;rw[f];exact Ok.ret ⟨rfl,a⟩
def ruV(k:Nat)(r t:SS)(a:AV):AV:=.agg [uN k,r.v,t.v,a]
def sC(s:SS):List AV:=[s.v]
theorem qry(H:Hp)(b o n a:Nat):j5 H (.ptr b o) (.str n a)=storeAt H b o [.str n a] .undef:=id rfl
attribute [go_sem] qry
theorem qgu{k:Nat}(a:1<=k)(neg:Bool)(H:Hp):Ok (C k (.f 109) [.bool neg] H) fun r H'=>r=(if neg then ruV 2 (fO 0) sE .aA else ruV 1 sE sE .aA)/\Fm No H H':=by
 obtain⟨j,rfl⟩:=aP a;rw[lk (zqv ..)];unfold zBe z1d;cases neg
 ·simp only[go_sem];unfold zwt;refine aT ?_;exact Ok.ret ⟨rfl,fm⟩
 ·refine aT ?_;exact Ok.ret ⟨rfl,fm⟩
def ql0(n k:Nat)(neg:Bool):Bool:=decide (lvl k<lvl n)||(!neg&&decide (lvl k=lvl n))
theorem zle{k:Nat}(e:2<=k)(n m:Nat)(c:n<1000000)(d:m<1000000)(neg:Bool)(H:Hp):Ok (C k (.f 160) [iN n,iN m,.bool neg] H) fun r H'=>r=.bool (ql0 n m neg)/\Fm No H H':=by
 obtain⟨j,rfl⟩:=aP e;rw[lk (zqf ..)];refine Ok.ve (qem (k:=j) om m d H) ?_;rintro _ H1 ⟨rfl,a⟩;refine Ok.ve (qem (k:=j) om n c H1) ?_;rintro _ g ⟨rfl,b⟩;unfold ql0;by_cases h:lvl m<lvl n
 ·have f:(lvl m<lvl n)=True:=yt h;simp only[go_sem,f];exact Ok.ret ⟨g3,a.trans b⟩
 ·cases neg
  ·simp only[go_sem,h];refine Ok.ve (qem (k:=j) om m d g) ?_;rintro _ i ⟨rfl,l⟩;simp only[go_sem];refine Ok.ve (qem (k:=j) om n c i) ?_;rintro _ p ⟨rfl,o⟩;simp only[go_sem];exact Ok.ret ⟨g3,((a.trans b).trans l).trans o⟩
  ·simp only[go_sem,h];exact Ok.ret ⟨g3,a.trans b⟩
def rg(a b:Nat):List Nat:=(List.range b).drop a
theorem qky{a i:Nat}(h:a<=i):rg a (i+1)=rg a i++[i]:=by unfold rg;rw[lAM,xn (by simpa using h)]
theorem qu1(a:Nat):rg a a=[]:=by unfold rg;rw[xe g3]
theorem qgt{a b x:Nat}:x∈rg a b↔a<=x/\x<b:=by
 unfold rg;rw[lEC];constructor
 ·rintro ⟨i,h,rfl⟩;simp at h ⊢;omega
 ·intro h;exact⟨x-a,g2,g2⟩
theorem qlr(a b:Nat):(rg a b).length=b-a:=by unfold rg;simp
def cmpL(m n:Nat)(neg:Bool):List SS:=((rg (n / 4*4) (min m (n / 4*4+4))).filter (ql0 n · neg)).map fO
theorem qlp(s:SS):(sC s).length=1:=rfl
structure qhz(H:Hp)(b:Nat)(v:AV):Prop where
 lt:b<H.nx
 is:H.get b=aB 0 [v]
theorem qhz.fm{v:AV}(h:qhz H b v)(f:Fm No H H'):qhz H' b v:=⟨ku h.lt f.nx,(f.keep h.lt).trans h.is⟩
theorem qf0{j:Nat}(r:2<=j){v:AV}{L:List (List Nat)}{n cb:Nat}{neg:Bool}(s:n<100000){H1:Hp}{Q:pL}{q:pD}(e:iB H1 v L)(f:qhz H1 cb v)(d:∀ w H,Ac 1 sC H1 H w (cmpL (bS L) n neg)->Ok (q w H) Q):∀(k i:Nat) (w:AV) (H:Hp),n / 4*4<=i->i<=max (min (bS L) (n / 4*4+4)) (n / 4*4)->n / 4*4+4-i<k->Ac 1 sC H1 H w (((rg (n / 4*4) i).filter (ql0 n · neg)).map fO) -> Ok (qtu (C j) q (iN n) (.bool neg) (.ptr cb 0) k w (iN i) H) Q
 |0,i,_,_,_,_,h,_=>om
 |k+1,i,w,H,hi,hi2,hk,hw=>by
  show Ok (q15 (C j) _ _ _ _ (qtu (C j) _ _ _ _ k) _ _ H) Q;unfold q15;have g:=f.fm hw.fm;have u:=g.is;simp only[go_sem,u];refine Ok.ve (qk8 (k:=j) om (e.fm hw.fm)) ?_;rintro _ p ⟨rfl,y⟩;have a:=hw.no y;by_cases c:i<bS L/\i<n / 4*4+4
  ·obtain⟨b,o⟩:=c;refine eF b o ?_;refine Ok.ve (zle (k:=j) om n i om om neg p) ?_;rintro _ t ⟨rfl,z⟩;have l:=a.no z;have G:=qky hi;cases J:ql0 n i neg
   ·simp only[go_sem];unfold qtv;refine aT ?_;refine qf0 r s e f d k (i+1) w t om om om ?_;simp_all
   ·simp only[go_sem];refine Ok.ve (qx2 (k:=j) om i om t) ?_;rintro _ A ⟨rfl,B⟩;have m:=l.no B;unfold SS.v;refine aT ?_;have I:(((rg (n / 4*4) i).filter (ql0 n · neg)).map fO).length<=4:=by
     rw[pz];refine rq (zn _ _) ?_;rw[qlr];omega
    refine Ok.ve ((m.no ((Fm.refl No A).push (aB 0 [.str (fO i).n (fO i).a]))).add (fO i) 16 rfl om om) ?_;intro D E F;unfold qtv;refine aT ?_;refine qf0 r s e f d k (i+1) D E om om om ?_;simp_all
  ·have x:rg (n / 4*4) i=rg (n / 4*4) (min (bS L) (n / 4*4+4)):=by
    by_cases h:n / 4*4<=min (bS L) (n / 4*4+4)
    ·congr 1;omega
    ·unfold rg;rw[xe g2,xe g2]
   rw[x]at a;by_cases b:i<bS L
   ·have o:¬ i<n / 4*4+4:=fun h=>c ⟨b,h⟩;refine eF b o ?_;exact d w p a
   ·simp only[go_sem,b];exact d w p a
theorem q9e(x:Nat)(h:x<256):qq3 .i64 (uN x)=.val (iN x):=by show R0.val (.int .i64 (yG .i64 (.ofNat x)))=_;rw[qg2 _ om]
theorem zua(n:Nat)(h:n<256):yG .u8 (.ofNat n)=.ofNat n:=by show(bif Nat.blt n 256 then _ else _)=_;rw[blt_eq,qc h];rfl
theorem zxq(a b:Nat)(h:0<b)(c:a<256):iC (oI .quo).f (uN a) (uN b)=.val (uN ((a / b))):=by show(bif uS (.ofNat b) 0 then R0.bad else .val (.int .u8 (yG .u8 (Int.tdiv (.ofNat a) (.ofNat b)))))=_;rw[qfd,ql (by simp only[ut];omega)];show R0.val (.int .u8 (yG .u8 (.ofNat (a / b))))=_;rw[zua _ (lE1 (Nat.div_le_self _ _) c)]
theorem z6k(n j:Nat)(k:IntKind)(h:j<=8):qxt (qjl .shr).f (uN n) (.int k (.ofNat j))=.val (uN ((n / 2 ^ j))):=by show(bif qZ (.ofNat j) 0 then R0.bad else .val (.int .u8 ((Int.ofNat n).fdiv (2 ^ (min j 8)))))=_;rw[qel,yu h];have a:decide ((Int.ofNat j)<0)=false:=g3;show R0.val (.int .u8 ((Int.ofNat n).fdiv (2 ^ j)))=_;congr 2;have b:((2:Int) ^ j)=Int.ofNat (2 ^ j):=g3;show Int.fdiv (n:Int) ((2 ^ j:Nat):Int)=((n / 2 ^ j:Nat):Int);rw[Int.fdiv_eq_ediv_of_nonneg _ (Int.natCast_nonneg _)];rfl
attribute [go_sem] q9e zxq z6k
theorem q9f{v:AV}{L:List (List Nat)}(h:iB H v L)(n i:Nat):fJ L n i<256:=by
 unfold fJ;rw[gy,gy];cases a:L[n]? with
 |none=>simp
 |some l=>
  simp only[Option.getD_some];cases b:l[i]? with
  |none=>simp
  |some x=>exact h.lt l (uz a) x (uz b)
structure At(m n:Nat)(neg:Bool):Prop where
 lt:n<m
 le:m<=12
 up:neg=true->0<lvl n
theorem aUM(q:Nat):lvl (q*4)=0:=by unfold lvl;rw[Nat.mul_mod_left];rfl
theorem qv7(h:At m n neg):0<(cmpL m n neg).length:=by
 unfold cmpL;rw[pz];refine List.length_pos_of_mem (a:=n / 4*4) ?_;rw[xF,qgt];have:=h.lt;refine⟨om,?_⟩;unfold ql0;rw[aUM];cases neg with
 |true=>simp[h.up rfl]
 |false=>simp;omega
theorem Rs.at1{α:Type}{f:α->List AV}{g:α->AV}(e:∀ x,f x=[g x]){v:AV}{l:List α}(h:Rs 1 f H v l)(a:i<l.length):∃b o,aH 1 v (iN i)=.val (.ptr b o)/\b<H.nx/\bX (H.get b) o=.val (g l[i]):=by obtain⟨b,o,c,d,_,j,k⟩:=h.at' i a;refine⟨b,o,c,d,?_⟩;simp_all
theorem qqc{k:Nat}(p:4<=k){v:AV}{L:List (List Nat)}{n c:Nat}(q:iB H v L)(d:At (bS L) n neg)(z:c<256):Ok (C k (.f 110) [.agg [v],iN n,uN c,.bool neg] H) fun r H'=>
   r=ruV 2 ((cmpL (bS L) n neg).getD (c%(cmpL (bS L) n neg).length) sE) sE .aA/\Fm No H H':=by
 obtain⟨j,rfl⟩:=aP p;rw[lk (zqu ..)];unfold zBf z1c;have t:=qv7 d;have A:=d.lt;have u:=d.le;refine aT ?_;unfold zf7;rw[dD];have l:Fm No H (aI (aI H (aB 0 [v])) (aB 0 [uN 0,zS,zS,.aA])):=by exact qO
 have f:Fm No (aI H (aB 0 [v])) (aI (aI H (aB 0 [v])) (aB 0 [uN 0,zS,zS,.aA])):=by exact jF
 have h:qhz (aI H (aB 0 [v])) H.nx v:=⟨by(go_size),g5⟩;refine qf0 om om (q.fm l) (h.fm f) (fun w s e=>?_) bZ (n / 4*4) .aA _ (lu _) om lf ?_
 ·unfold zf6;have x:=e.bM;have i:=e.fm;have a:c%(cmpL (bS L) n neg).length<(cmpL (bS L) n neg).length:=xq _ t;obtain⟨b,o,y,D,m⟩:=(e.rs qlp).at1 (g:=SS.v) (fun _=>rfl) a;have k2:s.get (H.nx+1)=aB 0 [uN 0,zS,zS,.aA]:=(i.keep gz).trans g5;unfold SS.v at m;have B:=i.nx;refine jD x y m k2 ?_;refine Ok.ret ⟨?_,(l.trans i).aG _ _ om⟩;rw[gy,lq a];rfl
 ·rw[qu1];exact Ac.nil _ _ (Fm.refl _ _)
structure jL where
 sp:SS
 rl:SS
 deriving DecidableEq
def tC(t:jL):List AV:=[t.sp.v,t.rl.v]
theorem qe3(t:jL):(tC t).length=2:=rfl
def nS(m:Nat):Nat:=min 3 ((m+3) / 4)
def wK(c i:Nat):List jL:=⟨sU,sE⟩::((rg 0 i).filter fun i=>decide (c / 2 ^ i%2=1)).map fun i=>⟨dJ i,sE⟩
def sS(m n:Nat):List jL:=((rg 0 m).filter fun k=>decide (lvl k<=lvl n)).map fun k=>⟨dJ (k / 4),fO k⟩
def lK(L:List (List Nat))(n:Nat):List jL:=
 wK (fJ L n 0) (nS (bS L))++if fJ L n 1%2=1 then[(sS (bS L) n).getD (fJ L n 1 / 2%(sS (bS L) n).length) ⟨sE,sE⟩]else[]
theorem Ac.one{α:Type}{f:α->List AV}(x:α)(a:(f x).length=z)(h:Fm No H0 H):Ac z f H0 (aI H (aB 0 (f x))) (.sl H.nx 0 1 1 true) [x]:=
 ⟨⟨by simp[a],.inr ⟨_,_,_,_,_,rfl,jG _ _,gp _,g3,.inl rfl,by rw[np];omega⟩⟩,h.push _,fun b c=>by obtain⟨_,_,_,_,d⟩:=c;cases d;exact h.nx⟩
theorem qih{j:Nat}(o:2<=j){v:AV}{L:List (List Nat)}{n cb:Nat}(p:n<100000){H1:Hp}{Q:pL}{q:pD}(d:iB H1 v L)(e:qhz H1 cb v)(r:∀ w H,Ac 2 tC H1 H w (sS (bS L) n)->Ok (q w H) Q):∀(k i:Nat) (w:AV) (H:Hp),i<=bS L->bS L-i<k->Ac 2 tC H1 H w (sS i n) -> Ok (qt9 (C j) q (iN n) (.ptr cb 0) k w (iN i) H) Q
 |0,i,_,_,_,h,_=>om
 |k+1,i,w,H,hi,hk,hw=>by
  show Ok (q2l (C j) _ _ _ (qt9 (C j) _ _ _ k) _ _ H) Q;unfold q2l;have K:bS L<=12:=uy _ _;have f:=e.fm hw.fm;have u:=f.is;simp only[go_sem,u];refine Ok.ve (qk8 (k:=j) om (d.fm hw.fm)) ?_;rintro _ x ⟨rfl,y⟩;have g:=hw.no y;by_cases b:i<bS L
  ·simp only[go_sem,b];refine Ok.ve (qem (k:=j) om i om x) ?_;rintro _ z ⟨rfl,A⟩;refine Ok.ve (qem (k:=j) om n om z) ?_;rintro _ t ⟨rfl,B⟩;have a:=(g.no A).no B;have s:rg 0 (i+1)=rg 0 i++[i]:=qky (gp _);by_cases c:lvl i<=lvl n
   ·refine eP c ?_;refine Ok.ve (qnb (k:=j) om (i / 4) om t) ?_;rintro _ D ⟨rfl,E⟩;refine Ok.ve (qx2 (k:=j) om i om D) ?_;rintro _ F ⟨rfl,G⟩;have l:=(a.no E).no G;unfold SS.v;refine aT ?_;have M:(sS i n).length<=12:=by
     unfold sS;rw[pz];refine rq (zn _ _) ?_;rw[qlr];omega
    refine Ok.ve ((l.no ((Fm.refl No F).push (aB 0 (tC ⟨dJ (i / 4),fO i⟩)))).add ⟨dJ (i / 4),fO i⟩ 32 rfl om om) ?_;intro I J m;unfold qgc;refine aT ?_;refine qih o p d e r k (i+1) I J om om ?_;unfold sS;rw[s,eQ,ik,qc c];simpa [sS] using m
   ·simp only[go_sem,c];unfold qgc;refine aT ?_;refine qih o p d e r k (i+1) w t om om ?_;unfold sS;rw[s,eQ,ik,ql c];simpa [sS] using a
  ·have N:i=bS L:=om;simp only[go_sem,b];simp_all
theorem q23(c i:Nat):(wK c i).length<=i+1:=by unfold wK;rw[pq,pz];have:=zn (fun i=>decide (c / 2 ^ i%2=1)) (rg 0 i);rw[qlr]at this;omega
theorem qun(h:n<m):0<(sS m n).length:=by unfold sS;rw[pz];refine List.length_pos_of_mem (a:=n) ?_;rw[xF,qgt];simp_all
theorem Ac.trans{α:Type}{f:α->List AV}{v:AV}{l:List α}(a:Fm No H0 H1)(h:Ac z f H1 H v l):Ac z f H0 H v l:=⟨h.gl,a.trans h.fm,fun b c=>rq a.nx (h.nw b c)⟩
theorem Rs.oZ{α:Type}{f:α->List AV}{v:AV}{l:List α}(h:Rs z f H v l)(a:i<l.length):∃b o,aH z v (iN i)=.val (.ptr b o)/\b<H.nx/\fD (H.get b) o z=some (f l[i]):=by obtain⟨b,o,c,d,_,e,_⟩:=h.at' i a;exact⟨b,o,c,d,e⟩
theorem zia(y:2<=j){v:AV}{L:List (List Nat)}(p:n<bS L)(g:iB H v L)(i:qhz H cb v)(z:Ac 2 tC H0 H w (wK (fJ L n 0) (nS (bS L)))):Ok (qub (C j) (iN n) (.ptr cb 0) w H) fun r H'=>Ac 2 tC H0 H' r (lK L n):=by
 have J:bS L<=12:=uy _ _;have a:n<L.length:=ku p (iy _ _);unfold qub;have A:=i.is;simp only[go_sem,A];refine Ok.ve (q4j (k:=j) om g a) ?_;rintro _ H1 ⟨rfl,f⟩;have c:=z.no f;unfold lK;have K:=q9f g n 1;by_cases h:fJ L n 1%2=1
 ·rw[qj h];refine eP h ?_;unfold zgv;rw[dD];refine qih y om (g.fm f) (i.fm f) (fun u I q=>?_) bZ 0 .aA H1 (gp _) lf (Ac.nil _ _ (Fm.refl _ _));unfold q2j;have l:=q.fm;have B:=((i.fm f).fm l).is;simp only[go_sem,B];refine Ok.ve (q4j (k:=j) om ((g.fm f).fm l) a) ?_;rintro _ F ⟨rfl,t⟩;have d:=q.no t;have D:=d.bM;have e:fJ L n 1 / 2%(sS (bS L) n).length<(sS (bS L) n).length:=xq _ (qun p);obtain⟨b,o,G,_,x⟩:=(d.rs qe3).oZ e;have E:(sS (bS L) n).getD (fJ L n 1 / 2%(sS (bS L) n).length) ⟨sE,sE⟩=(sS (bS L) n)[fJ L n 1 / 2%(sS (bS L) n).length]:=by
   simp_all
  rw[E];have s:=q23 (fJ L n 0) (nS (bS L));have M:nS (bS L)<=3:=iy _ _;unfold tC at x;refine iG D G x ?_;refine Ok.ve ((((c.no l).no t).no ((Fm.refl No F).push (aB 0 (tC (sS (bS L) n)[fJ L n 1 / 2%(sS (bS L) n).length])))).add _ 32 rfl om om) ?_;intro N O m;exact Ok.ret m
 ·rw[pg h,uf];refine eP h ?_;exact Ok.ret c
theorem qii{j:Nat}(o:2<=j){v:AV}{L:List (List Nat)}{n cb:Nat}(e:n<bS L){H0:Hp}{Q:pL}{q:pD}(c:iB H0 v L)(d:qhz H0 cb v)(p:∀ w H,Ac 2 tC H0 H w (wK (fJ L n 0) (nS (bS L)))->Ok (q w H) Q):∀(k i:Nat) (w:AV) (H:Hp),i<=nS (bS L)->3-i<k->Ac 2 tC H0 H w (wK (fJ L n 0) i) -> Ok (qt8 (C j) q (iN n) (.ptr cb 0) k w (iN i) H) Q
 |0,i,_,_,_,h,_=>om
 |k+1,i,w,H,hi,hk,hw=>by
  show Ok (q2k (C j) _ _ _ (qt8 (C j) _ _ _ k) _ _ H) Q;unfold q2k;have I:bS L<=12:=uy _ _;have f:n<L.length:=ku e (iy _ _);have J:nS (bS L)<=3:=iy _ _;have u:=(d.fm hw.fm).is;refine eP u ?_;refine Ok.ve (qk8 (k:=j) om (c.fm hw.fm)) ?_;rintro _ N ⟨rfl,z⟩;have a:=hw.no z;by_cases b:i<nS (bS L)
  ·have g:4*i<bS L:=by unfold nS at b;omega
   have r:i<3:=om;simp only[go_sem,g,r];unfold zgt;have x:=(d.fm a.fm).is;simp only[go_sem,x];refine Ok.ve (q4j (k:=j) om (c.fm a.fm) f) ?_;rintro _ s ⟨rfl,A⟩;have l:=a.no A;have K:rg 0 (i+1)=rg 0 i++[i]:=qky (gp _);by_cases t:fJ L n 0 / 2 ^ i%2=1
   ·refine eP t ?_;refine Ok.ve (qnb (k:=j) om i om s) ?_;rintro _ B ⟨rfl,D⟩;have m:=l.no D;unfold SS.v;refine aT ?_;have M:=q23 (fJ L n 0) i;refine Ok.ve ((m.no ((Fm.refl No B).push (aB 0 (tC ⟨dJ i,sE⟩)))).add ⟨dJ i,sE⟩ 32 rfl om om) ?_;intro E F G;unfold qua;refine aT ?_;refine qii o e c d p k (i+1) E F om om ?_;have:wK (fJ L n 0) (i+1)=wK (fJ L n 0) i++[⟨dJ i,sE⟩]:=by
     unfold wK;simp_all
    simp_all
   ·refine eP t ?_;unfold qua;refine aT ?_;refine qii o e c d p k (i+1) w s om om ?_;have:wK (fJ L n 0) (i+1)=wK (fJ L n 0) i:=by
     unfold wK;simp_all
    simp_all
  ·have y:i=nS (bS L):=om;rw[y]at a;by_cases g:4*i<bS L
   ·have r:¬ i<3:=by unfold nS at b;omega
    omega
   ·simp only[go_sem,g];simp_all
theorem q62{k:Nat}(g:4<=k){v:AV}{L:List (List Nat)}(d:iB H v L)(e:n<bS L):Ok (C k (.f 57) [.agg [v],iN n] H) fun r H'=>Ac 2 tC H H' r (lK L n):=by
 obtain⟨j,rfl⟩:=aP g;rw[lk (zq7 ..)];unfold zAr z1p;simp only[go_sem];unfold zgu;rw[dD];have a:qhz (aI H (aB 0 [v])) H.nx v:=⟨by(go_size),by simp(disch:=omega)only[go_sem,seval]⟩;have c:Fm No H (aI H (aB 0 [v])):=by exact jF
 have i:=Ac.one (z:=2) (f:=tC) (H0:=aI H (aB 0 [v])) ⟨sU,sE⟩ rfl (Fm.refl _ _);refine qii om e (d.fm c) a (fun w l b=>?_) bZ 0 _ _ (gp _) lf i;refine(zia om e ((d.fm c).fm b.fm) (a.fm b.fm) (b.trans (H0:=H) c)).mono fun r H' h=>h
theorem zx0(n a m b:Nat):eD (lC .eql).f (.str n a) (.str m b)=.val (.bool (decide (n=m/\a=b))):=by show R0.val (.bool (Nat.beq n m&&Nat.beq a b))=_;rw[beq_eq,beq_eq,Bool.decide_and]
theorem q8k(n a m b:Nat):eD (lC .neq).f (.str n a) (.str m b)=.val (.bool (!decide (n=m/\a=b))):=by show R0.val (.bool (!(Nat.beq n m&&Nat.beq a b)))=_;rw[beq_eq,beq_eq,Bool.decide_and]
theorem zlu(n a:Nat):nC 64 (.str n a) (.str n a)=true:=by show(Nat.beq n n&&Nat.beq a a)=true;simp
attribute [go_sem] zx0 q8k zlu
theorem oD(s t:SS):(s=t)↔(s.n=t.n/\s.a=t.a):=by cases s;cases t;simp
structure ArS where
 rl:SS
 to:SS
 deriving DecidableEq
def arC(x:ArS):List AV:=[uN 3,x.rl.v,x.to.v,.aA]
theorem z4u(t:ArS):(arC t).length=4:=rfl
def arP(n:Nat)(neg:Bool)(t:jL)(j:Nat):Bool:=decide (t.rl=sE)&&decide (t.sp=dJ (j / 4))&&ql0 n j neg
def zR(n:Nat)(neg:Bool)(k:Nat)(t:jL)(m:Nat):List ArS:=((rg 0 m).filter (arP n neg t)).map fun j=>⟨fO k,fO j⟩
def arK(L:List (List Nat))(n:Nat)(neg:Bool)(k:Nat):List ArS:=(lK L k).flatMap fun t=>zR n neg k t (bS L)
def nU(L:List (List Nat))(n:Nat)(neg:Bool)(i:Nat):List ArS:=(rg (n / 4*4) i).flatMap (arK L n neg)
theorem q4p(n:Nat)(neg:Bool)(k:Nat)(t:jL)(m:Nat):(zR n neg k t m).length<=m:=by unfold zR;rw[pz];refine rq (zn _ _) ?_;rw[qlr];omega
theorem zuh(n:Nat)(neg:Bool)(k:Nat)(t:jL)(i:Nat):zR n neg k t (i+1)=zR n neg k t i++if arP n neg t i then[⟨fO k,fO i⟩]else[]:=by unfold zR;rw[qky (gp _),eQ,ik];cases arP n neg t i<;>simp
theorem qdk{α β:Type}(g:α->List β)(c:Nat)(h:∀ x,(g x).length<=c):∀ l:List α,(l.flatMap g).length<=c*l.length
 | []=>g3
 |a::l=>by rw[uA,lL,pq,Nat.mul_add,qm];have:=qdk g c h l;have:=h a;omega
theorem qed{j:Nat}(B:3<=j){v:AV}{L:List (List Nat)}{n cb d:Nat}{neg:Bool}(D:n<100000)(e:d<100000){S:Nat->Prop}{H0:Hp}{Q:pL}{q:pD}(p:∀ H',Fm S H0 H'->iB H' v L)(r:∀ H',Fm S H0 H'->qhz H' cb v){ts:List jL}{tv:AV}(s:∀ H',Fm S H0 H'->Rs 2 tC H' tv ts){x:Nat}(t:x<ts.length){A:List ArS}(E:A.length<=1000000)(F:∀ w H,lW 4 arC S H0 H w (A++zR n neg d ts[x] (bS L))->Ok (q w H) Q):∀(k i:Nat) (w:AV) (H:Hp),i<=bS L->bS L-i<k->lW 4 arC S H0 H w (A++zR n neg d ts[x] i) -> Ok (qts (C j) q (iN n) (.bool neg) (.ptr cb 0) (iN d) tv (iN x) k w (iN i) H) Q
 |0,i,_,_,_,h,_=>om
 |k+1,i,w,H,hi,hk,hw=>by
  show Ok (q12 (C j) _ _ _ _ _ _ _ (qts (C j) _ _ _ _ _ _ _ k) _ _ H) Q;unfold q12;have hm:bS L<=12:=uy _ _;have e0:=(r _ hw.fm).is;simp only[go_sem,e0];refine Ok.ve (qk8 (k:=j) om (p _ hw.fm)) ?_;rintro _ G ⟨rfl,f2⟩;have u:=hw.no f2;by_cases z:i<bS L
  ·simp only[go_sem,z];unfold zf2;have O:=s _ u.fm;obtain⟨b,o,e1,I,_,e3,e4⟩:=O.at' x t;have P:bX (G.get b) o=.val (.str ts[x].sp.n ts[x].sp.a):=e4 0 (by rw[qe3];omega);have R:bX (G.get b) (o+1)=.val (.str ts[x].rl.n ts[x].rl.a):=e4 1 (by rw[qe3];omega);have a:=zuh n neg d ts[x] i;have hlen:=q4p n neg d ts[x] i;by_cases M:ts[x].rl.n=0/\ts[x].rl.a=0
   ·have f:ts[x].rl=sE:=(oD _ _).2 M;have T:=yt M;refine jD e1 P R T ?_;refine Ok.iD (qnb (k:=j) om (i / 4) om G) ?_;rintro _ J ⟨rfl,y⟩;have g:bX (J.get b) o=.val (.str ts[x].sp.n ts[x].sp.a):=by rw[y.keep I];exact P
    have l:bX (J.get b) (o+1)=.val (.str ts[x].rl.n ts[x].rl.a):=by rw[y.keep I];exact R
    have U:=u.no y;unfold SS.v;by_cases N:ts[x].sp.n=(dJ (i / 4)).n/\ts[x].sp.a=(dJ (i / 4)).a
    ·have m:ts[x].sp=dJ (i / 4):=(oD _ _).2 N;have V:=yt N;simp only[go_sem,g,l,V];refine Ok.iD (zle (k:=j) om n i om om neg J) ?_;rintro _ K ⟨rfl,f4⟩;have W:bX (K.get b) o=.val (.str ts[x].sp.n ts[x].sp.a):=by rw[f4.keep (ku I y.nx)];exact g
     have X:bX (K.get b) (o+1)=.val (.str ts[x].rl.n ts[x].rl.a):=by rw[f4.keep (ku I y.nx)];exact l
     have Y:=U.no f4;have c:arP n neg ts[x] i=ql0 n i neg:=by unfold arP;rw[qc f,qc m];simp
     rw[c]at a;cases hf:ql0 n i neg
     ·rw[hf]at a;unfold qkg;refine aT ?_;refine qed B D e p r s t E F k (i+1) w K om om ?_;simp_all
     ·rw[hf]at a;simp only[go_sem,W,X];refine Ok.ve (qx2 (k:=j) om d om K) ?_;rintro _ H5 ⟨rfl,f5⟩;refine Ok.ve (qx2 (k:=j) om i om H5) ?_;rintro _ H6 ⟨rfl,f6⟩;have Z:=(Y.no f5).no f6;unfold SS.v;refine aT ?_;have hll:(A++zR n neg d ts[x] i).length<=1000000+i:=by rw[lL];omega
      refine Ok.ve ((Z.no ((Fm.refl No H6).push (aB 0 (arC ⟨fO d,fO i⟩)))).add ⟨fO d,fO i⟩ 64 rfl om om) ?_;intro w7 H7 hw7;unfold qkg;refine aT ?_;refine qed B D e p r s t E F k (i+1) w7 H7 om om ?_;simp_all
    ·have m:¬ ts[x].sp=dJ (i / 4):=fun h=>N ((oD _ _).1 h);have c:arP n neg ts[x] i=false:=by unfold arP;rw[ql m];simp
     rw[c]at a;simp only[go_sem,g,l,N];unfold qkg;refine aT ?_;refine qed B D e p r s t E F k (i+1) w J om om ?_;simp_all
   ·have f:¬ ts[x].rl=sE:=fun h=>M ((oD _ _).1 h);have c:arP n neg ts[x] i=false:=by unfold arP;rw[ql f];simp
    rw[c]at a;simp only[go_sem,e1,P,R,M];unfold qkg;refine aT ?_;refine qed B D e p r s t E F k (i+1) w G om om ?_;simp_all
  ·have he:i=bS L:=om;simp only[go_sem,z];simp_all
theorem q9y(L:List (List Nat))(n:Nat):0<(lK L n).length:=by unfold lK wK;simp
theorem qhc(L:List (List Nat))(n:Nat):(lK L n).length<=5:=by unfold lK;have:=q23 (fJ L n 0) (nS (bS L));have a:nS (bS L)<=3:=iy _ _;split<;>simp<;>omega
theorem qqi{j:Nat}(l:3<=j){v:AV}{L:List (List Nat)}{n cb b:Nat}{neg:Bool}(m:n<100000)(c:b<100000){S:Nat->Prop}{H0:Hp}{Q:pL}{q:pD}(o:∀ H',Fm S H0 H'->iB H' v L)(p:∀ H',Fm S H0 H'->qhz H' cb v){ts:List jL}{tv:AV}(e:∀ H',Fm S H0 H'->Rs 2 tC H' tv ts)(f:ts.length<=5){A:List ArS}(s:A.length<=900000)(u:∀ w H,lW 4 arC S H0 H w (A++ts.flatMap fun t=>zR n neg b t (bS L))->Ok (q w H) Q):∀(k i:Nat) (w:AV) (H:Hp),i<=ts.length->ts.length-i<k->lW 4 arC S H0 H w (A++(ts.take i).flatMap fun t=>zR n neg b t (bS L)) -> Ok (qoa (C j) q (iN n) (.bool neg) (.ptr cb 0) (iN b) tv k w (iN i) H) Q
 |0,i,_,_,_,h,_=>om
 |k+1,i,w,H,hi,hk,hw=>by
  show Ok (q13 (C j) _ _ _ _ _ _ (qoa (C j) _ _ _ _ _ _ k) _ _ H) Q;unfold q13;have z:bS L<=12:=uy _ _;have r:=(e _ hw.fm).len;by_cases a:i<ts.length
  ·simp only[go_sem,r,a];unfold zf1 zf3;rw[dD];have d:(A++(ts.take i).flatMap fun t=>zR n neg b t (bS L)).length<=1000000:=by
    rw[lL];have B:=qdk (fun t=>zR n neg b t (bS L)) 12 (fun t=>rq (q4p n neg b t _) z) (ts.take i);have D:(ts.take i).length<=5:=by rw[qx];omega
    omega
   refine qed l m c o p e a d (fun x y g=>?_) bZ 0 w H (gp _) lf ?_
   ·unfold q11;refine aT ?_;refine qqi l m c o p e f s u k (i+1) x y om om ?_;rw[lh a,qy,ry,<-qw];exact g
   ·have:zR n neg b ts[i] 0=[]:=by unfold zR;rw[qu1];rfl
    simp_all
  ·have E:i=ts.length:=om;simp only[go_sem,r,a];simp_all
theorem zuf(L:List (List Nat))(n:Nat)(neg:Bool)(i:Nat)(h:i<=12):(nU L n neg i).length<=60*12:=by unfold nU;have a:bS L<=12:=uy _ _;have b:=qdk (arK L n neg) 60 (fun k=>by unfold arK;have b:=qdk (fun t=>zR n neg k t (bS L)) 12 (fun t=>rq (q4p n neg k t _) a) (lK L k);have c:=qhc L k;omega) (rg (n / 4*4) i);have c:=qlr (n / 4*4) i;omega
theorem qsy{j:Nat}(u:4<=j){v:AV}{L:List (List Nat)}{n cb:Nat}{neg:Bool}(s:n<100000){H1:Hp}{Q:pL}{q:pD}(l:iB H1 v L)(m:qhz H1 cb v)(o:∀ w H,Ac 4 arC H1 H w (nU L n neg (min (bS L) (n / 4*4+4)))->Ok (q w H) Q):∀(k i:Nat) (w:AV) (H:Hp),n / 4*4<=i->i<=max (min (bS L) (n / 4*4+4)) (n / 4*4)->n / 4*4+4-i<k->Ac 4 arC H1 H w (nU L n neg i) -> Ok (qob (C j) q (iN n) (.bool neg) (.ptr cb 0) k w (iN i) H) Q
 |0,i,_,_,_,_,h,_=>om
 |k+1,i,w,H,hi,hi2,hk,hw=>by
  show Ok (q14 (C j) _ _ _ _ (qob (C j) _ _ _ _ k) _ _ H) Q;unfold q14;have J:bS L<=12:=uy _ _;have z:=(m.fm hw.fm).is;simp only[go_sem,z];refine Ok.ve (qk8 (k:=j) om (l.fm hw.fm)) ?_;rintro _ t ⟨rfl,G⟩;have a:=hw.no G;by_cases g:i<bS L/\i<n / 4*4+4
  ·obtain⟨d,e⟩:=g;refine eF d e ?_;unfold zf0;have B:=(m.fm a.fm).is;simp only[go_sem,seval,B];refine Ok.ve (q62 (k:=j) om (l.fm a.fm) d) ?_;intro tv I r;have c:=a.no r.fm;unfold zf4;rw[dD];have D:=zuf L n neg i om;have E:∀ b,In tv b->¬ In w b:=fun b d e=>by
    have:=r.nw b d;have:=a.gl.lt e;omega
   refine qqi (A:=nU L n neg i) (S:=In w) om s om (fun H' f=>l.fm (c.old f)) (fun H' f=>m.fm (c.old f)) (fun H' f=>(r.rs qe3).dP f E) (qhc L i) om (fun x y p=>?_) bZ 0 w I (gp _) (by have:=qhc L i;rw[wH];omega) ?_
   ·unfold qdv;refine aT ?_;refine qsy u s l m o k (i+1) x y om om om ?_;have:nU L n neg (i+1)=nU L n neg i++arK L n neg i:=by
     unfold nU;rw[qky hi,qy,ry]
    rw[this];exact c.fin p
   ·rw[lA0,List.flatMap_nil,uf];exact c.start
  ·have F:rg (n / 4*4) i=rg (n / 4*4) (min (bS L) (n / 4*4+4)):=by
    by_cases h:n / 4*4<=min (bS L) (n / 4*4+4)
    ·congr 1;omega
    ·unfold rg;rw[xe g2,xe g2]
   unfold nU at a;rw[F]at a;by_cases d:i<bS L
   ·have e:¬ i<n / 4*4+4:=fun h=>g ⟨d,h⟩;refine eF d e ?_;exact o w t a
   ·simp only[go_sem,d];exact o w t a
def l9(L:List (List Nat))(n:Nat)(neg:Bool):List ArS:=nU L n neg (min (bS L) (n / 4*4+4))
def aOo(neg:Bool):AV:=if neg then ruV 2 (fO 0) sE .aA else ruV 1 sE sE .aA
def aGc(L:List (List Nat))(n c:Nat)(neg:Bool):AV:=
 if(l9 L n neg).length=0 then aOo neg else ruV 3 ((l9 L n neg).getD (c%(l9 L n neg).length) ⟨sE,sE⟩).rl ((l9 L n neg).getD (c%(l9 L n neg).length) ⟨sE,sE⟩).to .aA
theorem zue{k:Nat}(s:6<=k){v:AV}{L:List (List Nat)}{n c:Nat}(t:iB H v L)(u:n<100000)(A:c<256):Ok (C k (.f 111) [.agg [v],iN n,uN c,.bool neg] H) fun r H'=>r=aGc L n c neg/\Fm No H H':=by
 obtain⟨j,rfl⟩:=aP s;rw[lk (zqt ..)];unfold zBg z1a;refine aT ?_;unfold zf5;rw[dD];have g:Fm No H (aI (aI H (aB 0 [v])) (aB 0 [uN 0,zS,zS,.aA])):=by exact qO
 have h:Fm No (aI H (aB 0 [v])) (aI (aI H (aB 0 [v])) (aB 0 [uN 0,zS,zS,.aA])):=by exact jF
 have i:qhz (aI H (aB 0 [v])) H.nx v:=⟨gx,by simp(disch:=omega)only[go_sem]⟩;refine qsy om u (t.fm g) (i.fm h) (fun w m f=>?_) bZ (n / 4*4) .aA _ (lu _) om lf ?_
 ·unfold qtt;have l:=f.bM;have d:=f.fm;have x:=d.nx;simp only[np]at x;have k2:m.get (H.nx+1)=aB 0 [uN 0,zS,zS,.aA]:=(d.keep gx).trans (by simp(disch:=go_size)only[go_sem]);unfold aGc l9;by_cases e:(nU L n neg (min (bS L) (n / 4*4+4))).length=0
  ·rw[qj e];simp only[go_sem,l,e];refine Ok.ve (qgu (k:=j) om neg m) ?_;rintro _ y ⟨rfl,p⟩;have k3:y.get (H.nx+1)=aB 0 [uN 0,zS,zS,.aA]:=(p.keep om).trans k2;cases neg<;>(unfold ruV;simp only[go_sem,seval,k3];exact Ok.ret ⟨rfl,((g.trans d).trans p).aG _ _ om⟩)
  ·rw[pg e];simp only[go_sem,l,e];unfold zwr;have a:c%(nU L n neg (min (bS L) (n / 4*4+4))).length<(nU L n neg (min (bS L) (n / 4*4+4))).length:=xq _ om;obtain⟨b,o,z,B,q⟩:=(f.rs z4u).oZ a;unfold arC at q;refine jD l z q k2 ?_;refine Ok.ret ⟨?_,(g.trans d).aG _ _ om⟩;rw[gy,lq a];rfl
 ·unfold nU;rw[qu1];exact Ac.nil _ _ (Fm.refl _ _)
inductive Ru where
 |leaf (kind:Nat) (rl to:SS)
 |node (kind:Nat) (a b:Ru)
 deriving DecidableEq
def lfC(k:Nat)(rl to:SS):List AV:=[uN k,rl.v,to.v,.aA]
def jV(P:Nat->Prop)(H:Hp):Ru->List AV->Prop
 | .leaf k rl to,cs=>cs=lfC k rl to
 | .node k a b,cs=>∃ bl ca cb,cs=[uN k,sE.v,sE.v,.sl bl 0 2 2 true]/\bl<H.nx/\P bl/\H.get bl=aB 0 (ca++cb)/\jV P H a ca/\jV P H b cb
theorem jV.dP{P S:Nat->Prop}{H H':Hp}(f:Fm S H H')(a:∀ b,P b->¬ S b):∀{r:Ru} {cs:List AV},jV P H r cs->jV P H' r cs
 | .leaf _ _ _,_,h=>h
 | .node _ _ _,_,⟨bl,ca,cb,h1,h2,h6,h3,h4,h5⟩=>⟨bl,ca,cb,h1,ku h2 f.nx,h6,by rw[f.get bl h2 (a bl h6)];exact h3,jV.dP f a h4,jV.dP f a h5⟩
theorem jV.fm{P:Nat->Prop}(f:Fm No H H'){r:Ru}(h:jV P H r cs):jV P H' r cs:=h.dP f fun _ _ h=>h
theorem jV.mono{P Q:Nat->Prop}{H:Hp}(a:∀ b,b<H.nx->P b->Q b):∀{r:Ru} {cs:List AV},jV P H r cs->jV Q H r cs
 | .leaf _ _ _,_,h=>h
 | .node _ _ _,_,⟨bl,ca,cb,h1,h2,h6,h3,h4,h5⟩=>⟨bl,ca,cb,h1,h2,a bl h2 h6,h3,jV.mono a h4,jV.mono a h5⟩
theorem jV.four{P:Nat->Prop}:∀{r:Ru} {cs:List AV},jV P H r cs->∃ a b c d,cs=[a,b,c,d]
 | .leaf _ _ _,_,h=>⟨_,_,_,_,h⟩
 | .node _ _ _,_,⟨_,_,_,h1,_⟩=>⟨_,_,_,_,h1⟩
def qjz(neg:Bool):Ru:=if neg then .leaf 2 (fO 0) sE else .leaf 1 sE sE
def xI(L:List (List Nat))(n c:Nat)(neg:Bool):Ru:=
 if(l9 L n neg).length=0 then qjz neg else .leaf 3 ((l9 L n neg).getD (c%(l9 L n neg).length) ⟨sE,sE⟩).rl ((l9 L n neg).getD (c%(l9 L n neg).length) ⟨sE,sE⟩).to
theorem qgv(neg:Bool):∃ k rl to,qjz neg=.leaf k rl to/\(if neg then ruV 2 (fO 0) sE .aA else ruV 1 sE sE .aA)=.agg [uN k,.str rl.n rl.a,.str to.n to.a,.aA]:=by
 cases neg
 ·exact⟨1,sE,sE,rfl,rfl⟩
 ·exact⟨2,fO 0,sE,rfl,rfl⟩
theorem z9w(L:List (List Nat))(n c:Nat)(neg:Bool):∃ k rl to,xI L n c neg=.leaf k rl to/\aGc L n c neg=.agg [uN k,.str rl.n rl.a,.str to.n to.a,.aA]:=by
 unfold xI aGc;by_cases h:(l9 L n neg).length=0
 ·rw[qj h,qj h];exact qgv neg
 ·rw[pg h,pg h];exact⟨_,_,_,rfl,rfl⟩
def aBE(L:List (List Nat))(n c:Nat)(neg:Bool):Ru:=.leaf 2 ((cmpL (bS L) n neg).getD (c%(cmpL (bS L) n neg).length) sE) sE
def xX(n c:Nat):Nat:=if c%8=6 then 5 else if c%8=7/\0<lvl n then 6 else 4
def fM(L:List (List Nat))(n:Nat):Nat->Nat->Bool->Ru×Nat
 |0,i,neg=>(qjz neg,i)
 |d+1,i,neg=>
  if(L.getD n []).length<=i\/12<=i then(qjz neg,i)else
  if fJ L n i%8<2 then(qjz neg,i+1)else
  if fJ L n i%8<4 then(aBE L n (fJ L n i / 8) neg,i+1)else
  if fJ L n i%8=4 then(xI L n (fJ L n i / 8) neg,i+1)else
  let a:=fM L n d (i+1) neg
  let b:=fM L n d a.2 (neg||decide (xX n (fJ L n i)=6))
  (.node (xX n (fJ L n i)) a.1 b.1,b.2)
theorem qnf(L:List (List Nat))(n:Nat):∀(d i:Nat) (neg:Bool),i<=max i 12/\(fM L n d i neg).2<=max i 12
 |0,i,neg=>by unfold fM;omega
 |d+1,i,neg=>by
  unfold fM;split
  ·omega
  split
  ·omega
  split
  ·omega
  split
  ·omega
  have a:=(qnf L n d (i+1) neg).2;have b:=(qnf L n d (fM L n d (i+1) neg).2 (neg||decide (xX n (fJ L n i)=6))).2;simp only;omega
def zyb(C:Nat->Ev.Call)(L:List (List Nat))(n:Nat)(v:AV)(k d:Nat):Prop:=
 ∀(i dep:Nat) (neg:Bool) (H:Hp),dep+d=7->i<1000000->iB H v L->At (bS L) n neg ->
  Ok (C k (.f 55) [.agg [v],iN n,iN i,iN dep,.bool neg] H) fun r H'=>
   ∃cs,r=.bA [.agg cs,iN ((fM L n d i neg).2)]/\jV (fun b=>H.nx<=b) H' (fM L n d i neg).1 cs/\Fm No H H'
theorem qne{j d:Nat}{L:List (List Nat)}{v:AV}(y:zyb C L n v j d){i a kd:Nat}(W:a+d+1=7)(X:i<900000)(z:iB H v L)(I:At (bS L) n neg)(p:At (bS L) n (neg||decide (kd=6))){cb rb:Nat}(f:qhz H cb v)(J:Fm No H0 H)(K:H0.nx<=rb)(q:rb<H.nx)(M:H.get rb=aB 0 [uN 0,zS,zS,.aA])(N:cb<rb\/rb<cb):Ok (qic (C j) (iN n) (iN i) (iN a) (.bool neg) (.ptr cb 0) (.ptr rb 0) (uN kd) H) fun r H'=>
   ∃cs,r=.bA [.agg cs,iN ((fM L n d (fM L n d i neg).2 (neg||decide (kd=6))).2)] /\
    jV (fun b=>H0.nx<=b) H' (.node kd (fM L n d i neg).1 (fM L n d (fM L n d i neg).2 (neg||decide (kd=6))).1) cs/\Fm No H0 H':=by
 unfold qic;have P:=f.is;simp(disch:=omega)only[go_sem,P];simp(disch:=first|go_size|omega)only[go_sem,rB,rI,rK,rL,rN,rS,r6];refine Ok.ve (y i (a+1) neg H om om z I) ?_;rintro _ H1 ⟨ca,rfl,g,k⟩;obtain⟨t,u,w,x,rfl⟩:=g.four;have Q:=(qnf L n d i neg).2;have o:Fm No H1 ((aI H1 (aB 0 [uN 0,zS,zS,.aA])).put H1.nx (aB 0 [t,u,w,x])):=by exact kP
 have B:=f.fm k;have R:=B.is;have l1:=B.lt;have Z:=k.nx;cases neg<;>(
  simp(disch:=go_size)only[go_sem,rB,rI,rK,rL,rN,rS,r6,R];refine Ok.ve (y _ (a+1) _ _ om om ((z.fm k).fm o) p) ?_;rintro _ e ⟨V,rfl,l,m⟩;obtain⟨D,E,F,G,rfl⟩:=l.four;have S:=m.nx;simp only[np,nq]at S;have k2:e.get H1.nx=aB 0 [t,u,w,x]:=(m.keep gx).trans (by simp only[go_sem]);have T:e.get rb=aB 0 [uN 0,zS,zS,.aA]:=((k.trans (o.trans m)).keep q).trans M;simp(disch:=first|go_size|omega)only[go_sem,seval,k2,T];have s:Fm (fun b=>b=rb) e (((aI ((aI e (aB 0 [uN 0,zS,zS,.aA])).put e.nx (aB 0 [D,E,F,G])) (aB 0 [t,u,w,x,D,E,F,G]))).put rb (aB 0 [uN kd,zS,zS,.sl (e.nx+1) 0 2 2 true])):=fm;have U:=(((J.trans k).trans o).trans m).then s fun c Y h=>om;refine Ok.ret ⟨_,rfl,⟨e.nx+1,_,_,rfl,gx,om,?_,(((g.fm o).fm m).dP s fun b A O=>om).mono fun b _ h=>om,(l.dP s fun b A O=>by simp only[np,nq]at A;omega).mono fun b _ h=>by simp only[np,nq]at h;omega⟩,U⟩;simp(disch:=go_size)only[go_sem])
theorem z2i{L:List (List Nat)}{v:AV}:∀(d k:Nat),10+d<=k->zyb C L n v k d:=by
 intro d
 induction d with
 |zero=>
  intro k U i I neg H V W M q;obtain⟨j,rfl⟩:∃ j,k=j+1:=⟨k-1,om⟩;rw[lk (q6l ..)];unfold zAp zq9;have B:n<L.length:=ku q.lt (iy _ _);have m:Fm No H (aI (aI H (aB 0 [v])) (aB 0 [uN 0,zS,zS,.aA])):=by exact qO
  obtain⟨b,o,w,r,X,s,N⟩:=(M.fm m).at B;have c:=N.len;rw[show(u8s L[n]).length=L[n].length by simp[u8s]]at c;have O:6<I:=om;have g:fM L n 0 i neg=(qjz neg,i):=rfl;rw[g];by_cases G:L[n].length<=i
  ·refine jD r s c G ?_;refine Ok.ve (qgu (k:=j) om neg _) ?_;rintro _ f ⟨rfl,a⟩;obtain⟨lk,E,F,c,l⟩:=qgv neg;rw[l];have k3:f.get (H.nx+1)=aB 0 [uN 0,zS,zS,.aA]:=(a.keep gz).trans g5;have y:=a.nx;simp only[go_sem,seval,k3];exact Ok.ret ⟨_,rfl,by rw[c];rfl,(m.trans a).aG _ _ om⟩
  ·by_cases J:12<=i
   ·refine nI r s c G J ?_;refine Ok.ve (qgu (k:=j) om neg _) ?_;rintro _ f ⟨rfl,a⟩;obtain⟨lk,E,F,c,l⟩:=qgv neg;rw[l];have k3:f.get (H.nx+1)=aB 0 [uN 0,zS,zS,.aA]:=(a.keep gz).trans g5;have y:=a.nx;simp only[go_sem,seval,k3];exact Ok.ret ⟨_,rfl,by rw[c];rfl,(m.trans a).aG _ _ om⟩
   ·refine siG r s c G J O ?_;refine Ok.ve (qgu (k:=j) om neg _) ?_;rintro _ f ⟨rfl,a⟩;obtain⟨lk,E,F,c,l⟩:=qgv neg;rw[l];have k3:f.get (H.nx+1)=aB 0 [uN 0,zS,zS,.aA]:=(a.keep gz).trans g5;have y:=a.nx;simp only[go_sem,seval,k3];exact Ok.ret ⟨_,rfl,by rw[c];rfl,(m.trans a).aG _ _ om⟩
 |succ d ih=>
  intro k U i I neg H V W M q;obtain⟨j,rfl⟩:∃ j,k=j+1:=⟨k-1,om⟩;rw[lk (q6l ..)];unfold zAp zq9;have B:n<L.length:=ku q.lt (iy _ _);have S:n<12:=ku q.lt q.le;have m:Fm No H (aI (aI H (aB 0 [v])) (aB 0 [uN 0,zS,zS,.aA])):=by exact qO
  have p:=M.fm m;have t:qhz (aI (aI H (aB 0 [v])) (aB 0 [uN 0,zS,zS,.aA])) H.nx v:=⟨g1,g6⟩;have D:(aI (aI H (aB 0 [v])) (aB 0 [uN 0,zS,zS,.aA])).get (H.nx+1)=aB 0 [uN 0,zS,zS,.aA]:=g5;obtain⟨b,o,w,r,X,s,N⟩:=p.at B;have c:=N.len;rw[show(u8s L[n]).length=L[n].length by simp[u8s]]at c;have e:L.getD n []=L[n]:=by rw[gy,lq B];rfl
  have O:¬ 6<I:=om;by_cases A:L[n].length<=i\/12<=i
  ·have g:fM L n (d+1) i neg=(qjz neg,i):=by unfold fM;rw[e,qj A]
   rw[g];by_cases G:L[n].length<=i
   ·refine jD r s c G ?_;refine Ok.ve (qgu (k:=j) om neg _) ?_;rintro _ f ⟨rfl,a⟩;obtain⟨lk,E,F,c,l⟩:=qgv neg;rw[l];have k3:f.get (H.nx+1)=aB 0 [uN 0,zS,zS,.aA]:=(a.keep gz).trans g5;have y:=a.nx;simp only[go_sem,seval,k3];exact Ok.ret ⟨_,rfl,by rw[c];rfl,(m.trans a).aG _ _ om⟩
   ·have J:12<=i:=om;refine nI r s c G J ?_;refine Ok.ve (qgu (k:=j) om neg _) ?_;rintro _ f ⟨rfl,a⟩;obtain⟨lk,E,F,c,l⟩:=qgv neg;rw[l];have k3:f.get (H.nx+1)=aB 0 [uN 0,zS,zS,.aA]:=(a.keep gz).trans g5;have y:=a.nx;simp only[go_sem,seval,k3];exact Ok.ret ⟨_,rfl,by rw[c];rfl,(m.trans a).aG _ _ om⟩
  ·have G:¬ L[n].length<=i:=om;have J:¬ 12<=i:=om;have P:i<L[n].length:=om;obtain⟨Z,o1,g1,g2,g3⟩:=N.at' i (by simp[u8s];omega);have Q:(u8s L[n])[i]'(by simp[u8s];omega)=uN ((fJ L n i)):=by
    unfold fJ;rw[e,gy,lq P];simp[u8s]
   rw[Q]at g3;have Y:=q9f M n i;refine siG r s c G J O ?_;unfold zgw;have T:fJ L n i%8=0\/fJ L n i%8=1\/fJ L n i%8=2\/fJ L n i%8=3\/fJ L n i%8=4\/fJ L n i%8=5\/fJ L n i%8=6\/fJ L n i%8=7:=om;rcases T with h|h|h|h|h|h|h|h
   ·have g:fM L n (d+1) i neg=(qjz neg,i+1):=by unfold fM;rw[e,pg A,qj om]
    rw[g];refine nI r s g1 g3 h ?_;unfold qd4;refine Ok.ve (qgu (k:=j) om neg _) ?_;rintro _ f ⟨rfl,a⟩;obtain⟨lk,E,F,c,l⟩:=qgv neg;rw[l];have k3:f.get (H.nx+1)=aB 0 [uN 0,zS,zS,.aA]:=(a.keep gz).trans g5;have y:=a.nx;refine eP k3 ?_;exact Ok.ret ⟨_,rfl,by rw[c];rfl,(m.trans a).aG _ _ om⟩
   ·have g:fM L n (d+1) i neg=(qjz neg,i+1):=by unfold fM;rw[e,pg A,qj om]
    rw[g];refine nI r s g1 g3 h ?_;unfold qd4;refine Ok.ve (qgu (k:=j) om neg _) ?_;rintro _ f ⟨rfl,a⟩;obtain⟨lk,E,F,c,l⟩:=qgv neg;rw[l];have k3:f.get (H.nx+1)=aB 0 [uN 0,zS,zS,.aA]:=(a.keep gz).trans g5;have y:=a.nx;simp only[go_sem,seval,k3];exact Ok.ret ⟨_,rfl,by rw[c];rfl,(m.trans a).aG _ _ om⟩
   ·have g:fM L n (d+1) i neg=(aBE L n (fJ L n i / 8) neg,i+1):=by unfold fM;rw[e,pg A,pg om,qj om]
    rw[g];refine nI r s g1 g3 h ?_;unfold qd4;unfold qfj;have K:=t.is;refine eP K ?_;refine Ok.ve (qqc (k:=j) om p q om) ?_;rintro _ f ⟨rfl,a⟩;obtain⟨lk,E,F,c,l⟩:=(⟨2,(cmpL (bS L) n neg).getD (fJ L n i / 8%(cmpL (bS L) n neg).length) sE,sE,rfl,rfl⟩:∃ k rl to,aBE L n (fJ L n i / 8) neg=.leaf k rl to/\ruV 2 ((cmpL (bS L) n neg).getD (fJ L n i / 8%(cmpL (bS L) n neg).length) sE) sE .aA=.agg [uN k,.str rl.n rl.a,.str to.n to.a,.aA]);rw[l];have k3:f.get (H.nx+1)=aB 0 [uN 0,zS,zS,.aA]:=(a.keep gz).trans g5;have y:=a.nx;simp only[go_sem,seval,k3];exact Ok.ret ⟨_,rfl,by rw[c];rfl,(m.trans a).aG _ _ om⟩
   ·have g:fM L n (d+1) i neg=(aBE L n (fJ L n i / 8) neg,i+1):=by unfold fM;rw[e,pg A,pg om,qj om]
    rw[g];refine nI r s g1 g3 h ?_;unfold qd4;unfold qfj;have K:=t.is;refine eP K ?_;refine Ok.ve (qqc (k:=j) om p q om) ?_;rintro _ f ⟨rfl,a⟩;obtain⟨lk,E,F,c,l⟩:=(⟨2,(cmpL (bS L) n neg).getD (fJ L n i / 8%(cmpL (bS L) n neg).length) sE,sE,rfl,rfl⟩:∃ k rl to,aBE L n (fJ L n i / 8) neg=.leaf k rl to/\ruV 2 ((cmpL (bS L) n neg).getD (fJ L n i / 8%(cmpL (bS L) n neg).length) sE) sE .aA=.agg [uN k,.str rl.n rl.a,.str to.n to.a,.aA]);rw[l];have k3:f.get (H.nx+1)=aB 0 [uN 0,zS,zS,.aA]:=(a.keep gz).trans g5;have y:=a.nx;simp only[go_sem,seval,k3];exact Ok.ret ⟨_,rfl,by rw[c];rfl,(m.trans a).aG _ _ om⟩
   ·have g:fM L n (d+1) i neg=(xI L n (fJ L n i / 8) neg,i+1):=by unfold fM;rw[e,pg A,pg om,pg om,qj h]
    rw[g];refine nI r s g1 g3 h ?_;unfold qd4;unfold qfj;have K:=t.is;refine eP K ?_;refine Ok.ve (zue (k:=j) om p om om) ?_;rintro _ f ⟨rfl,a⟩;obtain⟨lk,E,F,c,l⟩:=z9w L n (fJ L n i / 8) neg;rw[l];have k3:f.get (H.nx+1)=aB 0 [uN 0,zS,zS,.aA]:=(a.keep gz).trans g5;have y:=a.nx;simp only[go_sem,seval,k3];exact Ok.ret ⟨_,rfl,by rw[c];rfl,(m.trans a).aG _ _ om⟩
   ·have u:xX n (fJ L n i)=4:=by unfold xX;rw[pg om,pg om]
    have x:At (bS L) n (neg||decide (4=6)):=by simpa using q
    have g:fM L n (d+1) i neg=(.node 4 (fM L n d (i+1) neg).1 (fM L n d (fM L n d (i+1) neg).2 (neg||decide (4=6))).1,(fM L n d (fM L n d (i+1) neg).2 (neg||decide (4=6))).2):=by rw[fM,e,pg A,pg om,pg om,pg om,u]
    rw[g];refine nI r s g1 g3 h ?_;unfold qd4;unfold qfj;exact qne (ih j om) om om p q x t m om gx D om
   ·have u:xX n (fJ L n i)=5:=by unfold xX;rw[qj h]
    have x:At (bS L) n (neg||decide (5=6)):=by simpa using q
    have g:fM L n (d+1) i neg=(.node 5 (fM L n d (i+1) neg).1 (fM L n d (fM L n d (i+1) neg).2 (neg||decide (5=6))).1,(fM L n d (fM L n d (i+1) neg).2 (neg||decide (5=6))).2):=by rw[fM,e,pg A,pg om,pg om,pg om,u]
    rw[g];refine nI r s g1 g3 h ?_;unfold qd4;unfold qfj;exact qne (ih j om) om om p q x t m om gx D om
   ·by_cases z:0<lvl n
    ·have u:xX n (fJ L n i)=6:=by unfold xX;rw[pg om,qj ⟨h,z⟩]
     have x:At (bS L) n (neg||decide (6=6)):=⟨q.lt,q.le,fun _=>z⟩;have g:fM L n (d+1) i neg=(.node 6 (fM L n d (i+1) neg).1 (fM L n d (fM L n d (i+1) neg).2 (neg||decide (6=6))).1,(fM L n d (fM L n d (i+1) neg).2 (neg||decide (6=6))).2):=by rw[fM,e,pg A,pg om,pg om,pg om,u]
     rw[g];refine nI r s g1 g3 h ?_;unfold qd4;unfold qfj;refine Ok.ve (qem (k:=j) om n om _) ?_;rintro _ f ⟨rfl,a⟩;have R:f.get (H.nx+1)=aB 0 [uN 0,zS,zS,.aA]:=(a.keep gx).trans D;have y:=a.nx;simp only[np]at y;simp only[go_sem,z];exact qne (ih j om) om om (p.fm a) q x (t.fm a) (m.trans a) om om R om
    ·have u:xX n (fJ L n i)=4:=by unfold xX;rw[pg om,pg (fun h=>z h.2)]
     have x:At (bS L) n (neg||decide (4=6)):=by simpa using q
     have g:fM L n (d+1) i neg=(.node 4 (fM L n d (i+1) neg).1 (fM L n d (fM L n d (i+1) neg).2 (neg||decide (4=6))).1,(fM L n d (fM L n d (i+1) neg).2 (neg||decide (4=6))).2):=by rw[fM,e,pg A,pg om,pg om,pg om,u]
     rw[g];refine nI r s g1 g3 h ?_;unfold qd4;unfold qfj;refine Ok.ve (qem (k:=j) om n om _) ?_;rintro _ f ⟨rfl,a⟩;have R:f.get (H.nx+1)=aB 0 [uN 0,zS,zS,.aA]:=(a.keep gx).trans D;have y:=a.nx;simp only[np]at y;simp only[go_sem,z];exact qne (ih j om) om om (p.fm a) q x (t.fm a) (m.trans a) om om R om
theorem jV.flat{P:Nat->Prop}:∀{r:Ru} {cs:List AV},jV P H r cs->cs.all vT=true
 | .leaf _ _ _,_,h=>by rw[show _=_ from h];rfl
 | .node _ _ _,_,⟨_,_,_,h1,_⟩=>by rw[h1];rfl
structure Nd where
 k:Nat
 rl:SS
 to:SS
 neg:Bool
 deriving DecidableEq
def kR(x:Nd×AV):List AV:=[uN x.1.k,x.1.rl.v,x.1.to.v,x.2,.bool x.1.neg]
theorem r9(x:Nd×AV):(kR x).length=5:=rfl
def Ru.nodes:Ru->Bool->List Nd
 | .leaf k rl to,neg=>[⟨k,rl,to,neg⟩]
 | .node k a b,neg=>⟨k,sE,sE,neg⟩::(a.nodes neg++b.nodes (neg||decide (k=6)))
def Ru.size:Ru->Nat
 | .leaf _ _ _=>1
 | .node _ a b=>a.size+b.size+1
def Ru.depth:Ru->Nat
 | .leaf _ _ _=>1
 | .node _ a b=>max a.depth b.depth+1
theorem qby:∀(r:Ru) (neg:Bool),(r.nodes neg).length=r.size
 | .leaf _ _ _,_=>rfl
 | .node _ a b,neg=>by unfold Ru.nodes Ru.size;rw[pq,lL,qby a,qby b]
theorem zja(L:List AV)(o i:Nat)(x:AV)(h:o+i<L.length):(aZ L (o+i) [x]).drop o=aZ (L.drop o) i [x]:=by unfold aZ;simp only[pq,uo,qg,qw];rw[xn g2,List.drop_take,yx,lAT];congr 3
theorem Gl.set1{v:AV}(h:Gl z H v n l)(c:i<n)(s:j<z)(x:AV):∃b o H',aH z v (iN i)=.val (.ptr b o)/\storeAt H b (o+j) [x] .undef=.ok .undef H'/\Gl z H' v n (aZ l (i*z+j) [x])/\Fm (In v) H H'/\H'.nx=H.nx:=by
 have a:=h.len;rcases h.is with⟨rfl,rfl⟩|⟨b,o,e,q,L,rfl,k,m,f,p,r⟩
 ·omega
 ·have t:i*z+z<=n*z:=by
   have:(i+1)*z<=n*z:=xh z c;rw[zk,lA5]at this;exact this
  have u:o+n*z=L.length:=by rw[<-f,vz]at a;omega
  have d:o+i*z+j+[x].length<=L.length:=g2;have g:i*z+j+[x].length<=l.length:=by rw[a];simp;omega
  refine⟨b,o+i*z,_,vL _ _ _ _ _ _ _ _ c,qb3 H b _ [x] _ q L k d,⟨?_,.inr ⟨b,o,e,q,_,rfl,dN _ _ _,?_,?_,p,r⟩⟩,(Fm.refl _ _).put b _ fun _=>⟨_,_,_,_,rfl⟩,rfl⟩
  ·rw[qd7 _ _ _ g,a]
  ·rw[qd7 _ _ _ d];exact m
  ·rw[uu,zja _ _ _ _ om,f]
theorem zkj(a:AV):∀(l:List (Nd×AV)) (i:Nat) (h:i<l.length),aZ (l.flatMap kR) (i*5+3) [a]=(l.set i (l[i].1,a)).flatMap kR
 | [],_,h=>by simp at h
 |x::l,0,_=>by simp[aZ,kR]
 |x::l,i+1,h=>by
  have:=zkj a l i (by simpa using h);rw[lE0,uA,uA,List.getElem_cons_succ,<-this];unfold aZ;have e:(i+1)*5+3=(kR x).length+(i*5+3):=by rw[r9];omega
  rw[e,zx,qw,qw];congr 1;rw[qw];congr 2;rw[uu,zy]
theorem lW.comp{α:Type}{f:α->List AV}{v e:AV}{l g:List α}(h:lW z f S H0 H v l)(d:lW z f (In v) H H' e g):lW z f S H0 H' e g:=
 ⟨d.gl,h.fm.then d.fm fun c k i=>by
  rcases h.nw c i with a|a
  ·exact a
  ·omega,fun b j=>by
  rcases d.nw b j with a|a
  ·exact h.nw b a
  ·exact .inr (rq h.fm.nx a)⟩
def znb(C:Nat->Ev.Call)(r:Ru)(k:Nat):Prop:=
 ∀(v:AV) (neg:Bool) (H:Hp) {l:List (Nd×AV)} {cs:List AV} {P:Nat->Prop},Gl 5 H v l.length (l.flatMap kR)->jV P H r cs->(∀b,P b->¬ In v b)->l.length+r.size<=1000000 ->
  Ok (C k (.f 29) [v,.agg cs,.bool neg] H) fun w H'=>∃ l',lW 5 kR (In v) H H' w l'/\l'.map Prod.fst=l.map Prod.fst++r.nodes neg
theorem q3i{l:List (Nd×AV)}(h:i<l.length)(x:AV):(l.set i (l[i].1,x)).map Prod.fst=l.map Prod.fst:=by
 refine List.ext_getElem g3 fun j a b=>?_;simp only[lAJ,lED];split
 ·subst_vars;rfl
 ·rfl
theorem qyq{l:List (Nd×AV)}(h:lW 5 kR S H0 H w l)(a:i<l.length){x:AV}(p:x=.aA\/∃ b o n m e,x=.sl b o n m e):Ok (qtz O w (iN i) x H) fun r H'=>∃ d,lW 5 kR S H0 H' r d/\d.map Prod.fst=l.map Prod.fst:=by
 obtain⟨b,o,H',s,t,g,f,nx⟩:=h.gl.set1 a (j:=3) om x;unfold qtz;rw[zkj x l i a]at g;refine Ok.mono (Q:=fun r q=>r=w/\q=H') ?_ ?_
 ·rcases p with rfl|⟨_,_,_,_,_,rfl⟩<;>(simp only[go_sem,s,t];exact Ok.ret ⟨rfl,rfl⟩)
 ·rintro _ _ ⟨rfl,rfl⟩;exact⟨_,⟨by rw[vw];exact g,h.fm.then f fun c u a=>by
   rcases h.nw c a with k|k
   ·exact k
   ·omega,h.nw⟩,q3i a x⟩
theorem qsc{r:Ru}(hR:znb C r j){g:AV->AV->pD}{Q:pL}{w x:AV}{l:List (Nd×AV)}{xs ca cb cc:List AV}{f bl kd t:Nat}{P:Nat->Prop}(F:Gl 5 H w l.length (l.flatMap kR))(hx:Gl 1 H x t xs)(ht:t<2)(I:l.length+r.size<=1000000)(ha:f<H.nx)(c:bl<H.nx)(ka:H.get f=aB 0 [uN kd,sE.v,sE.v,.sl bl 0 2 2 true])(kb:H.get bl=aB 0 (ca++cb))(J:fD (aB 0 (ca++cb)) (t*4) 4=some cc)(s:jV P H r cc)(d1:∀ b,In x b->¬ In w b)(o:¬ In w f/\¬ In x f)(p:¬ In w bl/\¬ In x bl)(K:∀ b,P b->¬ In w b)(L:∀ b,P b->¬ In x b)(hg:∀(w' M:AV) (H':Hp) (y:List (Nd×AV)) (N:List AV),Gl 5 H' w' y.length (y.flatMap kR)->(∀b,In w' b->In w b\/H.nx<=b)->y.map Prod.fst=l.map Prod.fst++r.nodes (neg||(decide (kd=6)&&decide (t=1))) -> Fm (fun b=>In w b\/In x b) H H'->Gl 1 H' M (t+1) N->(∀b,In M b->H.nx<=b/\¬ In w' b)->Ok (g w' M (iN ((t+1))) H') Q):Ok (q17 (C j) g w (.bool neg) (.ptr f 0) x (iN t) H) Q:=by
 unfold q17;have R:=F.bM;refine eP R ?_;have fp:Fm No H (aI H (aB 0 [iN (l.length)])):=by exact jF
 obtain⟨n,e2,g2,q2,f2,n2⟩:=(hx.no fp).append (k:=1) (w:=8) (x:=[iN (l.length)]) om rfl om om;simp only[np]at n2;refine Ok.veE e2 ?_;have G:Fm (In x) H n:=(fp.mono (T:=In x) (fun _ _ h=>absurd h id)).then f2 fun _ _ h=>h;have U:∀ b,b<H.nx->¬ In x b->n.get b=H.get b:=fun b c u=>G.get b c u;have i:n.get f=aB 0 [uN kd,sE.v,sE.v,.sl bl 0 2 2 true]:=(U f ha o.2).trans ka;have V:n.get bl=aB 0 (ca++cb):=(U bl c p.2).trans kb;have z:fD (n.get bl) (t*4) 4=some cc:=by rw[V];exact J
 have W:=s.four;obtain⟨c0,A,B,D,Z⟩:=W;subst Z;have X:Gl 5 n w l.length (l.flatMap kR):=F.keep G.nx (fun b c R=>U b R (fun u=>d1 b u c));have fin:∀(b:Bool),b=(neg||(decide (kd=6)&&decide (t=1)))->∀(m:AV) (d:Hp) (l3:List (Nd×AV)),lW 5 kR (In w) n d m l3->l3.map Prod.fst=l.map Prod.fst++r.nodes b ->
   Ok (g m (.sl (aI H (aB 0 [iN (l.length)])).nx 0 (t+1) (t+1) false) (iN ((t+1))) d) Q:=by
  rintro _ rfl m d l3 a e;refine hg m _ d l3 _ a.gl (fun b c=>?_) e ?_ (g2.keep a.fm.nx fun b c S=>a.fm.get b S fun h=>?_) (fun b c=>⟨?_,fun h=>?_⟩)
  ·rcases a.nw b c with h|h
   ·exact .inl h
   ·omega
  ·exact(G.mono fun _ _ h=>.inr h).then a.fm fun _ _ h=>.inl h
  ·obtain⟨_,_,_,_,c⟩:=c;cases c;have:=F.lt h;simp only[np]at this;omega
  ·obtain⟨_,_,_,_,c⟩:=c;cases c;simp only[np];omega
  ·obtain⟨_,_,_,_,c⟩:=c;cases c;simp only[np]at h;rcases a.nw _ h with h|h
   ·have:=F.lt h;omega
   ·omega
 have O:∀ b:Bool,Ok (C j (.f 29) [w,.agg [c0,A,B,D],.bool b] n) fun w' H'=>∃ y,lW 5 kR (In w) n H' w' y/\y.map Prod.fst=l.map Prod.fst++r.nodes b:=fun b=>hR w b n X (s.dP G L) K I;have v:nC 64 (.agg [c0,A,B,D]) (.agg [c0,A,B,D])=true:=by have Y:=s.flat;refine qgx _ ?_;rw[Y];rfl
 cases neg
 ·by_cases h6:kd=6
  ·subst h6;refine eF i z ?_;refine Ok.iD (O (decide (t=1))) ?_;rintro m d ⟨l3,a,e⟩;have q:=a.fm;have E:d.get f=aB 0 [uN 6,zS,zS,.sl bl 0 2 2 true]:=(q.get f om o.1).trans i;have r3:fD (d.get bl) (t*4) 4=some [c0,A,B,D]:=by rw[q.get bl om p.1];exact z
   have ec:=v;unfold qty;refine aT ?_;exact fin (decide (t=1)) g3 m d l3 a e
  ·refine iG i z h6 ?_;refine Ok.iD (O false) ?_;rintro m d ⟨l3,a,e⟩;have q:=a.fm;have E:d.get f=aB 0 [uN kd,zS,zS,.sl bl 0 2 2 true]:=(q.get f om o.1).trans i;have r3:fD (d.get bl) (t*4) 4=some [c0,A,B,D]:=by rw[q.get bl om p.1];exact z
   have ec:=v;unfold qty;refine aT ?_;exact fin false (by simp[h6]) m d l3 a e
 ·refine eF i z ?_;refine Ok.iD (O true) ?_;rintro m d ⟨l3,a,e⟩;have q:=a.fm;have E:d.get f=aB 0 [uN kd,zS,zS,.sl bl 0 2 2 true]:=(q.get f om o.1).trans i;have r3:fD (d.get bl) (t*4) 4=some [c0,A,B,D]:=by rw[q.get bl om p.1];exact z
  have ec:=v;unfold qty;refine aT ?_;exact fin true g3 m d l3 a e
theorem lW.base{α:Type}{f:α->List AV}{v:AV}{l:List α}(a:Fm No H0 H1)(h:lW z f S H1 H v l):lW z f S H0 H v l:=
 ⟨h.gl,(a.mono fun _ _ h=>absurd h id).then h.fm fun _ _ h=>h,fun b c=>(h.nw b c).imp id fun h=>rq a.nx h⟩
theorem Gl.aD8{α:Type}{f:α->List AV}{v:AV}{l:List α}(h:Gl z H v l.length (l.flatMap f))(a:Fm No H H1):lW z f (In v) H1 H1 v l:=⟨h.no a,Fm.refl _ _,fun _ h=>.inl h⟩
theorem n15(O:Ev.Call)(q:AV->pD)(x2 a:AV)(n:Nat):qtx O q x2 a (n+1)=qkh O q x2 a (qtx O q x2 a n):=rfl
theorem qvf:∀(r:Ru) (k:Nat),r.depth<=k->znb C r k:=by
 intro r
 induction r with
 |leaf kd rl to=>
  intro k V v neg H l cs P n W o F;unfold Ru.depth at V;obtain⟨j,rfl⟩:∃ j,k=j+1:=⟨k-1,om⟩;rw[lk (q57 ..)];unfold zAz zqz;obtain rfl:cs=lfC kd rl to:=W;have Q:=n.bM;unfold lfC SS.v;refine eP Q ?_;have A:Fm No H (aI (aI H (aB 0 [uN kd,.str rl.n rl.a,.str to.n to.a,.aA])) (aB 0 (kR (⟨kd,rl,to,neg⟩,.aA)))):=by exact qO
  refine Ok.ve ((n.aD8 A).add (⟨kd,rl,to,neg⟩,.aA) 72 rfl om om) ?_;intro w H1 q;have B:H1.get H.nx=aB 0 [uN kd,.str rl.n rl.a,.str to.n to.a,.aA]:=(q.fm.get _ g1 fun h=>by have:=n.lt h;omega).trans g6;unfold q18;obtain⟨m,X⟩:∃ m,bZ=m+1:=⟨999999,by rw[wH]⟩;rw[dD,X];rw[n15];unfold qkh;simp only[go_sem,B];refine(qyq (O:=C j) q g3 (.inl rfl)).mono ?_;rintro r Y ⟨Z,f,d⟩;exact⟨Z,f.base A,by rw[d];simp[Ru.nodes]⟩
 |node kd a b iha ihb=>
  intro k V v neg H l cs P n W o F;unfold Ru.depth at V;obtain⟨j,rfl⟩:∃ j,k=j+1:=⟨k-1,om⟩;rw[lk (q57 ..)];unfold zAz zqz;obtain⟨bl,ca,cb,rfl,hbl,s,kb,G,I⟩:=W;have Q:=n.bM;unfold sE SS.v;refine eP Q ?_;have A:Fm No H (aI (aI H (aB 0 [uN kd,zS,zS,.sl bl 0 2 2 true])) (aB 0 (kR (⟨kd,sE,sE,neg⟩,.aA)))):=by exact qO
  unfold Ru.size at F;refine Ok.ve ((n.aD8 A).add (⟨kd,sE,sE,neg⟩,.aA) 72 rfl om om) ?_;intro w H1 q;have f1:=q.fm;have n1:=f1.nx;simp only[np]at n1;have B:H1.get H.nx=aB 0 [uN kd,zS,zS,.sl bl 0 2 2 true]:=(q.fm.get _ g1 fun h=>by have:=n.lt h;omega).trans g6;have L:Fm (In v) H H1:=(A.mono fun _ _ h=>absurd h id).then f1 fun _ _ h=>h;have D:H1.get bl=aB 0 (ca++cb):=(L.get bl hbl (o bl s)).trans kb;have R:jV (fun x=>P x/\x<H.nx) H1 a ca:=(G.mono fun b f d=>(⟨d,f⟩:P b/\b<H.nx)).dP L fun b h=>o b h.1;have S:jV (fun x=>P x/\x<H.nx) H1 b cb:=(I.mono fun b f d=>(⟨d,f⟩:P b/\b<H.nx)).dP L fun b h=>o b h.1;have M:∀ x,In w x->In v x\/H.nx+2<=x:=fun x h=>by
   rcases q.nw x h with h|h
   ·exact .inl h
   ·exact .inr (by simp only[np]at h;omega)
  have la:ca.length=4:=by obtain⟨_,_,_,_,h⟩:=G.four;rw[h];rfl
  have lb:cb.length=4:=by obtain⟨_,_,_,_,h⟩:=I.four;rw[h];rfl
  have z:∀ x,¬In AV.aA x:=fun x h=>by obtain⟨_,_,_,_,h⟩:=h;cases h
  have no:∀ x,x<H.nx+2->¬ In v x->¬ In w x:=fun x f d h=>(M x h).elim d fun h=>om;unfold q18;obtain⟨m,X⟩:∃ m,bZ=m+3:=⟨999997,by rw[wH]⟩;rw[dD,X];rw[n15];unfold qkh;refine eP B ?_;refine qsc (r:=a) (P:=fun x=>P x/\x<H.nx) (ca:=ca) (cb:=cb) (cc:=ca) (kd:=kd) (bl:=bl) (iha j om) q.gl (Gl.nil 1 H1) om g2 om om B D (by rw[lAV,yU,qj g2,lA4,List.take_left' la]) R (fun x h=>absurd h (z x))
   ⟨no _ om (fun h=>by have:=n.lt h;omega),z _⟩ ⟨no _ om (o bl s),z _⟩ (fun x y=>no _ om (o x y.1)) (fun x _=>z x) ?_
  intro w2 x2 Y l2 xs2 hw2 u J N hx2 e;rw[n15];unfold qkh;have g:∀ x,x<H1.nx->¬ In w x->¬ In w2 x:=fun x f d h=>(u x h).elim d fun h=>om;have p:¬ In w H.nx:=no _ om (fun h=>by have:=n.lt h;omega);have E:¬ In w bl:=no _ om (o bl s);have fw:∀ x,x<H1.nx->¬ In w x->Y.get x=H1.get x:=fun x f d=>N.get x f fun h=>h.elim d (z x);have n2:=N.nx;have k2:=(fw _ om p).trans B;have T:=(fw _ om E).trans D;simp only[go_sem,k2];have U:jV (fun x=>P x/\x<H.nx) Y b cb:=S.dP N fun b h=>fun h'=>h'.elim (no _ om (o b h.1)) (z b);have l2n:l2.length=l.length+1+a.size:=by have:=congrArg List.length J;simp only[pz,lL,pq,uo,qby]at this;omega
  refine qsc (r:=b) (P:=fun x=>P x/\x<H.nx) (ca:=ca) (cb:=cb) (cc:=cb) (kd:=kd) (bl:=bl) (t:=1) (ihb j om) hw2 hx2 om om om om k2 T (by rw[lA5,yU,qj g2,List.drop_left' la,<-lb,um]) U (fun x h=>(e x h).2)
   ⟨g _ om p,fun h=>by have:=(e _ h).1;omega⟩ ⟨g _ om E,fun h=>by have:=(e _ h).1;omega⟩ (fun x y=>g _ om (no _ om (o x y.1))) (fun x y h=>by have:=(e _ h).1;omega) ?_
  intro w3 x3 H3 l3 xs3 hw3 nw3 K f3 hx3 nx3;rw[n15];unfold qkh;have k3:H3.get H.nx=aB 0 [uN kd,zS,zS,.sl bl 0 2 2 true]:=(f3.get _ om fun h=>h.elim (g _ om p) fun h=>by have:=(e _ h).1;omega).trans k2;simp only[go_sem,k3];have l3n:l3.length=l2.length+b.size:=by have:=congrArg List.length K;simp only[pz,lL,qby]at this;omega
  have hS:lW 5 kR (In v) H H3 w3 l3:=by
   refine⟨hw3,?_,?_⟩
   ·refine(L.then N fun c hc h=>?_).then f3 fun c hc h=>?_
    ·rcases h with h|h
     ·exact(M c h).elim id fun h=>om
     ·simp_all
    ·rcases h with h|h
     ·exact(u c h).elim (fun h=>(M c h).elim id fun h=>om) fun h=>om
     ·have:=(e c h).1;omega
   ·intro x y;rcases nw3 x y with h|h
    ·rcases u x h with h|h
     ·rcases M x h with h|h
      ·exact .inl h
      ·omega
     ·omega
    ·omega
  refine(qyq (O:=C j) hS (i:=l.length) om ?_).mono ?_
  ·rcases hx3.is with⟨h,_⟩|⟨_,_,_,_,_,h,_⟩
   ·exact .inl h
   ·simp_all
  ·rintro r H4 ⟨Z,f,d⟩;refine⟨Z,f,?_⟩;rw[d,K,J];simp[Ru.nodes]
def iA(kd:Nat)(s:SS)(n:Nd):Bool:=decide (n.k=kd)&&decide (n.rl=s)
def gK(r:Ru)(kd:Nat)(s:SS):Bool:=(r.nodes false).any (iA kd s)
theorem qvt{O:Ev.Call}{l:List (Nd×AV)}{v:AV}{H:Hp}{kd:Nat}{s:SS}(e:Rs 5 kR H v l)(u:l.length<=1000000){Q:pL}{q:pH}{qr:pD}(j:l.any (fun x=>iA kd s x.1)=true->Ok (qr (.bool true) H) Q)(m:l.any (fun x=>iA kd s x.1)=false->Ok (q H) Q):∀(k i:Nat),i<=l.length->l.length-i<k->(l.take i).any (fun x=>iA kd s x.1)=false -> Ok (q6k O qr q (uN kd) s.v v k (iN i) H) Q
 |0,i,_,h,_=>om
 |k+1,i,hi,hk,hn=>by
  show Ok (zgs O _ _ _ _ _ (q6k O _ _ _ _ _ k) _ H) Q;unfold zgs;have w:=e.len;by_cases a:i<l.length
  ·simp only[go_sem,w,a];unfold zgr;obtain⟨b,o,t,B,_,C,z⟩:=e.at' i a;have n:bX (H.get b) o=.val (uN (l[i].1.k)):=z 0 (by rw[r9];omega);have p:bX (H.get b) (o+1)=.val (.str l[i].1.rl.n l[i].1.rl.a):=z 1 (by rw[r9];omega);have y:(l.take (i+1)).any (fun x=>iA kd s x.1)=iA kd s l[i].1:=by
    rw[lh a,lAP,hn];simp
   unfold SS.v;by_cases f:l[i].1.k=kd
   ·have c:=yt f;by_cases g:l[i].1.rl.n=s.n/\l[i].1.rl.a=s.a
    ·have r:=yt g;have d:iA kd s l[i].1=true:=by unfold iA;rw[qc f,qc ((oD _ _).2 g)];rfl
     simp only[go_sem,t,n,p,c,r];refine j ?_;rw[dC];exact⟨l[i],lg a,d⟩
    ·have d:iA kd s l[i].1=false:=by unfold iA;rw[ql (fun h=>g ((oD _ _).1 h))];simp
     simp only[go_sem,t,n,p,c,g];unfold qri;refine aT ?_;exact qvt e u j m k (i+1) om om (by rw[y,d])
   ·have d:iA kd s l[i].1=false:=by unfold iA;rw[ql f];simp
    simp only[go_sem,t,n,p,f];unfold qri;refine aT ?_;exact qvt e u j m k (i+1) om om (by rw[y,d])
  ·have A:i=l.length:=om;simp only[go_sem,w,a];rw[A,um]at hn;exact m hn
theorem zxz{k:Nat}{r:Ru}(u:r.depth+1<=k)(y:r.size<=100000){P:Nat->Prop}(e:jV P H r cs)(kd:Nat)(s:SS):Ok (C k (.f 58) [.agg cs,uN kd,s.v] H) fun v H'=>v=.bool (gK r kd s)/\Fm No H H':=by
 obtain⟨j,rfl⟩:∃ j,k=j+1:=⟨k-1,om⟩;rw[lk (zq6 ..)];unfold zAs z1n;obtain⟨c0,p,q,t,rfl⟩:=e.four;refine aT ?_;have f:Fm No H (aI H (aB 0 [c0,p,q,t])):=by exact jF
 have g:∀ x,¬In AV.aA x:=fun x h=>by obtain⟨_,_,_,_,h⟩:=h;cases h
 refine Ok.ve (qvf r j om .aA false _ (l:=[]) (Gl.nil 5 _) (e.fm f) (fun b _=>g b) g2) ?_;rintro w H1 ⟨l,m,n⟩;have i:Fm No H H1:=f.then m.fm fun c _ h=>absurd h (g c);have o:l.length=r.size:=by have:=congrArg List.length n;simpa [qby] using this
 have a:gK r kd s=l.any (fun x=>iA kd s x.1):=by
  have d:l.map Prod.fst=r.nodes false:=by simpa using n
  unfold gK;rw[<-d,lE9];rfl
 unfold zwz;rw[dD];refine qvt (m.gl.rs r9) om (fun h=>?_) (fun h=>?_) bZ 0 (gp _) lf rfl
 ·exact Ok.ret ⟨by rw[a,h],i⟩
 ·unfold qwy;exact Ok.ret ⟨by rw[a,h],i⟩
structure jQ where
 name:SS
 types:List jL
 rule:Ru
structure SpS where
 name:SS
 bT:List jQ
structure bB where
 r:jQ
 tv:AV
 cs:List AV
def gP(g:bB):List AV:=[g.r.name.v,g.tv,g.cs.getD 0 .undef,g.cs.getD 1 .undef,g.cs.getD 2 .undef,g.cs.getD 3 .undef]
theorem qjo(g:bB):(gP g).length=6:=rfl
structure xU(A B:Nat)(H:Hp)(rv:AV)(gs:List bB):Prop where
 gl:Gl 6 H rv gs.length (gs.flatMap gP)
 inn:∀ b,In rv b->A<=b/\b<B
 ty:∀ g∈gs,Rs 2 tC H g.tv g.r.types/\(g.tv=.aA\/∃ b o n m e,g.tv=.sl b o n m e/\n<=m/\0<n)/\∀ b,In g.tv b->A<=b/\b<B/\¬ In rv b
 ru:∀ g∈gs,jV (fun b=>A<=b/\b<B/\¬ In rv b) H g.r.rule g.cs
theorem xU.nil(A B:Nat)(H:Hp):xU A B H .aA []:=⟨Gl.nil 6 H,(fun b h=>by obtain⟨_,_,_,_,h⟩:=h;cases h),(fun g a=>by cases a),(fun g a=>by cases a)⟩
theorem xU.dP{A B:Nat}{rv:AV}{e:List bB}(h:xU A B H rv e)(f:Fm S H H')(d:∀ b,A<=b->b<B->¬ S b):xU A B H' rv e:=
 ⟨h.gl.fm f fun b a=>d b (h.inn b a).1 (h.inn b a).2,h.inn,fun g c=>⟨(h.ty g c).1.dP f fun b a=>d b ((h.ty g c).2.2 b a).1 ((h.ty g c).2.2 b a).2.1,(h.ty g c).2⟩,
  fun g c=>(h.ru g c).dP f fun b a=>d b a.1 a.2.1⟩
structure aQ where
 name:SS
 gs:List bB
 rv:AV
 A:Nat
 B:Nat
def yA(g:aQ):List AV:=[g.name.v,g.rv]
theorem qev(g:aQ):(yA g).length=2:=rfl
def aQ.sp(g:aQ):SpS:=⟨g.name,g.gs.map bB.r⟩
variable {X:List aQ}
variable {g:aQ}
structure mQ(H:Hp)(sv:AV)(l:List aQ):Prop where
 gl:Gl 2 H sv l.length (l.flatMap yA)
 ord:l.Pairwise fun a b=>a.B<=b.A
 rel:∀ g∈l,xU g.A g.B H g.rv g.gs/\g.B<=H.nx
 dj:∀ g∈l,∀b,In sv b->¬(g.A<=b/\b<g.B)
theorem mQ.no{l:List aQ}(h:mQ H sv l)(f:Fm No H H'):mQ H' sv l:=
 ⟨h.gl.no f,h.ord,fun g a=>⟨(h.rel g a).1.dP f fun _ _ _ h=>h,rq (h.rel g a).2 f.nx⟩,h.dj⟩
theorem mQ.dP{l:List aQ}(h:mQ H sv l)(f:Fm S H H')(c:∀ b,In sv b->¬ S b)(d:∀ g∈l,∀b,g.A<=b->b<g.B->¬ S b):mQ H' sv l:=
 ⟨h.gl.fm f c,h.ord,fun g a=>⟨(h.rel g a).1.dP f (d g a),rq (h.rel g a).2 f.nx⟩,h.dj⟩
theorem mQ.push{sv i:AV}{l:List aQ}(h:mQ H sv l)(f:Fm S H H')(j:∀ g∈l,∀b,g.A<=b->b<g.B->¬ S b)(d:SS)(k:Gl 2 H' i (l.length+1) (l.flatMap yA++[d.v,.aA]))(m:∀ b,In i b->H.nx<=b):mQ H' i (l++[⟨d,[],.aA,H'.nx,H'.nx⟩]):=by
 refine⟨?_,?_,?_,?_⟩
 ·rw[lL,qy,ry];exact k
 ·rw[zq];refine⟨h.ord,bf _ _,fun a n b e=>?_⟩;rw[qf]at e;subst e;exact rq (h.rel a n).2 f.nx
 ·intro g c;rw[qi,qf]at c;rcases c with c|rfl
  ·exact⟨(h.rel g c).1.dP f (j g c),rq (h.rel g c).2 f.nx⟩
  ·exact⟨xU.nil _ _ _,lu _⟩
 ·intro g c b e;rw[qi,qf]at c;rcases c with c|rfl
  ·have:=m b e;have:=(h.rel g c).2;omega
  ·simp
def mR(L:List (List Nat))(n:Nat):jQ:=⟨fO n,lK L n,(fM L n 6 2 false).1⟩
structure OfI(L:List (List Nat))(v:AV)(H0 H:Hp)(cb sb:Nat)(sv:AV)(l:List aQ)(g:aQ):Prop where
 cbk:qhz H cb v
 sbk:H.get sb=aB 0 [sv]
 sbl:H0.nx<=sb/\sb<g.A/\sb<H.nx
 cbl:cb<g.A
 ne:cb<sb\/sb<cb
 ns:¬ In sv sb/\¬ In sv cb
 vX:∀ b,In sv b->H0.nx<=b/\b<g.A
 sbd:∀ x∈l,¬(x.A<=sb/\sb<x.B)
 m:mQ H sv (l++[g])
 an:∀ x∈l++[g],H0.nx<=x.A
 ax:g.A<=H.nx
 fm:Fm No H0 H
theorem zi9(X:List AV)(a b c:AV):aZ (X++[a,b]) (X.length+1) [c]=X++[a,c]:=by unfold aZ;rw[zx,uu,zy];simp
theorem zsa(hj:20<=j){L:List (List Nat)}{v:AV}(hn:n<bS L){l:List aQ}(hv:iB H0 v L)(f:OfI L v H0 H cb sb sv l g)(hl:l.length=1+n / 4)(hgs:g.gs.length<=12){G:pD}{Q:pL}(hG:∀(H':Hp) (rv':AV) (rg:bB),rg.r=mR L n->OfI L v H0 H' cb sb sv l ⟨g.name,g.gs++[rg],rv',g.A,H'.nx⟩->Ok (G (iN ((n+1))) H') Q):Ok (kA qeh (C j) G (.ptr cb 0) (.ptr sb 0) (iN n) H) Q:=by
 have hm:bS L<=12:=uy _ _;have O:=hv.fm f.fm;rw[kE qeh];unfold qeh;have e0:=f.cbk.is;simp only[go_sem,e0];refine Ok.ve (z2i 6 j om 2 1 false H om om O ⟨hn,hm,fun h=>by cases h⟩) ?_;rintro _ H1 ⟨cs,rfl,R,U⟩;obtain⟨c0,A,B,D,rfl⟩:=R.four;have n1:=U.nx;have u:=f.sbl;have s1:=(U.keep u.2.2).trans f.sbk;have r:=f.m.no U;have W:1+n / 4<(l++[g]).length:=g2;obtain⟨b,o,i1,i2,i3,i4,i5⟩:=(r.gl.rs qev).at' (1+n / 4) W;have P:(l++[g])[1+n / 4]=g:=by rw[List.getElem_append_right om];simp[hl]
 rw[P]at i4 i5;have r1:bX (H1.get b) (o+1)=.val g.rv:=i5 1 (by rw[qev];omega);have cl:=f.cbk.lt;have X:cb<H1.nx:=om;have k1:=(f.cbk.fm U).is;refine jD s1 i1 r1 k1 ?_;have er:nC 64 g.rv g.rv=true:=by refine wV ?_ 63;rcases(r.rel g g3).1.gl.is with⟨h,_⟩|⟨_,_,_,_,_,h,_⟩<;>(rw[h];rfl)
 have ev:nC 64 (.agg [v]) (.agg [v])=true:=qgx _ (by unfold Tr;rw[lA6,O.flat];rfl);have ec:nC 64 (.agg [c0,A,B,D]) (.agg [c0,A,B,D])=true:=qgx _ (by unfold Tr;rw[R.flat];rfl);have fX:Fm No H1 ⟨((aI H1 (aB 0 [uN 0,zS,zS,.aA])).put H1.nx (aB 0 [c0,A,B,D])).t,H1.nx+1+17⟩:=fm;refine Ok.iD (qx2 (k:=j) om n om _) ?_;rintro _ H3 ⟨rfl,f3⟩;have n3:H1.nx+1+17<=H3.nx:=f3.nx;have q3:H3.get H1.nx=aB 0 [c0,A,B,D]:=(f3.keep (show H1.nx<H1.nx+1+17 by omega)).trans (by simp only[go_sem]);have z:=fX.trans f3;have k3:=(z.keep X).trans k1;have r3:bX (H3.get b) (o+1)=.val g.rv:=by rw[z.keep i2];exact r1
 unfold SS.v;simp only[go_sem,seval,q3,k3,r3,er,ev,ec];refine Ok.iD (q62 (k:=j) om ((O.fm U).fm z) hn) ?_;intro tv E ht;have Y:=ht.fm;have n4:=Y.nx;have q4:=(Y.keep (show H1.nx<H3.nx by omega)).trans q3;have k4:=(Y.keep om).trans k3;have r4:bX (E.get b) (o+1)=.val g.rv:=by rw[Y.keep om];exact r3
 have htl:0<(lK L n).length:=by unfold lK wK;simp
 obtain⟨tb,to,t,htv⟩:∃ tb to t,tv=.sl tb to (lK L n).length (lK L n).length t:=by
  rcases ht.gl.is with⟨_,h⟩|⟨tb,to,t,_,_,h,_⟩
  ·omega
  ·exact⟨tb,to,t,h⟩
 subst htv;simp only[go_sem,seval,q4,k4,r4,er,ev,ec];have gB:g.B<=H.nx:=(f.m.rel g g3).2;have ax:=f.ax;have fV:Fm No H1 (E.put (H1.nx+1+12) (aB 0 [.str (fO n).n (fO n).a,.sl tb to (lK L n).length (lK L n).length t,c0,A,B,D])):=(z.trans Y).aG _ _ om;have bDy:=(r.rel g g3).1.dP fV fun _ _ _ h=>h;obtain⟨H5,e5,g5,q5,f5,n5⟩:=bDy.gl.append (k:=1) (w:=104) (x:=[.str (fO n).n (fO n).a,.sl tb to (lK L n).length (lK L n).length t,c0,A,B,D]) om rfl om om;simp only[nq]at e5 g5 q5 n5;refine Ok.uU e5 ?_;have m:∀ x,In g.rv x->g.A<=x/\x<g.B:=fun x e=>(r.rel g g3).1.inn x e;have J:=f.vX;have Z:Fm (In g.rv) H1 H5:=(fV.mono fun _ _ h=>absurd h id).then f5 fun _ _ h=>h;have gl5:Gl 2 H5 sv (l++[g]).length ((l++[g]).flatMap yA):=r.gl.fm Z fun x e h=>by have:=(J x e).2;have:=(m x h).1;omega
 obtain⟨b',o',s,V,e6,g6,f6,n6⟩:=gl5.set1 W (j:=1) om (.sl E.nx 0 (g.gs.length+1) (g.gs.length+1) false);rw[i1]at V;injection V with V;injection V with V i7;subst V i7;simp only[go_sem,seval,e6];rw[kE qm7];unfold qm7;refine aT ?_;have i:Fm (fun x=>In g.rv x\/In sv x) H1 s:=(Z.mono fun _ _ h=>.inl h).then f6 fun _ _ h=>.inr h;have n16:H1.nx<=s.nx:=i.nx;have K:∀ x,x<g.A->¬ In sv x->x<H1.nx->s.get x=H1.get x:=fun x I M N=>i.get x N fun h=>h.elim (fun h=>by have:=(m x h).1;omega) M;refine hG s (.sl E.nx 0 (g.gs.length+1) (g.gs.length+1) false) ⟨mR L n,.sl tb to (lK L n).length (lK L n).length t,[c0,A,B,D]⟩ rfl ⟨⟨om,(K cb f.cbl f.ns.2 X).trans k1⟩,(K sb u.2.1 f.ns.1 om).trans s1,⟨u.1,u.2.1,om⟩,f.cbl,f.ne,f.ns,f.vX,f.sbd,?_,?_,by show g.A<=s.nx;omega,?_⟩
 ·have S:∀ x,In (.sl E.nx 0 (g.gs.length+1) (g.gs.length+1) false) x->x=E.nx:=fun x e=>by
   obtain⟨_,_,_,_,e⟩:=e;cases e;rfl
  refine⟨?_,?_,?_,?_⟩
  ·rw[lL,qy,ry]at g6 ⊢;rw[show(1+n / 4)*2+1=(l.flatMap yA).length+1 by
    have:∀ q:List aQ,(q.flatMap yA).length=q.length*2:=fun q=>by
     induction q with
     |nil=>rfl
     |cons a q ih=>rw[uA,lL,ih,qev,pq];omega
    rw[this,hl]]at g6
   unfold yA at g6 ⊢;rw[zi9]at g6;exact g6
  ·have T:=r.ord;rw[zq]at T ⊢;refine⟨T.1,bf _ _,fun a ha c d=>?_⟩;rw[qf]at d;subst d;exact T.2.2 a ha g g3
  ·intro x e;rw[qi,qf]at e;rcases e with e|rfl
   ·have T:=r.ord;rw[zq]at T;have hxg:=T.2.2 x e g g3;refine⟨(r.rel x (by simp[e])).1.dP i fun c I M h=>?_,rq (r.rel x (by simp[e])).2 n16⟩;rcases h with h|h
    ·have:=(m c h).1;omega
    ·exact r.dj x (by simp[e]) c h ⟨I,M⟩
   ·have hr:=(r.rel g g3).1;refine⟨⟨?_,?_,?_,?_⟩,lu _⟩
    ·show Gl 6 s _ (g.gs++[_]).length ((g.gs++[_]).flatMap gP);rw[lL,qy,ry];exact g5.fm f6 fun c d h=>by have:=S c d;have:=(J c h).2;omega
    ·intro c d;have:=S c d;show g.A<=c/\c<s.nx;omega
    ·intro y F;show _/\_/\∀ c,In y.tv c->g.A<=c/\c<s.nx/\_;rw[qi,qf]at F;rcases F with F|rfl
     ·obtain⟨I,M,N⟩:=hr.ty y F;refine⟨I.dP i fun c d h=>?_,M,fun c d=>⟨(N c d).1,by have:=(N c d).2.1;omega,fun h=>by have:=S c h;have:=(N c d).2.1;omega⟩⟩;rcases h with h|h
      ·exact(N c d).2.2 h
      ·have:=(J c h).2;have:=(N c d).1;omega
     ·have p:∀ c,In (.sl tb to (lK L n).length (lK L n).length t) c->H3.nx<=c/\c<E.nx:=fun c d=>⟨ht.nw c d,ht.gl.lt d⟩;refine⟨?_,.inr ⟨_,_,_,_,_,rfl,lu _,q9y L n⟩,fun c d=>⟨by have:=(p c d).1;omega,by have:=(p c d).2;omega,fun h=>by have:=S c h;have:=(p c d).2;omega⟩⟩;have bDm:Fm (fun x=>x=H1.nx+1+12) E (E.put (H1.nx+1+12) (aB 0 [.str (fO n).n (fO n).a,.sl tb to (lK L n).length (lK L n).length t,c0,A,B,D])):=(Fm.refl _ _).put _ _ fun _=>rfl;refine(((ht.rs qe3).dP bDm fun c d h=>?_).dP f5 fun c d h=>?_).dP f6 fun c d h=>?_
      ·have:=(p c d).1;omega
      ·have:=(p c d).1;have:=(m c h).2;omega
      ·have:=(p c d).1;have:=(J c h).2;omega
    ·intro y F;show jV (fun c=>g.A<=c/\c<s.nx/\_) s _ _;rw[qi,qf]at F;rcases F with F|rfl
     ·refine((hr.ru y F).dP i fun c d h=>?_).mono fun c _ d=>⟨d.1,om,fun h=>by have:=S c h;omega⟩;rcases h with h|h
      ·exact d.2.2 h
      ·have:=(J c h).2;omega
     ·have I:jV (fun c=>H.nx<=c/\c<H1.nx) H1 (fM L n 6 2 false).1 [c0,A,B,D]:=R.mono fun c I M=>⟨M,I⟩;refine(I.dP i fun c d h=>?_).mono fun c _ d=>⟨om,om,fun h=>by have:=S c h;omega⟩;rcases h with h|h
      ·have:=(m c h).2;omega
      ·have:=(J c h).2;omega
  ·intro x e c d;rw[qi,qf]at e;rcases e with e|rfl
   ·exact r.dj x (by simp[e]) c d
   ·have:=(J c d).2;show ¬(g.A<=c/\_);omega
 ·intro x e;rw[qi,qf]at e;rcases e with e|rfl
  ·exact f.an x (by simp[e])
  ·exact f.an g g3
 ·refine(f.fm.trans U).then i fun c d h=>?_;rcases h with h|h
  ·have:=(m c h).1;have:=f.an g g3;omega
  ·have:=(J c h).1;omega
theorem zj0(T:20<=j){L:List (List Nat)}{v:AV}(U:n<bS L)(F:n%4=0){l:List aQ}(d:OfI L v H0 H cb sb sv l g)(V:l.length<=1000){G:pD}{Q:pL}(I:∀(H':Hp) (J:AV) (A:Nat),OfI L v H0 H' cb sb J (l++[g]) ⟨dJ (n / 4),[],.aA,A,A⟩->Ok (kA qeh (C j) G (.ptr cb 0) (.ptr sb 0) (iN n) H') Q):Ok (kA qd5 (C j) G (.ptr cb 0) (.ptr sb 0) (iN n) H) Q:=by
 have X:bS L<=12:=uy _ _;rw[kE qd5];unfold qd5;have f:=d.sbl;have s0:=d.sbk;have m0:=d.m;have es:nC 64 sv sv=true:=by refine wV ?_ 63;rcases m0.gl.is with⟨h,_⟩|⟨_,_,_,_,_,h,_⟩<;>(rw[h];rfl)
 refine eF s0 F ?_;have K:Fm No H ⟨H.t,H.nx+10⟩:=fm;refine Ok.iD (qnb (k:=j) om (n / 4) om _) ?_;rintro _ H1 ⟨rfl,B⟩;have t:=K.trans B;have Y:H.nx+10<=H1.nx:=B.nx;have M:=(t.keep f.2.2).trans s0;unfold SS.v;simp only[go_sem,seval,M,es];have p:Fm No H (H1.put (H.nx+6) (aB 0 [.str (dJ (n / 4)).n (dJ (n / 4)).a,.aA])):=t.aG _ _ om;have N:=m0.no p;obtain⟨e,D,g2,q2,E,S⟩:=N.gl.append (k:=1) (w:=40) (x:=[.str (dJ (n / 4)).n (dJ (n / 4)).a,.aA]) om rfl g2 g2;simp only[nq]at D g2 q2 S;have q:e.get sb=aB 0 [sv]:=(E.get sb (by simp only[nq];omega) d.ns.1).trans ((p.keep f.2.2).trans s0);refine Ok.uU D ?_;simp only[go_sem,seval,q];have u:Fm (fun x=>x=sb) e (e.put sb (aB 0 [.sl H1.nx 0 ((l++[g]).length+1) ((l++[g]).length+1) false])):=(Fm.refl _ _).put _ _ fun _=>rfl;have y:Fm (In sv) H e:=(p.mono fun _ _ h=>absurd h id).then E fun _ _ h=>h;have z:Fm (fun x=>In sv x\/x=sb) H (e.put sb (aB 0 [.sl H1.nx 0 ((l++[g]).length+1) ((l++[g]).length+1) false])):=(y.mono fun _ _ h=>.inl h).then u fun _ _ h=>.inr h;have i:∀ x,In (.sl H1.nx 0 ((l++[g]).length+1) ((l++[g]).length+1) false) x->x=H1.nx:=fun x a=>by obtain⟨_,_,_,_,a⟩:=a;cases a;rfl
 have O:=d.vX;have P:=d.cbk.lt;have m:∀ x∈l++[g],¬(x.A<=sb/\sb<x.B):=fun x a=>by
  rw[qi,qf]at a;rcases a with a|rfl
  ·exact d.sbd x a
  ·omega
 refine I _ (.sl H1.nx 0 ((l++[g]).length+1) ((l++[g]).length+1) false) e.nx ⟨⟨?_,?_⟩,dN _ _ _,⟨f.1,?_,?_⟩,?_,d.ne,⟨fun h=>?_,fun h=>?_⟩,fun x a=>?_,m,?_,fun x a=>?_,lu _,?_⟩
 ·show cb<e.nx;omega
 ·rw[dO _ _ _ _ (by have:=d.ne;omega)];exact(y.get cb P d.ns.2).trans d.cbk.is
 ·show sb<e.nx;omega
 ·show sb<e.nx;omega
 ·show cb<e.nx;omega
 ·have:=i _ h;omega
 ·have:=i _ h;omega
 ·have R:=d.fm.nx;have:=i _ a;show _/\x<e.nx;omega
 ·refine m0.push z (fun x a b r s h=>?_) _ ?_ fun b o=>by have:=i _ o;omega
  ·rcases h with h|rfl
   ·exact m0.dj x a b h ⟨r,s⟩
   ·exact m x a ⟨r,s⟩
  ·exact g2.fm u fun b o h=>by have:=i _ o;omega
 ·rw[qi,qf]at a;rcases a with a|rfl
  ·exact d.an x a
  ·have R:=d.fm.nx;show H0.nx<=e.nx;omega
 ·refine d.fm.then z fun c W h=>?_;rcases h with h|rfl
  ·have:=(O c h).1;omega
  ·omega
def spN(L:List (List Nat))(i n:Nat):SpS:=⟨dJ i,(rg (4*i) n).map (mR L)⟩
def spF(L:List (List Nat))(i:Nat):SpS:=spN L i (4*i+4)
def pre(L:List (List Nat))(q:Nat):List SpS:=⟨sU,[]⟩::(List.range q).map (spF L)
theorem zso(L:List (List Nat))(q:Nat):pre L (q+1)=pre L q++[spF L q]:=by unfold pre;rw[lAM,ui];rfl
def Mid(L:List (List Nat))(n:Nat)(l:List aQ)(g:aQ):Prop:=∃ q,l.map aQ.sp=pre L q/\g.sp=spN L q n/\4*q<=n/\n<4*q+4
def St(L:List (List Nat))(n:Nat)(l:List aQ)(g:aQ):Prop:=(n=0/\l=[]/\g.sp=⟨sU,[]⟩)\/∃ q,l.map aQ.sp=pre L q/\g.sp=spN L q n/\4*q<n/\n<=4*q+4
theorem Mid.len{L:List (List Nat)}{l:List aQ}(h:Mid L n l g):l.length=1+n / 4/\g.gs.length<=4:=by obtain⟨q,c,d,e,f⟩:=h;have a:=congrArg List.length c;have b:=congrArg (fun s=>s.bT.length) d;simp only[pz,pre,pq,lAR,aQ.sp,spN,qlr]at a b;omega
theorem Mid.rel{L:List (List Nat)}{l:List aQ}(h:Mid L n l g){rv:AV}{A B:Nat}{r:bB}(a:r.r=mR L n):St L (n+1) l ⟨g.name,g.gs++[r],rv,A,B⟩:=by obtain⟨q,b,c,d,e⟩:=h;refine .inr ⟨q,b,?_,om,om⟩;unfold aQ.sp spN at *;injection c with e1 e2;rw[qky d,ui,ui,e1,e2];simp[a]
theorem St.push{L:List (List Nat)}{l:List aQ}(h:St L n l g)(d:n%4=0)(A:Nat):Mid L n (l++[g]) ⟨dJ (n / 4),[],.aA,A,A⟩:=by
 rcases h with⟨rfl,rfl,h⟩|⟨q,b,c,e,f⟩
 ·exact⟨0,by simp[pre,h],rfl,om,om⟩
 ·have a:n=4*q+4:=om;subst a;refine⟨q+1,by rw[ui,b,zso,ae,c];rfl,?_,om,om⟩;unfold aQ.sp spN;rw[show(4*q+4) / 4=q+1 by omega,show 4*q+4=4*(q+1)by omega,qu1];rfl
theorem St.mid{L:List (List Nat)}{l:List aQ}(h:St L n l g)(c:¬ n%4=0):Mid L n l g:=by
 rcases h with⟨rfl,_,_⟩|⟨q,a,b,d,e⟩
 ·omega
 ·exact⟨q,a,b,om,om⟩
theorem St.len{L:List (List Nat)}{l:List aQ}(h:St L n l g)(c:n<=12):l.length<=4:=by
 rcases h with⟨rfl,rfl,_⟩|⟨q,b,d,e,f⟩
 ·simp
 ·have a:=congrArg List.length b;simp only[pz,pre,pq,lAR]at a;omega
theorem zkb{j:Nat}(i:20<=j){L:List (List Nat)}{v:AV}{H0:Hp}{cb sb:Nat}(m:iB H0 v L){Q:pL}{q:pH}(p:∀(H:Hp) (sv:AV) (l:List aQ) (g:aQ),OfI L v H0 H cb sb sv l g->St L (bS L) l g->Ok (q H) Q):∀(k n:Nat) (l:List aQ) (g:aQ) (sv:AV) (H:Hp),n<=bS L->bS L-n<k->OfI L v H0 H cb sb sv l g->St L n l g -> Ok (qkp (C j) q (.ptr cb 0) (.ptr sb 0) k (iN n) H) Q
 |0,n,_,_,_,_,_,h,_,_=>om
 |k+1,n,l,g,sv,H,hi,hk,a,hS=>by
  show Ok (q2s (C j) _ _ _ (qkp (C j) _ _ _ k) _ H) Q;unfold q2s;have y:bS L<=12:=uy _ _;have u:=a.cbk.is;simp only[go_sem,u];refine Ok.ve (qk8 (k:=j) om (m.fm a.fm)) ?_;rintro _ r ⟨rfl,e⟩;have d:OfI L v H0 r cb sb sv l g:=⟨a.cbk.fm e,(e.keep a.sbl.2.2).trans a.sbk,⟨a.sbl.1,a.sbl.2.1,ku a.sbl.2.2 e.nx⟩,a.cbl,a.ne,a.ns,a.vX,a.sbd,a.m.no e,a.an,rq a.ax e.nx,a.fm.trans e⟩;by_cases b:n<bS L
  ·simp only[go_sem,b];have next:∀(l:List aQ) (g:aQ) (sv:AV) (H:Hp),OfI L v H0 H cb sb sv l g->Mid L n l g->Ok (kA qeh (C j) (qkp (C j) q (.ptr cb 0) (.ptr sb 0) k) (.ptr cb 0) (.ptr sb 0) (iN n) H) Q:=by
    intro l g sv H a o;refine zsa i b m a o.len.1 (by have:=o.len.2;omega) fun H' s rg t c=>?_;exact zkb i m p k (n+1) l _ sv H' om om c (o.rel t)
   by_cases f:n%4=0
   ·refine zj0 i b f d (by have:=hS.len om;omega) fun H' x A c=>?_;exact next _ _ _ _ c (hS.push f A)
   ·rw[kE qd5];unfold qd5;refine eP f ?_;exact next _ _ _ _ d (hS.mid f)
  ·have w:n=bS L:=om;subst w;simp only[go_sem,b];exact p r sv l g d hS
theorem Gl.sub{v:AV}(h:Gl z H v n l)(a:i<n):∃ b o,aH z v (iN i)=.val (.ptr b o)/\b<H.nx/\In v b/\∀ s k,s+k<=z->fD (H.get b) (o+s) k=some ((((l.drop (i*z)).take z).drop s).take k):=by
 have d:=h.len;rcases h.is with⟨rfl,rfl⟩|⟨b,o,e,q,L,rfl,g,t,c,u,j⟩
 ·omega
 ·have p:i*z+z<=n*z:=by
   have:(i+1)*z<=n*z:=xh z a;rw[zk,lA5]at this;exact this
  have r:o+n*z=L.length:=by rw[<-c,vz]at d;omega
  refine⟨b,o+i*z,vL _ _ _ _ _ _ _ _ a,j,⟨_,_,_,_,rfl⟩,fun s k m=>?_⟩;have f:((l.drop (i*z)).take z).drop s=(L.drop (o+i*z+s)).take (z-s):=by rw[List.drop_take,<-c,lAT,lAT,uu]
  rw[f,List.take_take,yu om,g,yU,qj om]
theorem xU.at{A B:Nat}{rv:AV}{a:List bB}(h:xU A B H rv a)(c:i<a.length):∃b o,aH 6 rv (iN i)=.val (.ptr b o)/\b<H.nx/\In rv b/\bX (H.get b) o=.val (.str a[i].r.name.n a[i].r.name.a)/\bX (H.get b) (o+1)=.val a[i].tv/\fD (H.get b) (o+2) 4=some a[i].cs/\fD (H.get b) o 6=some (gP a[i]):=by obtain⟨b,o,d,e,f,g⟩:=h.gl.sub c;obtain⟨k,l,g1,_,_,g4,g5⟩:=(h.gl.rs qjo).at' i c;rw[d]at g1;injection g1 with g1;injection g1 with g1 g2;subst g1 g2;refine⟨b,o,d,e,f,g5 0 (by rw[qjo];omega),g5 1 (by rw[qjo];omega),?_,g4⟩;rw[g 2 4 om,qis qjo a i c];obtain⟨c0,m,n,p,j⟩:=(h.ru a[i] (lg c)).four;unfold gP;rw[j];rfl
def qum(bT:List jQ)(r:jQ):Bool:=gK r.rule 1 sE||bT.any fun x=>gK x.rule 3 r.name
theorem qou{j:Nat}(p:20<=j){A B:Nat}{rv:AV}{a:List bB}{H0:Hp}(n:xU A B H0 rv a)(e:a.length<=1000)(m:∀ g∈a,g.r.rule.depth<=12/\g.r.rule.size<=10000){f:Nat}(l:f<a.length){u0:Bool}{Q:pL}{q:pD}(s:∀ H,Fm No H0 H->Ok (q (.bool (u0||a.any fun x=>gK x.r.rule 3 a[f].r.name)) H) Q):∀(k i:Nat) (u:Bool) (H:Hp),i<=a.length->a.length-i<k->Fm No H0 H->u=(u0||(a.take i).any fun x=>gK x.r.rule 3 a[f].r.name) -> Ok (qop (C j) q rv (iN f) k (.bool u) (iN i) H) Q
 |0,i,_,_,_,h,_,_=>om
 |k+1,i,u,H,hi,hk,hf,hu=>by
  show Ok (q2u (C j) _ _ _ (qop (C j) _ _ _ k) _ _ H) Q;unfold q2u;have d:=n.dP hf fun _ _ _ h=>h;have t:=d.gl.bM;by_cases c:i<a.length
  ·simp only[go_sem,t,c];rw[kE qna];unfold qna;have v:((a.take (i+1)).any fun x=>gK x.r.rule 3 a[f].r.name)=(((a.take i).any fun x=>gK x.r.rule 3 a[f].r.name)||gK a[i].r.rule 3 a[f].r.name):=by
    rw[lh c,lAP];simp
   cases u with
   |true=>rw[kE qdv];unfold qdv;refine aT ?_;refine qou p n e m l s k (i+1) true H om om hf ?_;rw[v,<-Bool.or_assoc,<-hu];rfl
   |false=>obtain⟨b,o,w,F,_,_,_,y,_⟩:=d.at c;obtain⟨G,I,g1,g2,_,g4,_,_,_⟩:=d.at l;simp only[go_sem,w,y,g1,g4];refine Ok.iD (zxz (k:=j) (r:=a[i].r.rule) (by have:=(m _ (lg c)).1;omega) (by have:=(m _ (lg c)).2;omega) (d.ru _ (lg c)) 3 a[f].r.name) ?_;rintro _ z ⟨rfl,D⟩;rw[kE qdv];unfold qdv;refine aT ?_;refine qou p n e m l s k (i+1) _ z om om (hf.trans D) ?_;simp_all
  ·have E:i=a.length:=om;simp only[go_sem,t,c];simp_all
def uW(bT:List jQ)(r:jQ):jQ:=if qum bT r then r else⟨r.name,[],r.rule⟩
theorem qb8(bT:List jQ)(r:jQ):(uW bT r).rule=r.rule:=by unfold uW;split<;>rfl
theorem Rs.nil{α:Type}(z:Nat)(f:α->List AV)(H:Hp):Rs z f H .aA ([]:List α):=⟨rfl,fun i h=>by simp at h⟩
def aFy(g:bB):bB:=⟨⟨g.r.name,[],g.r.rule⟩,.aA,g.cs⟩
theorem zjl:∀(l:List bB) (i:Nat) (h:i<l.length),aZ (l.flatMap gP) (i*6+1) [.aA]=(l.set i (aFy l[i])).flatMap gP
 | [],_,h=>by simp at h
 |x::l,0,_=>by simp[aZ,gP,aFy]
 |x::l,i+1,h=>by
  have:=zjl l i (by simpa using h);rw[lE0,uA,uA,List.getElem_cons_succ,<-this];unfold aZ;have e:(i+1)*6+1=(gP x).length+(i*6+1):=by rw[qjo];omega
  rw[e,zx,qw,qw];congr 1;rw[qw];congr 2;rw[uu,zy]
def mH(bT:List jQ)(k:Nat):List jQ:=(bT.take k).map (uW bT)++bT.drop k
theorem zkp{bT:List jQ}{k:Nat}(h:k<bT.length)(a:k<(mH bT k).length):(mH bT k)[k]=bT[k]:=by
 have e:(mH bT k)[k]? =some bT[k]:=by unfold mH;rw[uh g2];simp[yu (zo h),h]
 simp_all
theorem zs6(bT:List jQ)(k:Nat)(s:SS):(mH bT k).any (fun x=>gK x.rule 3 s)=bT.any (fun x=>gK x.rule 3 s):=by
 unfold mH;rw[lAP,lE9]
 conv=>rhs;rw[<-dh k bT,lAP]
 congr 2;funext x;simp only[Function.comp,qb8]
theorem qvk(bT:List jQ)(k:Nat):(mH bT k).length=bT.length:=by unfold mH;simp;omega
theorem qyu{bT:List jQ}{k:Nat}(h:k<bT.length):mH bT (k+1)=(mH bT k).set k (uW bT bT[k]):=by
 unfold mH;rw[lh h,ui,ae,qw,List.set_append_right _ _ g2];simp only[pz,qx,yu (zo h),og]
 conv=>rhs;rw[uq h]
 rfl
theorem xU.set{A B:Nat}{rv:AV}{e:List bB}(h:xU A B H rv e)(k:i<e.length):∃b o H',aH 6 rv (iN i)=.val (.ptr b o)/\storeAt H b (o+1) [.aA] .undef=.ok .undef H'/\xU A B H' rv (e.set i (aFy e[i]))/\Fm (In rv) H H':=by
 obtain⟨b,o,H',l,m,g,f,_⟩:=h.gl.set1 k (j:=1) om .aA;rw[zjl e i k]at g;refine⟨b,o,H',l,m,⟨by rw[vw];exact g,h.inn,fun y a=>?_,fun y a=>?_⟩,f⟩
 ·rcases lAB a with a|rfl
  ·exact⟨(h.ty y a).1.dP f fun c d=>((h.ty y a).2.2 c d).2.2,(h.ty y a).2⟩
  ·exact⟨Rs.nil _ _ _,.inl rfl,fun c d=>by obtain⟨_,_,_,_,d⟩:=d;cases d⟩
 ·rcases lAB a with a|rfl
  ·exact(h.ru y a).dP f fun c d=>d.2.2
  ·exact(h.ru e[i] (lg k)).dP f fun c d=>d.2.2
theorem qle{j:Nat}(p:20<=j){A B:Nat}{rv:AV}{bT:List jQ}{H1:Hp}(e:bT.length<=1000)(n:∀ r∈bT,r.rule.depth<=12/\r.rule.size<=10000){Q:pL}{q:pH}(s:∀ c H,c.map bB.r=bT.map (uW bT)->xU A B H rv c->Fm (In rv) H1 H->Ok (q H) Q):∀(k i:Nat) (c:List bB) (H:Hp),i<=bT.length->bT.length-i<k->c.map bB.r=mH bT i->xU A B H rv c->Fm (In rv) H1 H -> Ok (qoq (C j) q rv k (iN i) H) Q
 |0,i,_,_,_,h,_,_,_=>om
 |k+1,i,c,H,hi,hk,hg,hI,hf=>by
  show Ok (q2v (C j) _ _ (qoq (C j) _ _ k) _ H) Q;unfold q2v;have D:=hI.gl.bM;have G:c.length=bT.length:=by have:=congrArg List.length hg;rwa [pz,qvk]at this
  have f:∀ g∈c,g.r.rule.depth<=12/\g.r.rule.size<=10000:=fun g t=>by
   have:g.r∈mH bT i:=by rw[<-hg];exact xu t
   unfold mH at this;rw[qi,uC]at this;rcases this with⟨r,J,w⟩|h
   ·rw[<-w,qb8];exact n r (oz J)
   ·exact n _ (List.mem_of_mem_drop h)
  by_cases d:i<bT.length
  ·have a:i<c.length:=om;simp only[go_sem,D,a];rw[kE qm9];unfold qm9;obtain⟨b,o,K,P,_,_,_,L,_⟩:=hI.at a;simp only[go_sem,K,L];refine Ok.ve (zxz (k:=j) (r:=c[i].r.rule) (by have:=(f _ (lg a)).1;omega) (by have:=(f _ (lg a)).2;omega) (hI.ru _ (lg a)) 1 sE) ?_;rintro _ M ⟨rfl,F⟩;have l:=hI.dP F fun _ _ _ h=>h;have u:c[i].r=bT[i]:=by
    have I:(c.map bB.r)[i]'(by simpa using a)=c[i].r:=lAJ ..;rw[<-I,<-zkp d (by rw[qvk];exact d)];congr 1
   have v:(gK c[i].r.rule 1 sE||c.any fun x=>gK x.r.rule 3 c[i].r.name)=qum bT bT[i]:=by unfold qum;rw[u,<-zs6 bT i,<-hg,lE9];rfl
   unfold zhx;rw[dD];refine qou p l om f a (u0:=gK c[i].r.rule 1 sE) (fun y z=>?_) bZ 0 _ M (gp _) lf (Fm.refl _ _) g3;rw[v];rw[kE qjb];unfold qjb;have E:=l.dP z fun _ _ _ h=>h;have m:Fm (In rv) H1 y:=(hf.then F fun _ _ h=>absurd h id).then z fun _ _ h=>absurd h id;cases O:qum bT bT[i]with
   |true=>
    rw[kE qdh];unfold qdh;refine aT ?_;refine qle p e n s k (i+1) c y om om ?_ E m;rw[qyu d,hg];have:uW bT bT[i]=(mH bT i)[i]'(by rw[qvk];exact d):=by rw[zkp d];unfold uW;rw[O];rfl
    simp_all
   |false=>obtain⟨R,S,N,g1,g2,g3,g4⟩:=E.set a;simp only[go_sem,g1,g2];rw[kE qdh];unfold qdh;refine aT ?_;refine qle p e n s k (i+1) _ N om om ?_ g3 (m.then g4 fun _ _ h=>h);rw[qyu d,lEA,hg];congr 1;unfold uW aFy;simp_all
  ·have w:i=bT.length:=om;have a:¬ i<c.length:=om;simp only[go_sem,D,a];refine s c H ?_ hI hf;rw[hg,w];unfold mH;simp
theorem q99(L:List (List Nat))(n:Nat):∀(d i:Nat) (neg:Bool),i<=(fM L n d i neg).2/\(fM L n d i neg).1.size<=2*((fM L n d i neg).2-i)+1/\(fM L n d i neg).1.depth<=d+1:=by
 have a:∀ neg,(qjz neg).size=1/\(qjz neg).depth=1:=fun neg=>by cases neg<;>exact⟨rfl,rfl⟩
 have b:∀ c neg,(xI L n c neg).size=1/\(xI L n c neg).depth=1:=fun c neg=>by
  unfold xI;split
  ·exact a neg
  ·trivial
 intro d
 induction d with
 |zero=>intro i neg;unfold fM;have:=a neg;simp only;omega
 |succ d ih=>
  intro i neg;unfold fM;have e:=a neg;split
  ·simp_all
  split
  ·simp_all
  split
  ·simp only[aBE,Ru.size,Ru.depth];omega
  split
  ·have:=b (fJ L n i / 8) neg;simp only;omega
  have e:=ih (i+1) neg;have f:=ih (fM L n d (i+1) neg).2 (neg||decide (xX n (fJ L n i)=6));simp only[Ru.size,Ru.depth];omega
theorem qo4(L:List (List Nat))(n:Nat):(mR L n).rule.size<=21/\(mR L n).rule.depth<=7:=by have a:=q99 L n 6 2 false;have b:=(qnf L n 6 2 false).2;unfold mR;simp only;omega
def q9h(p:SpS):SpS:=⟨p.name,p.bT.map (uW p.bT)⟩
def vM(L:List (List Nat)):List SpS:=⟨sU,[]⟩::(List.range ((bS L+3) / 4)).map fun i=>spN L i (min (bS L) (4*i+4))
def aAm(L:List (List Nat)):List SpS:=(vM L).map q9h
theorem St.raw{L:List (List Nat)}{l:List aQ}(h:St L (bS L) l g):(l++[g]).map aQ.sp=vM L:=by
 unfold vM;rw[ui,ae];rcases h with⟨c,rfl,h⟩|⟨q,d,e,f,j⟩
 ·rw[c,h];rfl
 ·have b:(bS L+3) / 4=q+1:=om;rw[b,lAM,ui,ae,d,e];unfold pre;rw[lA7];congr 2
  ·refine lAX fun i a=>?_;rw[xg]at a;unfold spF;rw[Nat.min_eq_right om]
  ·simp_all
theorem zjr{L:List (List Nat)}{p:SpS}(a:p∈vM L):p.bT.length<=4/\∀ r∈p.bT,∃n,n<bS L/\r=mR L n:=by
 unfold vM at a;rw[su,uC]at a;rcases a with rfl|⟨i,c,rfl⟩
 ·simp
 ·refine⟨by simp only[spN,pz,qlr];omega,fun r b=>?_⟩;simp only[spN,uC,qgt]at b;obtain⟨n,d,rfl⟩:=b;exact⟨n,om,rfl⟩
theorem xU.flat{A B:Nat}{rv:AV}{a:List bB}(h:xU A B H rv a):vT rv=true:=by rcases h.gl.is with⟨h,_⟩|⟨_,_,_,_,_,h,_⟩<;>(rw[h];rfl)
theorem mQ.aW7(m:mQ H sv X)(o:i<X.length){p:List bB}(x:xU X[i].A X[i].B H' X[i].rv p)(f:Fm (In X[i].rv) H H'):mQ H' sv (X.set i ⟨X[i].name,p,X[i].rv,X[i].A,X[i].B⟩):=by
 have q:=lg o;have k:=(m.rel _ q).1.inn;refine⟨?_,?_,?_,?_⟩
 ·have e:(X.set i ⟨X[i].name,p,X[i].rv,X[i].A,X[i].B⟩).flatMap yA=X.flatMap yA:=by
   rw[List.flatMap_def,List.flatMap_def,lEA];congr 1;have:(X.map yA)[i]'(by simpa using o)=yA ⟨X[i].name,p,X[i].rv,X[i].A,X[i].B⟩:=by rw[lAJ];rfl
   rw[<-this,List.set_getElem_self]
  rw[vw,e];exact m.gl.fm f fun b u v=>m.dj _ q b u (k b v)
 ·have c:=m.ord;rw[yf]at c ⊢;intro a b w n s;rw[vw]at w n;have:=c a b w n s;rw[lED,lED];split<;>split<;>(subst_vars;first|exact this|omega)
 ·intro g d;rw[lEC]at d;obtain⟨j,r,rfl⟩:=d;rw[vw]at r;rw[lED];split
  ·exact⟨x,rq (m.rel _ q).2 f.nx⟩
  ·rename_i t;have l:=lg r;refine⟨(m.rel _ l).1.dP f fun b u v y=>?_,rq (m.rel _ l).2 f.nx⟩;have z:=k b y;have c:=m.ord;rw[yf]at c;rcases Nat.lt_or_gt_of_ne t with h|h
   ·have:=c i j o r h;omega
   ·have:=c j i r o h;omega
 ·intro g d b n;rcases lAB d with d|rfl
  ·exact m.dj g d b n
  ·exact m.dj _ q b n
structure ClI(H0 H:Hp)(sb:Nat)(sv:AV)(X:List aQ):Prop where
 m:mQ H sv X
 an:∀ x∈X,H0.nx<=x.A/\¬(x.A<=sb/\sb<x.B)
 sbk:H.get sb=aB 0 [sv]
 sbl:H0.nx<=sb/\sb<H.nx
 vX:∀ b,In sv b->H0.nx<=b
 fm:Fm No H0 H
theorem qow{j:Nat}(w:20<=j){H0:Hp}{sb:Nat}{sv:AV}{S:List SpS}(E:S.length<=1000)(y:∀ p∈S,p.bT.length<=1000/\∀ r∈p.bT,r.rule.depth<=12/\r.rule.size<=10000){Q:pL}{q:pH}(z:∀ X H,X.map aQ.sp=S.map q9h->ClI H0 H sb sv X->Ok (q H) Q):∀(k i:Nat) (X:List aQ) (H:Hp),i<=S.length->S.length-i<k->X.map aQ.sp=(S.take i).map q9h++S.drop i->ClI H0 H sb sv X -> Ok (qkq (C j) q (.ptr sb 0) k (iN i) H) Q
 |0,i,_,_,_,h,_,_=>om
 |k+1,i,X,H,hi,hk,hX,hI=>by
  show Ok (q2w (C j) _ _ (qkq (C j) _ _ k) _ H) Q;unfold q2w;have D:=hI.m.gl.bM;have s:=hI.sbk;have G:X.length=S.length:=by have:=congrArg List.length hX;simp only[pz,lL,qx,vz]at this;omega
  by_cases e:i<S.length
  ·have a:i<X.length:=om;simp only[go_sem,s,D,a];rw[kE qm8];unfold qm8;obtain⟨b,o,J,R,_,_,K⟩:=(hI.m.gl.rs qev).at' i a;have I:bX (H.get b) (o+1)=.val X[i].rv:=K 1 (by rw[qev];omega);simp only[go_sem,s,J,I];unfold zhy;rw[dD];have g:X[i].sp=S[i]:=by
    have O:(X.map aQ.sp)[i]'(by simpa using a)=X[i].sp:=lAJ ..;simp_all
   have t:X[i].gs.map bB.r=S[i].bT:=congrArg SpS.bT g;have l:=y S[i] (lg e);have u:=lg a;refine qle w (bT:=S[i].bT) (A:=X[i].A) (B:=X[i].B) (rv:=X[i].rv) (H1:=H) l.1 l.2 (fun L H' M F f=>?_) bZ 0 X[i].gs H (gp _) lf (by rw[t];simp[mH]) (hI.m.rel _ u).1 (Fm.refl _ _);rw[kE wE];unfold wE;refine aT ?_;have m:=(hI.m.rel _ u).1.inn;have n:=hI.an _ u;have d:=hI.sbl;refine qow w E y z k (i+1) _ H' om om ?_ ⟨hI.m.aW7 a F f,?_,?_,?_,hI.vX,?_⟩
   ·rw[lEA,hX,lh e,ui,ae,qw,List.set_append_right _ _ g2];simp only[pz,qx,yu hi,og];rw[uq e,List.set_cons_zero,List.singleton_append];congr 2;unfold aQ.sp q9h;congr 1;exact congrArg SpS.name g
   ·intro x v;rcases lAB v with v|rfl
    ·exact hI.an x v
    ·exact n
   ·exact(f.get _ d.2 fun h=>n.2 (m _ h)).trans hI.sbk
   ·exact⟨d.1,ku d.2 f.nx⟩
   ·exact hI.fm.then f fun c N h=>by have:=(m c h).1;omega
  ·have P:i=S.length:=om;have a:¬ i<X.length:=om;simp only[go_sem,s,D,a];refine z X H ?_ hI;simp_all
structure oJ(H:Hp)(g:bB):Prop where
 ty:Rs 2 tC H g.tv g.r.types
 tc:g.tv=.aA\/∃ b o n m e,g.tv=.sl b o n m e/\n<=m/\0<n
 ru:jV (fun _=>True) H g.r.rule g.cs
structure SpR(H:Hp)(g:aQ):Prop where
 len:aD g.rv=.val (iN (g.gs.length))
 fl:vT g.rv=true
 at':∀ i (h:i<g.gs.length),∃b o,aH 6 g.rv (iN i)=.val (.ptr b o)/\b<H.nx/\bX (H.get b) o=.val (.str g.gs[i].r.name.n g.gs[i].r.name.a)/\bX (H.get b) (o+1)=.val g.gs[i].tv/\fD (H.get b) (o+2) 4=some g.gs[i].cs/\fD (H.get b) o 6=some (gP g.gs[i])
 rel:∀ x∈g.gs,oJ H x
structure bY(H:Hp)(sv:AV)(X:List aQ):Prop where
 rs:Rs 2 yA H sv X
 fl:vT sv=true
 sp:∀ g∈X,SpR H g
theorem oJ.tf{g:bB}(h:oJ H g):vT g.tv=true:=by rcases h.tc with h|⟨_,_,_,_,_,h,_⟩<;>(rw[h];rfl)
theorem oJ.fm{g:bB}(h:oJ H g)(f:Fm No H H'):oJ H' g:=⟨h.ty.fm f,h.tc,h.ru.fm f⟩
theorem SpR.fm(h:SpR H g)(f:Fm No H H'):SpR H' g:=⟨h.len,h.fl,fun i c=>by obtain⟨b,o,j,a,k,l,m,n⟩:=h.at' i c;have e:=f.keep a;exact⟨b,o,j,ku a f.nx,by rw[e];exact k,by rw[e];exact l,by rw[e];exact m,by rw[e];exact n⟩,fun x d=>(h.rel x d).fm f⟩
theorem bY.fm(h:bY H sv X)(f:Fm No H H'):bY H' sv X:=⟨h.rs.fm f,h.fl,fun g a=>(h.sp g a).fm f⟩
theorem mQ.sr(m:mQ H sv X):bY H sv X:=by
 refine⟨m.gl.rs qev,?_,fun g c=>?_⟩
 ·rcases m.gl.is with⟨h,_⟩|⟨_,_,_,_,_,h,_⟩<;>(rw[h];rfl)
 ·have r:=(m.rel g c).1;refine⟨r.gl.bM,r.flat,fun i d=>?_,fun x a=>⟨(r.ty x a).1,(r.ty x a).2.1,(r.ru x a).mono fun _ _ _=>trivial⟩⟩
  ·obtain⟨b,o,e,f,_,j,k,l,n⟩:=r.at d;exact⟨b,o,e,f,j,k,l,n⟩
def lF(X:List aQ)(a b:SS):Option bB:=match X.find? fun g=>decide (g.name=a)with
 |none=>none
 |some g=>g.gs.find? fun x=>decide (x.r.name=b)
theorem zlj{α:Type}{p:α->Bool}{l:List α}(a:i<l.length)(h:p l[i]=true)(b:∀ k (d:k<i),p (l[k]'om)=false):l.find? p=some l[i]:=by rw[List.find?_eq_some_iff_getElem];exact⟨h,i,a,rfl,fun j c=>by rw[b j c];rfl⟩
theorem zli{α:Type}{p:α->Bool}{l:List α}(b:∀ k (c:k<l.length),p (l[k])=false):l.find? p=none:=by rw[List.find?_eq_none];intro x a;obtain⟨i,d,rfl⟩:=ai a;simp_all
theorem qr2{O:Ev.Call}{H:Hp}{sb:Nat}{sv:AV}{X:List aQ}(g:bY H sv X)(s:X.length<1000000)(d:H.get sb=aB 0 [sv])(a:SS){Q:pL}{q:pH}{qr:pD}(j:∀ i (t:i<X.length),X[i].name=a->(∀k (e:k<i),X[k].name≠a)->Ok (qr (iN i) H) Q)(l:(∀k (e:k<X.length),X[k].name≠a)->Ok (q H) Q):∀(k i:Nat),i<=X.length->X.length-i<k->(∀k (e:k<i) (f:k<X.length),X[k].name≠a)->Ok (q53 O qr q a.v (.ptr sb 0) k (iN i) H) Q
 |0,i,_,h,_=>om
 |k+1,i,t,e,hn=>by
  show Ok (zfj O _ _ _ _ (q53 O _ _ _ _ k) _ H) Q;unfold zfj;have f:=g.rs.len;by_cases c:i<X.length
  ·simp only[go_sem,d,f,c];unfold zfi;obtain⟨b,o,r,y,_,_,w⟩:=g.rs.at' i c;have p:bX (H.get b) o=.val (.str X[i].name.n X[i].name.a):=w 0 (by rw[qev];omega);unfold SS.v;by_cases h:X[i].name.n=a.n/\X[i].name.a=a.a
   ·have v:=yt h;simp only[go_sem,d,r,p,v];exact j i c ((oD _ _).2 h) fun k e=>hn k e om
   ·simp only[go_sem,d,r,p,h];unfold kQ;refine aT ?_;refine qr2 g s d a j l k (i+1) om om fun m n f=>?_;by_cases x:m=i
    ·subst x;exact fun u=>h ((oD _ _).1 u)
    ·exact hn m om f
  ·simp only[go_sem,d,f,c];exact l fun m n=>hn m om n
theorem zuk{k:Nat}(b:1<=k)(d:bY H sv X)(e:X.length<1000000)(a:SS):Ok (C k (.f 74) [.agg [sv],a.v] H) fun r H'=>Fm No H H'/\((∃i,∃c:i<X.length,r=iN i/\X.find? (fun g=>decide (g.name=a))=some X[i])\/(r=.int .i64 (.negSucc 0)/\X.find? (fun g=>decide (g.name=a))=none)):=by
 obtain⟨j,rfl⟩:=aP b;rw[lk (zqg ..)];unfold zBs z00;simp only[go_sem];have f:Fm No H (aI H (aB 0 [sv])):=by exact jF
 unfold zwp;rw[dD];refine qr2 (d.fm f) e (jG _ _) a (fun i c l m=>?_) (fun h=>?_) bZ 0 (gp _) lf (fun k b=>om)
 ·refine Ok.ret ⟨f,.inl ⟨i,c,rfl,zlj c (by simpa using l) fun k b=>by simpa using m k b⟩⟩
 ·unfold qT;refine Ok.ret ⟨f,.inr ⟨rfl,zli fun k b=>by simpa using h k b⟩⟩
def qqz:List AV:=[zS,.aA,uN 0,zS,zS,.aA]
def qz3(X:List aQ)(a b:SS)(r:AV):Prop:=match lF X a b with
 |some g=>r=.bA [.agg (gP g),.bool true]
 |none=>r=.bA [.agg qqz,.bool false]
theorem qzb{O:Ev.Call}{H:Hp}{sb rb:Nat}{sv:AV}{X:List aQ}(l:bY H sv X){s:Nat}(n:s<X.length)(c:H.get sb=aB 0 [sv])(v:X[s].gs.length<1000000)(e:H.get rb=aB 0 qqz)(b:SS){Q:pL}{q:pH}{qr:pD}(p:∀ g,X[s].gs.find? (fun x=>decide (x.r.name=b))=some g->Ok (qr (.bool true) (H.put rb (aB 0 (gP g)))) Q)(r:X[s].gs.find? (fun x=>decide (x.r.name=b))=none->Ok (q H) Q):∀(k i:Nat),i<=X[s].gs.length->X[s].gs.length-i<k->(∀k (o:k<i) (d:k<X[s].gs.length),X[s].gs[k].r.name≠b)->Ok (qww O qr q b.v (.ptr sb 0) (.ptr rb 0) (iN s) k (iN i) H) Q
 |0,i,_,h,_=>om
 |k+1,i,hi,o,hn=>by
  show Ok (qwx O _ _ _ _ _ _ (qww O _ _ _ _ _ _ k) _ H) Q;unfold qwx;obtain⟨z,A,j,C,_,_,B⟩:=l.rs.at' s n;have f:bX (H.get z) (A+1)=.val X[s].rv:=B 1 (by rw[qev];omega);have u:=l.sp _ (lg n);have d:=u.len;by_cases a:i<X[s].gs.length
  ·simp only[go_sem,c,j,f,d,a,gp];unfold zgb;obtain⟨D,E,g1,g2,g3,g4,g5,g6⟩:=u.at' i a;unfold SS.v;by_cases h:X[s].gs[i].r.name.n=b.n/\X[s].gs[i].r.name.a=b.a
   ·have y:=yt h;simp only[go_sem,c,j,f,g1,g3,y,g6];simp only[go_sem,e];refine p X[s].gs[i] (zlj a (by simpa using (oD _ _).2 h) fun k o=>by simpa using hn k o om)
   ·simp only[go_sem,c,j,f,g1,g3,h];unfold qrh;refine aT ?_;refine qzb l n c v e b p r k (i+1) om om fun m t d=>?_;by_cases e:m=i
    ·subst e;exact fun w=>h ((oD _ _).1 w)
    ·exact hn m om d
  ·simp only[go_sem,c,j,f,d,a,gp];exact r (zli fun m t=>by simpa using hn m om t)
theorem qll{k:Nat}(n:2<=k)(o:bY H sv X)(q:X.length<1000000)(p:∀ g∈X,g.gs.length<900000)(a b:SS):Ok (C k (.f 28) [.agg [sv],a.v,b.v] H) fun r H'=>Fm No H H'/\qz3 X a b r:=by
 obtain⟨j,rfl⟩:=aP n;rw[lk (zq0 ..)];unfold zAy z1h;refine aT ?_;have f:Fm No H (aI (aI H (aB 0 [sv])) (aB 0 qqz)):=by exact qO
 refine Ok.ve (zuk (k:=j) om (o.fm f) q a) ?_;rintro r H1 ⟨c,h⟩;have u:=c.nx;have s:H1.get H.nx=aB 0 [sv]:=(c.keep g1).trans g6;have e:H1.get (H.nx+1)=aB 0 qqz:=(c.keep gz).trans g5;unfold zww;obtain⟨m,t⟩:∃ m,bZ=m+1:=⟨999999,by rw[wH]⟩;unfold qz3 lF;have fin:Ok (q58 (C j) (.ptr (H.nx+1) 0) H1) fun r H'=>Fm No H H'/\r=.bA [.agg qqz,.bool false]:=by unfold q58;unfold qqz at e ⊢;simp only[go_sem,seval,e];exact Ok.ret ⟨(f.trans c).aG _ _ om,rfl⟩
 rcases h with⟨i,l,rfl,h⟩|⟨rfl,h⟩
 ·rw[dD,h];refine qzb ((o.fm f).fm c) l s (by have:=p _ (lg l);omega) e b (fun g d=>?_) (fun d=>?_) bZ 0 (gp _) (by have:=p _ (lg l);rw[wH];omega) (fun k n=>om)
  ·simp only;rw[d];simp only[go_sem];exact Ok.ret ⟨(f.trans c).aG _ _ om,rfl⟩
  ·simp only;rw[d];exact fin
 ·rw[dD,t,h];show Ok (qwx (C j) _ _ _ _ _ _ (qww (C j) _ _ _ _ _ _ m) _ H1) _;unfold qwx;simp only[go_sem];exact fin
end Go.Di
end
