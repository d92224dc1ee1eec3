/-
 For ReachesElse: functions in direct style, their contracts, and the plain mathematics, part 1 of 7. No conditions beyond those that each theorem states.
-/
import Derived.Handy
import Derived.KernelRfl
import Derived.Test.YtfkgaaibbfcaoaaGreatEv2
import Derived.Attr
set_option linter.all false
open Nat renaming reduceAdd->rB,reduceMul->rI,reduceSub->rK,reduceLeDiff->rL,reduceEqDiff->rN,reduceShiftRight->rS,reduceAnd->r6
noncomputable section
namespace Go
variable{h:Prop}
theorem om(p:h:=by first|omega|grind):h:=p
def gz(p:h:=by go_size):h:=p
theorem g1(p:h:=by first|go_size|omega):h:=p
theorem g2(p:h:=by simp;omega):h:=p
theorem g3(p:h:=by simp):h:=p
theorem g4(p:h:=by decide):h:=p
def kr(p:h:=by kernel_rfl):h:=p
end Go
end
noncomputable section
namespace Go.Di
open Go.Ev
abbrev pD:=AV->Hp->R1
abbrev pH:=Hp->R1
abbrev pL:=AV->Hp->Prop
abbrev uN(n:Nat):AV:=.int .u8 (.ofNat n)
abbrev zS:AV:=.str 0 0
abbrev iN(n:Nat):AV:=.int .i64 (.ofNat n)
variable {H H' H0:Hp} {S:Nat->Prop} {b n z:Nat} {l:List AV}
def aO(h:n+1<=b):∃j,b=j+1:=⟨b-1,om⟩
theorem blt_eq(a b:Nat):Nat.blt a b=decide (a<b):=by
 cases h:Nat.blt a b with
 |true=>symm;rw[gp];exact eQ h
 |false=>symm;rw[oq];intro c;rw[show Nat.blt a b=Nat.ble (a+1) b from rfl,mg c]at h;cases h
theorem ble_eq(a b:Nat):Nat.ble a b=decide (a<=b):=by
 cases h:Nat.ble a b with
 |true=>symm;rw[gp];exact eQ h
 |false=>symm;rw[oq];intro c;rw[mg c]at h;cases h
theorem beq_eq(a b:Nat):Nat.beq a b=decide (a=b):=by
 cases h:Nat.beq a b with
 |true=>simp[AK h]
 |false=>symm;rw[oq];rintro rfl;rw[uo]at h;cases h
def aOL{α:Type}{t u:Q α}(h:∀k,k<8->jo k t=jo k u):t=u:=by cases t;cases u;have a:=h 0 g4;have b:=h 1 g4;have c:=h 2 g4;have d:=h 3 g4;have e:=h 4 g4;have f:=h 5 g4;have g:=h 6 g4;have i:=h 7 g4;simp only[jo]at a b c d e f g i;simp_all
theorem zza{α:Type}:∀(d:Nat) {t u:TT α d},(∀i,i<8 ^ d->(dV d i).f t=(dV d i).f u)->t=u
 |0,t,u,h=>h 0 g4
 |d+1,t,u,h=>by refine aOL λk a=>zza d λi b=>?_;have:=h (i*8+k) om;rw[EY,EY]at this;rwa [show(i*8+k) / 8=i by omega,show(i*8+k)%8=k by omega]at this
def cellsOf(l:List AV):TT AV (gY l.length):=qN l 0 (same .undef _)
theorem tz(l:List AV)(i:Nat)(a:i<8 ^ gY l.length):(dV _ i).f (cellsOf l)=l.getD i .undef:=by
 unfold cellsOf;rw[oS _ _ _ _ (by simpa using gj l.length) a];by_cases h:i<l.length
 ·simp_all
 ·rw[sy om,wR];simp_all
def aY(l:List AV)(o:Nat)(v:List AV):List AV:=l.take o++v++l.drop (o+v.length)
theorem A7(l:List AV)(o:Nat)(v:List AV)(h:o+v.length<=l.length):(aY l o v).length=l.length:=by simp[aY];omega
theorem ztx(l:List AV)(o:Nat)(v:List AV)(h:o+v.length<=l.length)(i:Nat):(aY l o v).getD i .undef=if o<=i/\i<o+v.length then v.getD (i-o) .undef else l.getD i .undef:=by
 unfold aY;simp only[vt];by_cases a:i<o
 ·rw[sy om,sR,sX g2,List.getElem?_take_of_lt a]
 ·by_cases b:i<o+v.length
  ·rw[sB om,sR,AM g2,sX g2]
   grind
  ·rw[sy om,AM g2,iq]
   grind
theorem Bz(z:Nat)(l v:List AV)(o:Nat):dt (aB z l) o v=if o+v.length<=l.length then some (aB z (aY l o v))else none:=by
 show(bif Nat.ble (o+v.length) l.length then some (cZ.cells _ _ (qN v o (cellsOf l)) false z)else none)=_;by_cases h:o+v.length<=l.length
 ·rw[sB h,mg h];have d:=A7 l o v h;have b:∀(n:Nat) (e:n=l.length) (c:TT AV (gY n)),(∀i,i<8 ^ gY n->(dV _ i).f c=(aY l o v).getD i .undef)->cZ.cells (gY l.length) l.length (qN v o (cellsOf l)) false z=cZ.cells (gY n) n c false z:=by
   intro n e c f;subst e;congr 1;refine zza _ λi a=>?_;have:=gj l.length;rw[f i a,ztx _ _ _ h,oS _ _ _ _ om a,tz _ _ a]
  exact congrArg some (b _ d _ λi a=>tz _ _ a)
 ·rw[sy h];have:Nat.ble (o+v.length) l.length=false:=by
   cases g:Nat.ble (o+v.length) l.length with
   |false=>rfl
   |true=>exact absurd (eQ g) h
  grind
theorem gk(z:Nat)(l:List AV)(o:Nat):cB (aB z l) o=match l[o]? with|some v=>.val v|none=>.bad:=by
 show(bif Nat.blt o l.length then R0.val ((dV _ o).f (cellsOf l))else .bad)=_;by_cases h:o<l.length
 ·have a:Nat.blt o l.length=true:=by rw[blt_eq];simpa using h
  rw[a,tz _ _ (AE h (gj _))];simp[h]
 ·have a:Nat.blt o l.length=false:=by rw[blt_eq];simpa using h
  simp_all
theorem Sh(c:TT AV b)(l:List AV)(a:∀i,i<8 ^ b->(dV b i).f c=l.getD i .undef):∀(k o:Nat),o+k<=l.length->l.length<=8 ^ b->xI c k o=(l.drop o).take k
 |0,o,_,_=>by simp[zt6]
 |k+1,o,h,h2=>by rw[MK,a _ om,Sh c l a k (o+1) om h2];rw[iP (show o<l.length by omega),qx];simp[show o<l.length by omega]
theorem y7(z:Nat)(l:List AV)(o k:Nat):eY (aB z l) o k=if o+k<=l.length then some ((l.drop o).take k)else none:=by
 show(bif Nat.ble (o+k) l.length then some (xI (cellsOf l) k o)else none)=_;by_cases h:o+k<=l.length
 ·rw[sB h,mg h,Sh _ l (λi a=>tz l i a) k o h (gj _)];rfl
 ·rw[sy h];have:Nat.ble (o+k) l.length=false:=by
   cases b:Nat.ble (o+k) l.length with
   |false=>rfl
   |true=>exact absurd (eQ b) h
  grind
theorem zm7(z c:Nat)(l:List AV)(e:Nat):jk (aB z l) e c=(decide (l.length=e)&&decide (z=c)):=by
 show(Nat.beq l.length e&&Nat.beq z c)=_;have d:∀a b,Nat.beq a b=decide (a=b):=λa b=>by
  cases h:Nat.beq a b with
  |true=>simp[AK h]
  |false=>symm;rw[oq];rintro rfl;rw[uo]at h;cases h
 grind
theorem get_put(H:Hp)(b c:Nat)(k:cZ):(H.put b k).get c=if c=b then k else H.get c:=Mem.get_put H.t b c k
attribute [grind =] get_put
theorem gX(H:Hp)(b:Nat)(k:cZ):(H.put b k).get b=k:=om
theorem jR(H:Hp)(b c:Nat)(k:cZ)(h:c≠b):(H.put b k).get c=H.get c:=om
theorem nq(H:Hp)(b:Nat)(k:cZ):(H.put b k).nx=H.nx:=id rfl
attribute [grind =] nq
theorem Nj(H:Hp)(c:Nat)(k:cZ):(aH H k).get c=if c=H.nx then k else H.get c:=Mem.get_put H.t H.nx c k
attribute [grind =] Nj
theorem uR(H:Hp)(k:cZ):(aH H k).get H.nx=k:=om
def q5n(H:Hp)(c:Nat)(k:cZ)(h:H.nx<=c/\c<=H.nx):(aH H k).get c=k:=om
theorem EX(H:Hp)(c:Nat)(k:cZ)(h:c<H.nx):(aH H k).get c=H.get c:=om
theorem np(H:Hp)(k:cZ):(aH H k).nx=H.nx+1:=id rfl
attribute [grind =] np
attribute [simp] np nq
structure Fm(S:Nat->Prop)(H H':Hp):Prop where
 nx:H.nx<=H'.nx
 get:∀b,b<H.nx->¬S b->H'.get b=H.get b
theorem Fm.gg(a:Fm S H H')(b:Nat):H'.get b=H.get b\/S b\/H.nx<=b:=by have:=a.get b;grind
theorem Fm.gi(h:H.nx<=H'.nx/\∀b,b<H.nx->¬S b->H'.get b=H.get b):Fm S H H':=⟨h.1,h.2⟩
attribute [grind =>] Fm.gg
attribute [grind ->] Fm.nx
attribute [grind <-] Fm.gi
def No:Nat->Prop:=λ_=>False
attribute [grind =] No
theorem Fm.refl(S:Nat->Prop)(H:Hp):Fm S H H:=om
theorem Fm.trans{c:Hp}(a:Fm S H H')(b:Fm S H' c):Fm S H c:=om
theorem Fm.mono{T:Nat->Prop}(a:Fm S H H')(h:∀b,b<H.nx->S b->T b):Fm T H H':=om
def Fm.push(a:Fm S H H')(k:cZ):Fm S H (aH H' k):=om
theorem Fm.put(a:Fm S H H')(b:Nat)(k:cZ)(h:b<H.nx->S b):Fm S H (H'.put b k):=om
def Fm.aN(a:Fm S H H')(b:Nat)(k:cZ)(h:H.nx<=b):Fm S H (H'.put b k):=om
theorem Fm.keep(a:Fm No H H')(c:b<H.nx):H'.get b=H.get b:=om
theorem Fm.then{T:Nat->Prop}(a:Fm S H H')(b:Fm T H' H0)(h:∀c,c<H.nx->T c->S c):Fm S H H0:=
 ⟨AL a.nx b.nx,om⟩
def Ok(r:R1)(Q:pL):Prop:=∃v H',r=.ok v H'/\Q v H'
variable{U:AV}
def Ok.ret{Q:pL}(h:Q U H):Ok (.ok U H) Q:=⟨U,H,rfl,h⟩
variable{X:R1}
theorem Ok.mono{Q R:pL}(h:Ok X Q)(a:∀v H,Q v H->R v H):Ok X R:=by obtain⟨v,H,e,q⟩:=h;exact⟨v,H,e,om⟩
def Ok.ve{k:pD}{Q R:pL}(h:Ok X R)(a:∀v H,R v H->Ok (k v H) Q):Ok (ve X k) Q:=by obtain⟨v,H,e,q⟩:=h;subst e;exact a v H q
variable{R:List Wt}{T:List Pd}{Z:AV->Hp->List Pd->List Wt->R1}
def Ok.de{Q w:pL}(h:Ok X w)(a:∀v H',w v H'->eR (sK n T) H' (sS n R)=true/\Ok (Z v H' (sK n T) (sS n R)) Q):Ok (de n H T R X (some true) Z) Q:=by obtain⟨v,H',e,q⟩:=h;subst e;obtain⟨b,c⟩:=a v H' q;rw[IU];unfold si;simp only[b,AN];exact c
theorem z8f(v:AV)(H:Hp)(k:pD):vq (.val v) H k=k v H:=id rfl
theorem z8g(v:AV)(b:cZ)(H:Hp)(k:pD):vq (.new v b) H k=k v (aH H b):=id rfl
theorem PW(v:AV)(H:Hp)(k:pD):ve (.ok v H) k=k v H:=id rfl
theorem aXk(r:R0)(H:Hp)(k:pD):vg (some true) r H k=vq r H k:=by rw[IF];rfl
theorem aXy(r:R0)(H:Hp)(k:pD):vg (some false) r H k=k .undef H:=by rw[IF];rfl
theorem aQj(r:R1)(H:Hp)(k:pD):mL (some true) r H k=ve r k:=by rw[DG];rfl
theorem aMY(r:R1)(H:Hp)(k:pD):mL (some false) r H k=k .undef H:=by rw[DG];rfl
theorem z8i(v:AV)(k:AV->R1):vl (.val v) k=k v:=id rfl
theorem aOY(r:R0)(k:AV->R1):iw (some true) r k=vl r k:=by rw[EE];rfl
theorem aMy(r:R0)(k:AV->R1):iw (some false) r k=k .undef:=by rw[EE];rfl
theorem zz4(a b:Bool):bI a (.bool b)=some (b==a):=id rfl
theorem zz3(a:Bool):bI a .undef=some false:=id rfl
theorem aWY(x y:R1):cd (.bool true) x y=x:=id rfl
theorem bAc(x y:R1):cd (.bool false) x y=y:=id rfl
theorem aOn(up:Nat)(H:Hp)(k:Nat->pH):dz up H k=k H.nx ⟨H.t,H.nx+up⟩:=id rfl
theorem z03(c:Bool)(a b:AV):dQ (.bool c) a b=.val (if c=true then a else b):=by cases c<;>rfl
variable{P:AV -> Hp -> R1}
@[congr] theorem aPz {r a : R0}(h : r = a):vq r H P = vq a H P := om
variable{Y:R1}
@[congr] theorem aNm (h : X = Y):ve X P = ve Y P := om
variable{W w':Option Bool}
@[congr] theorem aQH {r : R0}(h : W = w'):vg W r H P = vg w' r H P := om
@[congr] theorem z8j (h : W = w'):mL W X H P = mL w' X H P := om
@[congr] theorem aOW {r a : R0}{k : AV -> R1}(h : r = a):vl r k = vl a k := om
@[congr] theorem z8h {r : R0}{k : AV -> R1}(h : W = w'):iw W r k = iw w' r k := om
variable{V:AV}
@[congr] theorem aQl (h : U = V):cd U X Y = cd V X Y := om
@[congr] theorem aOy {k : Nat -> Hp -> R1}:dz b H k = dz b H k := rfl
theorem wX(k:IntKind):cH k k=true:=by cases k<;>rfl
theorem eH(a b:Int):rH a b=decide (a<b):=by cases a<;>cases b<;>simp only[rH,blt_eq]<;>rename_i m n<;>apply lU1.2<;>simp only[mE,qf,Int.negSucc_eq]<;>first|omega|(simp;omega)
theorem eI(a b:Int):uI a b=decide (a=b):=by cases a<;>cases b<;>simp only[uI,beq_eq]<;>rename_i m n<;>apply lU1.2<;>simp only[mE,qf,Int.negSucc_eq]<;>first|omega|(simp;omega)
theorem Bo(n:Nat)(h:n<9223372036854775808):zH .i64 (.ofNat n)=.ofNat n:=by show(bif Nat.blt n 9223372036854775808 then _ else _)=_;rw[blt_eq,j7 h];rfl
theorem xb3(a b:Int):eP (lT .add).f (.int .i64 a) (.int .i64 b)=.val (.int .i64 (zH .i64 (a+b))):=id rfl
theorem z8r(a b:Int):eP (lT .sub).f (.int .i64 a) (.int .i64 b)=.val (.int .i64 (zH .i64 (a-b))):=id rfl
theorem xaf(a b:Int):eP (lT .mul).f (.int .i64 a) (.int .i64 b)=.val (.int .i64 (zH .i64 (a*b))):=id rfl
def xb2(a b:Nat)(h:a+b<9223372036854775808):eP (lT .add).f (iN a) (iN b)=.val (iN ((a+b))):=by rw[xb3];exact congrArg (λx=>R0.val (.int .i64 x)) (Bo (a+b) h)
def zye(a b:Nat)(h:b<=a)(c:a<9223372036854775808):eP (lT .sub).f (iN a) (iN b)=.val (iN ((a-b))):=by rw[z8r,show(Int.ofNat a-Int.ofNat b)=Int.ofNat (a-b)by simp only[qf];omega,Bo _ om]
def xae(a b:Nat)(h:a*b<9223372036854775808):eP (lT .mul).f (iN a) (iN b)=.val (iN ((a*b))):=by rw[xaf];exact congrArg (λx=>R0.val (.int .i64 x)) (Bo (a*b) h)
def z9u(a b:Nat)(h:0<b)(c:a<9223372036854775808):eP (lT .quo).f (iN a) (iN b)=.val (iN ((a / b))):=by
 have d:uI (.ofNat b) 0=false:=by rw[eI];simp;omega
 show(bif uI (.ofNat b) 0 then R0.bad else .val (.int .i64 (zH .i64 ((Int.ofNat a).tdiv (Int.ofNat b)))))=_;rw[d];exact congrArg (λx=>R0.val (.int .i64 x)) (Bo (a / b) (yf (Nat.div_le_self _ _) c))
def z9q(a b:Nat)(h:0<b):eP (lT .rem).f (iN a) (iN b)=.val (iN ((a%b))):=by
 have c:uI (.ofNat b) 0=false:=by rw[eI];simp;omega
 show(bif uI (.ofNat b) 0 then R0.bad else .val (.int .i64 ((Int.ofNat a).tmod (Int.ofNat b))))=_
 grind
def z9p(a b:Nat)(h:0<b):eP (lT .rem).f (uN a) (uN b)=.val (uN ((a%b))):=by
 have c:uI (.ofNat b) 0=false:=by rw[eI];simp;omega
 show(bif uI (.ofNat b) 0 then R0.bad else .val (.int .u8 ((Int.ofNat a).tmod (Int.ofNat b))))=_
 grind
def xal(k:IntKind)(a b:Int):eP (lT .lss).f (.int k a) (.int k b)=.val (.bool (decide (a<b))):=by show(bif cH k k then R0.val (.bool (rH a b))else .bad)=_;rw[wX,eH];rfl
def xax(k:IntKind)(a b:Int):eP (lT .leq).f (.int k a) (.int k b)=.val (.bool (decide (a<=b))):=by show(bif cH k k then R0.val (.bool (!rH b a))else .bad)=_;rw[wX,eH,<-decide_not];simp only[AN];congr 2;simp only[Int.not_lt]
def xa7(k:IntKind)(a b:Int):eP (lT .gtr).f (.int k a) (.int k b)=.val (.bool (decide (b<a))):=by show(bif cH k k then R0.val (.bool (rH b a))else .bad)=_;rw[wX,eH];rfl
def xa9(k:IntKind)(a b:Int):eP (lT .geq).f (.int k a) (.int k b)=.val (.bool (decide (b<=a))):=by show(bif cH k k then R0.val (.bool (!rH a b))else .bad)=_;rw[wX,eH,<-decide_not];simp only[AN];congr 2;simp only[Int.not_lt]
def xbi(k:IntKind)(a b:Int):eP (lT .eql).f (.int k a) (.int k b)=.val (.bool (decide (a=b))):=by show(bif cH k k then R0.val (.bool (uI a b))else .bad)=_;rw[wX,eI];rfl
def xac(k:IntKind)(a b:Int):eP (lT .neq).f (.int k a) (.int k b)=.val (.bool (!decide (a=b))):=by show(bif cH k k then R0.val (.bool (!uI a b))else .bad)=_;rw[wX,eI];rfl
def aOJ(b:Bool):(kF .not).f (.bool b)=.val (.bool !b):=id rfl
def zuq(a b:Nat):(Int.ofNat a<Int.ofNat b)=(a<b):=g3
def zur(a b:Nat):(Int.ofNat a<=Int.ofNat b)=(a<=b):=g3
theorem Sy(a b:Nat):(Int.ofNat a=Int.ofNat b)=(a=b):=om
def zb4(a b:Nat):(Int.negSucc a<Int.ofNat b)=True:=om
def zb7(a b:Nat):(Int.ofNat a<Int.negSucc b)=False:=by simp only[Int.negSucc_eq,qf,eq_iff_iff,iff_false];omega
def zb5(a b:Nat):(Int.negSucc a<=Int.ofNat b)=True:=by simp only[Int.negSucc_eq,qf,eq_iff_iff,iff_true];omega
def zb8(a b:Nat):(Int.ofNat a<=Int.negSucc b)=False:=om
def zb6(a b:Nat):(Int.negSucc a=Int.ofNat b)=False:=g3
def zb9(a b:Nat):(Int.ofNat a=Int.negSucc b)=False:=g3
def z1c(H:Hp)(b o:Nat):aR H (.ptr b o)=cB (H.get b) o:=id rfl
def z1b(k:Nat)(H:Hp)(b o:Nat):bW k H (.ptr b o)=Je (eY (H.get b) o k):=id rfl
def zn9(l:List AV):Je (some l)=.val (.agg l):=id rfl
def zoa(l:List AV):bJ (some l)=.val (.agg l):=id rfl
def z9t(v:AV):rV (.val v)=some v:=id rfl
def zmv(v:AV)(H:Hp):dJ (some v) H=.ok v H:=id rfl
theorem h7(H:Hp)(b o:Nat)(v:List AV)(r:AV)(z:Nat)(l:List AV)(a:H.get b=aB z l)(h:o+v.length<=l.length):storeAt H b o v r=.ok r (H.put b (aB z (aY l o v))):=by unfold storeAt;rw[a,Bz,sB h]
def zbh(H:Hp)(b o:Nat)(v:List AV)(r:AV):storeAt H b o v r=(match dt (H.get b) o v with|some blk=>.ok r (H.put b blk)|none=>.bad):=id rfl
def zbk(H:Hp)(b o:Nat)(k:IntKind)(n:Int):kL H (.ptr b o) (.int k n)=storeAt H b o [.int k n] .undef:=id rfl
def q4m(H:Hp)(b o:Nat)(n:Bool):kL H (.ptr b o) (.bool n)=storeAt H b o [.bool n] .undef:=id rfl
def zjw(H:Hp)(b o:Nat)(a d l c:Nat)(e:Bool):kL H (.ptr b o) (.sl a d l c e)=storeAt H b o [.sl a d l c e] .undef:=id rfl
def qyh(H:Hp)(b o:Nat):kL H (.ptr b o) .aA=storeAt H b o [.aA] .undef:=id rfl
theorem RU(k:Nat)(H:Hp)(b o:Nat)(l:List AV):yI k H (.ptr b o) (.agg l)=bif Nat.beq l.length k then storeAt H b o l .undef else .bad:=id rfl
def xbw(k nm:Nat)(l:List AV):pU k nm (.agg l)=bif Nat.beq l.length k then .new (.ptr nm 0) (aB 0 l)else .bad:=id rfl
def zv5(nm:Nat)(k:IntKind)(n:Int):lM nm (.int k n)=.new (.ptr nm 0) (aB 0 [.int k n]):=id rfl
def z2d(nm:Nat)(a b l c:Nat)(e:Bool):lM nm (.sl a b l c e)=.new (.ptr nm 0) (aB 0 [.sl a b l c e]):=id rfl
def zcy(nm:Nat):lM nm .aA=.new (.ptr nm 0) (aB 0 [.aA]):=id rfl
def zvh(a b o:Nat):aL a (.ptr b o)=.val (.ptr b (o+a)):=id rfl
def xaa(b o:Nat):aW (.ptr b o)=.val (.ptr b o):=id rfl
theorem sD(z b o n c:Nat)(e:Bool)(k:IntKind)(i:Nat)(h:i<n):aG z (.sl b o n c e) (.int k (.ofNat i))=.val (.ptr b (o+i*z)):=by show(bif Nat.blt i n then _ else _)=_;rw[blt_eq,j7 h];rfl
def xa3(n z b o:Nat)(k:IntKind)(i:Nat)(h:i<n):gP n z (.ptr b o) (.int k (.ofNat i))=.val (.ptr b (o+i*z)):=by show(bif Nat.blt i n then _ else _)=_;rw[blt_eq,j7 h];rfl
def zu5(b o n c:Nat)(e:Bool):aD (.sl b o n c e)=.val (iN n):=id rfl
def zl7:aD .aA=.val (iN 0):=id rfl
def z1e:aD .sle=.val (iN 0):=id rfl
def z2a(b o n c:Nat):dX (.sl b o n c true)=.val (iN c):=id rfl
def zv2:dX .aA=.val (iN 0):=id rfl
def xbg(i:Nat)(l:List AV):aT i (.aX l)=(match l[i]? with|some v=>.val v|none=>.bad):=id rfl
def zb3(n nm:Nat)(l:List AV):sQ n nm (some l)=.new (.sl nm 0 n n true) (aB 0 l):=id rfl
attribute [go_sem] z8f z8g PW aXk aXy aQj aMY z8i aOY aMy zz4 zz3 aWY bAc aOn z03
 xb2 zye xae z9u z9q z9p xal xax xa7 xa9 xbi xac aOJ
 zuq zur Sy zb4 zb7 zb5 zb8 zb6 zb9
 z1c z1b zn9 zoa z9t zmv zbk q4m zjw qyh RU xbw zv5 z2d zcy zvh xaa sD xa3
 zu5 zl7 z1e z2a zv2 xbg zb3 gk y7 Bz zbh
 gX q5n EX jR nq np
 beq_self_eq_true Bool.true_beq Bool.false_beq beq_true beq_false Bool.not_true Bool.not_false dh Bool.not_eq_false' decide_true decide_false mE oq tq
 ai pz ite_self nr bf vx sL AN bu reduceCtorEq not_false_eq_true not_true_eq_false
 qx ry pq List.drop_succ_cons List.getElem?_cons_zero xu nk DP vu AS
def vD(r:R0)(lk al:Bool)(i A nm:Nat)(H:Hp)(p:List Pd)(w:List Wt)(f:Hp->R0)(k:AV->Hp->List Pd->List Wt->R1):R1:=
 match r with
  | .bad=>.bad
  | .val v=>k v H p (bif lk then⟨i,A,f,v⟩::w else w)
  | .new v b=>bif al&&b.wr then k v H (⟨i,nm,b⟩::p) w else .bad
theorem zt(lk a:Bool)(i A nm:Nat)(H:Hp)(p:List Pd)(w:List Wt)(f:Hp->R0)(k:AV->Hp->List Pd->List Wt->R1):dq lk a i A nm H p w f (some true) k=vD (f (eB A p H)) lk a i A nm H p w f k:=by rw[IR];rfl
theorem aYA(lk a:Bool)(i A nm:Nat)(H:Hp)(p:List Pd)(w:List Wt)(f:Hp->R0)(k:AV->Hp->List Pd->List Wt->R1):dq lk a i A nm H p w f (some false) k=k .undef H p w:=by rw[IR];rfl
variable{O:Nat}{h:AV -> Hp -> List Pd -> List Wt -> R1}
@[congr] theorem aN7 {lk a : Bool}{f : Hp -> R0}(k : w' = W):dq lk a n z O H T R f w' h = dq lk a n z O H T R f W h := om
@[congr] theorem aOk {r a : R0}{lk b : Bool}{f : Hp -> R0}(k : r = a):vD r lk b n z O H T R f h = vD a lk b n z O H T R f h := om
@[congr] theorem aQD (k : w' = W)(c : X = Y):de n H T R X w' h = de n H T R Y W h := om
theorem aZt(v:AV)(a:Bool)(i A nm:Nat)(H:Hp)(p:List Pd)(w:List Wt)(f:Hp->R0)(k:AV->Hp->List Pd->List Wt->R1):vD (.val v) false a i A nm H p w f k=k v H p w:=id rfl
theorem aV7(v:AV)(a:Bool)(i A nm:Nat)(H:Hp)(p:List Pd)(w:List Wt)(f:Hp->R0)(k:AV->Hp->List Pd->List Wt->R1):vD (.val v) true a i A nm H p w f k=k v H p (⟨i,A,f,v⟩::w):=id rfl
theorem z8k(v:AV)(z:Nat)(l:List AV)(lk:Bool)(i A nm:Nat)(H:Hp)(p:List Pd)(w:List Wt)(f:Hp->R0)(k:AV->Hp->List Pd->List Wt->R1):vD (.new v (aB z l)) lk true i A nm H p w f k=k v H (⟨i,nm,aB z l⟩::p) w:=id rfl
theorem aWw(A:Nat)(H:Hp)(p:List Pd)(w:List Wt)(r:R1)(k:AV->Hp->List Pd->List Wt->R1):de A H p w r (some false) k=k .undef H p w:=by rw[IU];rfl
def vE(c:Bool)(r:R1):R1:=bif c then r else .bad
@[congr] theorem aPM {c a : Bool}(h : c = a):vE c X = vE a X := om
theorem bEs(r:R1):vE true r=r:=id rfl
theorem Nz(A:Nat)(H:Hp)(p:List Pd)(w:List Wt)(v:AV)(H':Hp)(k:AV->Hp->List Pd->List Wt->R1):de A H p w (.ok v H') (some true) k=vE (eR (sK A p) H' (sS A w)) (k v H' (sK A p) (sS A w)):=by rw[IU];rfl
theorem z1k(m i:Nat):aa m i=decide ((m >>> i) &&& 1=1):=beq_eq _ _
theorem xbo(p:List Pd)(H:Hp)(k:pH):zG p H k=k (oW p H):=id rfl
theorem bCM(H:Hp)(k:Nat->pH):dz 0 H k=k H.nx H:=id rfl
attribute [go_sem] bCM
theorem OZ(A:Nat)(H:Hp):eB A [] H=H:=id rfl
theorem zbf(A:Nat)(x:Pd)(p:List Pd)(H:Hp):eB A (x::p) H=bif aa A x.i then(eB A p H).put x.nm x.b else eB A p H:=by rfl
theorem zwe(H:Hp):oW [] H=H:=id rfl
theorem zn8(x:Pd)(p:List Pd)(H:Hp):oW (x::p) H=(oW p H).put x.nm x.b:=id rfl
theorem zni(A:Nat):sK A []=[]:=id rfl
theorem zck(A:Nat)(x:Pd)(p:List Pd):sK A (x::p)=bif aa A x.i then sK A p else x::sK A p:=id rfl
theorem znh(A:Nat):sS A []=[]:=id rfl
theorem zcj(A:Nat)(x:Wt)(p:List Wt):sS A (x::p)=bif aa A x.i then sS A p else x::sS A p:=id rfl
theorem zi6(p:List Pd)(H:Hp):eR p H []=true:=id rfl
theorem zbd(p:List Pd)(H:Hp)(x:Wt)(w:List Wt):eR p H (x::w)=(Dd (x.f (eB x.A p H)) x.v&&eR p H w):=id rfl
theorem zke(u v:AV):Dd (.val u) v=lV 64 u v:=id rfl
def wW:AV->Bool
 | .undef| .bQ| .aA| .sle| .bU| .iV| .pV=>true
 | .bool _| .int _ _| .str _ _| .ptr _ _| .sl .. | .map _| .yield _=>true
 |_=>false
theorem wK{v:AV}(h:wW v=true)(k:Nat):lV (k+1) v v=true:=by cases v<;>first|(cases h;done)|(simp[lV,beq_eq];done)
theorem QI:∀(l:List AV) (k:Nat),l.all wW=true->l.length<k->oJ (k+1) l l=true
 | [],k,_,_=>by simp[oJ]
 |x::l,0,_,h=>by simp at h
 |x::l,k+1,ha,h=>by rw[lq,sA]at ha;rw[oJ,wK ha.1,QI l k ha.2 (by simpa using h)];rfl
theorem z1t(k:IntKind)(n:Int):lV 64 (.int k n) (.int k n)=true:=wK (v:=.int k n) rfl 63
theorem zvo(b:Bool):lV 64 (.bool b) (.bool b)=true:=wK (v:=.bool b) rfl 63
theorem xbk(a b c d:Nat)(e:Bool):lV 64 (.sl a b c d e) (.sl a b c d e)=true:=wK (v:=.sl a b c d e) rfl 63
theorem zm5:lV 64 .aA .aA=true:=wK (v:=.aA) rfl 63
theorem z1s(a b:Nat):lV 64 (.ptr a b) (.ptr a b)=true:=wK (v:=.ptr a b) rfl 63
def Tr(b:Bool):Prop:=b=true
def ti{b:Bool}(h:b=true):Tr b:=h
@[simp] theorem bWG {b : Bool}:Tr b = (b = true) := rfl
attribute [simp] wW
theorem oB(l:List AV)(h:Tr (l.all wW&&decide (l.length<62))):lV 64 (.agg l) (.agg l)=true:=by unfold Tr at h;rw[sA,gp]at h;exact QI l 62 h.1 h.2
theorem zyz(H:Hp)(n c:Nat):(Hp.mk H.t n).get c=H.get c:=id rfl
attribute [grind =] zyz
theorem Fm.up(a:Fm S H H')(k:Nat):Fm S H ⟨H'.t,H'.nx+k⟩:=om
def Fm.up2(a:Fm S H H')(h:H.nx<=n):Fm S H ⟨H'.t,n⟩:=om
def Ok.vH{Q:pL}(h:X=.ok U H')(a:Ok (vE (eR (sK b T) H' (sS b R)) (Z U H' (sK b T) (sS b R))) Q):Ok (Di.de b H T R X (some true) Z) Q:=by rw[h,Nz];exact a
def Ok.veE{k:pD}{Q:pL}(h:X=.ok U H')(a:Ok (k U H') Q):Ok (Di.ve X k) Q:=by rw[h];exact a
def Ok.iC{w:List Wt}{Q R:pL}(h:Ok X R)(a:∀v H',R v H'->Ok (vE (eR (sK b T) H' (sS b w)) (Z v H' (sK b T) (sS b w))) Q):Ok (Di.de b H T w X (some true) Z) Q:=by obtain⟨v,H',e,q⟩:=h;rw[e,Nz];exact a v H' q
def In(v:AV)(b:Nat):Prop:=∃o n m e,v=.sl b o n m e
structure Gl(z:Nat)(H:Hp)(v:AV)(n:Nat)(l:List AV):Prop where
 len:l.length=n*z
 is:(v=.aA/\n=0)\/∃b o e q L,v=.sl b o n n e/\H.get b=aB q L/\o<=L.length/\L.drop o=l/\(e=true\/q=z)/\b<H.nx
theorem Gl.nil(z:Nat)(H:Hp):Gl z H .aA 0 []:=⟨g3,om⟩
theorem Gl.bF(h:Gl z H U n l):aD U=.val (iN n):=by rcases h.is with⟨rfl,rfl⟩|⟨b,o,e,q,L,rfl,_⟩<;>rfl
theorem Gl.keep(h:Gl z H U n l)(j:H.nx<=H'.nx)(a:∀b,In U b->b<H.nx->H'.get b=H.get b):Gl z H' U n l:=by
 refine⟨h.len,?_⟩;rcases h.is with⟨rfl,rfl⟩|⟨b,o,e,q,L,rfl,c,d,f,g,i⟩
 ·simp
 ·exact .inr ⟨b,o,e,q,L,rfl,(a b ⟨_,_,_,_,rfl⟩ i).trans c,d,f,g,om⟩
attribute [grind .] Gl.keep
def Gl.fm(h:Gl z H U n l)(a:Fm S H H')(c:∀b,In U b->¬S b):Gl z H' U n l:=
 h.keep a.nx om
theorem Gl.no(h:Gl z H U n l)(a:Fm No H H'):Gl z H' U n l:=om
def Gl.append{w k:Nat}{l x:List AV}(h:Gl z H U n l)(C:0<k)(p:x.length=k*z)(r:(n+k)*w<=1099511627776)(f:n+k<=1099511627776):∃H',jD z w H U (some ⟨k,x⟩)=.ok (.sl H.nx 0 (n+k) (n+k) false) H'/\Gl z H' (.sl H.nx 0 (n+k) (n+k) false) (n+k) (l++x)/\H'.get H.nx=aB z (l++x)/\Fm (In U) H H'/\H'.nx=H.nx+1:=by
 have d:(l++x).length=(n+k)*z:=by rw[nj,h.len,p,bz]
 have fin:∀H1:Hp,H1.nx=H.nx->Fm (In U) H H1->jD z w H U (some ⟨k,x⟩)=.ok (.sl H1.nx 0 (n+k) (n+k) false) (aH H1 (aB z (l++x))) ->
   ∃H',jD z w H U (some ⟨k,x⟩)=.ok (.sl H.nx 0 (n+k) (n+k) false) H'/\Gl z H' (.sl H.nx 0 (n+k) (n+k) false) (n+k) (l++x)/\H'.get H.nx=aB z (l++x)/\Fm (In U) H H'/\H'.nx=H.nx+1:=by
  intro H1 i D y;refine⟨_,by rw[y,i],⟨d,.inr ⟨_,_,_,z,l++x,rfl,om,om,pq,om,om⟩⟩,by rw[<-i,uR],om,by rw[np,i]⟩
 have g:Nat.ble ((n+k)*w) iA=true:=mg r;have a:Nat.ble (n+k) iA=true:=mg f;rcases h.is with⟨rfl,rfl⟩|⟨b,o,e,q,L,rfl,m,E,A,c,F⟩
 ·have:l=[]:=lE5.1 om;subst this;refine fin H rfl om ?_;show(bif Nat.beq k 0 then _ else bif Nat.ble (Nat.mul k w) iA&&Nat.ble k iA then _ else _)=_;rw[beq_eq,sT om];rw[nr]at g a;show(bif Nat.ble (k*w) iA&&Nat.ble k iA then _ else _)=_;rw[g,a,nr];rfl
 ·have s:Nat.ble (n+k) n=false:=by rw[ble_eq,sT om]
  have t:o+n*z=L.length:=om;have u:eY (H.get b) o (Nat.mul n z)=some l:=by rw[m,y7,sB (by show o+n*z<=_;omega),A,AQ (by rw[h.len];exact AF _)]
  have j:∀(e:Bool) (H1:Hp),H1=(bif e then H else H.put b .dead)->(e=true\/q=z)->jD z w H (.sl b o n n e) (some ⟨k,x⟩)=.ok (.sl H1.nx 0 (n+k) (n+k) false) (aH H1 (aB z (l++x))):=by
   intro e H1 B c;show(bif Nat.ble (n+k) n then _ else bif Nat.ble (Nat.mul (n+k) w) iA&&Nat.ble (n+k) iA then(match eY (H.get b) o (Nat.mul n z)with|none=>R1.bad|some old=>bif e then _ else bif jk (H.get b) (o+n*z) z then _ else _)else R1.bad)=_;rw[s,show Nat.mul (n+k) w=(n+k)*w from rfl,g,a,u];subst B;cases e with
   |true=>rfl
   |false=>
    rcases c with c|c
    ·cases c
    ·have:jk (H.get b) (o+n*z) z=true:=by rw[m,zm7];simp[t,c]
     simp only[bu,AN,Bool.and_self,this];rfl
  refine fin (bif e then H else H.put b .dead) om ?_ om;cases e with
  |true=>exact Fm.refl _ _
  |false=>exact(Fm.refl _ _).put b _ λ_=>⟨_,_,_,_,rfl⟩
theorem Db(z:Nat)(H:Hp)(b o n m:Nat)(e:Bool)(q:Nat)(L:List AV)(h:H.get b=aB q L)(a:o+n*z<=L.length):nP z H (.sl b o n m e)=some ⟨n,(L.drop o).take (n*z)⟩:=by show(match eY (H.get b) o (Nat.mul n z)with|some l=>some (Src.mk n l)|none=>none)=_;rw[h,y7,sB (show o+Nat.mul n z<=L.length from a)];rfl
theorem UE(z:Nat)(H:Hp)(b o n m:Nat)(e:Bool):nP z H (.sl b o n m e)=(match eY (H.get b) o (n*z)with|some l=>some ⟨n,l⟩|none=>none):=id rfl
def Gl.head(h:Gl 1 H U n (V::l)):∃b o,aG 1 U (iN 0)=.val (.ptr b o)/\b<H.nx/\In U b/\cB (H.get b) o=.val V:=by
 have a:=h.len;rcases h.is with⟨rfl,rfl⟩|⟨b,o,e,q,L,rfl,c,g,d,i,f⟩
 ·grind
 ·refine⟨b,o,?_,f,⟨_,_,_,_,rfl⟩,?_⟩
  ·rw[sD _ _ _ _ _ _ _ _ (by simp at a;omega),sL,bf]
  ·have:L[o]? =some V:=by rw[<-bf o,<-iq,d];rfl
   rw[c,gk,this]
def Gl.tail(h:Gl 1 H U (n+1) (V::l)):∃w,kM 1 U (some (iN 1)) none none=.val w/\Ev.aD w=.val (iN n)/\(0<n->Gl 1 H w n l)/\(∀b,In w b->In U b):=by
 have y:=h.len;rcases h.is with⟨rfl,z⟩|⟨b,o,e,q,L,rfl,r,A,s,t,u⟩
 ·grind
 ·have m:kM 1 (.sl b o (n+1) (n+1) e) (some (iN 1)) none none=jJ b o 1 ⟨1,n+1,n+1⟩ e:=by
   show(match aq (n+1) (n+1) (some (iN 1)) none none with|some bd=>jJ b o 1 bd e|none=>R0.bad)=_;rfl
  rw[m];unfold jJ;simp only[beq_eq];by_cases k:n=0
  ·subst k;cases e with
   |true=>exact⟨_,rfl,rfl,om,λc a=>by obtain⟨f,g,i,j,d⟩:=a;cases d;exact⟨_,_,_,_,rfl⟩⟩
   |false=>exact⟨_,rfl,rfl,om,λc a=>by obtain⟨f,g,i,j,d⟩:=a;cases d⟩
  ·have p:decide (n+1=1)=false:=by simp;exact k
   rw[p];refine⟨.sl b (o+1) n n e,om,rfl,λ_=>⟨?_,.inr ⟨b,o+1,e,q,L,rfl,r,?_,?_,t,u⟩⟩,λc a=>by obtain⟨f,g,i,j,d⟩:=a;cases d;exact⟨_,_,_,_,rfl⟩⟩
   ·simp_all
   ·grind
   ·rw[<-su,s];rfl
theorem zty(l v:List AV)(h:Tr (decide (v.length=l.length))):aY l 0 v=v:=by unfold Tr at h;rw[gp]at h;unfold aY;simp[h]
def kP(z:List AV)(w nm n:Nat)(h:n*w<=1099511627776)(a:n<=1099511627776):fC z w nm (iN n) (iN n)=.new (.sl nm 0 n n true) (aB 0 (aU z n)):=by show(bif Nat.ble n n&&Nat.ble (Nat.mul n w) iA&&Nat.ble n iA then _ else _)=_;rw[mg (AF n),show Nat.mul n w=n*w from rfl,mg (show n*w<=iA from h),mg (show n<=iA from a)];rfl
theorem iT(x:AV):∀n,aU [x] n=List.replicate n x
 |0=>rfl
 |n+1=>by show[x]++aU [x] n=_;rw[iT x n];rfl
theorem qyw(c:List AV):bK c []=some c:=id rfl
theorem qvs(c:List AV)(a size:Nat)(v:AV)(r:List (Nat×Nat×AV)):bK c ((a,size,v)::r)=match vJ v with|some l=>(match Cn c a size l with|some c'=>bK c' r|none=>none)|none=>none:=id rfl
theorem zcs(k:IntKind)(n:Int):vJ (.int k n)=some [.int k n]:=id rfl
theorem q50(n:Bool):vJ (.bool n)=some [.bool n]:=id rfl
theorem zny(a b c d:Nat)(e:Bool):vJ (.sl a b c d e)=some [.sl a b c d e]:=id rfl
theorem q0q:vJ .aA=some [.aA]:=id rfl
theorem zct(l:List AV):vJ (.agg l)=some l:=id rfl
theorem zbq(c:List AV)(a size:Nat)(v:List AV):Cn c a size v=bif Nat.beq v.length size&&Nat.ble (a+size) c.length then some (c.take a++v++c.drop (a+size))else none:=id rfl
theorem z9o(l:List AV):aU l 1=l++[]:=id rfl
theorem z9n(l:List AV):aU l 2=l++(l++[]):=id rfl
theorem z9m(l:List AV):aU l 3=l++(l++(l++[])):=id rfl
attribute [go_sem] qyw qvs zcs q50 zny q0q zct zbq z9o z9n z9m ble_eq blt_eq beq_eq DN au qg oB
attribute [go_sem] zty UE bEs Nz z1k zt aYA aZt aV7 z8k aWw xbo OZ zbf zwe zn8 zni zck znh zcj zi6 zbd zke z1t zvo xbk zm5 z1s zyz Bool.and_true Bool.true_and Bool.and_self
def fh{c:cZ}:Fm No H (aH H c):=om
def sw{c d:cZ}:Fm No H (aH (aH H c) d):=om
def fP3{c d e:cZ}:Fm No H (aH (aH (aH H c) d) e):=om
def fP4{c d e f:cZ}:Fm No H (aH (aH (aH (aH H c) d) e) f):=fP3.push _
def zL{c d:cZ}:Fm No H ((aH H c).put H.nx d):=om
def dn(i A b:Nat)(H:Hp)(p:List Pd)(w:List Wt)(r:R0)(k:AV->Hp->List Pd->List Wt->R1):R1:=dq false false i A (b+i) H p w (λ_=>r) (some true) k
def da(i A b:Nat)(H:Hp)(p:List Pd)(w:List Wt)(r:R0)(k:AV->Hp->List Pd->List Wt->R1):R1:=dq false true i A (b+i) H p w (λ_=>r) (some true) k
def dl(i A b:Nat)(H:Hp)(p:List Pd)(w:List Wt)(f:Hp->R0)(k:AV->Hp->List Pd->List Wt->R1):R1:=dq true false i A (b+i) H p w f (some true) k
theorem aYI(i A b:Nat)(H:Hp)(p:List Pd)(w:List Wt)(r:R0)(k:AV->Hp->List Pd->List Wt->R1):dn i A b H p w r k=vD r false false i A (b+i) H p w (λ_=>r) k:=zt ..
theorem aYt(i A b:Nat)(H:Hp)(p:List Pd)(w:List Wt)(r:R0)(k:AV->Hp->List Pd->List Wt->R1):da i A b H p w r k=vD r false true i A (b+i) H p w (λ_=>r) k:=zt ..
theorem aY7(i A b:Nat)(H:Hp)(p:List Pd)(w:List Wt)(f:Hp->R0)(k:AV->Hp->List Pd->List Wt->R1):dl i A b H p w f k=vD (f (eB A p H)) true false i A (b+i) H p w f k:=zt ..
@[congr] theorem aOi {r : R0}(k : n = z):dn n O b H T R r h = dn z O b H T R r h := by rw [k]
@[congr] theorem aOs {r : R0}(k : n = z):da n O b H T R r h = da z O b H T R r h := by rw [k]
@[congr] theorem aQL {f : Hp -> R0}(k : n = z):dl n O b H T R f h = dl z O b H T R f h := by rw [k]
attribute [go_sem] aYI aYt aY7
def vF(i:Nat)(p:AV)(H:Hp)(k:pD):R1:=vq (aL i p) H λa H=>vq (aR H a) H k
theorem aQq(i:Nat)(p:AV)(H:Hp)(k:pD):vF i p H k=vq (aL i p) H λa H=>vq (aR H a) H k:=id rfl
@[congr] theorem aNK (h : b = n):vF b U H P = vF n U H P := by rw [h]
def vI(x:AV)(H:Hp)(k:pD):R1:=vq (eP (lT .add).f x (.int .i64 (.ofNat 1))) H k
theorem aNH(x:AV)(H:Hp)(k:pD):vI x H k=vq (eP (lT .add).f x (.int .i64 (.ofNat 1))) H k:=id rfl
@[congr] theorem aMN (h : U = V):vI U H P = vI V H P := by rw [h]
attribute [go_sem] aQq aNH
abbrev fM(b:(pD)->pD)(n:Nat):pD:=
 Nat.rec (motive:=λ_=>pD) (λ_ _=>.bad) (λ_ a=>b a) n
abbrev jX(b:(AV->pD)->AV->pD)(n:Nat):AV->pD:=
 Nat.rec (motive:=λ_=>AV->pD) (λ_ _ _=>.bad) (λ_ a=>b a) n
abbrev nC(b:(AV->AV->pD)->AV->AV->pD)(n:Nat):AV->AV->pD:=
 Nat.rec (motive:=λ_=>AV->AV->pD) (λ_ _ _ _=>.bad) (λ_ a=>b a) n
def wq(r:R0)(k:pD)(H:Hp):R1:=vq r H k
theorem bDQ(r:R0)(k:pD)(H:Hp):wq r k H=vq r H k:=id rfl
def wA(n:Nat)(x:AV)(k:pD)(H:Hp):R1:=vq (bW n H x) H k
theorem bBP(n:Nat)(x:AV)(k:pD)(H:Hp):wA n x k H=vq (bW n H x) H k:=id rfl
def w1(x:AV)(k:pD)(H:Hp):R1:=vq (aR H x) H k
theorem aYM(x:AV)(k:pD)(H:Hp):w1 x k H=vq (aR H x) H k:=id rfl
def wB(n:Nat)(x:AV)(k:pD)(H:Hp):R1:=vq (pU n H.nx x) H k
theorem bAw(n:Nat)(x:AV)(k:pD)(H:Hp):wB n x k H=vq (pU n H.nx x) H k:=id rfl
def wN(l:List AV)(k:pD)(H:Hp):R1:=vq (.new (.ptr H.nx 0) (aB 0 l)) H k
theorem aZW(l:List AV)(k:pD)(H:Hp):wN l k H=vq (.new (.ptr H.nx 0) (aB 0 l)) H k:=id rfl
def wQ(n:Nat)(l:Option (List AV))(k:pD)(H:Hp):R1:=vq (sQ n H.nx l) H k
theorem aZp(n:Nat)(l:Option (List AV))(k:pD)(H:Hp):wQ n l k H=vq (sQ n H.nx l) H k:=id rfl
def wh(r:Hp->R0)(k:pD)(H:Hp):R1:=vq (r H) H k
theorem bE5(r:Hp->R0)(k:pD)(H:Hp):wh r k H=vq (r H) H k:=id rfl
def wF(i:Nat)(p:AV)(k:pD)(H:Hp):R1:=vF i p H k
theorem aWS(i:Nat)(p:AV)(k:pD)(H:Hp):wF i p k H=vF i p H k:=id rfl
def wI(x:AV)(k:pD)(H:Hp):R1:=vI x H k
theorem bEF(x:AV)(k:pD)(H:Hp):wI x k H=vI x H k:=id rfl
def wT(n:Nat)(x y:AV)(k:pH)(H:Hp):R1:=ve (yI n H x y) λ_ H=>k H
theorem bEW(n:Nat)(x y:AV)(k:pH)(H:Hp):wT n x y k H=ve (yI n H x y) λ_ H=>k H:=id rfl
def wU(x y:AV)(k:pH)(H:Hp):R1:=ve (kL H x y) λ_ H=>k H
theorem aXz(x y:AV)(k:pH)(H:Hp):wU x y k H=ve (kL H x y) λ_ H=>k H:=id rfl
def wP(z w:Nat)(x y:AV)(k:pD)(H:Hp):R1:=ve (jD z w H x (nP z H y)) k
theorem bDb(z w:Nat)(x y:AV)(k:pD)(H:Hp):wP z w x y k H=ve (jD z w H x (nP z H y)) k:=id rfl
def wc(O:Ev.Call)(f:FuncId)(l:List AV)(k:pD)(H:Hp):R1:=ve (O (.f f) l H) k
theorem Qh(O:Ev.Call)(f:FuncId)(l:List AV)(k:pD)(H:Hp):wc O f l k H=ve (O (.f f) l H) k:=id rfl
def we(r:pH)(k:pD)(H:Hp):R1:=ve (r H) k
theorem bEy(r:pH)(k:pD)(H:Hp):we r k H=ve (r H) k:=id rfl
def wg(g:Option Bool)(r:R0)(k:pD)(H:Hp):R1:=vg g r H k
theorem bBj(g:Option Bool)(r:R0)(k:pD)(H:Hp):wg g r k H=vg g r H k:=id rfl
def wG(g:Option Bool)(r:Hp->R0)(k:pD)(H:Hp):R1:=vg g (r H) H k
theorem aYL(g:Option Bool)(r:Hp->R0)(k:pD)(H:Hp):wG g r k H=vg g (r H) H k:=id rfl
def wx(g:Option Bool)(r:pH)(k:pD)(H:Hp):R1:=mL g (r H) H k
theorem bC7(g:Option Bool)(r:pH)(k:pD)(H:Hp):wx g r k H=mL g (r H) H k:=id rfl
def wl(r:R0)(k:pD)(H:Hp):R1:=vl r λa=>k a H
theorem aYq(r:R0)(k:pD)(H:Hp):wl r k H=vl r λa=>k a H:=id rfl
def wL(r:Hp->R0)(k:pD)(H:Hp):R1:=vl (r H) λa=>k a H
theorem bDc(r:Hp->R0)(k:pD)(H:Hp):wL r k H=vl (r H) λa=>k a H:=id rfl
def wm(g:Option Bool)(r:R0)(k:pD)(H:Hp):R1:=iw g r λa=>k a H
theorem bEo(g:Option Bool)(r:R0)(k:pD)(H:Hp):wm g r k H=iw g r λa=>k a H:=id rfl
def wM(g:Option Bool)(r:Hp->R0)(k:pD)(H:Hp):R1:=iw g (r H) λa=>k a H
theorem bB3(g:Option Bool)(r:Hp->R0)(k:pD)(H:Hp):wM g r k H=iw g (r H) λa=>k a H:=id rfl
def wd(x:AV)(a b:pH)(H:Hp):R1:=cd x (a H) (b H)
theorem aV3(x:AV)(a b:pH)(H:Hp):wd x a b H=cd x (a H) (b H):=id rfl
def wz(n:Nat)(k:Nat->Hp->List Pd->List Wt->R1)(H:Hp):R1:=dz n H λb H=>k b H [] []
theorem bEk(n:Nat)(k:Nat->Hp->List Pd->List Wt->R1)(H:Hp):wz n k H=dz n H λb H=>k b H [] []:=id rfl
def wy(k:pH)(H:Hp)(p:List Pd)(w:List Wt):R1:=zG p H k
theorem bBq(k:pH)(H:Hp)(p:List Pd)(w:List Wt):wy k H p w=zG p H k:=id rfl
def wn(i A b:Nat)(r:R0)(k:AV->Hp->List Pd->List Wt->R1)(H:Hp)(p:List Pd)(w:List Wt):R1:=dn i A b H p w r k
theorem aX4(i A b:Nat)(r:R0)(k:AV->Hp->List Pd->List Wt->R1)(H:Hp)(p:List Pd)(w:List Wt):wn i A b r k H p w=dn i A b H p w r k:=id rfl
def wo(i A b:Nat)(r:Hp->R0)(k:AV->Hp->List Pd->List Wt->R1)(H:Hp)(p:List Pd)(w:List Wt):R1:=dl i A b H p w r k
theorem aW4(i A b:Nat)(r:Hp->R0)(k:AV->Hp->List Pd->List Wt->R1)(H:Hp)(p:List Pd)(w:List Wt):wo i A b r k H p w=dl i A b H p w r k:=id rfl
def wa(i A b:Nat)(r:R0)(k:AV->Hp->List Pd->List Wt->R1)(H:Hp)(p:List Pd)(w:List Wt):R1:=da i A b H p w r k
theorem bEp(i A b:Nat)(r:R0)(k:AV->Hp->List Pd->List Wt->R1)(H:Hp)(p:List Pd)(w:List Wt):wa i A b r k H p w=da i A b H p w r k:=id rfl
def wr(i A b:Nat)(r:R0)(g:Option Bool)(k:AV->Hp->List Pd->List Wt->R1)(H:Hp)(p:List Pd)(w:List Wt):R1:=dq false false i A (b+i) H p w (λ_=>r) g k
theorem bDB(i A b:Nat)(r:R0)(g:Option Bool)(k:AV->Hp->List Pd->List Wt->R1)(H:Hp)(p:List Pd)(w:List Wt):wr i A b r g k H p w=dq false false i A (b+i) H p w (λ_=>r) g k:=id rfl
def ws(i A b:Nat)(r:Hp->R0)(g:Option Bool)(k:AV->Hp->List Pd->List Wt->R1)(H:Hp)(p:List Pd)(w:List Wt):R1:=dq true false i A (b+i) H p w r g k
theorem bCN(i A b:Nat)(r:Hp->R0)(g:Option Bool)(k:AV->Hp->List Pd->List Wt->R1)(H:Hp)(p:List Pd)(w:List Wt):ws i A b r g k H p w=dq true false i A (b+i) H p w r g k:=id rfl
def wt(A:Nat)(r:pH)(g:Option Bool)(k:AV->Hp->List Pd->List Wt->R1)(H:Hp)(p:List Pd)(w:List Wt):R1:=de A H p w (r (eB A p H)) g k
theorem aYC(A:Nat)(r:pH)(g:Option Bool)(k:AV->Hp->List Pd->List Wt->R1)(H:Hp)(p:List Pd)(w:List Wt):wt A r g k H p w=de A H p w (r (eB A p H)) g k:=id rfl
def wu(A:Nat)(r:pH)(k:AV->Hp->List Pd->List Wt->R1)(H:Hp)(p:List Pd)(w:List Wt):R1:=de A H p w (r (eB A p H)) (some true) k
theorem bBM(A:Nat)(r:pH)(k:AV->Hp->List Pd->List Wt->R1)(H:Hp)(p:List Pd)(w:List Wt):wu A r k H p w=de A H p w (r (eB A p H)) (some true) k:=id rfl
def wv(x:AV):Option Bool:=bI true x
theorem aWB(x:AV):wv x=bI true x:=id rfl
def ib(o:BinOp)(x y:AV):R0:=eP (lT o).f x y
theorem bDW(o:BinOp)(x y:AV):ib o x y=eP (lT o).f x y:=id rfl
attribute [go_sem ↓] bDQ bBP aYM bAw aZW aZp bE5 aWS bEF bEW aXz bDb Qh bEy bBj aYL bC7 aYq bDc bEo bB3 aV3 bEk bBq aX4 aW4 bEp bDB bCN aYC bBM aWB bDW
def fm(h:Fm S H0 H:=by repeat(first|exact Fm.refl _ _|assumption|refine Fm.push ?_ _|refine Fm.up2 ?_ g1|refine Fm.aN ?_ _ _ g1|refine Fm.put ?_ _ _ (λ_=>rfl))):Fm S H0 H:=h
variable{D:Prop}
theorem g5(h:D:=by simp(disch:=go_size)only[go_sem,seval]):D:=h
theorem g6(h:D:=by simp(disch:=first|go_size|omega)only[go_sem,seval]):D:=h
theorem gx(h:D:=by first|omega|(simp only[np,nq];omega)):D:=h
variable{E:Prop}
def aS(k:E)(h:D=E:=by simp(disch:=first|go_size|omega|exact ti rfl|(simp only[np,nq];first|done|omega))only[rB,go_sem,rI,rK,rL,rN,rS,r6];exact rfl):D:=om
variable{F:Prop}
def dI(d:D)(k:F)(h:D->E=F:=by intro d;simp(disch:=first|go_size|omega|exact ti rfl|(simp only[np,nq];first|done|omega))only[rB,go_sem,rI,rK,rL,rN,rS,r6,d];exact rfl):E:=om
variable{I:Prop}
def dS(d:D)(e:E)(k:I)(h:D->E->F=I:=by intro d e;simp(disch:=first|go_size|omega|exact ti rfl|(simp only[np,nq];first|done|omega))only[rB,go_sem,rI,rK,rL,rN,rS,r6,d,e];exact rfl):F:=om
variable{J:Prop}
def gW(e:D)(f:E)(g:F)(k:J)(h:D->E->F->I=J:=by intro e f g;simp(disch:=first|go_size|omega|exact ti rfl|(simp only[np,nq];first|done|omega))only[rB,go_sem,rI,rK,rL,rN,rS,r6,e,f,g];exact rfl):I:=om
variable{M:Prop}
def jF(f:D)(g:E)(i:F)(j:I)(k:M)(h:D->E->F->I->J=M:=by intro f g i j;simp(disch:=first|go_size|omega|exact ti rfl|(simp only[np,nq];first|done|omega))only[rB,go_sem,rI,rK,rL,rN,rS,r6,f,g,i,j];exact rfl):J:=om
variable{N:Prop}
def lW(g:D)(i:E)(j:F)(l:I)(m:J)(k:N)(h:D->E->F->I->J->M=N:=by intro g i j l m;simp(disch:=first|go_size|omega|exact ti rfl|(simp only[np,nq];first|done|omega))only[rB,go_sem,rI,rK,rL,rN,rS,r6,g,i,j,l,m];exact rfl):M:=om
def cF{b:Prop}(i:D)(j:E)(l:F)(m:I)(n:J)(o:M)(k:b)(h:D->E->F->I->J->M->N=b:=by intro i j l m n o;simp(disch:=first|go_size|omega|exact ti rfl|(simp only[np,nq];first|done|omega))only[rB,go_sem,rI,rK,rL,rN,rS,r6,i,j,l,m,n,o];exact rfl):N:=om
def dG{a b:Prop}(j:D)(l:E)(m:F)(n:I)(o:J)(p:M)(q:N)(k:b)(h:D->E->F->I->J->M->N->a=b:=by intro j l m n o p q;simp(disch:=first|go_size|omega|exact ti rfl|(simp only[np,nq];first|done|omega))only[rB,go_sem,rI,rK,rL,rN,rS,r6,j,l,m,n,o,p,q];exact rfl):a:=om
end Go.Di
end
