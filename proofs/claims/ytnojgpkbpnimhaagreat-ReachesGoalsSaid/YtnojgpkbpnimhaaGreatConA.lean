/-
 For ReachesGoals: functions in direct style, their contracts, and the plain mathematics, part 1 of 11. No conditions beyond those that each theorem states.
-/
import Derived.Handy
import Derived.KernelRfl
import Derived.Test.YtnojgpkbpnimhaaGreatEv3
import Derived.Attr
set_option linter.unusedSimpArgs false
set_option linter.unusedVariables false
open Nat renaming reduceAdd->rB,reduceMul->rI,reduceSub->rK,reduceLeDiff->rL,reduceEqDiff->rN,reduceShiftRight->rS,reduceAnd->r6
noncomputable section
namespace Go
theorem om{p:Prop}(h:p:=by omega):p:=h
theorem gz{p:Prop}(h:p:=by go_size):p:=h
theorem g1{p:Prop}(h:p:=by first|go_size|omega):p:=h
theorem g2{p:Prop}(h:p:=by simp;omega):p:=h
theorem g3{p:Prop}(h:p:=by simp):p:=h
theorem g4{p:Prop}(h:p:=by decide):p:=h
theorem kr{p:Prop}(h:p:=by kernel_rfl):p:=h
end Go
end
noncomputable section
namespace Go.Di
open Go.Ev
abbrev pD:=AV->Hp->R1
abbrev pH:=Hp->R1
abbrev pL:=AV->Hp->Prop
abbrev uN(n:Nat):AV:=.int .u8 (.ofNat n)
abbrev zS:AV:=.str 0 0
abbrev iN(n:Nat):AV:=.int .i64 (.ofNat n)
variable {H H' H0:Hp} {S:Nat->Prop} {b n z:Nat} {l:List AV}
theorem aP{k n:Nat}(h:n+1<=k):∃ j,k=j+1:=⟨k-1,om⟩
theorem blt_eq(a b:Nat):Nat.blt a b=decide (a<b):=by
 cases h:Nat.blt a b with
 |true=>symm;rw[yl];exact yg h
 |false=>symm;rw[zf];intro c;rw[show Nat.blt a b=Nat.ble (a+1) b from rfl,zh c]at h;cases h
theorem ble_eq(a b:Nat):Nat.ble a b=decide (a<=b):=by
 cases h:Nat.ble a b with
 |true=>symm;rw[yl];exact yg h
 |false=>symm;rw[zf];intro c;rw[zh c]at h;cases h
theorem beq_eq(a b:Nat):Nat.beq a b=decide (a=b):=by
 cases h:Nat.beq a b with
 |true=>simp[rf h]
 |false=>symm;rw[zf];rintro rfl;rw[lE7]at h;cases h
/- trees are equal where all their cells are -/
theorem aNN{α:Type}{t u:Q α}(h:∀ k,k<8->qqv k t=qqv k u):t=u:=by cases t;cases u;have a:=h 0 g4;have b:=h 1 g4;have c:=h 2 g4;have d:=h 3 g4;have e:=h 4 g4;have f:=h 5 g4;have g:=h 6 g4;have i:=h 7 g4;simp only[qqv]at a b c d e f g i;simp_all
theorem zya{α:Type}:∀(d:Nat) {t u:TT α d},(∀i,i<8 ^ d->(dR d i).f t=(dR d i).f u)->t=u
 |0,t,u,h=>h 0 g4
 |d+1,t,u,h=>by refine aNN fun k a=>zya d fun i b=>?_;have:=h (i*8+k) (by rw[Nat.pow_succ];omega);rw[qfw,qfw]at this;rwa [show(i*8+k) / 8=i by omega,show(i*8+k)%8=k by omega]at this
/- blocks as lists -/
def cellsOf(l:List AV):TT AV (iF l.length):=pX l 0 (same .undef _)
theorem qcy(l:List AV)(i:Nat)(a:i<8 ^ iF l.length):(dR _ i).f (cellsOf l)=l.getD i .undef:=by
 unfold cellsOf;rw[qif _ _ _ _ (by simpa using qb5 l.length) a];by_cases h:i<l.length
 ·simp_all
 ·rw[pg om,qhp];simp_all
def aZ(l:List AV)(o:Nat)(v:List AV):List AV:=l.take o++v++l.drop (o+v.length)
theorem qd7(l:List AV)(o:Nat)(v:List AV)(h:o+v.length<=l.length):(aZ l o v).length=l.length:=by simp[aZ];omega
theorem zr5(l:List AV)(o:Nat)(v:List AV)(h:o+v.length<=l.length)(i:Nat):(aZ l o v).getD i .undef=if o<=i/\i<o+v.length then v.getD (i-o) .undef else l.getD i .undef:=by
 unfold aZ;simp only[gy];by_cases a:i<o
 ·rw[pg om,qw,uj g2,List.getElem?_take_of_lt a]
 ·by_cases b:i<o+v.length
  ·rw[qj om,qw,uh g2,uj g2];simp[yu (show o<=l.length by omega)]
  ·rw[pg om,uh g2,zg];simp only[lL,qx,yu (show o<=l.length by omega)];congr 2;omega
theorem qjd(z:Nat)(l v:List AV)(o:Nat):qig (aB z l) o v=if o+v.length<=l.length then some (aB z (aZ l o v))else none:=by
 show(bif Nat.ble (o+v.length) l.length then some (bW.cells _ _ (pX v o (cellsOf l)) false z)else none)=_;by_cases h:o+v.length<=l.length
 ·rw[qj h,zh h];have d:=qd7 l o v h;have b:∀(n:Nat) (e:n=l.length) (c:TT AV (iF n)),(∀i,i<8 ^ iF n->(dR _ i).f c=(aZ l o v).getD i .undef)->bW.cells (iF l.length) l.length (pX v o (cellsOf l)) false z=bW.cells (iF n) n c false z:=by
   intro n e c f;subst e;congr 1;refine zya _ fun i a=>?_;have:=qb5 l.length;rw[f i a,zr5 _ _ _ h,qif _ _ _ _ om a,qcy _ _ a]
  exact congrArg some (b _ d _ fun i a=>qcy _ _ a)
 ·rw[pg h];have:Nat.ble (o+v.length) l.length=false:=by
   cases g:Nat.ble (o+v.length) l.length with
   |false=>rfl
   |true=>exact absurd (yg g) h
  rw[this];rfl
theorem qca(z:Nat)(l:List AV)(o:Nat):bX (aB z l) o=match l[o]? with|some v=>.val v|none=>.bad:=by
 show(bif Nat.blt o l.length then R0.val ((dR _ o).f (cellsOf l))else .bad)=_;by_cases h:o<l.length
 ·have a:Nat.blt o l.length=true:=by rw[blt_eq];simpa using h
  rw[a,qcy _ _ (ku h (qb5 _))];simp[h]
 ·have a:Nat.blt o l.length=false:=by rw[blt_eq];simpa using h
  simp_all
theorem q71{d:Nat}(c:TT AV d)(l:List AV)(a:∀ i,i<8 ^ d->(dR d i).f c=l.getD i .undef):∀(k o:Nat),o+k<=l.length->l.length<=8 ^ d->w9 c k o=(l.drop o).take k
 |0,o,_,_=>by simp[zse]
 |k+1,o,h,h2=>by rw[qu5,a _ om,q71 c l a k (o+1) om h2];rw[uq (show o<l.length by omega),iq];simp[show o<l.length by omega]
theorem yU(z:Nat)(l:List AV)(o k:Nat):fD (aB z l) o k=if o+k<=l.length then some ((l.drop o).take k)else none:=by
 show(bif Nat.ble (o+k) l.length then some (w9 (cellsOf l) k o)else none)=_;by_cases h:o+k<=l.length
 ·rw[qj h,zh h,q71 _ l (fun i a=>qcy l i a) k o h (qb5 _)];rfl
 ·rw[pg h];have:Nat.ble (o+k) l.length=false:=by
   cases b:Nat.ble (o+k) l.length with
   |false=>rfl
   |true=>exact absurd (yg b) h
  rw[this];rfl
theorem zlw(z c:Nat)(l:List AV)(e:Nat):qh6 (aB z l) e c=(decide (l.length=e)&&decide (z=c)):=by
 show(Nat.beq l.length e&&Nat.beq z c)=_;have d:∀ a b,Nat.beq a b=decide (a=b):=fun a b=>by
  cases h:Nat.beq a b with
  |true=>simp[rf h]
  |false=>symm;rw[zf];rintro rfl;rw[lE7]at h;cases h
 rw[d,d]
/- memory -/
theorem get_put(H:Hp)(b c:Nat)(k:bW):(H.put b k).get c=if c=b then k else H.get c:=Mem.get_put H.t b c k
theorem dN(H:Hp)(b:Nat)(k:bW):(H.put b k).get b=k:=by rw[get_put,qj rfl]
theorem dO(H:Hp)(b c:Nat)(k:bW)(h:c≠b):(H.put b k).get c=H.get c:=by rw[get_put,pg h]
theorem nq(H:Hp)(b:Nat)(k:bW):(H.put b k).nx=H.nx:=id rfl
theorem qhq(H:Hp)(c:Nat)(k:bW):(aI H k).get c=if c=H.nx then k else H.get c:=Mem.get_put H.t H.nx c k
theorem jG(H:Hp)(k:bW):(aI H k).get H.nx=k:=by rw[qhq,qj rfl]
theorem q4a(H:Hp)(c:Nat)(k:bW)(h:H.nx<=c/\c<=H.nx):(aI H k).get c=k:=by rw[qhq,qj om]
theorem qbs(H:Hp)(c:Nat)(k:bW)(h:c<H.nx):(aI H k).get c=H.get c:=by rw[qhq,pg om]
theorem np(H:Hp)(k:bW):(aI H k).nx=H.nx+1:=id rfl
attribute [simp] np nq
structure Fm(S:Nat->Prop)(H H':Hp):Prop where
 nx:H.nx<=H'.nx
 get:∀ b,b<H.nx->¬ S b->H'.get b=H.get b
def No:Nat->Prop:=fun _=>False
theorem Fm.refl(S:Nat->Prop)(H:Hp):Fm S H H:=⟨lu _,fun _ _ _=>rfl⟩
theorem Fm.trans{H H1 d:Hp}(a:Fm S H H1)(b:Fm S H1 d):Fm S H d:=⟨rq a.nx b.nx,fun c e f=>(b.get c (ku e a.nx) f).trans (a.get c e f)⟩
theorem Fm.mono{S T:Nat->Prop}(a:Fm S H H')(h:∀ b,b<H.nx->S b->T b):Fm T H H':=⟨a.nx,fun b c d=>a.get b c fun e=>d (h b c e)⟩
theorem Fm.push(a:Fm S H H')(k:bW):Fm S H (aI H' k):=⟨Nat.le_succ_of_le a.nx,fun b c d=>by rw[qbs _ _ _ (ku c a.nx)];exact a.get b c d⟩
theorem Fm.put(a:Fm S H H')(b:Nat)(k:bW)(h:b<H.nx->S b):Fm S H (H'.put b k):=⟨a.nx,fun c d f=>by rw[dO _ _ _ _ (fun e=>f (by subst e;exact h d))];exact a.get c d f⟩
theorem Fm.aG(a:Fm S H H')(b:Nat)(k:bW)(h:H.nx<=b):Fm S H (H'.put b k):=a.put b k fun c=>om
theorem Fm.keep(a:Fm No H H')(c:b<H.nx):H'.get b=H.get b:=a.get b c id
theorem Fm.then{S T:Nat->Prop}{H H1 e:Hp}(a:Fm S H H1)(b:Fm T H1 e)(h:∀ c,c<H.nx->T c->S c):Fm S H e:=
 ⟨rq a.nx b.nx,fun c d f=>(b.get c (ku d a.nx) fun g=>f (h c d g)).trans (a.get c d f)⟩
def Ok(r:R1)(Q:pL):Prop:=∃ v H',r=.ok v H'/\Q v H'
theorem Ok.ret{v:AV}{Q:pL}(h:Q v H):Ok (.ok v H) Q:=⟨v,H,rfl,h⟩
theorem Ok.mono{r:R1}{Q R:pL}(h:Ok r Q)(a:∀ v H,Q v H->R v H):Ok r R:=by obtain⟨v,H,e,q⟩:=h;exact⟨v,H,e,a _ _ q⟩
theorem Ok.ve{r:R1}{k:pD}{Q R:pL}(h:Ok r R)(a:∀ v H,R v H->Ok (k v H) Q):Ok (ve r k) Q:=by obtain⟨v,H,e,q⟩:=h;subst e;exact a v H q
theorem Ok.de{A:Nat}{p:List Pd}{w:List Wt}{r:R1}{k:AV->Hp->List Pd->List Wt->R1}{Q R:pL}(h:Ok r R)(a:∀ v H',R v H'->qjc (sG A p) H' (rP A w)=true/\Ok (k v H' (sG A p) (rP A w)) Q):Ok (de A H p w r (some true) k) Q:=by obtain⟨v,H',e,q⟩:=h;subst e;obtain⟨b,c⟩:=a v H' q;rw[ztz];unfold de0;simp only[b,uB];exact c
/- steps -/
theorem z5w(v:AV)(H:Hp)(k:pD):vq (.val v) H k=k v H:=id rfl
theorem z5x(v:AV)(b:bW)(H:Hp)(k:pD):vq (.new v b) H k=k v (aI H b):=id rfl
theorem aNc(v:AV)(H:Hp)(k:pD):ve (.ok v H) k=k v H:=id rfl
theorem aV7(r:R0)(H:Hp)(k:pD):vg (some true) r H k=vq r H k:=by rw[zro];rfl
theorem aWu(r:R0)(H:Hp)(k:pD):vg (some false) r H k=k .undef H:=by rw[zro];rfl
theorem aPb(r:R1)(H:Hp)(k:pD):veg (some true) r H k=ve r k:=by rw[zh8];rfl
theorem aMb(r:R1)(H:Hp)(k:pD):veg (some false) r H k=k .undef H:=by rw[zh8];rfl
theorem z5z(v:AV)(k:AV->R1):vl (.val v) k=k v:=id rfl
theorem aN3(r:R0)(k:AV->R1):vlg (some true) r k=vl r k:=by rw[q61];rfl
theorem aLL(r:R0)(k:AV->R1):vlg (some false) r k=k .undef:=by rw[q61];rfl
theorem z15(a b:Bool):bV a (.bool b)=some (b==a):=id rfl
theorem z14(a:Bool):bV a .undef=some false:=id rfl
theorem aVw(x y:R1):cd (.bool true) x y=x:=id rfl
theorem aZl(x y:R1):cd (.bool false) x y=y:=id rfl
theorem aNr(up:Nat)(H:Hp)(k:Nat->pH):dz up H k=k H.nx ⟨H.t,H.nx+up⟩:=id rfl
theorem z3a(c:Bool)(a b:AV):dV (.bool c) a b=.val (if c=true then a else b):=by cases c<;>rfl
@[congr] theorem aOx {r a : R0}{H : Hp}{k : AV -> Hp -> R1}(h : r = a):vq r H k = vq a H k := by rw [h]
@[congr] theorem aMx {r a : R1}{k : AV -> Hp -> R1}(h : r = a):ve r k = ve a k := by rw [h]
@[congr] theorem aPq {w w' : Option Bool}{r : R0}{H : Hp}{k : AV -> Hp -> R1}(h : w = w'):vg w r H k = vg w' r H k := by rw [h]
@[congr] theorem z6a {w w' : Option Bool}{r : R1}{H : Hp}{k : AV -> Hp -> R1}(h : w = w'):veg w r H k = veg w' r H k := by rw [h]
@[congr] theorem aN2 {r a : R0}{k : AV -> R1}(h : r = a):vl r k = vl a k := by rw [h]
@[congr] theorem z5y {w w' : Option Bool}{r : R0}{k : AV -> R1}(h : w = w'):vlg w r k = vlg w' r k := by rw [h]
@[congr] theorem aPc {x c : AV}{a b : R1}(h : x = c):cd x a b = cd c a b := by rw [h]
@[congr] theorem aNA {u : Nat}{H : Hp}{k : Nat -> Hp -> R1}:dz u H k = dz u H k := rfl
theorem qht(k:IntKind):eqK k k=true:=by cases k<;>rfl
theorem qel(a b:Int):qZ a b=decide (a<b):=by cases a<;>cases b<;>simp only[qZ,blt_eq]<;>rename_i m n<;>apply lAZ.2<;>simp only[yc,ut,lE8]<;>first|omega|(simp;omega)
theorem qfd(a b:Int):uS a b=decide (a=b):=by cases a<;>cases b<;>simp only[uS,beq_eq]<;>rename_i m n<;>apply lAZ.2<;>simp only[yc,ut,lE8]<;>first|omega|(simp;omega)
theorem qg2(n:Nat)(h:n<9223372036854775808):yG .i64 (.ofNat n)=.ofNat n:=by show(bif Nat.blt n 9223372036854775808 then _ else _)=_;rw[blt_eq,qc h];rfl
theorem z90(a b:Int):iC (oI .add).f (.int .i64 a) (.int .i64 b)=.val (.int .i64 (yG .i64 (a+b))):=id rfl
theorem z6h(a b:Int):iC (oI .sub).f (.int .i64 a) (.int .i64 b)=.val (.int .i64 (yG .i64 (a-b))):=id rfl
theorem z8b(a b:Int):iC (oI .mul).f (.int .i64 a) (.int .i64 b)=.val (.int .i64 (yG .i64 (a*b))):=id rfl
theorem z9z(a b:Nat)(h:a+b<9223372036854775808):iC (oI .add).f (iN a) (iN b)=.val (iN ((a+b))):=by rw[z90];exact congrArg (fun x=>R0.val (.int .i64 x)) (qg2 (a+b) h)
theorem zir(a b:Nat)(h:b<=a)(c:a<9223372036854775808):iC (oI .sub).f (iN a) (iN b)=.val (iN ((a-b))):=by rw[z6h,show(Int.ofNat a-Int.ofNat b)=Int.ofNat (a-b)by simp only[ut];omega,qg2 _ om]
theorem z8a(a b:Nat)(h:a*b<9223372036854775808):iC (oI .mul).f (iN a) (iN b)=.val (iN ((a*b))):=by rw[z8b];exact congrArg (fun x=>R0.val (.int .i64 x)) (qg2 (a*b) h)
theorem z7k(a b:Nat)(h:0<b)(c:a<9223372036854775808):iC (oI .quo).f (iN a) (iN b)=.val (iN ((a / b))):=by
 have d:uS (.ofNat b) 0=false:=by rw[qfd];simp;omega
 show(bif uS (.ofNat b) 0 then R0.bad else .val (.int .i64 (yG .i64 ((Int.ofNat a).tdiv (Int.ofNat b)))))=_;rw[d];exact congrArg (fun x=>R0.val (.int .i64 x)) (qg2 (a / b) (lE1 (Nat.div_le_self _ _) c))
theorem z7g(a b:Nat)(h:0<b):iC (oI .rem).f (iN a) (iN b)=.val (iN ((a%b))):=by
 have c:uS (.ofNat b) 0=false:=by rw[qfd];simp;omega
 show(bif uS (.ofNat b) 0 then R0.bad else .val (.int .i64 ((Int.ofNat a).tmod (Int.ofNat b))))=_;rw[c];rfl
theorem z7f(a b:Nat)(h:0<b):iC (oI .rem).f (uN a) (uN b)=.val (uN ((a%b))):=by
 have c:uS (.ofNat b) 0=false:=by rw[qfd];simp;omega
 show(bif uS (.ofNat b) 0 then R0.bad else .val (.int .u8 ((Int.ofNat a).tmod (Int.ofNat b))))=_;rw[c];rfl
theorem z8g(k:IntKind)(a b:Int):iC (oI .lss).f (.int k a) (.int k b)=.val (.bool (decide (a<b))):=by show(bif eqK k k then R0.val (.bool (qZ a b))else .bad)=_;rw[qht,qel];rfl
theorem z8q(k:IntKind)(a b:Int):iC (oI .leq).f (.int k a) (.int k b)=.val (.bool (decide (a<=b))):=by show(bif eqK k k then R0.val (.bool (!qZ b a))else .bad)=_;rw[qht,qel,<-decide_not];simp only[uB];congr 2;simp only[Int.not_lt]
theorem z8y(k:IntKind)(a b:Int):iC (oI .gtr).f (.int k a) (.int k b)=.val (.bool (decide (b<a))):=by show(bif eqK k k then R0.val (.bool (qZ b a))else .bad)=_;rw[qht,qel];rfl
theorem z81(k:IntKind)(a b:Int):iC (oI .geq).f (.int k a) (.int k b)=.val (.bool (decide (b<=a))):=by show(bif eqK k k then R0.val (.bool (!qZ a b))else .bad)=_;rw[qht,qel,<-decide_not];simp only[uB];congr 2;simp only[Int.not_lt]
theorem z9g(k:IntKind)(a b:Int):iC (oI .eql).f (.int k a) (.int k b)=.val (.bool (decide (a=b))):=by show(bif eqK k k then R0.val (.bool (uS a b))else .bad)=_;rw[qht,qfd];rfl
theorem z7y(k:IntKind)(a b:Int):iC (oI .neq).f (.int k a) (.int k b)=.val (.bool (!decide (a=b))):=by show(bif eqK k k then R0.val (.bool (!uS a b))else .bad)=_;rw[qht,qfd];rfl
theorem aNL(b:Bool):(lH .not).f (.bool b)=.val (.bool !b):=id rfl
/- numbers -/
theorem zsv(a b:Nat):(Int.ofNat a<Int.ofNat b)=(a<b):=g3
theorem zsw(a b:Nat):(Int.ofNat a<=Int.ofNat b)=(a<=b):=g3
theorem q8f(a b:Nat):(Int.ofNat a=Int.ofNat b)=(a=b):=by simp only[ut,eq_iff_iff];omega
theorem zao(a b:Nat):(Int.negSucc a<Int.ofNat b)=True:=by simp only[lE8,ut,eq_iff_iff,iff_true];omega
theorem zas(a b:Nat):(Int.ofNat a<Int.negSucc b)=False:=by simp only[lE8,ut,eq_iff_iff,iff_false];omega
theorem zaq(a b:Nat):(Int.negSucc a<=Int.ofNat b)=True:=by simp only[lE8,ut,eq_iff_iff,iff_true];omega
theorem zat(a b:Nat):(Int.ofNat a<=Int.negSucc b)=False:=by simp only[lE8,ut,eq_iff_iff,iff_false];omega
theorem zar(a b:Nat):(Int.negSucc a=Int.ofNat b)=False:=g3
theorem zau(a b:Nat):(Int.ofNat a=Int.negSucc b)=False:=g3
/- memory -/
theorem z3j(H:Hp)(b o:Nat):aR H (.ptr b o)=bX (H.get b) o:=id rfl
theorem z3i(k:Nat)(H:Hp)(b o:Nat):cO k H (.ptr b o)=aJw (fD (H.get b) o k):=id rfl
theorem zmy(l:List AV):aJw (some l)=.val (.agg l):=id rfl
theorem zmz(l:List AV):bP (some l)=.val (.agg l):=id rfl
theorem z7j(v:AV):rV (.val v)=some v:=id rfl
theorem zll(v:AV)(H:Hp):dM (some v) H=.ok v H:=id rfl
theorem qb3(H:Hp)(b o:Nat)(v:List AV)(r:AV)(z:Nat)(l:List AV)(a:H.get b=aB z l)(h:o+v.length<=l.length):storeAt H b o v r=.ok r (H.put b (aB z (aZ l o v))):=by unfold storeAt;rw[a,qjd,qj h]
theorem q90(H:Hp)(b o:Nat)(v:List AV)(r:AV):storeAt H b o v r=(match qig (H.get b) o v with|some blk=>.ok r (H.put b blk)|none=>.bad):=id rfl
theorem q93(H:Hp)(b o:Nat)(k:IntKind)(n:Int):j5 H (.ptr b o) (.int k n)=storeAt H b o [.int k n] .undef:=id rfl
theorem q27(H:Hp)(b o:Nat)(n:Bool):j5 H (.ptr b o) (.bool n)=storeAt H b o [.bool n] .undef:=id rfl
theorem zit(H:Hp)(b o:Nat)(a d l c:Nat)(e:Bool):j5 H (.ptr b o) (.sl a d l c e)=storeAt H b o [.sl a d l c e] .undef:=id rfl
theorem qxf(H:Hp)(b o:Nat):j5 H (.ptr b o) .aA=storeAt H b o [.aA] .undef:=id rfl
theorem q68(k:Nat)(H:Hp)(b o:Nat)(l:List AV):xA k H (.ptr b o) (.agg l)=bif Nat.beq l.length k then storeAt H b o l .undef else .bad:=id rfl
theorem z9t(k nm:Nat)(l:List AV):qI k nm (.agg l)=bif Nat.beq l.length k then .new (.ptr nm 0) (aB 0 l)else .bad:=id rfl
theorem zt8(nm:Nat)(k:IntKind)(n:Int):nV nm (.int k n)=.new (.ptr nm 0) (aB 0 [.int k n]):=id rfl
theorem z4q(nm:Nat)(a b l c:Nat)(e:Bool):nV nm (.sl a b l c e)=.new (.ptr nm 0) (aB 0 [.sl a b l c e]):=id rfl
theorem zbl(nm:Nat):nV nm .aA=.new (.ptr nm 0) (aB 0 [.aA]):=id rfl
theorem ztl(a b o:Nat):aN a (.ptr b o)=.val (.ptr b (o+a)):=id rfl
theorem z7w(b o:Nat):aY (.ptr b o)=.val (.ptr b o):=id rfl
theorem vL(z b o n c:Nat)(e:Bool)(k:IntKind)(i:Nat)(h:i<n):aH z (.sl b o n c e) (.int k (.ofNat i))=.val (.ptr b (o+i*z)):=by show(bif Nat.blt i n then _ else _)=_;rw[blt_eq,qc h];rfl
theorem z8w(n z b o:Nat)(k:IntKind)(i:Nat)(h:i<n):gQ n z (.ptr b o) (.int k (.ofNat i))=.val (.ptr b (o+i*z)):=by show(bif Nat.blt i n then _ else _)=_;rw[blt_eq,qc h];rfl
theorem ztb(b o n c:Nat)(e:Bool):aD (.sl b o n c e)=.val (iN n):=id rfl
theorem zky:aD .aA=.val (iN 0):=id rfl
theorem z3l:aD .sle=.val (iN 0):=id rfl
theorem z4o(b o n c:Nat):dU (.sl b o n c true)=.val (iN c):=id rfl
theorem zt5:dU .aA=.val (iN 0):=id rfl
theorem z9e(i:Nat)(l:List AV):aU i (.bA l)=(match l[i]? with|some v=>.val v|none=>.bad):=id rfl
theorem zan(n nm:Nat)(l:List AV):rJ n nm (some l)=.new (.sl nm 0 n n true) (aB 0 l):=id rfl
attribute [go_sem] z5w z5x aNc aV7 aWu aPb aMb z5z aN3 aLL z15 z14 aVw aZl aNr z3a
 z9z zir z8a z7k z7g z7f z8g z8q z8y z81 z9g z7y aNL
 zsv zsw q8f zao zas zaq zat zar zau
 z3j z3i zmy zmz z7j zll q93 q27 zit qxf q68 z9t zt8 z4q zbl ztl z7w vL z8w
 ztb zky z3l z4o zt5 z9e zan qca yU qjd q90
 dN q4a qbs dO nq np
 beq_self_eq_true Bool.true_beq Bool.false_beq beq_true beq_false Bool.not_true Bool.not_false yh Bool.not_eq_false' decide_true decide_false yc zf dm
 mg lEB ite_self qg zt qm lAV uB af reduceCtorEq not_false_eq_true not_true_eq_false
 iq lA0 lA4 List.drop_succ_cons List.getElem?_cons_zero lAY pq uo pz xy
def vD(r:R0)(lk al:Bool)(i A nm:Nat)(H:Hp)(p:List Pd)(w:List Wt)(f:Hp->R0)(k:AV->Hp->List Pd->List Wt->R1):R1:=
 match r with
  | .bad=>.bad
  | .val v=>k v H p (bif lk then⟨i,A,f,v⟩::w else w)
  | .new v b=>bif al&&b.wr then k v H (⟨i,nm,b⟩::p) w else .bad
theorem aFM(lk a:Bool)(i A nm:Nat)(H:Hp)(p:List Pd)(w:List Wt)(f:Hp->R0)(k:AV->Hp->List Pd->List Wt->R1):dq lk a i A nm H p w f (some true) k=vD (f (dZ A p H)) lk a i A nm H p w f k:=by rw[zty];rfl
theorem aXA(lk a:Bool)(i A nm:Nat)(H:Hp)(p:List Pd)(w:List Wt)(f:Hp->R0)(k:AV->Hp->List Pd->List Wt->R1):dq lk a i A nm H p w f (some false) k=k .undef H p w:=by rw[zty];rfl
@[congr] theorem aNb {lk a : Bool}{i A nm : Nat}{H : Hp}{p : List Pd}{w : List Wt}{f : Hp -> R0}{g b : Option Bool}{k : AV -> Hp -> List Pd -> List Wt -> R1}(h : g = b):dq lk a i A nm H p w f g k = dq lk a i A nm H p w f b k := by rw [h]
@[congr] theorem aNp {r a : R0}{lk b : Bool}{i A nm : Nat}{H : Hp}{p : List Pd}{w : List Wt}{f : Hp -> R0}{k : AV -> Hp -> List Pd -> List Wt -> R1}(h : r = a):vD r lk b i A nm H p w f k = vD a lk b i A nm H p w f k := by rw [h]
@[congr] theorem aPo {A : Nat}{H : Hp}{p : List Pd}{w : List Wt}{r a : R1}{g b : Option Bool}{k : AV -> Hp -> List Pd -> List Wt -> R1}(h : g = b)(c : r = a):de A H p w r g k = de A H p w a b k := by rw [h, c]
theorem aYC(v:AV)(a:Bool)(i A nm:Nat)(H:Hp)(p:List Pd)(w:List Wt)(f:Hp->R0)(k:AV->Hp->List Pd->List Wt->R1):vD (.val v) false a i A nm H p w f k=k v H p w:=id rfl
theorem aUB(v:AV)(a:Bool)(i A nm:Nat)(H:Hp)(p:List Pd)(w:List Wt)(f:Hp->R0)(k:AV->Hp->List Pd->List Wt->R1):vD (.val v) true a i A nm H p w f k=k v H p (⟨i,A,f,v⟩::w):=id rfl
theorem z6b(v:AV)(z:Nat)(l:List AV)(lk:Bool)(i A nm:Nat)(H:Hp)(p:List Pd)(w:List Wt)(f:Hp->R0)(k:AV->Hp->List Pd->List Wt->R1):vD (.new v (aB z l)) lk true i A nm H p w f k=k v H (⟨i,nm,aB z l⟩::p) w:=id rfl
theorem aU4(A:Nat)(H:Hp)(p:List Pd)(w:List Wt)(r:R1)(k:AV->Hp->List Pd->List Wt->R1):de A H p w r (some false) k=k .undef H p w:=by rw[ztz];rfl
def vE(c:Bool)(r:R1):R1:=bif c then r else .bad
@[congr] theorem aOJ {c a : Bool}{r : R1}(h : c = a):vE c r = vE a r := by rw [h]
theorem bEf(r:R1):vE true r=r:=id rfl
theorem z4d(A:Nat)(H:Hp)(p:List Pd)(w:List Wt)(v:AV)(H':Hp)(k:AV->Hp->List Pd->List Wt->R1):de A H p w (.ok v H') (some true) k=vE (qjc (sG A p) H' (rP A w)) (k v H' (sG A p) (rP A w)):=by rw[ztz];rfl
theorem z3r(m i:Nat):hasB m i=decide ((m >>> i) &&& 1=1):=beq_eq _ _
theorem z9l(p:List Pd)(H:Hp)(k:pH):xZ p H k=k (oF p H):=id rfl
theorem bCl(H:Hp)(k:Nat->pH):dz 0 H k=k H.nx H:=id rfl
attribute [go_sem] bCl
theorem zh7(A:Nat)(H:Hp):dZ A [] H=H:=id rfl
theorem q9x(A:Nat)(x:Pd)(p:List Pd)(H:Hp):dZ A (x::p) H=bif hasB A x.i then(dZ A p H).put x.nm x.b else dZ A p H:=by rfl
theorem zuj(H:Hp):oF [] H=H:=id rfl
theorem zmx(x:Pd)(p:List Pd)(H:Hp):oF (x::p) H=(oF p H).put x.nm x.b:=id rfl
theorem zl7(A:Nat):sG A []=[]:=id rfl
theorem za7(A:Nat)(x:Pd)(p:List Pd):sG A (x::p)=bif hasB A x.i then sG A p else x::sG A p:=id rfl
theorem zl6(A:Nat):rP A []=[]:=id rfl
theorem za6(A:Nat)(x:Wt)(p:List Wt):rP A (x::p)=bif hasB A x.i then rP A p else x::rP A p:=id rfl
theorem zh2(p:List Pd)(H:Hp):qjc p H []=true:=id rfl
theorem q9v(p:List Pd)(H:Hp)(x:Wt)(w:List Wt):qjc p H (x::w)=(zjc (x.f (dZ x.A p H)) x.v&&qjc p H w):=id rfl
theorem zjb(u v:AV):zjc (.val u) v=nC 64 u v:=id rfl
def vT:AV->Bool
 | .undef| .bJ| .aA| .sle| .bQ| .jH| .pI=>true
 | .bool _| .int _ _| .str _ _| .ptr _ _| .sl .. | .map _| .yield _=>true
 |_=>false
theorem wV{v:AV}(h:vT v=true)(k:Nat):nC (k+1) v v=true:=by cases v<;>first|(cases h;done)|(simp[nC,beq_eq];done)
theorem qzf:∀(l:List AV) (k:Nat),l.all vT=true->l.length<k->qW (k+1) l l=true
 | [],k,_,_=>by simp[qW]
 |x::l,0,_,h=>by simp at h
 |x::l,k+1,ha,h=>by rw[lA6,qh]at ha;rw[qW,wV ha.1,qzf l k ha.2 (by simpa using h)];rfl
theorem z3y(k:IntKind)(n:Int):nC 64 (.int k n) (.int k n)=true:=wV (v:=.int k n) rfl 63
theorem ztr(b:Bool):nC 64 (.bool b) (.bool b)=true:=wV (v:=.bool b) rfl 63
theorem z9h(a b c d:Nat)(e:Bool):nC 64 (.sl a b c d e) (.sl a b c d e)=true:=wV (v:=.sl a b c d e) rfl 63
theorem zlv:nC 64 .aA .aA=true:=wV (v:=.aA) rfl 63
theorem z3x(a b:Nat):nC 64 (.ptr a b) (.ptr a b)=true:=wV (v:=.ptr a b) rfl 63
def Tr(b:Bool):Prop:=b=true
theorem ti{b:Bool}(h:b=true):Tr b:=h
@[simp] theorem bWR {b : Bool}:Tr b = (b = true) := rfl
attribute [simp] vT
theorem qgx(l:List AV)(h:Tr (l.all vT&&decide (l.length<62))):nC 64 (.agg l) (.agg l)=true:=by unfold Tr at h;rw[qh,yl]at h;exact qzf l 62 h.1 h.2
theorem zla(H:Hp)(n c:Nat):(Hp.mk H.t n).get c=H.get c:=id rfl
theorem Fm.up(a:Fm S H H')(k:Nat):Fm S H ⟨H'.t,H'.nx+k⟩:=⟨by have:=a.nx;show H.nx<=H'.nx+k;omega,fun b c d=>a.get b c d⟩
theorem Fm.up2(a:Fm S H H')(h:H.nx<=n):Fm S H ⟨H'.t,n⟩:=⟨h,fun b c d=>a.get b c d⟩
theorem Ok.uU{A:Nat}{p:List Pd}{w:List Wt}{r:R1}{k:AV->Hp->List Pd->List Wt->R1}{Q:pL}{v:AV}(h:r=.ok v H')(a:Ok (vE (qjc (sG A p) H' (rP A w)) (k v H' (sG A p) (rP A w))) Q):Ok (Di.de A H p w r (some true) k) Q:=by rw[h,z4d];exact a
theorem Ok.veE{r:R1}{k:pD}{Q:pL}{v:AV}(h:r=.ok v H')(a:Ok (k v H') Q):Ok (Di.ve r k) Q:=by rw[h];exact a
theorem Ok.iD{A:Nat}{p:List Pd}{w:List Wt}{r:R1}{k:AV->Hp->List Pd->List Wt->R1}{Q R:pL}(h:Ok r R)(a:∀ v H',R v H'->Ok (vE (qjc (sG A p) H' (rP A w)) (k v H' (sG A p) (rP A w))) Q):Ok (Di.de A H p w r (some true) k) Q:=by obtain⟨v,H',e,q⟩:=h;rw[e,z4d];exact a v H' q
def In(v:AV)(b:Nat):Prop:=∃ o n m e,v=.sl b o n m e
structure Gl(z:Nat)(H:Hp)(v:AV)(n:Nat)(l:List AV):Prop where
 len:l.length=n*z
 is:(v=.aA/\n=0)\/∃ b o e q L,v=.sl b o n n e/\H.get b=aB q L/\o<=L.length/\L.drop o=l/\(e=true\/q=z)/\b<H.nx
theorem Gl.nil(z:Nat)(H:Hp):Gl z H .aA 0 []:=⟨g3,.inl ⟨rfl,rfl⟩⟩
theorem Gl.bM{v:AV}(h:Gl z H v n l):aD v=.val (iN n):=by rcases h.is with⟨rfl,rfl⟩|⟨b,o,e,q,L,rfl,_⟩<;>rfl
theorem Gl.keep{v:AV}(h:Gl z H v n l)(c:H.nx<=H'.nx)(d:∀ b,In v b->b<H.nx->H'.get b=H.get b):Gl z H' v n l:=by
 refine⟨h.len,?_⟩;rcases h.is with⟨rfl,rfl⟩|⟨b,o,e,q,L,rfl,f,g,i,j,a⟩
 ·simp
 ·exact .inr ⟨b,o,e,q,L,rfl,(d b ⟨_,_,_,_,rfl⟩ a).trans f,g,i,j,ku a c⟩
theorem Gl.fm{v:AV}(h:Gl z H v n l)(a:Fm S H H')(c:∀ b,In v b->¬ S b):Gl z H' v n l:=
 h.keep a.nx fun b d e=>a.get b e (c b d)
theorem Gl.no{v:AV}(h:Gl z H v n l)(a:Fm No H H'):Gl z H' v n l:=h.fm a fun _ _ h=>h
theorem Gl.append{z w n k:Nat}{v:AV}{l x:List AV}(h:Gl z H v n l)(D:0<k)(r:x.length=k*z)(s:(n+k)*w<=1099511627776)(i:n+k<=1099511627776):∃H',iM z w H v (some ⟨k,x⟩)=.ok (.sl H.nx 0 (n+k) (n+k) false) H'/\Gl z H' (.sl H.nx 0 (n+k) (n+k) false) (n+k) (l++x)/\H'.get H.nx=aB z (l++x)/\Fm (In v) H H'/\H'.nx=H.nx+1:=by
 have d:(l++x).length=(n+k)*z:=by rw[lL,h.len,r,zk]
 have fin:∀ H1:Hp,H1.nx=H.nx->Fm (In v) H H1->iM z w H v (some ⟨k,x⟩)=.ok (.sl H1.nx 0 (n+k) (n+k) false) (aI H1 (aB z (l++x))) ->
   ∃H',iM z w H v (some ⟨k,x⟩)=.ok (.sl H.nx 0 (n+k) (n+k) false) H'/\Gl z H' (.sl H.nx 0 (n+k) (n+k) false) (n+k) (l++x)/\H'.get H.nx=aB z (l++x)/\Fm (In v) H H'/\H'.nx=H.nx+1:=by
  intro H1 g A B;refine⟨_,by rw[B,g],⟨d,.inr ⟨_,_,_,z,l++x,rfl,by rw[<-g,jG],gp _,lA4,.inr rfl,by rw[np,g];omega⟩⟩,by rw[<-g,jG],A.push _,by rw[np,g]⟩
 have j:Nat.ble ((n+k)*w) gV=true:=zh s;have a:Nat.ble (n+k) gV=true:=zh i;rcases h.is with⟨rfl,rfl⟩|⟨b,o,e,q,L,rfl,m,E,p,c,F⟩
 ·have:l=[]:=tu.1 (by rw[h.len];simp);subst this;refine fin H rfl (Fm.refl _ _) ?_;show(bif Nat.beq k 0 then _ else bif Nat.ble (Nat.mul k w) gV&&Nat.ble k gV then _ else _)=_;rw[beq_eq,ql om];rw[qg]at j a;show(bif Nat.ble (k*w) gV&&Nat.ble k gV then _ else _)=_;rw[j,a,qg];rfl
 ·have t:Nat.ble (n+k) n=false:=by rw[ble_eq,ql om]
  have u:o+n*z=L.length:=by have:=h.len;rw[<-p,vz]at this;omega
  have y:fD (H.get b) o (Nat.mul n z)=some l:=by rw[m,yU,qj (by show o+n*z<=_;omega),p,tq (by rw[h.len];exact lu _)]
  have f:∀(e:Bool) (H1:Hp),H1=(bif e then H else H.put b .dead)->(e=true\/q=z)->iM z w H (.sl b o n n e) (some ⟨k,x⟩)=.ok (.sl H1.nx 0 (n+k) (n+k) false) (aI H1 (aB z (l++x))):=by
   intro e H1 C c;show(bif Nat.ble (n+k) n then _ else bif Nat.ble (Nat.mul (n+k) w) gV&&Nat.ble (n+k) gV then(match fD (H.get b) o (Nat.mul n z)with|none=>R1.bad|some old=>bif e then _ else bif qh6 (H.get b) (o+n*z) z then _ else _)else R1.bad)=_;rw[t,show Nat.mul (n+k) w=(n+k)*w from rfl,j,a,y];subst C;cases e with
   |true=>rfl
   |false=>
    rcases c with c|c
    ·cases c
    ·have:qh6 (H.get b) (o+n*z) z=true:=by rw[m,zlw];simp[u,c]
     simp only[af,uB,Bool.and_self,this];rfl
  refine fin (bif e then H else H.put b .dead) (by cases e<;>rfl) ?_ (f e _ rfl c);cases e with
  |true=>exact Fm.refl _ _
  |false=>exact(Fm.refl _ _).put b _ fun _=>⟨_,_,_,_,rfl⟩
theorem zi1(z:Nat)(H:Hp)(b o n m:Nat)(e:Bool)(q:Nat)(L:List AV)(h:H.get b=aB q L)(a:o+n*z<=L.length):lY z H (.sl b o n m e)=some ⟨n,(L.drop o).take (n*z)⟩:=by show(match fD (H.get b) o (Nat.mul n z)with|some l=>some (Src.mk n l)|none=>none)=_;rw[h,yU,qj (show o+Nat.mul n z<=L.length from a)];rfl
theorem qxk(z:Nat)(H:Hp)(b o n m:Nat)(e:Bool):lY z H (.sl b o n m e)=(match fD (H.get b) o (n*z)with|some l=>some ⟨n,l⟩|none=>none):=id rfl
theorem Gl.head{v:AV}{x:AV}(h:Gl 1 H v n (x::l)):∃ b o,aH 1 v (iN 0)=.val (.ptr b o)/\b<H.nx/\In v b/\bX (H.get b) o=.val x:=by
 have a:=h.len;rcases h.is with⟨rfl,rfl⟩|⟨b,o,e,q,L,rfl,c,g,d,i,f⟩
 ·simp at a
 ·refine⟨b,o,?_,f,⟨_,_,_,_,rfl⟩,?_⟩
  ·rw[vL _ _ _ _ _ _ _ _ (by simp at a;omega),lAV,zt]
  ·have:L[o]? =some x:=by rw[<-zt o,<-zg,d];rfl
   rw[c,qca,this]
theorem Gl.tail{v:AV}{x:AV}(h:Gl 1 H v (n+1) (x::l)):∃w,kU 1 v (some (iN 1)) none none=.val w/\Ev.aD w=.val (iN n)/\(0<n->Gl 1 H w n l)/\(∀b,In w b->In v b):=by
 have z:=h.len;rcases h.is with⟨rfl,s⟩|⟨b,o,e,q,L,rfl,t,A,f,u,y⟩
 ·simp at s
 ·have p:kU 1 (.sl b o (n+1) (n+1) e) (some (iN 1)) none none=iV b o 1 ⟨1,n+1,n+1⟩ e:=by
   show(match bounds (n+1) (n+1) (some (iN 1)) none none with|some bd=>iV b o 1 bd e|none=>R0.bad)=_;rfl
  rw[p];unfold iV;simp only[beq_eq];by_cases m:n=0
  ·subst m;cases e with
   |true=>exact⟨_,rfl,rfl,fun h=>absurd h (xx 0),fun c a=>by obtain⟨g,i,j,k,d⟩:=a;cases d;exact⟨_,_,_,_,rfl⟩⟩
   |false=>exact⟨_,rfl,rfl,fun h=>absurd h (xx 0),fun c a=>by obtain⟨g,i,j,k,d⟩:=a;cases d⟩
  ·have r:decide (n+1=1)=false:=by simp;exact m
   rw[r];refine⟨.sl b (o+1) n n e,by show R0.val (.sl b (o+1*1) (n+1-1) (n+1-1) e)=_;rw[lAL,lA5],rfl,fun _=>⟨?_,.inr ⟨b,o+1,e,q,L,rfl,t,?_,?_,u,y⟩⟩,fun c a=>by obtain⟨g,i,j,k,d⟩:=a;cases d;exact⟨_,_,_,_,rfl⟩⟩
   ·simp_all
   ·have:(L.drop o).length=(x::l).length:=by rw[f]
    rw[vz]at this;simp at this;omega
   ·rw[<-lAT,f];rfl
theorem zr6(l v:List AV)(h:Tr (decide (v.length=l.length))):aZ l 0 v=v:=by unfold Tr at h;rw[yl]at h;unfold aZ;simp[h]
theorem qc9(z:List AV)(w nm n:Nat)(h:n*w<=1099511627776)(a:n<=1099511627776):qe9 z w nm (iN n) (iN n)=.new (.sl nm 0 n n true) (aB 0 (aS z n)):=by show(bif Nat.ble n n&&Nat.ble (Nat.mul n w) gV&&Nat.ble n gV then _ else _)=_;rw[zh (lu n),show Nat.mul n w=n*w from rfl,zh (show n*w<=gV from h),zh (show n<=gV from a)];rfl
theorem qdj(x:AV):∀ n,aS [x] n=List.replicate n x
 |0=>rfl
 |n+1=>by show[x]++aS [x] n=_;rw[qdj x n];rfl
theorem qxu(c:List AV):bH c []=some c:=id rfl
theorem quu(c:List AV)(a size:Nat)(v:AV)(r:List (Nat×Nat×AV)):bH c ((a,size,v)::r)=match uQ v with|some l=>(match qo0 c a size l with|some c'=>bH c' r|none=>none)|none=>none:=id rfl
theorem zbf(k:IntKind)(n:Int):uQ (.int k n)=some [.int k n]:=id rfl
theorem q4l(n:Bool):uQ (.bool n)=some [.bool n]:=id rfl
theorem zmo(a b c d:Nat)(e:Bool):uQ (.sl a b c d e)=some [.sl a b c d e]:=id rfl
theorem qzj:uQ .aA=some [.aA]:=id rfl
theorem zbg(l:List AV):uQ (.agg l)=some l:=id rfl
theorem q98(c:List AV)(a size:Nat)(v:List AV):qo0 c a size v=bif Nat.beq v.length size&&Nat.ble (a+size) c.length then some (c.take a++v++c.drop (a+size))else none:=id rfl
theorem z7e(l:List AV):aS l 1=l++[]:=id rfl
theorem z7d(l:List AV):aS l 2=l++(l++[]):=id rfl
theorem z7c(l:List AV):aS l 3=l++(l++(l++[])):=id rfl
attribute [go_sem] qxu quu zbf q4l zmo qzj zbg q98 z7e z7d z7c ble_eq blt_eq beq_eq uf yj lA7 qgx
attribute [go_sem] zr6 qxk bEf z4d z3r aFM aXA aYC aUB z6b aU4 z9l zh7 q9x zuj zmx zl7 za7 zl6 za6 zh2 q9v zjb z3y ztr z9h zlv z3x zla Bool.and_true Bool.true_and Bool.and_self
theorem jF{c:bW}:Fm No H (aI H c):=(Fm.refl _ _).push _
theorem qO{c d:bW}:Fm No H (aI (aI H c) d):=jF.push _
theorem fP3{c d e:bW}:Fm No H (aI (aI (aI H c) d) e):=qO.push _
theorem fP4{c d e f:bW}:Fm No H (aI (aI (aI (aI H c) d) e) f):=fP3.push _
theorem kP{c d:bW}:Fm No H ((aI H c).put H.nx d):=jF.aG _ _ (lu _)
theorem aM9{c d e:bW}:Fm No H (aI ((aI H c).put H.nx d) e):=kP.push _
def dn(i A b:Nat)(H:Hp)(p:List Pd)(w:List Wt)(r:R0)(k:AV->Hp->List Pd->List Wt->R1):R1:=dq false false i A (b+i) H p w (fun _=>r) (some true) k
def da(i A b:Nat)(H:Hp)(p:List Pd)(w:List Wt)(r:R0)(k:AV->Hp->List Pd->List Wt->R1):R1:=dq false true i A (b+i) H p w (fun _=>r) (some true) k
def dl(i A b:Nat)(H:Hp)(p:List Pd)(w:List Wt)(f:Hp->R0)(k:AV->Hp->List Pd->List Wt->R1):R1:=dq true false i A (b+i) H p w f (some true) k
theorem aXN(i A b:Nat)(H:Hp)(p:List Pd)(w:List Wt)(r:R0)(k:AV->Hp->List Pd->List Wt->R1):dn i A b H p w r k=vD r false false i A (b+i) H p w (fun _=>r) k:=aFM ..
theorem aXo(i A b:Nat)(H:Hp)(p:List Pd)(w:List Wt)(r:R0)(k:AV->Hp->List Pd->List Wt->R1):da i A b H p w r k=vD r false true i A (b+i) H p w (fun _=>r) k:=aFM ..
theorem aYh(i A b:Nat)(H:Hp)(p:List Pd)(w:List Wt)(f:Hp->R0)(k:AV->Hp->List Pd->List Wt->R1):dl i A b H p w f k=vD (f (dZ A p H)) true false i A (b+i) H p w f k:=aFM ..
@[congr] theorem aNo {i a A b : Nat}{H : Hp}{p : List Pd}{w : List Wt}{r : R0}{k : AV -> Hp -> List Pd -> List Wt -> R1}(h : i = a):dn i A b H p w r k = dn a A b H p w r k := by rw [h]
@[congr] theorem aNw {i a A b : Nat}{H : Hp}{p : List Pd}{w : List Wt}{r : R0}{k : AV -> Hp -> List Pd -> List Wt -> R1}(h : i = a):da i A b H p w r k = da a A b H p w r k := by rw [h]
@[congr] theorem aPv {i a A b : Nat}{H : Hp}{p : List Pd}{w : List Wt}{f : Hp -> R0}{k : AV -> Hp -> List Pd -> List Wt -> R1}(h : i = a):dl i A b H p w f k = dl a A b H p w f k := by rw [h]
attribute [go_sem] aXN aXo aYh
def vF(i:Nat)(p:AV)(H:Hp)(k:pD):R1:=vq (aN i p) H fun a H=>vq (aR H a) H k
theorem aPi(i:Nat)(p:AV)(H:Hp)(k:pD):vF i p H k=vq (aN i p) H fun a H=>vq (aR H a) H k:=id rfl
@[congr] theorem aMR {i a : Nat}{p : AV}{H : Hp}{k : AV -> Hp -> R1}(h : i = a):vF i p H k = vF a p H k := by rw [h]
def vI(x:AV)(H:Hp)(k:pD):R1:=vq (iC (oI .add).f x (.int .i64 (.ofNat 1))) H k
theorem aMN(x:AV)(H:Hp)(k:pD):vI x H k=vq (iC (oI .add).f x (.int .i64 (.ofNat 1))) H k:=id rfl
@[congr] theorem aLZ {x a : AV}{H : Hp}{k : AV -> Hp -> R1}(h : x = a):vI x H k = vI a H k := by rw [h]
attribute [go_sem] aPi aMN
abbrev gN(b:(pD)->pD)(n:Nat):pD:=
 Nat.rec (motive:=fun _=>pD) (fun _ _=>.bad) (fun _ ih=>b ih) n
abbrev kZ(b:(AV->pD)->AV->pD)(n:Nat):AV->pD:=
 Nat.rec (motive:=fun _=>AV->pD) (fun _ _ _=>.bad) (fun _ ih=>b ih) n
abbrev lq3(b:(AV->AV->pD)->AV->AV->pD)(n:Nat):AV->AV->pD:=
 Nat.rec (motive:=fun _=>AV->AV->pD) (fun _ _ _ _=>.bad) (fun _ ih=>b ih) n
def wq(r:R0)(k:pD)(H:Hp):R1:=vq r H k
theorem bDu(r:R0)(k:pD)(H:Hp):wq r k H=vq r H k:=id rfl
def wA(n:Nat)(x:AV)(k:pD)(H:Hp):R1:=vq (cO n H x) H k
theorem bA7(n:Nat)(x:AV)(k:pD)(H:Hp):wA n x k H=vq (cO n H x) H k:=id rfl
def w1(x:AV)(k:pD)(H:Hp):R1:=vq (aR H x) H k
theorem aXR(x:AV)(k:pD)(H:Hp):w1 x k H=vq (aR H x) H k:=id rfl
def wB(n:Nat)(x:AV)(k:pD)(H:Hp):R1:=vq (qI n H.nx x) H k
theorem aZD(n:Nat)(x:AV)(k:pD)(H:Hp):wB n x k H=vq (qI n H.nx x) H k:=id rfl
def wN(l:List AV)(k:pD)(H:Hp):R1:=vq (.new (.ptr H.nx 0) (aB 0 l)) H k
theorem aY7(l:List AV)(k:pD)(H:Hp):wN l k H=vq (.new (.ptr H.nx 0) (aB 0 l)) H k:=id rfl
def wQ(n:Nat)(l:Option (List AV))(k:pD)(H:Hp):R1:=vq (rJ n H.nx l) H k
theorem aYv(n:Nat)(l:Option (List AV))(k:pD)(H:Hp):wQ n l k H=vq (rJ n H.nx l) H k:=id rfl
def wh(r:Hp->R0)(k:pD)(H:Hp):R1:=vq (r H) H k
theorem bER(r:Hp->R0)(k:pD)(H:Hp):wh r k H=vq (r H) H k:=id rfl
def wF(i:Nat)(p:AV)(k:pD)(H:Hp):R1:=vF i p H k
theorem aVr(i:Nat)(p:AV)(k:pD)(H:Hp):wF i p k H=vF i p H k:=id rfl
def wI(x:AV)(k:pD)(H:Hp):R1:=vI x H k
theorem bEv(x:AV)(k:pD)(H:Hp):wI x k H=vI x H k:=id rfl
def wT(n:Nat)(x y:AV)(k:pH)(H:Hp):R1:=ve (xA n H x y) fun _ H=>k H
theorem bEM(n:Nat)(x y:AV)(k:pH)(H:Hp):wT n x y k H=ve (xA n H x y) fun _ H=>k H:=id rfl
def wU(x y:AV)(k:pH)(H:Hp):R1:=ve (j5 H x y) fun _ H=>k H
theorem aWw(x y:AV)(k:pH)(H:Hp):wU x y k H=ve (j5 H x y) fun _ H=>k H:=id rfl
def wP(z w:Nat)(x y:AV)(k:pD)(H:Hp):R1:=ve (iM z w H x (lY z H y)) k
theorem bCP(z w:Nat)(x y:AV)(k:pD)(H:Hp):wP z w x y k H=ve (iM z w H x (lY z H y)) k:=id rfl
def wc(O:Ev.Call)(f:FuncId)(l:List AV)(k:pD)(H:Hp):R1:=ve (O (.f f) l H) k
theorem bD7(O:Ev.Call)(f:FuncId)(l:List AV)(k:pD)(H:Hp):wc O f l k H=ve (O (.f f) l H) k:=id rfl
def we(r:pH)(k:pD)(H:Hp):R1:=ve (r H) k
theorem bEk(r:pH)(k:pD)(H:Hp):we r k H=ve (r H) k:=id rfl
def wg(g:Option Bool)(r:R0)(k:pD)(H:Hp):R1:=vg g r H k
theorem bAv(g:Option Bool)(r:R0)(k:pD)(H:Hp):wg g r k H=vg g r H k:=id rfl
def wG(g:Option Bool)(r:Hp->R0)(k:pD)(H:Hp):R1:=vg g (r H) H k
theorem aXP(g:Option Bool)(r:Hp->R0)(k:pD)(H:Hp):wG g r k H=vg g (r H) H k:=id rfl
def wx(g:Option Bool)(r:pH)(k:pD)(H:Hp):R1:=veg g (r H) H k
theorem bCL(g:Option Bool)(r:pH)(k:pD)(H:Hp):wx g r k H=veg g (r H) H k:=id rfl
def wl(r:R0)(k:pD)(H:Hp):R1:=vl r fun a=>k a H
theorem aXk(r:R0)(k:pD)(H:Hp):wl r k H=vl r fun a=>k a H:=id rfl
def wL(r:Hp->R0)(k:pD)(H:Hp):R1:=vl (r H) fun a=>k a H
theorem bCQ(r:Hp->R0)(k:pD)(H:Hp):wL r k H=vl (r H) fun a=>k a H:=id rfl
def wm(g:Option Bool)(r:R0)(k:pD)(H:Hp):R1:=vlg g r fun a=>k a H
theorem bEb(g:Option Bool)(r:R0)(k:pD)(H:Hp):wm g r k H=vlg g r fun a=>k a H:=id rfl
def wM(g:Option Bool)(r:Hp->R0)(k:pD)(H:Hp):R1:=vlg g (r H) fun a=>k a H
theorem bBn(g:Option Bool)(r:Hp->R0)(k:pD)(H:Hp):wM g r k H=vlg g (r H) fun a=>k a H:=id rfl
def wd(x:AV)(a b:pH)(H:Hp):R1:=cd x (a H) (b H)
theorem aUw(x:AV)(a b:pH)(H:Hp):wd x a b H=cd x (a H) (b H):=id rfl
def wz(n:Nat)(k:Nat->Hp->List Pd->List Wt->R1)(H:Hp):R1:=dz n H fun b H=>k b H [] []
theorem bD5(n:Nat)(k:Nat->Hp->List Pd->List Wt->R1)(H:Hp):wz n k H=dz n H fun b H=>k b H [] []:=id rfl
def wy(k:pH)(H:Hp)(p:List Pd)(w:List Wt):R1:=xZ p H k
theorem bAE(k:pH)(H:Hp)(p:List Pd)(w:List Wt):wy k H p w=xZ p H k:=id rfl
def wn(i A b:Nat)(r:R0)(k:AV->Hp->List Pd->List Wt->R1)(H:Hp)(p:List Pd)(w:List Wt):R1:=dn i A b H p w r k
theorem aWV(i A b:Nat)(r:R0)(k:AV->Hp->List Pd->List Wt->R1)(H:Hp)(p:List Pd)(w:List Wt):wn i A b r k H p w=dn i A b H p w r k:=id rfl
def wo(i A b:Nat)(r:Hp->R0)(k:AV->Hp->List Pd->List Wt->R1)(H:Hp)(p:List Pd)(w:List Wt):R1:=dl i A b H p w r k
theorem aVH(i A b:Nat)(r:Hp->R0)(k:AV->Hp->List Pd->List Wt->R1)(H:Hp)(p:List Pd)(w:List Wt):wo i A b r k H p w=dl i A b H p w r k:=id rfl
def wa(i A b:Nat)(r:R0)(k:AV->Hp->List Pd->List Wt->R1)(H:Hp)(p:List Pd)(w:List Wt):R1:=da i A b H p w r k
theorem bEc(i A b:Nat)(r:R0)(k:AV->Hp->List Pd->List Wt->R1)(H:Hp)(p:List Pd)(w:List Wt):wa i A b r k H p w=da i A b H p w r k:=id rfl
def wr(i A b:Nat)(r:R0)(g:Option Bool)(k:AV->Hp->List Pd->List Wt->R1)(H:Hp)(p:List Pd)(w:List Wt):R1:=dq false false i A (b+i) H p w (fun _=>r) g k
theorem bDe(i A b:Nat)(r:R0)(g:Option Bool)(k:AV->Hp->List Pd->List Wt->R1)(H:Hp)(p:List Pd)(w:List Wt):wr i A b r g k H p w=dq false false i A (b+i) H p w (fun _=>r) g k:=id rfl
def ws(i A b:Nat)(r:Hp->R0)(g:Option Bool)(k:AV->Hp->List Pd->List Wt->R1)(H:Hp)(p:List Pd)(w:List Wt):R1:=dq true false i A (b+i) H p w r g k
theorem bCm(i A b:Nat)(r:Hp->R0)(g:Option Bool)(k:AV->Hp->List Pd->List Wt->R1)(H:Hp)(p:List Pd)(w:List Wt):ws i A b r g k H p w=dq true false i A (b+i) H p w r g k:=id rfl
def wt(A:Nat)(r:pH)(g:Option Bool)(k:AV->Hp->List Pd->List Wt->R1)(H:Hp)(p:List Pd)(w:List Wt):R1:=de A H p w (r (dZ A p H)) g k
theorem aXB(A:Nat)(r:pH)(g:Option Bool)(k:AV->Hp->List Pd->List Wt->R1)(H:Hp)(p:List Pd)(w:List Wt):wt A r g k H p w=de A H p w (r (dZ A p H)) g k:=id rfl
def wu(A:Nat)(r:pH)(k:AV->Hp->List Pd->List Wt->R1)(H:Hp)(p:List Pd)(w:List Wt):R1:=de A H p w (r (dZ A p H)) (some true) k
theorem bA6(A:Nat)(r:pH)(k:AV->Hp->List Pd->List Wt->R1)(H:Hp)(p:List Pd)(w:List Wt):wu A r k H p w=de A H p w (r (dZ A p H)) (some true) k:=id rfl
def wv(x:AV):Option Bool:=bV true x
theorem aU9(x:AV):wv x=bV true x:=id rfl
def ib(o:BinOp)(x y:AV):R0:=iC (oI o).f x y
theorem bDC(o:BinOp)(x y:AV):ib o x y=iC (oI o).f x y:=id rfl
attribute [go_sem ↓] bDu bA7 aXR aZD aY7 aYv bER aVr bEv bEM aWw bCP bD7 bEk bAv aXP bCL aXk bCQ bEb bBn aUw bD5 bAE aWV aVH bEc bDe bCm aXB bA6 aU9 bDC
theorem fm(h:Fm S H0 H:=by repeat(first|exact Fm.refl _ _|assumption|refine Fm.push ?_ _|refine Fm.up2 ?_ g1|refine Fm.aG ?_ _ _ g1|refine Fm.put ?_ _ _ (fun _=>rfl))):Fm S H0 H:=h
theorem g5{p:Prop}(h:p:=by simp(disch:=go_size)only[go_sem,seval]):p:=h
theorem g6{p:Prop}(h:p:=by simp(disch:=first|go_size|omega)only[go_sem,seval]):p:=h
theorem gx{p:Prop}(h:p:=by first|omega|(simp only[np,nq];omega)):p:=h
theorem aT{a b:Prop}(k:b)(h:a=b:=by simp(disch:=first|go_size|omega|exact ti rfl|(simp only[np,nq];first|done|omega))only[rB,go_sem,rI,rK,rL,rN,rS,r6];exact rfl):a:=Eq.mpr h k
theorem eP{d a b:Prop}(c:d)(k:b)(h:d->a=b:=by intro c;simp(disch:=first|go_size|omega|exact ti rfl|(simp only[np,nq];first|done|omega))only[rB,go_sem,rI,rK,rL,rN,rS,r6,c];exact rfl):a:=Eq.mpr (h c) k
theorem eF{e p1 a b:Prop}(c:e)(d:p1)(k:b)(h:e->p1->a=b:=by intro c d;simp(disch:=first|go_size|omega|exact ti rfl|(simp only[np,nq];first|done|omega))only[rB,go_sem,rI,rK,rL,rN,rS,r6,c,d];exact rfl):a:=Eq.mpr (h c d) k
theorem iG{f p1 g a b:Prop}(c:f)(d:p1)(e:g)(k:b)(h:f->p1->g->a=b:=by intro c d e;simp(disch:=first|go_size|omega|exact ti rfl|(simp only[np,nq];first|done|omega))only[rB,go_sem,rI,rK,rL,rN,rS,r6,c,d,e];exact rfl):a:=Eq.mpr (h c d e) k
theorem jD{g p1 i j a b:Prop}(c:g)(d:p1)(e:i)(f:j)(k:b)(h:g->p1->i->j->a=b:=by intro c d e f;simp(disch:=first|go_size|omega|exact ti rfl|(simp only[np,nq];first|done|omega))only[rB,go_sem,rI,rK,rL,rN,rS,r6,c,d,e,f];exact rfl):a:=Eq.mpr (h c d e f) k
theorem nI{i p1 j l m a b:Prop}(c:i)(d:p1)(e:j)(f:l)(g:m)(k:b)(h:i->p1->j->l->m->a=b:=by intro c d e f g;simp(disch:=first|go_size|omega|exact ti rfl|(simp only[np,nq];first|done|omega))only[rB,go_sem,rI,rK,rL,rN,rS,r6,c,d,e,f,g];exact rfl):a:=Eq.mpr (h c d e f g) k
theorem siG{j p1 l m n o a b:Prop}(c:j)(d:p1)(e:l)(f:m)(g:n)(i:o)(k:b)(h:j->p1->l->m->n->o->a=b:=by intro c d e f g i;simp(disch:=first|go_size|omega|exact ti rfl|(simp only[np,nq];first|done|omega))only[rB,go_sem,rI,rK,rL,rN,rS,r6,c,d,e,f,g,i];exact rfl):a:=Eq.mpr (h c d e f g i) k
theorem siH{l p1 m n o p q a b:Prop}(c:l)(d:p1)(e:m)(f:n)(g:o)(i:p)(j:q)(k:b)(h:l->p1->m->n->o->p->q->a=b:=by intro c d e f g i j;simp(disch:=first|go_size|omega|exact ti rfl|(simp only[np,nq];first|done|omega))only[rB,go_sem,rI,rK,rL,rN,rS,r6,c,d,e,f,g,i,j];exact rfl):a:=Eq.mpr (h c d e f g i j) k
end Go.Di
end
