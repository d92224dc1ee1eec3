/-
 For StrataTurns: functions in direct style, their contracts, and the plain mathematics, part 1 of 10. No conditions beyond those that each theorem states.
-/
import Derived.Test.YtighkibjecdbnaaGreatEv4
import Derived.Handy
import Derived.Attr
set_option linter.unusedSimpArgs false
set_option linter.unusedVariables false
noncomputable section
namespace Go.Di
open Go.Ev
abbrev pB:=AV->Hp->R1
abbrev pD:=Hp->R1
abbrev pH:=AV->Hp->Prop
abbrev iN(n:Nat):AV:=.int .i64 (.ofNat n)
variable {H H':Hp} {S:Nat->Prop} {k n z:Nat} {l:List AV}
theorem aU(h:n+1<=k):∃ j,k=j+1:=⟨k-1,by omega⟩
theorem blt_eq(a b:Nat):Nat.blt a b=decide (a<b):=by
 cases h:Nat.blt a b with
 |true=>symm;rw[zy];exact ai h
 |false=>symm;rw[yt];intro c;rw[show Nat.blt a b=Nat.ble (a+1) b from rfl,yx c]at h;cases h
theorem ble_eq(a b:Nat):Nat.ble a b=decide (a<=b):=by
 cases h:Nat.ble a b with
 |true=>symm;rw[zy];exact ai h
 |false=>symm;rw[yt];intro c;rw[yx c]at h;cases h
theorem beq_eq(a b:Nat):Nat.beq a b=decide (a=b):=by
 cases h:Nat.beq a b with
 |true=>simp[qp h]
 |false=>symm;rw[yt];rintro rfl;rw[lEL]at h;cases h
/- trees are equal where all their cells are -/
theorem aMH{α:Type}{t u:Q α}(h:∀ k,k<8->qpb k t=qpb k u):t=u:=by cases t;cases u;have a:=h 0 (by decide);have b:=h 1 (by decide);have c:=h 2 (by decide);have d:=h 3 (by decide);have e:=h 4 (by decide);have f:=h 5 (by decide);have g:=h 6 (by decide);have i:=h 7 (by decide);simp only[qpb]at a b c d e f g i;simp_all
theorem zyd{α:Type}:∀(d:Nat) {t u:TT α d},(∀i,i<8 ^ d->(dJ d i).f t=(dJ d i).f u)->t=u
 |0,t,u,h=>h 0 (by decide)
 |d+1,t,u,h=>by refine aMH fun k a=>zyd d fun i b=>?_;have:=h (i*8+k) (by rw[lE5];omega);rw[qd9,qd9]at this;rwa [show(i*8+k) / 8=i by omega,show(i*8+k)%8=k by omega]at this
/- blocks as lists -/
def cellsOf(l:List AV):TT AV (iF l.length):=nR l 0 (same .undef _)
theorem qct(l:List AV)(i:Nat)(a:i<8 ^ iF l.length):(dJ _ i).f (cellsOf l)=l.getD i .undef:=by
 unfold cellsOf;rw[qh2 _ _ _ _ (by simpa using qb3 l.length) a];by_cases h:i<l.length
 ·simp_all
 ·rw[lu (by omega),qg0];simp_all
def aY(l:List AV)(o:Nat)(v:List AV):List AV:=l.take o++v++l.drop (o+v.length)
theorem qdc(l:List AV)(o:Nat)(v:List AV)(h:o+v.length<=l.length):(aY l o v).length=l.length:=by simp[aY];omega
theorem zsq(l:List AV)(o:Nat)(v:List AV)(h:o+v.length<=l.length)(i:Nat):(aY l o v).getD i .undef=if o<=i/\i<o+v.length then v.getD (i-o) .undef else l.getD i .undef:=by
 unfold aY;simp only[kw];by_cases a:i<o
 ·rw[lu (by omega),rf,qx (by simp;omega),List.getElem?_take_of_lt a]
 ·by_cases b:i<o+v.length
  ·rw[kz (by omega),rf,ug (by simp;omega),qx (by simp;omega)];simp[yz (show o<=l.length by omega)]
  ·rw[lu (by omega),ug (by simp;omega),ae];simp only[ku,ry,yz (show o<=l.length by omega)];congr 2;omega
theorem qgm(z:Nat)(l v:List AV)(o:Nat):uK (aB z l) o v=if o+v.length<=l.length then some (aB z (aY l o v))else none:=by
 show(bif Nat.ble (o+v.length) l.length then some (bO.cells _ _ (nR v o (cellsOf l)) false z)else none)=_;by_cases h:o+v.length<=l.length
 ·rw[kz h,yx h];have d:=qdc l o v h;have b:∀(n:Nat) (e:n=l.length) (c:TT AV (iF n)),(∀i,i<8 ^ iF n->(dJ _ i).f c=(aY l o v).getD i .undef)->bO.cells (iF l.length) l.length (nR v o (cellsOf l)) false z=bO.cells (iF n) n c false z:=by
   intro n e c f;subst e;congr 1;refine zyd _ fun i a=>?_;have:=qb3 l.length;rw[f i a,zsq _ _ _ h,qh2 _ _ _ _ (by omega) a,qct _ _ a]
  exact congrArg some (b _ d _ fun i a=>qct _ _ a)
 ·rw[lu h];have:Nat.ble (o+v.length) l.length=false:=by
   cases g:Nat.ble (o+v.length) l.length with
   |false=>rfl
   |true=>exact absurd (ai g) h
  rw[this];rfl
theorem qbx(z:Nat)(l:List AV)(o:Nat):bK (aB z l) o=match l[o]? with|some v=>.val v|none=>.bad:=by
 show(bif Nat.blt o l.length then R0.val ((dJ _ o).f (cellsOf l))else .bad)=_;by_cases h:o<l.length
 ·have a:Nat.blt o l.length=true:=by rw[blt_eq];simpa using h
  rw[a,qct _ _ (lq h (qb3 _))];simp[h]
 ·have a:Nat.blt o l.length=false:=by rw[blt_eq];simpa using h
  simp_all
theorem q94{d:Nat}(c:TT AV d)(l:List AV)(a:∀ i,i<8 ^ d->(dJ d i).f c=l.getD i .undef):∀(k o:Nat),o+k<=l.length->l.length<=8 ^ d->rdN c k o=(l.drop o).take k
 |0,o,_,_=>by simp[zs1]
 |k+1,o,h,h2=>by rw[qw6,a _ (by omega),q94 c l a k (o+1) (by omega) h2];rw[uo (show o<l.length by omega),lA0];simp[show o<l.length by omega]
theorem qb7(z:Nat)(l:List AV)(o k:Nat):jG (aB z l) o k=if o+k<=l.length then some ((l.drop o).take k)else none:=by
 show(bif Nat.ble (o+k) l.length then some (rdN (cellsOf l) k o)else none)=_;by_cases h:o+k<=l.length
 ·rw[kz h,yx h,q94 _ l (fun i a=>qct l i a) k o h (qb3 _)];rfl
 ·rw[lu h];have:Nat.ble (o+k) l.length=false:=by
   cases b:Nat.ble (o+k) l.length with
   |false=>rfl
   |true=>exact absurd (ai b) h
  rw[this];rfl
theorem zna(z z':Nat)(l:List AV)(e:Nat):qhm (aB z l) e z'=(decide (l.length=e)&&decide (z=z')):=by
 show(Nat.beq l.length e&&Nat.beq z z')=_;have c:∀ a b,Nat.beq a b=decide (a=b):=fun a b=>by
  cases h:Nat.beq a b with
  |true=>simp[qp h]
  |false=>symm;rw[yt];rintro rfl;rw[lEL]at h;cases h
 rw[c,c]
/- memory -/
theorem get_put(H:Hp)(b c:Nat)(k:bO):(H.put b k).get c=if c=b then k else H.get c:=Mem.get_put H.t b c k
theorem dL(H:Hp)(b:Nat)(k:bO):(H.put b k).get b=k:=by rw[get_put,kz rfl]
theorem eB(H:Hp)(b c:Nat)(k:bO)(h:c≠b):(H.put b k).get c=H.get c:=by rw[get_put,lu h]
theorem nq(H:Hp)(b:Nat)(k:bO):(H.put b k).nx=H.nx:=id rfl
theorem qg1(H:Hp)(c:Nat)(k:bO):(aN H k).get c=if c=H.nx then k else H.get c:=Mem.get_put H.t H.nx c k
theorem jA(H:Hp)(k:bO):(aN H k).get H.nx=k:=by rw[qg1,kz rfl]
theorem q62(H:Hp)(c:Nat)(k:bO)(h:H.nx<=c/\c<=H.nx):(aN H k).get c=k:=by rw[qg1,kz (by omega)]
theorem qbi(H:Hp)(c:Nat)(k:bO)(h:c<H.nx):(aN H k).get c=H.get c:=by rw[qg1,lu (by omega)]
theorem np(H:Hp)(k:bO):(aN H k).nx=H.nx+1:=id rfl
attribute [simp] np nq
structure Fm(S:Nat->Prop)(H H':Hp):Prop where
 nx:H.nx<=H'.nx
 get:∀ b,b<H.nx->¬ S b->H'.get b=H.get b
def No:Nat->Prop:=fun _=>False
theorem Fm.refl(S:Nat->Prop)(H:Hp):Fm S H H:=⟨lh _,fun _ _ _=>rfl⟩
theorem Fm.trans{H H1 d:Hp}(a:Fm S H H1)(b:Fm S H1 d):Fm S H d:=⟨rq a.nx b.nx,fun c e f=>(b.get c (lq e a.nx) f).trans (a.get c e f)⟩
theorem Fm.mono{S T:Nat->Prop}(a:Fm S H H')(h:∀ b,b<H.nx->S b->T b):Fm T H H':=⟨a.nx,fun b c d=>a.get b c fun e=>d (h b c e)⟩
theorem Fm.push(a:Fm S H H')(k:bO):Fm S H (aN H' k):=⟨Nat.le_succ_of_le a.nx,fun b c d=>by rw[qbi _ _ _ (lq c a.nx)];exact a.get b c d⟩
theorem Fm.put(a:Fm S H H')(b:Nat)(k:bO)(h:b<H.nx->S b):Fm S H (H'.put b k):=⟨a.nx,fun c d f=>by rw[eB _ _ _ _ (fun e=>f (by subst e;exact h d))];exact a.get c d f⟩
theorem Fm.aD(a:Fm S H H')(b:Nat)(k:bO)(h:H.nx<=b):Fm S H (H'.put b k):=a.put b k fun c=>by omega
theorem Fm.keep(a:Fm No H H'){b:Nat}(c:b<H.nx):H'.get b=H.get b:=a.get b c id
theorem Fm.then{S T:Nat->Prop}{H H1 e:Hp}(a:Fm S H H1)(b:Fm T H1 e)(h:∀ c,c<H.nx->T c->S c):Fm S H e:=
 ⟨rq a.nx b.nx,fun c d f=>(b.get c (lq d a.nx) fun g=>f (h c d g)).trans (a.get c d f)⟩
def Ok(r:R1)(Q:pH):Prop:=∃ v H',r=.ok v H'/\Q v H'
theorem Ok.ret{v:AV}{Q:pH}(h:Q v H):Ok (.ok v H) Q:=⟨v,H,rfl,h⟩
theorem Ok.mono{r:R1}{Q R:pH}(h:Ok r Q)(a:∀ v H,Q v H->R v H):Ok r R:=by obtain⟨v,H,e,q⟩:=h;exact⟨v,H,e,a _ _ q⟩
theorem Ok.ve{r:R1}{k:pB}{Q R:pH}(h:Ok r R)(a:∀ v H,R v H->Ok (k v H) Q):Ok (ve r k) Q:=by obtain⟨v,H,e,q⟩:=h;subst e;exact a v H q
theorem Ok.de{A:Nat}{p:List Pd}{w:List Wt}{r:R1}{k:AV->Hp->List Pd->List Wt->R1}{Q R:pH}(h:Ok r R)(a:∀ v H',R v H'->qi2 (p8 A p) H' (qB A w)=true/\Ok (k v H' (p8 A p) (qB A w)) Q):Ok (de A H p w r (some true) k) Q:=by obtain⟨v,H',e,q⟩:=h;subst e;obtain⟨b,c⟩:=a v H' q;rw[zuo];unfold de0;simp only[b,uC];exact c
/- steps -/
theorem z5d(v:AV)(H:Hp)(k:pB):vq (.val v) H k=k v H:=id rfl
theorem z5e(v:AV)(b:bO)(H:Hp)(k:pB):vq (.new v b) H k=k v (aN H b):=id rfl
theorem aLR(v:AV)(H:Hp)(k:pB):ve (.ok v H) k=k v H:=id rfl
theorem aUT(r:R0)(H:Hp)(k:pB):vg (some true) r H k=vq r H k:=by rw[z05];rfl
theorem aVn(r:R0)(H:Hp)(k:pB):vg (some false) r H k=k .undef H:=by rw[z05];rfl
theorem aN2(r:R1)(H:Hp)(k:pB):veg (some true) r H k=ve r k:=by rw[zj2];rfl
theorem aKv(r:R1)(H:Hp)(k:pB):veg (some false) r H k=k .undef H:=by rw[zj2];rfl
theorem z5g(v:AV)(k:AV->R1):vl (.val v) k=k v:=id rfl
theorem aM0(r:R0)(k:AV->R1):vlg (some true) r k=vl r k:=by rw[q87];rfl
theorem aJY(r:R0)(k:AV->R1):vlg (some false) r k=k .undef:=by rw[q87];rfl
theorem z02(a b:Bool):bF a (.bool b)=some (b==a):=id rfl
theorem z01(a:Bool):bF a .undef=some false:=id rfl
theorem aUe(x y:R1):cd (.bool true) x y=x:=id rfl
theorem aYA(x y:R1):cd (.bool false) x y=y:=id rfl
theorem aMe(up:Nat)(H:Hp)(k:Nat->pD):dz up H k=k H.nx ⟨H.t,H.nx+up⟩:=id rfl
theorem z13(c:Bool)(a b:AV):dK (.bool c) a b=.val (if c=true then a else b):=by cases c<;>rfl
@[congr] theorem aNw {r a : R0}{H : Hp}{k : AV -> Hp -> R1}(h : r = a):vq r H k = vq a H k := by rw [h]
@[congr] theorem aK2 {r a : R1}{k : AV -> Hp -> R1}(h : r = a):ve r k = ve a k := by rw [h]
@[congr] theorem aOu {w w' : Option Bool}{r : R0}{H : Hp}{k : AV -> Hp -> R1}(h : w = w'):vg w r H k = vg w' r H k := by rw [h]
@[congr] theorem z5h {w w' : Option Bool}{r : R1}{H : Hp}{k : AV -> Hp -> R1}(h : w = w'):veg w r H k = veg w' r H k := by rw [h]
@[congr] theorem aMY {r a : R0}{k : AV -> R1}(h : r = a):vl r k = vl a k := by rw [h]
@[congr] theorem z5f {w w' : Option Bool}{r : R0}{k : AV -> R1}(h : w = w'):vlg w r k = vlg w' r k := by rw [h]
@[congr] theorem aN5 {x c : AV}{a b : R1}(h : x = c):cd x a b = cd c a b := by rw [h]
@[congr] theorem aMt {u : Nat}{H : Hp}{k : Nat -> Hp -> R1}:dz u H k = dz u H k := rfl
theorem qg4(k:IntKind):wK k k=true:=by cases k<;>rfl
theorem qek(a b:Int):oU a b=decide (a<b):=by cases a<;>cases b<;>simp only[oU,blt_eq]<;>rename_i m n<;>apply lEI.2<;>simp only[yc,qi,lE8]<;>first|omega|(simp;omega)
theorem qfa(a b:Int):qY a b=decide (a=b):=by cases a<;>cases b<;>simp only[qY,beq_eq]<;>rename_i m n<;>apply lEI.2<;>simp only[yc,qi,lE8]<;>first|omega|(simp;omega)
theorem qgk(n:Nat)(h:n<9223372036854775808):uU .i64 (.ofNat n)=.ofNat n:=by show(bif Nat.blt n 9223372036854775808 then _ else _)=_;rw[blt_eq,qw h];rfl
theorem z9s(a b:Int):gU (mM .add).f (.int .i64 a) (.int .i64 b)=.val (.int .i64 (uU .i64 (a+b))):=id rfl
theorem z5q(a b:Int):gU (mM .sub).f (.int .i64 a) (.int .i64 b)=.val (.int .i64 (uU .i64 (a-b))):=id rfl
theorem z7e(a b:Int):gU (mM .mul).f (.int .i64 a) (.int .i64 b)=.val (.int .i64 (uU .i64 (a*b))):=id rfl
theorem z9r(a b:Nat)(h:a+b<9223372036854775808):gU (mM .add).f (iN a) (iN b)=.val (iN ((a+b))):=by rw[z9s];exact congrArg (fun x=>R0.val (.int .i64 x)) (qgk (a+b) h)
theorem z5p(a b:Nat)(h:b<=a)(c:a<9223372036854775808):gU (mM .sub).f (iN a) (iN b)=.val (iN ((a-b))):=by rw[z5q,show(Int.ofNat a-Int.ofNat b)=Int.ofNat (a-b)by simp only[qi];omega,qgk _ (by omega)]
theorem z7d(a b:Nat)(h:a*b<9223372036854775808):gU (mM .mul).f (iN a) (iN b)=.val (iN ((a*b))):=by rw[z7e];exact congrArg (fun x=>R0.val (.int .i64 x)) (qgk (a*b) h)
theorem z6o(a b:Nat)(h:0<b)(c:a<9223372036854775808):gU (mM .quo).f (iN a) (iN b)=.val (iN ((a / b))):=by
 have d:qY (.ofNat b) 0=false:=by rw[qfa];simp;omega
 show(bif qY (.ofNat b) 0 then R0.bad else .val (.int .i64 (uU .i64 ((Int.ofNat a).tdiv (Int.ofNat b)))))=_;rw[d];exact congrArg (fun x=>R0.val (.int .i64 x)) (qgk (a / b) (lAZ (Nat.div_le_self _ _) c))
theorem z6h(a b:Nat)(h:0<b):gU (mM .rem).f (iN a) (iN b)=.val (iN ((a%b))):=by
 have c:qY (.ofNat b) 0=false:=by rw[qfa];simp;omega
 show(bif qY (.ofNat b) 0 then R0.bad else .val (.int .i64 ((Int.ofNat a).tmod (Int.ofNat b))))=_;rw[c];rfl
theorem z6g(a b:Nat)(h:0<b):gU (mM .rem).f (.int .u8 (.ofNat a)) (.int .u8 (.ofNat b))=.val (.int .u8 (.ofNat (a%b))):=by
 have c:qY (.ofNat b) 0=false:=by rw[qfa];simp;omega
 show(bif qY (.ofNat b) 0 then R0.bad else .val (.int .u8 ((Int.ofNat a).tmod (Int.ofNat b))))=_;rw[c];rfl
theorem z7k(k:IntKind)(a b:Int):gU (mM .lss).f (.int k a) (.int k b)=.val (.bool (decide (a<b))):=by show(bif wK k k then R0.val (.bool (oU a b))else .bad)=_;rw[qg4,qek];rfl
theorem z7r(k:IntKind)(a b:Int):gU (mM .leq).f (.int k a) (.int k b)=.val (.bool (decide (a<=b))):=by show(bif wK k k then R0.val (.bool (!oU b a))else .bad)=_;rw[qg4,qek,<-decide_not];simp only[uC];congr 2;simp only[lEN]
theorem z8b(k:IntKind)(a b:Int):gU (mM .gtr).f (.int k a) (.int k b)=.val (.bool (decide (b<a))):=by show(bif wK k k then R0.val (.bool (oU b a))else .bad)=_;rw[qg4,qek];rfl
theorem z8c(k:IntKind)(a b:Int):gU (mM .geq).f (.int k a) (.int k b)=.val (.bool (decide (b<=a))):=by show(bif wK k k then R0.val (.bool (!oU a b))else .bad)=_;rw[qg4,qek,<-decide_not];simp only[uC];congr 2;simp only[lEN]
theorem z8m(k:IntKind)(a b:Int):gU (mM .eql).f (.int k a) (.int k b)=.val (.bool (decide (a=b))):=by show(bif wK k k then R0.val (.bool (qY a b))else .bad)=_;rw[qg4,qfa];rfl
theorem z7c(k:IntKind)(a b:Int):gU (mM .neq).f (.int k a) (.int k b)=.val (.bool (!decide (a=b))):=by show(bif wK k k then R0.val (.bool (!qY a b))else .bad)=_;rw[qg4,qfa];rfl
theorem aMD(b:Bool):(kX .not).f (.bool b)=.val (.bool !b):=id rfl
/- numbers -/
theorem ztj(a b:Nat):(Int.ofNat a<Int.ofNat b)=(a<b):=by simp
theorem ztk(a b:Nat):(Int.ofNat a<=Int.ofNat b)=(a<=b):=by simp
theorem zaf(a b:Nat):(Int.ofNat a=Int.ofNat b)=(a=b):=by simp only[qi,eq_iff_iff];omega
theorem zct(a b:Nat):(Int.negSucc a<Int.ofNat b)=True:=by simp only[lE8,qi,eq_iff_iff,iff_true];omega
theorem zcw(a b:Nat):(Int.ofNat a<Int.negSucc b)=False:=by simp only[lE8,qi,eq_iff_iff,iff_false];omega
theorem zcu(a b:Nat):(Int.negSucc a<=Int.ofNat b)=True:=by simp only[lE8,qi,eq_iff_iff,iff_true];omega
theorem zcx(a b:Nat):(Int.ofNat a<=Int.negSucc b)=False:=by simp only[lE8,qi,eq_iff_iff,iff_false];omega
theorem zcv(a b:Nat):(Int.negSucc a=Int.ofNat b)=False:=by simp
theorem zcy(a b:Nat):(Int.ofNat a=Int.negSucc b)=False:=by simp
/- memory -/
theorem z2l(H:Hp)(b o:Nat):aO H (.ptr b o)=bK (H.get b) o:=id rfl
theorem z2k(k:Nat)(H:Hp)(b o:Nat):dQ k H (.ptr b o)=aC1 (jG (H.get b) o k):=id rfl
theorem zoi(l:List AV):aC1 (some l)=.val (.agg l):=id rfl
theorem zoj(l:List AV):dO (some l)=.val (.agg l):=id rfl
theorem z6k(v:AV):rV (.val v)=some v:=id rfl
theorem zm0(v:AV)(H:Hp):fM (some v) H=.ok v H:=id rfl
theorem qch(H:Hp)(b o:Nat)(v:List AV)(r:AV)(z:Nat)(l:List AV)(a:H.get b=aB z l)(h:o+v.length<=l.length):storeAt H b o v r=.ok r (H.put b (aB z (aY l o v))):=by unfold storeAt;rw[a,qgm,kz h]
theorem zb4(H:Hp)(b o:Nat)(v:List AV)(r:AV):storeAt H b o v r=(match uK (H.get b) o v with|some blk=>.ok r (H.put b blk)|none=>.bad):=id rfl
theorem zb8(H:Hp)(b o:Nat)(k:IntKind)(n:Int):jX H (.ptr b o) (.int k n)=storeAt H b o [.int k n] .undef:=id rfl
theorem q58(H:Hp)(b o:Nat)(n:Bool):jX H (.ptr b o) (.bool n)=storeAt H b o [.bool n] .undef:=id rfl
theorem zj9(H:Hp)(b o:Nat)(a d l c:Nat)(e:Bool):jX H (.ptr b o) (.sl a d l c e)=storeAt H b o [.sl a d l c e] .undef:=id rfl
theorem qy8(H:Hp)(b o:Nat):jX H (.ptr b o) .aA=storeAt H b o [.aA] .undef:=id rfl
theorem q9g(k:Nat)(H:Hp)(b o:Nat)(l:List AV):zJ k H (.ptr b o) (.agg l)=bif Nat.beq l.length k then storeAt H b o l .undef else .bad:=id rfl
theorem z9j(k nm:Nat)(l:List AV):yE k nm (.agg l)=bif Nat.beq l.length k then .new (.ptr nm 0) (aB 0 l)else .bad:=id rfl
theorem zu0(nm:Nat)(k:IntKind)(n:Int):l9 nm (.int k n)=.new (.ptr nm 0) (aB 0 [.int k n]):=id rfl
theorem z4a(nm:Nat)(a b l c:Nat)(e:Bool):l9 nm (.sl a b l c e)=.new (.ptr nm 0) (aB 0 [.sl a b l c e]):=id rfl
theorem zdr(nm:Nat):l9 nm .aA=.new (.ptr nm 0) (aB 0 [.aA]):=id rfl
theorem zt6(a b o:Nat):aQ a (.ptr b o)=.val (.ptr b (o+a)):=id rfl
theorem z6z(b o:Nat):aW (.ptr b o)=.val (.ptr b o):=id rfl
theorem uT(z b o n c:Nat)(e:Bool)(k:IntKind)(i:Nat)(h:i<n):aG z (.sl b o n c e) (.int k (.ofNat i))=.val (.ptr b (o+i*z)):=by show(bif Nat.blt i n then _ else _)=_;rw[blt_eq,qw h];rfl
theorem z8a(n z b o:Nat)(k:IntKind)(i:Nat)(h:i<n):gP n z (.ptr b o) (.int k (.ofNat i))=.val (.ptr b (o+i*z)):=by show(bif Nat.blt i n then _ else _)=_;rw[blt_eq,qw h];rfl
theorem ztt(b o n c:Nat)(e:Bool):aF (.sl b o n c e)=.val (iN n):=id rfl
theorem zmd:aF .aA=.val (iN 0):=id rfl
theorem z2m:aF .sle=.val (iN 0):=id rfl
theorem z3y(b o n c:Nat):jM (.sl b o n c true)=.val (iN c):=id rfl
theorem zuw:jM .aA=.val (iN 0):=id rfl
theorem z8j(i:Nat)(l:List AV):bH i (.aX l)=(match l[i]? with|some v=>.val v|none=>.bad):=id rfl
theorem zcs(n nm:Nat)(l:List AV):tK n nm (some l)=.new (.sl nm 0 n n true) (aB 0 l):=id rfl
attribute [go_sem] z5d z5e aLR aUT aVn aN2 aKv z5g aM0 aJY z02 z01 aUe aYA aMe z13
 z9r z5p z7d z6o z6h z6g z7k z7r z8b z8c z8m z7c aMD
 ztj ztk zaf zct zcw zcu zcx zcv zcy
 z2l z2k zoi zoj z6k zm0 zb8 q58 zj9 qy8 q9g z9j zu0 z4a zdr zt6 z6z uT z8a
 ztt zmd z2m z3y zuw z8j zcs qbx qb7 qgm zb4
 dL q62 qbi eB nq np
 beq_self_eq_true Bool.true_beq Bool.false_beq beq_true beq_false Bool.not_true Bool.not_false yg Bool.not_eq_false' decide_true decide_false yc yt cu
 oh lA9 ite_self pq yw qg lAS uC aj reduceCtorEq not_false_eq_true not_true_eq_false
 lA0 lAP lAA List.drop_succ_cons lAU zh gz uk pz xw
def vD(r:R0)(lk al:Bool)(i A nm:Nat)(H:Hp)(p:List Pd)(w:List Wt)(f:Hp->R0)(k:AV->Hp->List Pd->List Wt->R1):R1:=
 match r with
  | .bad=>.bad
  | .val v=>k v H p (bif lk then⟨i,A,f,v⟩::w else w)
  | .new v b=>bif al&&b.wr then k v H (⟨i,nm,b⟩::p) w else .bad
theorem aEi(a b:Bool)(i A nm:Nat)(H:Hp)(p:List Pd)(w:List Wt)(f:Hp->R0)(k:AV->Hp->List Pd->List Wt->R1):dq a b i A nm H p w f (some true) k=vD (f (eU A p H)) a b i A nm H p w f k:=by rw[zum];rfl
theorem aWA(a b:Bool)(i A nm:Nat)(H:Hp)(p:List Pd)(w:List Wt)(f:Hp->R0)(k:AV->Hp->List Pd->List Wt->R1):dq a b i A nm H p w f (some false) k=k .undef H p w:=by rw[zum];rfl
@[congr] theorem aLQ {a b : Bool}{i A nm : Nat}{H : Hp}{p : List Pd}{w : List Wt}{f : Hp -> R0}{g c : Option Bool}{k : AV -> Hp -> List Pd -> List Wt -> R1}(h : g = c):dq a b i A nm H p w f g k = dq a b i A nm H p w f c k := by rw [h]
@[congr] theorem aMc {r a : R0}{b c : Bool}{i A nm : Nat}{H : Hp}{p : List Pd}{w : List Wt}{f : Hp -> R0}{k : AV -> Hp -> List Pd -> List Wt -> R1}(h : r = a):vD r b c i A nm H p w f k = vD a b c i A nm H p w f k := by rw [h]
@[congr] theorem aOp {A : Nat}{H : Hp}{p : List Pd}{w : List Wt}{r a : R1}{g b : Option Bool}{k : AV -> Hp -> List Pd -> List Wt -> R1}(h : g = b)(c : r = a):de A H p w r g k = de A H p w a b k := by rw [h, c]
theorem aXE(v:AV)(a:Bool)(i A nm:Nat)(H:Hp)(p:List Pd)(w:List Wt)(f:Hp->R0)(k:AV->Hp->List Pd->List Wt->R1):vD (.val v) false a i A nm H p w f k=k v H p w:=id rfl
theorem aS8(v:AV)(a:Bool)(i A nm:Nat)(H:Hp)(p:List Pd)(w:List Wt)(f:Hp->R0)(k:AV->Hp->List Pd->List Wt->R1):vD (.val v) true a i A nm H p w f k=k v H p (⟨i,A,f,v⟩::w):=id rfl
theorem z5i(v:AV)(z:Nat)(l:List AV)(a:Bool)(i A nm:Nat)(H:Hp)(p:List Pd)(w:List Wt)(f:Hp->R0)(k:AV->Hp->List Pd->List Wt->R1):vD (.new v (aB z l)) a true i A nm H p w f k=k v H (⟨i,nm,aB z l⟩::p) w:=id rfl
theorem aTK(A:Nat)(H:Hp)(p:List Pd)(w:List Wt)(r:R1)(k:AV->Hp->List Pd->List Wt->R1):de A H p w r (some false) k=k .undef H p w:=by rw[zuo];rfl
def vE(c:Bool)(r:R1):R1:=bif c then r else .bad
@[congr] theorem aNG {c a : Bool}{r : R1}(h : c = a):vE c r = vE a r := by rw [h]
theorem bD8(r:R1):vE true r=r:=id rfl
theorem z3n(A:Nat)(H:Hp)(p:List Pd)(w:List Wt)(v:AV)(H':Hp)(k:AV->Hp->List Pd->List Wt->R1):de A H p w (.ok v H') (some true) k=vE (qi2 (p8 A p) H' (qB A w)) (k v H' (p8 A p) (qB A w)):=by rw[zuo];rfl
theorem z2t(m i:Nat):hasB m i=decide ((m >>> i) &&& 1=1):=beq_eq _ _
theorem z8z(p:List Pd)(H:Hp)(k:pD):dz2 p H k=k (mU p H):=id rfl
theorem bB7(H:Hp)(k:Nat->pD):dz 0 H k=k H.nx H:=id rfl
attribute [go_sem] bB7
theorem zj1(A:Nat)(H:Hp):eU A [] H=H:=id rfl
theorem zb1(A:Nat)(x:Pd)(p:List Pd)(H:Hp):eU A (x::p) H=bif hasB A x.i then(eU A p H).put x.nm x.b else eU A p H:=by rfl
theorem zva(H:Hp):mU [] H=H:=id rfl
theorem zoh(x:Pd)(p:List Pd)(H:Hp):mU (x::p) H=(mU p H).put x.nm x.b:=id rfl
theorem znk(A:Nat):p8 A []=[]:=id rfl
theorem zdc(A:Nat)(x:Pd)(p:List Pd):p8 A (x::p)=bif hasB A x.i then p8 A p else x::p8 A p:=id rfl
theorem znj(A:Nat):qB A []=[]:=id rfl
theorem zdb(A:Nat)(x:Wt)(p:List Wt):qB A (x::p)=bif hasB A x.i then qB A p else x::qB A p:=id rfl
theorem zju(p:List Pd)(H:Hp):qi2 p H []=true:=id rfl
theorem zbz(p:List Pd)(H:Hp)(x:Wt)(w:List Wt):qi2 p H (x::w)=(zks (x.f (eU x.A p H)) x.v&&qi2 p H w):=id rfl
theorem zkr(u v:AV):zks (.val u) v=oQ 64 u v:=id rfl
def vL:AV->Bool
 | .undef| .cK| .aA| .sle| .dR| .iR| .nO=>true
 | .bool _| .int _ _| .str _ _| .ptr _ _| .sl .. | .map _| .yield _=>true
 |_=>false
theorem qck{v:AV}(h:vL v=true)(k:Nat):oQ (k+1) v v=true:=by cases v<;>first|(cases h;done)|(simp[oQ,beq_eq];done)
theorem q02:∀(l:List AV) (k:Nat),l.all vL=true->l.length<k->qH (k+1) l l=true
 | [],k,_,_=>by simp[qH]
 |x::l,0,_,h=>by simp at h
 |x::l,k+1,ha,h=>by rw[lEG,qc]at ha;rw[qH,qck ha.1,q02 l k ha.2 (by simpa using h)];rfl
theorem z3c(k:IntKind)(n:Int):oQ 64 (.int k n) (.int k n)=true:=qck (v:=.int k n) rfl 63
theorem zuf(b:Bool):oQ 64 (.bool b) (.bool b)=true:=qck (v:=.bool b) rfl 63
theorem z8n(a b c d:Nat)(e:Bool):oQ 64 (.sl a b c d e) (.sl a b c d e)=true:=qck (v:=.sl a b c d e) rfl 63
theorem zm7:oQ 64 .aA .aA=true:=qck (v:=.aA) rfl 63
theorem z3b(a b:Nat):oQ 64 (.ptr a b) (.ptr a b)=true:=qck (v:=.ptr a b) rfl 63
def Tr(b:Bool):Prop:=b=true
theorem ti{b:Bool}(h:b=true):Tr b:=h
@[simp] theorem bTv {b : Bool}:Tr b = (b = true) := rfl
attribute [simp] vL
theorem qk6(l:List AV)(h:Tr (l.all vL&&decide (l.length<62))):oQ 64 (.agg l) (.agg l)=true:=by unfold Tr at h;rw[qc,zy]at h;exact q02 l 62 h.1 h.2
theorem zms(H:Hp)(n c:Nat):(Hp.mk H.t n).get c=H.get c:=id rfl
theorem Fm.up(a:Fm S H H')(k:Nat):Fm S H ⟨H'.t,H'.nx+k⟩:=⟨by have:=a.nx;show H.nx<=H'.nx+k;omega,fun b c d=>a.get b c d⟩
theorem Fm.fC(a:Fm S H H')(h:H.nx<=n):Fm S H ⟨H'.t,n⟩:=⟨h,fun b c d=>a.get b c d⟩
theorem Ok.xW{A:Nat}{p:List Pd}{w:List Wt}{r:R1}{k:AV->Hp->List Pd->List Wt->R1}{Q:pH}{v:AV}(h:r=.ok v H')(a:Ok (vE (qi2 (p8 A p) H' (qB A w)) (k v H' (p8 A p) (qB A w))) Q):Ok (Di.de A H p w r (some true) k) Q:=by rw[h,z3n];exact a
theorem Ok.veE{r:R1}{k:pB}{Q:pH}{v:AV}(h:r=.ok v H')(a:Ok (k v H') Q):Ok (Di.ve r k) Q:=by rw[h];exact a
theorem Ok.kF{A:Nat}{p:List Pd}{w:List Wt}{r:R1}{k:AV->Hp->List Pd->List Wt->R1}{Q R:pH}(h:Ok r R)(a:∀ v H',R v H'->Ok (vE (qi2 (p8 A p) H' (qB A w)) (k v H' (p8 A p) (qB A w))) Q):Ok (Di.de A H p w r (some true) k) Q:=by obtain⟨v,H',e,q⟩:=h;rw[e,z3n];exact a v H' q
def In(v:AV)(b:Nat):Prop:=∃ o n m e,v=.sl b o n m e
structure Gl(z:Nat)(H:Hp)(v:AV)(n:Nat)(l:List AV):Prop where
 len:l.length=n*z
 is:(v=.aA/\n=0)\/∃ b o e q L,v=.sl b o n n e/\H.get b=aB q L/\o<=L.length/\L.drop o=l/\(e=true\/q=z)/\b<H.nx
theorem Gl.nil(z:Nat)(H:Hp):Gl z H .aA 0 []:=⟨by simp,.inl ⟨rfl,rfl⟩⟩
theorem Gl.bS{v:AV}(h:Gl z H v n l):aF v=.val (iN n):=by rcases h.is with⟨rfl,rfl⟩|⟨b,o,e,q,L,rfl,_⟩<;>rfl
theorem Gl.keep{v:AV}(h:Gl z H v n l)(c:H.nx<=H'.nx)(d:∀ b,In v b->b<H.nx->H'.get b=H.get b):Gl z H' v n l:=by
 refine⟨h.len,?_⟩;rcases h.is with⟨rfl,rfl⟩|⟨b,o,e,q,L,rfl,f,g,i,j,a⟩
 ·simp
 ·exact .inr ⟨b,o,e,q,L,rfl,(d b ⟨_,_,_,_,rfl⟩ a).trans f,g,i,j,lq a c⟩
theorem Gl.fm{v:AV}(h:Gl z H v n l)(a:Fm S H H')(c:∀ b,In v b->¬ S b):Gl z H' v n l:=
 h.keep a.nx fun b d e=>a.get b e (c b d)
theorem Gl.no{v:AV}(h:Gl z H v n l)(a:Fm No H H'):Gl z H' v n l:=h.fm a fun _ _ h=>h
theorem Gl.append{z w n k:Nat}{v:AV}{l x:List AV}(h:Gl z H v n l)(C:0<k)(r:x.length=k*z)(s:(n+k)*w<=1099511627776)(i:n+k<=1099511627776):∃H',lI z w H v (some ⟨k,x⟩)=.ok (.sl H.nx 0 (n+k) (n+k) false) H'/\Gl z H' (.sl H.nx 0 (n+k) (n+k) false) (n+k) (l++x)/\H'.get H.nx=aB z (l++x)/\Fm (In v) H H'/\H'.nx=H.nx+1:=by
 have d:(l++x).length=(n+k)*z:=by rw[ku,h.len,r,xk]
 have fin:∀ H1:Hp,H1.nx=H.nx->Fm (In v) H H1->lI z w H v (some ⟨k,x⟩)=.ok (.sl H1.nx 0 (n+k) (n+k) false) (aN H1 (aB z (l++x))) ->
   ∃H',lI z w H v (some ⟨k,x⟩)=.ok (.sl H.nx 0 (n+k) (n+k) false) H'/\Gl z H' (.sl H.nx 0 (n+k) (n+k) false) (n+k) (l++x)/\H'.get H.nx=aB z (l++x)/\Fm (In v) H H'/\H'.nx=H.nx+1:=by
  intro H1 g y A;refine⟨_,by rw[A,g],⟨d,.inr ⟨_,_,_,z,l++x,rfl,by rw[<-g,jA],gy _,lAA,.inr rfl,by rw[np,g];omega⟩⟩,by rw[<-g,jA],y.push _,by rw[np,g]⟩
 have j:Nat.ble ((n+k)*w) fO=true:=yx s;have a:Nat.ble (n+k) fO=true:=yx i;rcases h.is with⟨rfl,rfl⟩|⟨b,o,e,q,L,rfl,m,D,p,c,E⟩
 ·have:l=[]:=tq.1 (by rw[h.len];simp);subst this;refine fin H rfl (Fm.refl _ _) ?_;show(bif Nat.beq k 0 then _ else bif Nat.ble (Nat.mul k w) fO&&Nat.ble k fO then _ else _)=_;rw[beq_eq,uA (by omega)];rw[pq]at j a;show(bif Nat.ble (k*w) fO&&Nat.ble k fO then _ else _)=_;rw[j,a,pq];rfl
 ·have t:Nat.ble (n+k) n=false:=by rw[ble_eq,uA (by omega)]
  have hd:o+n*z=L.length:=by have:=h.len;rw[<-p,xx]at this;omega
  have u:jG (H.get b) o (Nat.mul n z)=some l:=by rw[m,qb7,kz (by show o+n*z<=_;omega),p,uh (by rw[h.len];exact lh _)]
  have f:∀(e:Bool) (H1:Hp),H1=(bif e then H else H.put b .dead)->(e=true\/q=z)->lI z w H (.sl b o n n e) (some ⟨k,x⟩)=.ok (.sl H1.nx 0 (n+k) (n+k) false) (aN H1 (aB z (l++x))):=by
   intro e H1 B c;show(bif Nat.ble (n+k) n then _ else bif Nat.ble (Nat.mul (n+k) w) fO&&Nat.ble (n+k) fO then(match jG (H.get b) o (Nat.mul n z)with|none=>R1.bad|some old=>bif e then _ else bif qhm (H.get b) (o+n*z) z then _ else _)else R1.bad)=_;rw[t,show Nat.mul (n+k) w=(n+k)*w from rfl,j,a,u];subst B;cases e with
   |true=>rfl
   |false=>
    rcases c with c|c
    ·cases c
    ·have:qhm (H.get b) (o+n*z) z=true:=by rw[m,zna];simp[hd,c]
     simp only[aj,uC,Bool.and_self,this];rfl
  refine fin (bif e then H else H.put b .dead) (by cases e<;>rfl) ?_ (f e _ rfl c);cases e with
  |true=>exact Fm.refl _ _
  |false=>exact(Fm.refl _ _).put b _ fun _=>⟨_,_,_,_,rfl⟩
theorem zkk(z:Nat)(H:Hp)(b o n m:Nat)(e:Bool):qA z H (.sl b o n m e)=(match jG (H.get b) o (n*z)with|some l=>some ⟨n,l⟩|none=>none):=id rfl
theorem Gl.head{v:AV}{x:AV}(h:Gl 1 H v n (x::l)):∃ b o,aG 1 v (iN 0)=.val (.ptr b o)/\b<H.nx/\In v b/\bK (H.get b) o=.val x:=by
 have a:=h.len;rcases h.is with⟨rfl,rfl⟩|⟨b,o,e,q,L,rfl,c,g,d,i,f⟩
 ·simp at a
 ·refine⟨b,o,?_,f,⟨_,_,_,_,rfl⟩,?_⟩
  ·rw[uT _ _ _ _ _ _ _ _ (by simp at a;omega),lAS,yw]
  ·have:L[o]? =some x:=by rw[<-yw o,<-ae,d];rfl
   rw[c,qbx,this]
theorem Gl.tail{v:AV}{x:AV}(h:Gl 1 H v (n+1) (x::l)):∃w,kL 1 v (some (iN 1)) none none=.val w/\Ev.aF w=.val (iN n)/\(0<n->Gl 1 H w n l)/\(∀b,In w b->In v b):=by
 have y:=h.len;rcases h.is with⟨rfl,r⟩|⟨b,o,e,q,L,rfl,s,z,f,t,u⟩
 ·simp at r
 ·have p:kL 1 (.sl b o (n+1) (n+1) e) (some (iN 1)) none none=iI b o 1 ⟨1,n+1,n+1⟩ e:=by
   show(match bounds (n+1) (n+1) (some (iN 1)) none none with|some bd=>iI b o 1 bd e|none=>R0.bad)=_;rfl
  rw[p];unfold iI;simp only[beq_eq];by_cases m:n=0
  ·subst m;cases e with
   |true=>exact⟨_,rfl,rfl,fun h=>absurd h (xq 0),fun c a=>by obtain⟨g,i,j,k,d⟩:=a;cases d;exact⟨_,_,_,_,rfl⟩⟩
   |false=>exact⟨_,rfl,rfl,fun h=>absurd h (xq 0),fun c a=>by obtain⟨g,i,j,k,d⟩:=a;cases d⟩
  ·have hd:decide (n+1=1)=false:=by simp;exact m
   rw[hd];refine⟨.sl b (o+1) n n e,by show R0.val (.sl b (o+1*1) (n+1-1) (n+1-1) e)=_;rw[iq,zu],rfl,fun _=>⟨?_,.inr ⟨b,o+1,e,q,L,rfl,s,?_,?_,t,u⟩⟩,fun c a=>by obtain⟨g,i,j,k,d⟩:=a;cases d;exact⟨_,_,_,_,rfl⟩⟩
   ·simp_all
   ·have:(L.drop o).length=(x::l).length:=by rw[f]
    rw[xx]at this;simp at this;omega
   ·rw[<-lAB,f];rfl
theorem qwx(l v:List AV)(h:Tr (decide (v.length=l.length))):aY l 0 v=v:=by unfold Tr at h;rw[zy]at h;unfold aY;simp[h]
theorem qd8(z:List AV)(w nm n:Nat)(h:n*w<=1099511627776)(a:n<=1099511627776):qgb z w nm (iN n) (iN n)=.new (.sl nm 0 n n true) (aB 0 (bB z n)):=by show(bif Nat.ble n n&&Nat.ble (Nat.mul n w) fO&&Nat.ble n fO then _ else _)=_;rw[yx (lh n),show Nat.mul n w=n*w from rfl,yx (show n*w<=fO from h),yx (show n<=fO from a)];rfl
theorem qdi(x:AV):∀ n,bB [x] n=List.replicate n x
 |0=>rfl
 |n+1=>by show[x]++bB [x] n=_;rw[qdi x n];rfl
theorem qzi(c:List AV):dF c []=some c:=id rfl
theorem qww(c:List AV)(b a:Nat)(v:AV)(r:List (Nat×Nat×AV)):dF c ((b,a,v)::r)=match zT v with|some l=>(match qox c b a l with|some c'=>dF c' r|none=>none)|none=>none:=id rfl
theorem zdm(k:IntKind)(n:Int):zT (.int k n)=some [.int k n]:=id rfl
theorem q7g(n:Bool):zT (.bool n)=some [.bool n]:=id rfl
theorem zn1(a b c d:Nat)(e:Bool):zT (.sl a b c d e)=some [.sl a b c d e]:=id rfl
theorem q08:zT .aA=some [.aA]:=id rfl
theorem zdn(l:List AV):zT (.agg l)=some l:=id rfl
theorem zcd(c:List AV)(b a:Nat)(v:List AV):qox c b a v=bif Nat.beq v.length a&&Nat.ble (b+a) c.length then some (c.take b++v++c.drop (b+a))else none:=id rfl
theorem z6f(l:List AV):bB l 1=l++[]:=id rfl
theorem z6e(l:List AV):bB l 2=l++(l++[]):=id rfl
theorem z6d(l:List AV):bB l 3=l++(l++(l++[])):=id rfl
attribute [go_sem] qzi qww zdm q7g zn1 q08 zdn zcd z6f z6e z6d ble_eq blt_eq beq_eq ut og lAQ qk6
attribute [go_sem] qwx zkk bD8 z3n z2t aEi aWA aXE aS8 z5i aTK z8z zj1 zb1 zva zoh znk zdc znj zdb zju zbz zkr z3c zuf z8n zm7 z3b zms Bool.and_true Bool.true_and Bool.and_self
theorem mG{c:bO}:Fm No H (aN H c):=(Fm.refl _ _).push _
theorem fP2{c d:bO}:Fm No H (aN (aN H c) d):=mG.push _
theorem fP3{c d e:bO}:Fm No H (aN (aN (aN H c) d) e):=fP2.push _
theorem fP4{c d e f:bO}:Fm No H (aN (aN (aN (aN H c) d) e) f):=fP3.push _
theorem nA{c d:bO}:Fm No H ((aN H c).put H.nx d):=mG.aD _ _ (lh _)
def dn(i A b:Nat)(H:Hp)(p:List Pd)(w:List Wt)(r:R0)(k:AV->Hp->List Pd->List Wt->R1):R1:=dq false false i A (b+i) H p w (fun _=>r) (some true) k
def da(i A b:Nat)(H:Hp)(p:List Pd)(w:List Wt)(r:R0)(k:AV->Hp->List Pd->List Wt->R1):R1:=dq false true i A (b+i) H p w (fun _=>r) (some true) k
def dl(i A b:Nat)(H:Hp)(p:List Pd)(w:List Wt)(f:Hp->R0)(k:AV->Hp->List Pd->List Wt->R1):R1:=dq true false i A (b+i) H p w f (some true) k
theorem aWG(i A b:Nat)(H:Hp)(p:List Pd)(w:List Wt)(r:R0)(k:AV->Hp->List Pd->List Wt->R1):dn i A b H p w r k=vD r false false i A (b+i) H p w (fun _=>r) k:=aEi ..
theorem aWq(i A b:Nat)(H:Hp)(p:List Pd)(w:List Wt)(r:R0)(k:AV->Hp->List Pd->List Wt->R1):da i A b H p w r k=vD r false true i A (b+i) H p w (fun _=>r) k:=aEi ..
theorem aXj(i A b:Nat)(H:Hp)(p:List Pd)(w:List Wt)(f:Hp->R0)(k:AV->Hp->List Pd->List Wt->R1):dl i A b H p w f k=vD (f (eU A p H)) true false i A (b+i) H p w f k:=aEi ..
@[congr] theorem aMb {i a A b : Nat}{H : Hp}{p : List Pd}{w : List Wt}{r : R0}{k : AV -> Hp -> List Pd -> List Wt -> R1}(h : i = a):dn i A b H p w r k = dn a A b H p w r k := by rw [h]
@[congr] theorem aMk {i a A b : Nat}{H : Hp}{p : List Pd}{w : List Wt}{r : R0}{k : AV -> Hp -> List Pd -> List Wt -> R1}(h : i = a):da i A b H p w r k = da a A b H p w r k := by rw [h]
@[congr] theorem aOy {i a A b : Nat}{H : Hp}{p : List Pd}{w : List Wt}{f : Hp -> R0}{k : AV -> Hp -> List Pd -> List Wt -> R1}(h : i = a):dl i A b H p w f k = dl a A b H p w f k := by rw [h]
attribute [go_sem] aWG aWq aXj
def vF(i:Nat)(p:AV)(H:Hp)(k:pB):R1:=vq (aQ i p) H fun a H=>vq (aO H a) H k
theorem aOg(i:Nat)(p:AV)(H:Hp)(k:pB):vF i p H k=vq (aQ i p) H fun a H=>vq (aO H a) H k:=id rfl
@[congr] theorem aLq {i a : Nat}{p : AV}{H : Hp}{k : AV -> Hp -> R1}(h : i = a):vF i p H k = vF a p H k := by rw [h]
def vI(x:AV)(H:Hp)(k:pB):R1:=vq (gU (mM .add).f x (.int .i64 (.ofNat 1))) H k
theorem aLm(x:AV)(H:Hp)(k:pB):vI x H k=vq (gU (mM .add).f x (.int .i64 (.ofNat 1))) H k:=id rfl
@[congr] theorem aKe {x a : AV}{H : Hp}{k : AV -> Hp -> R1}(h : x = a):vI x H k = vI a H k := by rw [h]
attribute [go_sem] aOg aLm
abbrev gD(b:(pB)->pB)(n:Nat):pB:=
 Nat.rec (motive:=fun _=>pB) (fun _ _=>.bad) (fun _ ih=>b ih) n
abbrev nY(b:(AV->pB)->AV->pB)(n:Nat):AV->pB:=
 Nat.rec (motive:=fun _=>AV->pB) (fun _ _ _=>.bad) (fun _ ih=>b ih) n
abbrev lq3(b:(AV->AV->pB)->AV->AV->pB)(n:Nat):AV->AV->pB:=
 Nat.rec (motive:=fun _=>AV->AV->pB) (fun _ _ _ _=>.bad) (fun _ ih=>b ih) n
def wq(r:R0)(k:pB)(H:Hp):R1:=vq r H k
theorem bDi(r:R0)(k:pB)(H:Hp):wq r k H=vq r H k:=id rfl
def wA(n:Nat)(x:AV)(k:pB)(H:Hp):R1:=vq (dQ n H x) H k
theorem bAJ(n:Nat)(x:AV)(k:pB)(H:Hp):wA n x k H=vq (dQ n H x) H k:=id rfl
def w1(x:AV)(k:pB)(H:Hp):R1:=vq (aO H x) H k
theorem aWM(x:AV)(k:pB)(H:Hp):w1 x k H=vq (aO H x) H k:=id rfl
def wB(n:Nat)(x:AV)(k:pB)(H:Hp):R1:=vq (yE n H.nx x) H k
theorem aY1(n:Nat)(x:AV)(k:pB)(H:Hp):wB n x k H=vq (yE n H.nx x) H k:=id rfl
def wN(l:List AV)(k:pB)(H:Hp):R1:=vq (.new (.ptr H.nx 0) (aB 0 l)) H k
theorem aYb(l:List AV)(k:pB)(H:Hp):wN l k H=vq (.new (.ptr H.nx 0) (aB 0 l)) H k:=id rfl
def wQ(n:Nat)(l:Option (List AV))(k:pB)(H:Hp):R1:=vq (tK n H.nx l) H k
theorem aXx(n:Nat)(l:Option (List AV))(k:pB)(H:Hp):wQ n l k H=vq (tK n H.nx l) H k:=id rfl
def wh(r:Hp->R0)(k:pB)(H:Hp):R1:=vq (r H) H k
theorem bEI(r:Hp->R0)(k:pB)(H:Hp):wh r k H=vq (r H) H k:=id rfl
def wF(i:Nat)(p:AV)(k:pB)(H:Hp):R1:=vF i p H k
theorem aT7(i:Nat)(p:AV)(k:pB)(H:Hp):wF i p k H=vF i p H k:=id rfl
def wI(x:AV)(k:pB)(H:Hp):R1:=vI x H k
theorem bEj(x:AV)(k:pB)(H:Hp):wI x k H=vI x H k:=id rfl
def wT(n:Nat)(x y:AV)(k:pD)(H:Hp):R1:=ve (zJ n H x y) fun _ H=>k H
theorem bEz(n:Nat)(x y:AV)(k:pD)(H:Hp):wT n x y k H=ve (zJ n H x y) fun _ H=>k H:=id rfl
def wU(x y:AV)(k:pD)(H:Hp):R1:=ve (jX H x y) fun _ H=>k H
theorem aVp(x y:AV)(k:pD)(H:Hp):wU x y k H=ve (jX H x y) fun _ H=>k H:=id rfl
def wP(z w:Nat)(x y:AV)(k:pB)(H:Hp):R1:=ve (lI z w H x (qA z H y)) k
theorem bCv(z w:Nat)(x y:AV)(k:pB)(H:Hp):wP z w x y k H=ve (lI z w H x (qA z H y)) k:=id rfl
def wc(O:Ev.Call)(f:FuncId)(l:List AV)(k:pB)(H:Hp):R1:=ve (O (.f f) l H) k
theorem bDX(O:Ev.Call)(f:FuncId)(l:List AV)(k:pB)(H:Hp):wc O f l k H=ve (O (.f f) l H) k:=id rfl
def we(r:pD)(k:pB)(H:Hp):R1:=ve (r H) k
theorem bEc(r:pD)(k:pB)(H:Hp):we r k H=ve (r H) k:=id rfl
def wg(g:Option Bool)(r:R0)(k:pB)(H:Hp):R1:=vg g r H k
theorem aZ2(g:Option Bool)(r:R0)(k:pB)(H:Hp):wg g r k H=vg g r H k:=id rfl
def wG(g:Option Bool)(r:Hp->R0)(k:pB)(H:Hp):R1:=vg g (r H) H k
theorem aWJ(g:Option Bool)(r:Hp->R0)(k:pB)(H:Hp):wG g r k H=vg g (r H) H k:=id rfl
def wx(g:Option Bool)(r:pD)(k:pB)(H:Hp):R1:=veg g (r H) H k
theorem bCq(g:Option Bool)(r:pD)(k:pB)(H:Hp):wx g r k H=veg g (r H) H k:=id rfl
def wl(r:R0)(k:pB)(H:Hp):R1:=vl r fun a=>k a H
theorem aWk(r:R0)(k:pB)(H:Hp):wl r k H=vl r fun a=>k a H:=id rfl
def wL(r:Hp->R0)(k:pB)(H:Hp):R1:=vl (r H) fun a=>k a H
theorem bCw(r:Hp->R0)(k:pB)(H:Hp):wL r k H=vl (r H) fun a=>k a H:=id rfl
def wm(g:Option Bool)(r:R0)(k:pB)(H:Hp):R1:=vlg g r fun a=>k a H
theorem bD4(g:Option Bool)(r:R0)(k:pB)(H:Hp):wm g r k H=vlg g r fun a=>k a H:=id rfl
def wM(g:Option Bool)(r:Hp->R0)(k:pB)(H:Hp):R1:=vlg g (r H) fun a=>k a H
theorem bA2(g:Option Bool)(r:Hp->R0)(k:pB)(H:Hp):wM g r k H=vlg g (r H) fun a=>k a H:=id rfl
def wd(x:AV)(a b:pD)(H:Hp):R1:=cd x (a H) (b H)
theorem aS6(x:AV)(a b:pD)(H:Hp):wd x a b H=cd x (a H) (b H):=id rfl
def wz(n:Nat)(k:Nat->Hp->List Pd->List Wt->R1)(H:Hp):R1:=dz n H fun b H=>k b H [] []
theorem bDT(n:Nat)(k:Nat->Hp->List Pd->List Wt->R1)(H:Hp):wz n k H=dz n H fun b H=>k b H [] []:=id rfl
def wy(k:pD)(H:Hp)(p:List Pd)(w:List Wt):R1:=dz2 p H k
theorem bAe(k:pD)(H:Hp)(p:List Pd)(w:List Wt):wy k H p w=dz2 p H k:=id rfl
def wn(i A b:Nat)(r:R0)(k:AV->Hp->List Pd->List Wt->R1)(H:Hp)(p:List Pd)(w:List Wt):R1:=dn i A b H p w r k
theorem aVU(i A b:Nat)(r:R0)(k:AV->Hp->List Pd->List Wt->R1)(H:Hp)(p:List Pd)(w:List Wt):wn i A b r k H p w=dn i A b H p w r k:=id rfl
def wo(i A b:Nat)(r:Hp->R0)(k:AV->Hp->List Pd->List Wt->R1)(H:Hp)(p:List Pd)(w:List Wt):R1:=dl i A b H p w r k
theorem aUt(i A b:Nat)(r:Hp->R0)(k:AV->Hp->List Pd->List Wt->R1)(H:Hp)(p:List Pd)(w:List Wt):wo i A b r k H p w=dl i A b H p w r k:=id rfl
def wa(i A b:Nat)(r:R0)(k:AV->Hp->List Pd->List Wt->R1)(H:Hp)(p:List Pd)(w:List Wt):R1:=da i A b H p w r k
theorem bD5(i A b:Nat)(r:R0)(k:AV->Hp->List Pd->List Wt->R1)(H:Hp)(p:List Pd)(w:List Wt):wa i A b r k H p w=da i A b H p w r k:=id rfl
def wr(i A b:Nat)(r:R0)(g:Option Bool)(k:AV->Hp->List Pd->List Wt->R1)(H:Hp)(p:List Pd)(w:List Wt):R1:=dq false false i A (b+i) H p w (fun _=>r) g k
theorem bCZ(i A b:Nat)(r:R0)(g:Option Bool)(k:AV->Hp->List Pd->List Wt->R1)(H:Hp)(p:List Pd)(w:List Wt):wr i A b r g k H p w=dq false false i A (b+i) H p w (fun _=>r) g k:=id rfl
def ws(i A b:Nat)(r:Hp->R0)(g:Option Bool)(k:AV->Hp->List Pd->List Wt->R1)(H:Hp)(p:List Pd)(w:List Wt):R1:=dq true false i A (b+i) H p w r g k
theorem bB8(i A b:Nat)(r:Hp->R0)(g:Option Bool)(k:AV->Hp->List Pd->List Wt->R1)(H:Hp)(p:List Pd)(w:List Wt):ws i A b r g k H p w=dq true false i A (b+i) H p w r g k:=id rfl
def wt(A:Nat)(r:pD)(g:Option Bool)(k:AV->Hp->List Pd->List Wt->R1)(H:Hp)(p:List Pd)(w:List Wt):R1:=de A H p w (r (eU A p H)) g k
theorem aWB(A:Nat)(r:pD)(g:Option Bool)(k:AV->Hp->List Pd->List Wt->R1)(H:Hp)(p:List Pd)(w:List Wt):wt A r g k H p w=de A H p w (r (eU A p H)) g k:=id rfl
def wu(A:Nat)(r:pD)(k:AV->Hp->List Pd->List Wt->R1)(H:Hp)(p:List Pd)(w:List Wt):R1:=de A H p w (r (eU A p H)) (some true) k
theorem bAF(A:Nat)(r:pD)(k:AV->Hp->List Pd->List Wt->R1)(H:Hp)(p:List Pd)(w:List Wt):wu A r k H p w=de A H p w (r (eU A p H)) (some true) k:=id rfl
def wv(x:AV):Option Bool:=bF true x
theorem aTP(x:AV):wv x=bF true x:=id rfl
def ib(o:BinOp)(x y:AV):R0:=gU (mM o).f x y
theorem bDs(o:BinOp)(x y:AV):ib o x y=gU (mM o).f x y:=id rfl
attribute [go_sem ↓] bDi bAJ aWM aY1 aYb aXx bEI aT7 bEj bEz aVp bCv bDX bEc aZ2 aWJ bCq aWk bCw bD4 bA2 aS6 bDT bAe aVU aUt bD5 bCZ bB8 aWB bAF aTP bDs
end Go.Di
end
