/-
 For countersign/countersignlaw20.FitsAll: functions in direct style, their contracts, and the plain mathematics, part 1 of 10. No conditions beyond those that each theorem states.
-/
import Derived.Test.YtbfjjkjiokfdgaaGreatEv4
import Derived.Handy
import Derived.Attr
set_option linter.unusedSimpArgs false
set_option linter.unusedVariables false
noncomputable section
namespace Go.Di
open Go.Ev
abbrev pD:=AV->Hp->R1
abbrev pH:=Hp->R1
abbrev pL:=AV->Hp->Prop
abbrev iN(n:Nat):AV:=.int .i64 (.ofNat n)
variable {H H':Hp} {S:Nat->Prop} {b k n z:Nat} {l:List AV}
theorem aS(h:n+1<=k):∃ j,k=j+1:=⟨k-1,by omega⟩
theorem blt_eq(a b:Nat):Nat.blt a b=decide (a<b):=by
 cases h:Nat.blt a b with
 |true=>symm;rw[vz];exact zg h
 |false=>symm;rw[xm];intro h';rw[show Nat.blt a b=Nat.ble (a+1) b from rfl,xx h']at h;cases h
theorem ble_eq(a b:Nat):Nat.ble a b=decide (a<=b):=by
 cases h:Nat.ble a b with
 |true=>symm;rw[vz];exact zg h
 |false=>symm;rw[xm];intro h';rw[xx h']at h;cases h
theorem beq_eq(a b:Nat):Nat.beq a b=decide (a=b):=by
 cases h:Nat.beq a b with
 |true=>simp[rf h]
 |false=>symm;rw[xm];rintro rfl;rw[lAW]at h;cases h
/- trees are equal where all their cells are -/
theorem aMA{α:Type}{t u:Q α}(h:∀ k,k<8->qoy k t=qoy k u):t=u:=by cases t;cases u;have h0:=h 0 (by decide);have h1:=h 1 (by decide);have h2:=h 2 (by decide);have h3:=h 3 (by decide);have h4:=h 4 (by decide);have h5:=h 5 (by decide);have h6:=h 6 (by decide);have h7:=h 7 (by decide);simp only[qoy]at h0 h1 h2 h3 h4 h5 h6 h7;simp_all
theorem zxb{α:Type}:∀(d:Nat) {t u:TT α d},(∀i,i<8 ^ d->(dJ d i).f t=(dJ d i).f u)->t=u
 |0,t,u,h=>h 0 (by decide)
 |d+1,t,u,h=>by refine aMA fun k hk=>zxb d fun i hi=>?_;have:=h (i*8+k) (by rw[Nat.pow_succ];omega);rw[qd4,qd4]at this;rwa [show(i*8+k) / 8=i by omega,show(i*8+k)%8=k by omega]at this
/- blocks as lists -/
def cellsOf(l:List AV):TT AV (iO l.length):=nV l 0 (same .undef _)
theorem qcr(l:List AV)(i:Nat)(hi:i<8 ^ iO l.length):(dJ _ i).f (cellsOf l)=l.getD i .undef:=by
 unfold cellsOf;rw[qh8 _ _ _ _ (by simpa using qb3 l.length) hi];by_cases h:i<l.length
 ·simp_all
 ·rw[kz (by omega),qhc];simp_all
def bD(l:List AV)(o:Nat)(v:List AV):List AV:=l.take o++v++l.drop (o+v.length)
theorem qd2(l:List AV)(o:Nat)(v:List AV)(h:o+v.length<=l.length):(bD l o v).length=l.length:=by simp[bD];omega
theorem zrv(l:List AV)(o:Nat)(v:List AV)(h:o+v.length<=l.length)(i:Nat):(bD l o v).getD i .undef=if o<=i/\i<o+v.length then v.getD (i-o) .undef else l.getD i .undef:=by
 unfold bD;simp only[kw];by_cases h1:i<o
 ·rw[kz (by omega),qw,uf (by simp;omega),List.getElem?_take_of_lt h1]
 ·by_cases h2:i<o+v.length
  ·rw[pz (by omega),qw,uC (by simp;omega),uf (by simp;omega)];simp[yg (show o<=l.length by omega)]
  ·rw[kz (by omega),uC (by simp;omega),zf];simp only[lq,qo,yg (show o<=l.length by omega)];congr 2;omega
theorem qg1(z:Nat)(l v:List AV)(o:Nat):wH (aB z l) o v=if o+v.length<=l.length then some (aB z (bD l o v))else none:=by
 show(bif Nat.ble (o+v.length) l.length then some (bO.cells _ _ (nV v o (cellsOf l)) false z)else none)=_;by_cases h:o+v.length<=l.length
 ·rw[pz h,xx h];have hl:=qd2 l o v h;have key:∀(n:Nat) (e:n=l.length) (c:TT AV (iO n)),(∀i,i<8 ^ iO n->(dJ _ i).f c=(bD l o v).getD i .undef)->bO.cells (iO l.length) l.length (nV v o (cellsOf l)) false z=bO.cells (iO n) n c false z:=by
   intro n e c hc;subst e;congr 1;refine zxb _ fun i hi=>?_;have:=qb3 l.length;rw[hc i hi,zrv _ _ _ h,qh8 _ _ _ _ (by omega) hi,qcr _ _ hi]
  exact congrArg some (key _ hl _ fun i hi=>qcr _ _ hi)
 ·rw[kz h];have:Nat.ble (o+v.length) l.length=false:=by
   cases hb:Nat.ble (o+v.length) l.length with
   |false=>rfl
   |true=>exact absurd (zg hb) h
  rw[this];rfl
theorem qb0(z:Nat)(l:List AV)(o:Nat):dK (aB z l) o=match l[o]? with|some v=>.val v|none=>.bad:=by
 show(bif Nat.blt o l.length then R0.val ((dJ _ o).f (cellsOf l))else .bad)=_;by_cases h:o<l.length
 ·have hb:Nat.blt o l.length=true:=by rw[blt_eq];simpa using h
  rw[hb,qcr _ _ (lL h (qb3 _))];simp[h]
 ·have hb:Nat.blt o l.length=false:=by rw[blt_eq];simpa using h
  simp_all
theorem q8d{d:Nat}(c:TT AV d)(l:List AV)(hc:∀ i,i<8 ^ d->(dJ d i).f c=l.getD i .undef):∀(k o:Nat),o+k<=l.length->l.length<=8 ^ d->tF c k o=(l.drop o).take k
 |0,o,_,_=>by simp[zr5]
 |k+1,o,h,h2=>by rw[qv7,hc _ (by omega),q8d c l hc k (o+1) (by omega) h2];rw[ut (show o<l.length by omega),dm];simp[show o<l.length by omega]
theorem qca(z:Nat)(l:List AV)(o k:Nat):eB (aB z l) o k=if o+k<=l.length then some ((l.drop o).take k)else none:=by
 show(bif Nat.ble (o+k) l.length then some (tF (cellsOf l) k o)else none)=_;by_cases h:o+k<=l.length
 ·rw[pz h,xx h,q8d _ l (fun i hi=>qcr l i hi) k o h (qb3 _)];rfl
 ·rw[kz h];have:Nat.ble (o+k) l.length=false:=by
   cases hb:Nat.ble (o+k) l.length with
   |false=>rfl
   |true=>exact absurd (zg hb) h
  rw[this];rfl
theorem zma(z z':Nat)(l:List AV)(e:Nat):qhx (aB z l) e z'=(decide (l.length=e)&&decide (z=z')):=by
 show(Nat.beq l.length e&&Nat.beq z z')=_;have hb:∀ a b,Nat.beq a b=decide (a=b):=fun a b=>by
  cases h:Nat.beq a b with
  |true=>simp[rf h]
  |false=>symm;rw[xm];rintro rfl;rw[lAW]at h;cases h
 rw[hb,hb]
/- memory -/
theorem get_put(H:Hp)(b c:Nat)(k:bO):(H.put b k).get c=if c=b then k else H.get c:=Mem.get_put H.t b c k
theorem dS(H:Hp)(b:Nat)(k:bO):(H.put b k).get b=k:=by rw[get_put,pz rfl]
theorem dG(H:Hp)(b c:Nat)(k:bO)(h:c≠b):(H.put b k).get c=H.get c:=by rw[get_put,kz h]
theorem nq(H:Hp)(b:Nat)(k:bO):(H.put b k).nx=H.nx:=id rfl
theorem qhd(H:Hp)(c:Nat)(k:bO):(aO H k).get c=if c=H.nx then k else H.get c:=Mem.get_put H.t H.nx c k
theorem lC(H:Hp)(k:bO):(aO H k).get H.nx=k:=by rw[qhd,pz rfl]
theorem q5h(H:Hp)(c:Nat)(k:bO)(h:H.nx<=c/\c<=H.nx):(aO H k).get c=k:=by rw[qhd,pz (by omega)]
theorem qbj(H:Hp)(c:Nat)(k:bO)(h:c<H.nx):(aO H k).get c=H.get c:=by rw[qhd,kz (by omega)]
theorem np(H:Hp)(k:bO):(aO H k).nx=H.nx+1:=id rfl
attribute [simp] np nq
structure Fm(S:Nat->Prop)(H H':Hp):Prop where
 nx:H.nx<=H'.nx
 get:∀ b,b<H.nx->¬ S b->H'.get b=H.get b
def No:Nat->Prop:=fun _=>False
theorem Fm.refl(S:Nat->Prop)(H:Hp):Fm S H H:=⟨lg _,fun _ _ _=>rfl⟩
theorem Fm.trans{H H1 H2:Hp}(a:Fm S H H1)(b:Fm S H1 H2):Fm S H H2:=⟨tq a.nx b.nx,fun c hc hs=>(b.get c (lL hc a.nx) hs).trans (a.get c hc hs)⟩
theorem Fm.mono{S T:Nat->Prop}(a:Fm S H H')(h:∀ b,b<H.nx->S b->T b):Fm T H H':=⟨a.nx,fun b hb ht=>a.get b hb fun hs=>ht (h b hb hs)⟩
theorem Fm.push(a:Fm S H H')(k:bO):Fm S H (aO H' k):=⟨Nat.le_succ_of_le a.nx,fun b hb hs=>by rw[qbj _ _ _ (lL hb a.nx)];exact a.get b hb hs⟩
theorem Fm.put(a:Fm S H H')(b:Nat)(k:bO)(h:b<H.nx->S b):Fm S H (H'.put b k):=⟨a.nx,fun c hc hs=>by rw[dG _ _ _ _ (fun e=>hs (by subst e;exact h hc))];exact a.get c hc hs⟩
theorem Fm.aF(a:Fm S H H')(b:Nat)(k:bO)(h:H.nx<=b):Fm S H (H'.put b k):=a.put b k fun hb=>by omega
theorem Fm.keep(a:Fm No H H')(hb:b<H.nx):H'.get b=H.get b:=a.get b hb id
theorem Fm.then{S T:Nat->Prop}{H H1 H2:Hp}(a:Fm S H H1)(b:Fm T H1 H2)(h:∀ c,c<H.nx->T c->S c):Fm S H H2:=
 ⟨tq a.nx b.nx,fun c hc hs=>(b.get c (lL hc a.nx) fun ht=>hs (h c hc ht)).trans (a.get c hc hs)⟩
def Ok(r:R1)(Q:pL):Prop:=∃ v H',r=.ok v H'/\Q v H'
theorem Ok.ret{v:AV}{Q:pL}(h:Q v H):Ok (.ok v H) Q:=⟨v,H,rfl,h⟩
theorem Ok.mono{r:R1}{Q R:pL}(h:Ok r Q)(hm:∀ v H,Q v H->R v H):Ok r R:=by obtain⟨v,H,e,q⟩:=h;exact⟨v,H,e,hm _ _ q⟩
theorem Ok.ve{r:R1}{k:pD}{Q R:pL}(h:Ok r R)(hk:∀ v H,R v H->Ok (k v H) Q):Ok (ve r k) Q:=by obtain⟨v,H,e,q⟩:=h;subst e;exact hk v H q
theorem Ok.de{A:Nat}{p:List Pd}{w:List Wt}{r:R1}{k:AV->Hp->List Pd->List Wt->R1}{Q R:pL}(h:Ok r R)(hk:∀ v H',R v H'->qi8 (qJ A p) H' (qG A w)=true/\Ok (k v H' (qJ A p) (qG A w)) Q):Ok (de A H p w r (some true) k) Q:=by obtain⟨v,H',e,q⟩:=h;subst e;obtain⟨h1,h2⟩:=hk v H' q;rw[zty];unfold de0;simp only[h1,qy];exact h2
/- steps -/
theorem z4s(v:AV)(H:Hp)(k:pD):vq (.val v) H k=k v H:=id rfl
theorem z4t(v:AV)(b:bO)(H:Hp)(k:pD):vq (.new v b) H k=k v (aO H b):=id rfl
theorem aLR(v:AV)(H:Hp)(k:pD):ve (.ok v H) k=k v H:=id rfl
theorem aUJ(r:R0)(H:Hp)(k:pD):vg (some true) r H k=vq r H k:=by rw[z0i];rfl
theorem aVb(r:R0)(H:Hp)(k:pD):vg (some false) r H k=k .undef H:=by rw[z0i];rfl
theorem aOi(r:R1)(H:Hp)(k:pD):veg (some true) r H k=ve r k:=by rw[zir];rfl
theorem aKn(r:R1)(H:Hp)(k:pD):veg (some false) r H k=k .undef H:=by rw[zir];rfl
theorem z4v(v:AV)(k:AV->R1):vl (.val v) k=k v:=id rfl
theorem aMT(r:R0)(k:AV->R1):vlg (some true) r k=vl r k:=by rw[q7i];rfl
theorem aJQ(r:R0)(k:AV->R1):vlg (some false) r k=k .undef:=by rw[q7i];rfl
theorem z0g(a b:Bool):bI a (.bool b)=some (b==a):=id rfl
theorem z0f(a:Bool):bI a .undef=some false:=id rfl
theorem aT1(x y:R1):cd (.bool true) x y=x:=id rfl
theorem aYM(x y:R1):cd (.bool false) x y=y:=id rfl
theorem aMb(up:Nat)(H:Hp)(k:Nat->pH):dz up H k=k H.nx ⟨H.t,H.nx+up⟩:=id rfl
theorem z1i(c:Bool)(a b:AV):eD (.bool c) a b=.val (if c=true then a else b):=by cases c<;>rfl
@[congr] theorem aNA {r r' : R0}{H : Hp}{k : AV -> Hp -> R1}(h : r = r'):vq r H k = vq r' H k := by rw [h]
@[congr] theorem aKV {r r' : R1}{k : AV -> Hp -> R1}(h : r = r'):ve r k = ve r' k := by rw [h]
@[congr] theorem aOR {w w' : Option Bool}{r : R0}{H : Hp}{k : AV -> Hp -> R1}(h : w = w'):vg w r H k = vg w' r H k := by rw [h]
@[congr] theorem z4w {w w' : Option Bool}{r : R1}{H : Hp}{k : AV -> Hp -> R1}(h : w = w'):veg w r H k = veg w' r H k := by rw [h]
@[congr] theorem aMR {r r' : R0}{k : AV -> R1}(h : r = r'):vl r k = vl r' k := by rw [h]
@[congr] theorem z4u {w w' : Option Bool}{r : R0}{k : AV -> R1}(h : w = w'):vlg w r k = vlg w' r k := by rw [h]
@[congr] theorem aOl {x x' : AV}{a b : R1}(h : x = x'):cd x a b = cd x' a b := by rw [h]
@[congr] theorem aMm {u : Nat}{H : Hp}{k : Nat -> Hp -> R1}:dz u H k = dz u H k := rfl
theorem qhh(k:IntKind):vO k k=true:=by cases k<;>rfl
theorem qei(a b:Int):pO a b=decide (a<b):=by cases a<;>cases b<;>simp only[pO,blt_eq]<;>rename_i m n<;>apply lAQ.2<;>simp only[xq,rq,lAY]<;>first|omega|(simp;omega)
theorem qfc(a b:Int):rD a b=decide (a=b):=by cases a<;>cases b<;>simp only[rD,beq_eq]<;>rename_i m n<;>apply lAQ.2<;>simp only[xq,rq,lAY]<;>first|omega|(simp;omega)
theorem qgx(n:Nat)(h:n<9223372036854775808):uS .i64 (.ofNat n)=.ofNat n:=by show(bif Nat.blt n 9223372036854775808 then _ else _)=_;rw[blt_eq,gp h];rfl
theorem z9c(a b:Int):gY (nH .add).f (.int .i64 a) (.int .i64 b)=.val (.int .i64 (uS .i64 (a+b))):=id rfl
theorem z5b(a b:Int):gY (nH .sub).f (.int .i64 a) (.int .i64 b)=.val (.int .i64 (uS .i64 (a-b))):=id rfl
theorem z6q(a b:Int):gY (nH .mul).f (.int .i64 a) (.int .i64 b)=.val (.int .i64 (uS .i64 (a*b))):=id rfl
theorem z9b(a b:Nat)(h:a+b<9223372036854775808):gY (nH .add).f (iN a) (iN b)=.val (iN ((a+b))):=by rw[z9c];exact congrArg (fun x=>R0.val (.int .i64 x)) (qgx (a+b) h)
theorem z5a(a b:Nat)(h:b<=a)(h2:a<9223372036854775808):gY (nH .sub).f (iN a) (iN b)=.val (iN ((a-b))):=by rw[z5b,show(Int.ofNat a-Int.ofNat b)=Int.ofNat (a-b)by simp only[rq];omega,qgx _ (by omega)]
theorem z6p(a b:Nat)(h:a*b<9223372036854775808):gY (nH .mul).f (iN a) (iN b)=.val (iN ((a*b))):=by rw[z6q];exact congrArg (fun x=>R0.val (.int .i64 x)) (qgx (a*b) h)
theorem z5y(a b:Nat)(h:0<b)(h2:a<9223372036854775808):gY (nH .quo).f (iN a) (iN b)=.val (iN ((a / b))):=by
 have hz:rD (.ofNat b) 0=false:=by rw[qfc];simp;omega
 show(bif rD (.ofNat b) 0 then R0.bad else .val (.int .i64 (uS .i64 ((Int.ofNat a).tdiv (Int.ofNat b)))))=_;rw[hz];exact congrArg (fun x=>R0.val (.int .i64 x)) (qgx (a / b) (lAS (Nat.div_le_self _ _) h2))
theorem z5s(a b:Nat)(h:0<b):gY (nH .rem).f (iN a) (iN b)=.val (iN ((a%b))):=by
 have hz:rD (.ofNat b) 0=false:=by rw[qfc];simp;omega
 show(bif rD (.ofNat b) 0 then R0.bad else .val (.int .i64 ((Int.ofNat a).tmod (Int.ofNat b))))=_;rw[hz];rfl
theorem z5r(a b:Nat)(h:0<b):gY (nH .rem).f (.int .u8 (.ofNat a)) (.int .u8 (.ofNat b))=.val (.int .u8 (.ofNat (a%b))):=by
 have hz:rD (.ofNat b) 0=false:=by rw[qfc];simp;omega
 show(bif rD (.ofNat b) 0 then R0.bad else .val (.int .u8 ((Int.ofNat a).tmod (Int.ofNat b))))=_;rw[hz];rfl
theorem z6w(k:IntKind)(a b:Int):gY (nH .lss).f (.int k a) (.int k b)=.val (.bool (decide (a<b))):=by show(bif vO k k then R0.val (.bool (pO a b))else .bad)=_;rw[qhh,qei];rfl
theorem z7d(k:IntKind)(a b:Int):gY (nH .leq).f (.int k a) (.int k b)=.val (.bool (decide (a<=b))):=by show(bif vO k k then R0.val (.bool (!pO b a))else .bad)=_;rw[qhh,qei,<-decide_not];simp only[qy];congr 2;simp only[Int.not_lt]
theorem z7q(k:IntKind)(a b:Int):gY (nH .gtr).f (.int k a) (.int k b)=.val (.bool (decide (b<a))):=by show(bif vO k k then R0.val (.bool (pO b a))else .bad)=_;rw[qhh,qei];rfl
theorem z7s(k:IntKind)(a b:Int):gY (nH .geq).f (.int k a) (.int k b)=.val (.bool (decide (b<=a))):=by show(bif vO k k then R0.val (.bool (!pO a b))else .bad)=_;rw[qhh,qei,<-decide_not];simp only[qy];congr 2;simp only[Int.not_lt]
theorem z8c(k:IntKind)(a b:Int):gY (nH .eql).f (.int k a) (.int k b)=.val (.bool (decide (a=b))):=by show(bif vO k k then R0.val (.bool (rD a b))else .bad)=_;rw[qhh,qfc];rfl
theorem z6o(k:IntKind)(a b:Int):gY (nH .neq).f (.int k a) (.int k b)=.val (.bool (!decide (a=b))):=by show(bif vO k k then R0.val (.bool (!rD a b))else .bad)=_;rw[qhh,qfc];rfl
theorem aMx(b:Bool):(l8 .not).f (.bool b)=.val (.bool !b):=id rfl
/- numbers -/
theorem zsn(a b:Nat):(Int.ofNat a<Int.ofNat b)=(a<b):=by simp
theorem zso(a b:Nat):(Int.ofNat a<=Int.ofNat b)=(a<=b):=by simp
theorem q8q(a b:Nat):(Int.ofNat a=Int.ofNat b)=(a=b):=by simp only[rq,eq_iff_iff];omega
theorem za9(a b:Nat):(Int.negSucc a<Int.ofNat b)=True:=by simp only[lAY,rq,eq_iff_iff,iff_true];omega
theorem zbc(a b:Nat):(Int.ofNat a<Int.negSucc b)=False:=by simp only[lAY,rq,eq_iff_iff,iff_false];omega
theorem zba(a b:Nat):(Int.negSucc a<=Int.ofNat b)=True:=by simp only[lAY,rq,eq_iff_iff,iff_true];omega
theorem zbd(a b:Nat):(Int.ofNat a<=Int.negSucc b)=False:=by simp only[lAY,rq,eq_iff_iff,iff_false];omega
theorem zbb(a b:Nat):(Int.negSucc a=Int.ofNat b)=False:=by simp
theorem zbe(a b:Nat):(Int.ofNat a=Int.negSucc b)=False:=by simp
/- memory -/
theorem z1z(H:Hp)(b o:Nat):aT H (.ptr b o)=dK (H.get b) o:=id rfl
theorem z1y(k:Nat)(H:Hp)(b o:Nat):dD k H (.ptr b o)=aCI (eB (H.get b) o k):=id rfl
theorem znb(l:List AV):aCI (some l)=.val (.agg l):=id rfl
theorem znc(l:List AV):bR (some l)=.val (.agg l):=id rfl
theorem z5w(v:AV):rV (.val v)=some v:=id rfl
theorem zly(v:AV)(H:Hp):fJ (some v) H=.ok v H:=id rfl
theorem qch(H:Hp)(b o:Nat)(v:List AV)(r:AV)(z:Nat)(l:List AV)(hb:H.get b=aB z l)(h:o+v.length<=l.length):storeAt H b o v r=.ok r (H.put b (aB z (bD l o v))):=by unfold storeAt;rw[hb,qg1,pz h]
theorem zai(H:Hp)(b o:Nat)(v:List AV)(r:AV):storeAt H b o v r=(match wH (H.get b) o v with|some blk=>.ok r (H.put b blk)|none=>.bad):=id rfl
theorem zam(H:Hp)(b o:Nat)(k:IntKind)(n:Int):kL H (.ptr b o) (.int k n)=storeAt H b o [.int k n] .undef:=id rfl
theorem q4i(H:Hp)(b o:Nat)(n:Bool):kL H (.ptr b o) (.bool n)=storeAt H b o [.bool n] .undef:=id rfl
theorem ziy(H:Hp)(b o:Nat)(b' o' l c:Nat)(e:Bool):kL H (.ptr b o) (.sl b' o' l c e)=storeAt H b o [.sl b' o' l c e] .undef:=id rfl
theorem qx8(H:Hp)(b o:Nat):kL H (.ptr b o) .aA=storeAt H b o [.aA] .undef:=id rfl
theorem q7o(k:Nat)(H:Hp)(b o:Nat)(l:List AV):xV k H (.ptr b o) (.agg l)=bif Nat.beq l.length k then storeAt H b o l .undef else .bad:=id rfl
theorem z8w(k nm:Nat)(l:List AV):pK k nm (.agg l)=bif Nat.beq l.length k then .new (.ptr nm 0) (aB 0 l)else .bad:=id rfl
theorem zt7(nm:Nat)(k:IntKind)(n:Int):jT nm (.int k n)=.new (.ptr nm 0) (aB 0 [.int k n]):=id rfl
theorem z3h(nm:Nat)(b' o' l c:Nat)(e:Bool):jT nm (.sl b' o' l c e)=.new (.ptr nm 0) (aB 0 [.sl b' o' l c e]):=id rfl
theorem zb9(nm:Nat):jT nm .aA=.new (.ptr nm 0) (aB 0 [.aA]):=id rfl
theorem ztj(off b o:Nat):aP off (.ptr b o)=.val (.ptr b (o+off)):=id rfl
theorem z6m(b o:Nat):aY (.ptr b o)=.val (.ptr b o):=id rfl
theorem sV(z b o n c:Nat)(e:Bool)(k:IntKind)(i:Nat)(h:i<n):aH z (.sl b o n c e) (.int k (.ofNat i))=.val (.ptr b (o+i*z)):=by show(bif Nat.blt i n then _ else _)=_;rw[blt_eq,gp h];rfl
theorem z7n(n z b o:Nat)(k:IntKind)(i:Nat)(h:i<n):fQ n z (.ptr b o) (.int k (.ofNat i))=.val (.ptr b (o+i*z)):=by show(bif Nat.blt i n then _ else _)=_;rw[blt_eq,gp h];rfl
theorem zs3(b o n c:Nat)(e:Bool):aD (.sl b o n c e)=.val (iN n):=id rfl
theorem zk9:aD .aA=.val (iN 0):=id rfl
theorem z11:aD .sle=.val (iN 0):=id rfl
theorem z3f(b o n c:Nat):gW (.sl b o n c true)=.val (iN c):=id rfl
theorem zt4:gW .aA=.val (iN 0):=id rfl
theorem z7z(i:Nat)(l:List AV):bT i (.aX l)=(match l[i]? with|some v=>.val v|none=>.bad):=id rfl
theorem za8(n nm:Nat)(l:List AV):sZ n nm (some l)=.new (.sl nm 0 n n true) (aB 0 l):=id rfl
attribute [go_sem] z4s z4t aLR aUJ aVb aOi aKn z4v aMT aJQ z0g z0f aT1 aYM aMb z1i
 z9b z5a z6p z5y z5s z5r z6w z7d z7q z7s z8c z6o aMx
 zsn zso q8q za9 zbc zba zbd zbb zbe
 z1z z1y znb znc z5w zly zam q4i ziy qx8 q7o z8w zt7 z3h zb9 ztj z6m sV z7n
 zs3 zk9 z11 z3f zt4 z7z za8 qb0 qca qg1 zai
 dS q5h qbj dG nq np
 beq_self_eq_true Bool.true_beq Bool.false_beq beq_true beq_false Bool.not_true Bool.not_false xe Bool.not_eq_false' decide_true decide_false xq xm aj
 ik lA4 ite_self qf xy qj lAL qy zh reduceCtorEq not_false_eq_true not_true_eq_false
 dm dE oq List.drop_succ_cons lAP yu pg uo qc xw
def vD(r:R0)(lk al:Bool)(i A nm:Nat)(H:Hp)(p:List Pd)(w:List Wt)(f:Hp->R0)(k:AV->Hp->List Pd->List Wt->R1):R1:=
 match r with
  | .bad=>.bad
  | .val v=>k v H p (bif lk then⟨i,A,f,v⟩::w else w)
  | .new v b=>bif al&&b.wr then k v H (⟨i,nm,b⟩::p) w else .bad
theorem aD2(lk al:Bool)(i A nm:Nat)(H:Hp)(p:List Pd)(w:List Wt)(f:Hp->R0)(k:AV->Hp->List Pd->List Wt->R1):dq lk al i A nm H p w f (some true) k=vD (f (eP A p H)) lk al i A nm H p w f k:=by rw[ztx];rfl
theorem aWB(lk al:Bool)(i A nm:Nat)(H:Hp)(p:List Pd)(w:List Wt)(f:Hp->R0)(k:AV->Hp->List Pd->List Wt->R1):dq lk al i A nm H p w f (some false) k=k .undef H p w:=by rw[ztx];rfl
@[congr] theorem aLQ {lk al : Bool}{i A nm : Nat}{H : Hp}{p : List Pd}{w : List Wt}{f : Hp -> R0}{g g' : Option Bool}{k : AV -> Hp -> List Pd -> List Wt -> R1}(h : g = g'):dq lk al i A nm H p w f g k = dq lk al i A nm H p w f g' k := by rw [h]
@[congr] theorem aL8 {r r' : R0}{lk al : Bool}{i A nm : Nat}{H : Hp}{p : List Pd}{w : List Wt}{f : Hp -> R0}{k : AV -> Hp -> List Pd -> List Wt -> R1}(h : r = r'):vD r lk al i A nm H p w f k = vD r' lk al i A nm H p w f k := by rw [h]
@[congr] theorem aON {A : Nat}{H : Hp}{p : List Pd}{w : List Wt}{r r' : R1}{g g' : Option Bool}{k : AV -> Hp -> List Pd -> List Wt -> R1}(h : g = g')(hr : r = r'):de A H p w r g k = de A H p w r' g' k := by rw [h, hr]
theorem aXN(v:AV)(al:Bool)(i A nm:Nat)(H:Hp)(p:List Pd)(w:List Wt)(f:Hp->R0)(k:AV->Hp->List Pd->List Wt->R1):vD (.val v) false al i A nm H p w f k=k v H p w:=id rfl
theorem aSW(v:AV)(al:Bool)(i A nm:Nat)(H:Hp)(p:List Pd)(w:List Wt)(f:Hp->R0)(k:AV->Hp->List Pd->List Wt->R1):vD (.val v) true al i A nm H p w f k=k v H p (⟨i,A,f,v⟩::w):=id rfl
theorem z4x(v:AV)(z:Nat)(l:List AV)(lk:Bool)(i A nm:Nat)(H:Hp)(p:List Pd)(w:List Wt)(f:Hp->R0)(k:AV->Hp->List Pd->List Wt->R1):vD (.new v (aB z l)) lk true i A nm H p w f k=k v H (⟨i,nm,aB z l⟩::p) w:=id rfl
theorem aTy(A:Nat)(H:Hp)(p:List Pd)(w:List Wt)(r:R1)(k:AV->Hp->List Pd->List Wt->R1):de A H p w r (some false) k=k .undef H p w:=by rw[zty];rfl
def vE(c:Bool)(r:R1):R1:=bif c then r else .bad
@[congr] theorem aNR {c c' : Bool}{r : R1}(h : c = c'):vE c r = vE c' r := by rw [h]
theorem bEM(r:R1):vE true r=r:=id rfl
theorem z2s(A:Nat)(H:Hp)(p:List Pd)(w:List Wt)(v:AV)(H':Hp)(k:AV->Hp->List Pd->List Wt->R1):de A H p w (.ok v H') (some true) k=vE (qi8 (qJ A p) H' (qG A w)) (k v H' (qJ A p) (qG A w)):=by rw[zty];rfl
theorem z2a(m i:Nat):hasB m i=decide ((m >>> i) &&& 1=1):=beq_eq _ _
theorem z8n(p:List Pd)(H:Hp)(k:pH):zQ p H k=k (nQ p H):=id rfl
theorem bCy(H:Hp)(k:Nat->pH):dz 0 H k=k H.nx H:=id rfl
attribute [go_sem] bCy
theorem ziq(A:Nat)(H:Hp):eP A [] H=H:=id rfl
theorem zae(A:Nat)(x:Pd)(p:List Pd)(H:Hp):eP A (x::p) H=bif hasB A x.i then(eP A p H).put x.nm x.b else eP A p H:=by rfl
theorem zuj(H:Hp):nQ [] H=H:=id rfl
theorem zna(x:Pd)(p:List Pd)(H:Hp):nQ (x::p) H=(nQ p H).put x.nm x.b:=id rfl
theorem zmk(A:Nat):qJ A []=[]:=id rfl
theorem zbu(A:Nat)(x:Pd)(p:List Pd):qJ A (x::p)=bif hasB A x.i then qJ A p else x::qJ A p:=id rfl
theorem zmj(A:Nat):qG A []=[]:=id rfl
theorem zbt(A:Nat)(x:Wt)(p:List Wt):qG A (x::p)=bif hasB A x.i then qG A p else x::qG A p:=id rfl
theorem zil(p:List Pd)(H:Hp):qi8 p H []=true:=id rfl
theorem zad(p:List Pd)(H:Hp)(x:Wt)(w:List Wt):qi8 p H (x::w)=(zjg (x.f (eP x.A p H)) x.v&&qi8 p H w):=id rfl
theorem zjf(u v:AV):zjg (.val u) v=pN 64 u v:=id rfl
def xO:AV->Bool
 | .undef| .cK| .aA| .sle| .dV| .jH| .oM=>true
 | .bool _| .int _ _| .str _ _| .ptr _ _| .sl .. | .map _| .yield _=>true
 |_=>false
theorem qck{v:AV}(h:xO v=true)(k:Nat):pN (k+1) v v=true:=by cases v<;>first|(cases h;done)|(simp[pN,beq_eq];done)
theorem qzz:∀(l:List AV) (k:Nat),l.all xO=true->l.length<k->qU (k+1) l l=true
 | [],k,_,_=>by simp[qU]
 |x::l,0,_,h=>by simp at h
 |x::l,k+1,ha,h=>by rw[lE5,pq]at ha;rw[qU,qck ha.1,qzz l k ha.2 (by simpa using h)];rfl
theorem z2j(k:IntKind)(n:Int):pN 64 (.int k n) (.int k n)=true:=qck (v:=.int k n) rfl 63
theorem ztq(b:Bool):pN 64 (.bool b) (.bool b)=true:=qck (v:=.bool b) rfl 63
theorem z8d(a b c d:Nat)(e:Bool):pN 64 (.sl a b c d e) (.sl a b c d e)=true:=qck (v:=.sl a b c d e) rfl 63
theorem zl7:pN 64 .aA .aA=true:=qck (v:=.aA) rfl 63
theorem z2i(a b:Nat):pN 64 (.ptr a b) (.ptr a b)=true:=qck (v:=.ptr a b) rfl 63
def Tr(b:Bool):Prop:=b=true
theorem ti{b:Bool}(h:b=true):Tr b:=h
@[simp] theorem bTB {b : Bool}:Tr b = (b = true) := rfl
attribute [simp] xO
theorem qk1(l:List AV)(h:Tr (l.all xO&&decide (l.length<62))):pN 64 (.agg l) (.agg l)=true:=by unfold Tr at h;rw[pq,vz]at h;exact qzz l 62 h.1 h.2
theorem zln(H:Hp)(n c:Nat):(Hp.mk H.t n).get c=H.get c:=id rfl
theorem Fm.up(a:Fm S H H')(k:Nat):Fm S H ⟨H'.t,H'.nx+k⟩:=⟨by have:=a.nx;show H.nx<=H'.nx+k;omega,fun b hb hs=>a.get b hb hs⟩
theorem Fm.lF(a:Fm S H H')(h:H.nx<=n):Fm S H ⟨H'.t,n⟩:=⟨h,fun b hb hs=>a.get b hb hs⟩
theorem Ok.deE{A:Nat}{p:List Pd}{w:List Wt}{r:R1}{k:AV->Hp->List Pd->List Wt->R1}{Q:pL}{v:AV}(h:r=.ok v H')(hk:Ok (vE (qi8 (qJ A p) H' (qG A w)) (k v H' (qJ A p) (qG A w))) Q):Ok (Di.de A H p w r (some true) k) Q:=by rw[h,z2s];exact hk
theorem Ok.veE{r:R1}{k:pD}{Q:pL}{v:AV}(h:r=.ok v H')(hk:Ok (k v H') Q):Ok (Di.ve r k) Q:=by rw[h];exact hk
theorem Ok.mI{A:Nat}{p:List Pd}{w:List Wt}{r:R1}{k:AV->Hp->List Pd->List Wt->R1}{Q R:pL}(h:Ok r R)(hk:∀ v H',R v H'->Ok (vE (qi8 (qJ A p) H' (qG A w)) (k v H' (qJ A p) (qG A w))) Q):Ok (Di.de A H p w r (some true) k) Q:=by obtain⟨v,H',e,q⟩:=h;rw[e,z2s];exact hk v H' q
def In(v:AV)(b:Nat):Prop:=∃ o n m e,v=.sl b o n m e
structure Gl(z:Nat)(H:Hp)(v:AV)(n:Nat)(l:List AV):Prop where
 len:l.length=n*z
 is:(v=.aA/\n=0)\/∃ b o e q L,v=.sl b o n n e/\H.get b=aB q L/\o<=L.length/\L.drop o=l/\(e=true\/q=z)/\b<H.nx
theorem Gl.nil(z:Nat)(H:Hp):Gl z H .aA 0 []:=⟨by simp,.inl ⟨rfl,rfl⟩⟩
theorem Gl.cO{v:AV}(h:Gl z H v n l):aD v=.val (iN n):=by rcases h.is with⟨rfl,rfl⟩|⟨b,o,e,q,L,rfl,_⟩<;>rfl
theorem Gl.keep{v:AV}(h:Gl z H v n l)(hn:H.nx<=H'.nx)(hk:∀ b,In v b->b<H.nx->H'.get b=H.get b):Gl z H' v n l:=by
 refine⟨h.len,?_⟩;rcases h.is with⟨rfl,rfl⟩|⟨b,o,e,q,L,rfl,h1,h2,h3,h4,h5⟩
 ·simp
 ·exact .inr ⟨b,o,e,q,L,rfl,(hk b ⟨_,_,_,_,rfl⟩ h5).trans h1,h2,h3,h4,lL h5 hn⟩
theorem Gl.fm{v:AV}(h:Gl z H v n l)(a:Fm S H H')(hs:∀ b,In v b->¬ S b):Gl z H' v n l:=
 h.keep a.nx fun b hb hl=>a.get b hl (hs b hb)
theorem Gl.no{v:AV}(h:Gl z H v n l)(a:Fm No H H'):Gl z H' v n l:=h.fm a fun _ _ h=>h
theorem Gl.append{z w n k:Nat}{v:AV}{l x:List AV}(h:Gl z H v n l)(hk:0<k)(hx:x.length=k*z)(hb:(n+k)*w<=1099511627776)(hb2:n+k<=1099511627776):∃H',j5 z w H v (some ⟨k,x⟩)=.ok (.sl H.nx 0 (n+k) (n+k) false) H'/\Gl z H' (.sl H.nx 0 (n+k) (n+k) false) (n+k) (l++x)/\H'.get H.nx=aB z (l++x)/\Fm (In v) H H'/\H'.nx=H.nx+1:=by
 have hlen:(l++x).length=(n+k)*z:=by rw[lq,h.len,hx,xh]
 have fin:∀ H1:Hp,H1.nx=H.nx->Fm (In v) H H1->j5 z w H v (some ⟨k,x⟩)=.ok (.sl H1.nx 0 (n+k) (n+k) false) (aO H1 (aB z (l++x))) ->
   ∃H',j5 z w H v (some ⟨k,x⟩)=.ok (.sl H.nx 0 (n+k) (n+k) false) H'/\Gl z H' (.sl H.nx 0 (n+k) (n+k) false) (n+k) (l++x)/\H'.get H.nx=aB z (l++x)/\Fm (In v) H H'/\H'.nx=H.nx+1:=by
  intro H1 e1 f1 e2;refine⟨_,by rw[e2,e1],⟨hlen,.inr ⟨_,_,_,z,l++x,rfl,by rw[<-e1,lC],gq _,oq,.inr rfl,by rw[np,e1];omega⟩⟩,by rw[<-e1,lC],f1.push _,by rw[np,e1]⟩
 have bk:Nat.ble ((n+k)*w) gH=true:=xx hb;have bk2:Nat.ble (n+k) gH=true:=xx hb2;rcases h.is with⟨rfl,rfl⟩|⟨b,o,e,q,L,rfl,h1,h2,h3,h4,h5⟩
 ·have:l=[]:=ry.1 (by rw[h.len];simp);subst this;refine fin H rfl (Fm.refl _ _) ?_;show(bif Nat.beq k 0 then _ else bif Nat.ble (Nat.mul k w) gH&&Nat.ble k gH then _ else _)=_;rw[beq_eq,qi (by omega)];rw[qf]at bk bk2;show(bif Nat.ble (k*w) gH&&Nat.ble k gH then _ else _)=_;rw[bk,bk2,qf];rfl
 ·have e0:Nat.ble (n+k) n=false:=by rw[ble_eq,qi (by omega)]
  have hd:o+n*z=L.length:=by have:=h.len;rw[<-h3,xg]at this;omega
  have rd:eB (H.get b) o (Nat.mul n z)=some l:=by rw[h1,qca,pz (by show o+n*z<=_;omega),h3,tu (by rw[h.len];exact lg _)]
  have main:∀(e:Bool) (H1:Hp),H1=(bif e then H else H.put b .dead)->(e=true\/q=z)->j5 z w H (.sl b o n n e) (some ⟨k,x⟩)=.ok (.sl H1.nx 0 (n+k) (n+k) false) (aO H1 (aB z (l++x))):=by
   intro e H1 eH h4;show(bif Nat.ble (n+k) n then _ else bif Nat.ble (Nat.mul (n+k) w) gH&&Nat.ble (n+k) gH then(match eB (H.get b) o (Nat.mul n z)with|none=>R1.bad|some old=>bif e then _ else bif qhx (H.get b) (o+n*z) z then _ else _)else R1.bad)=_;rw[e0,show Nat.mul (n+k) w=(n+k)*w from rfl,bk,bk2,rd];subst eH;cases e with
   |true=>rfl
   |false=>
    rcases h4 with h4|h4
    ·cases h4
    ·have:qhx (H.get b) (o+n*z) z=true:=by rw[h1,zma];simp[hd,h4]
     simp only[zh,qy,Bool.and_self,this];rfl
  refine fin (bif e then H else H.put b .dead) (by cases e<;>rfl) ?_ (main e _ rfl h4);cases e with
  |true=>exact Fm.refl _ _
  |false=>exact(Fm.refl _ _).put b _ fun _=>⟨_,_,_,_,rfl⟩
theorem qyc(z:Nat)(H:Hp)(b o n m:Nat)(e:Bool):oQ z H (.sl b o n m e)=(match eB (H.get b) o (n*z)with|some l=>some ⟨n,l⟩|none=>none):=id rfl
theorem Gl.head{v:AV}{x:AV}(h:Gl 1 H v n (x::l)):∃ b o,aH 1 v (iN 0)=.val (.ptr b o)/\b<H.nx/\In v b/\dK (H.get b) o=.val x:=by
 have hl:=h.len;rcases h.is with⟨rfl,rfl⟩|⟨b,o,e,q,L,rfl,h1,h2,h3,h4,h5⟩
 ·simp at hl
 ·refine⟨b,o,?_,h5,⟨_,_,_,_,rfl⟩,?_⟩
  ·rw[sV _ _ _ _ _ _ _ _ (by simp at hl;omega),lAL,xy]
  ·have:L[o]? =some x:=by rw[<-xy o,<-zf,h3];rfl
   rw[h1,qb0,this]
theorem Gl.tail{v:AV}{x:AV}(h:Gl 1 H v (n+1) (x::l)):∃w,kM 1 v (some (iN 1)) none none=.val w/\Ev.aD w=.val (iN n)/\(0<n->Gl 1 H w n l)/\(∀b,In w b->In v b):=by
 have hl:=h.len;rcases h.is with⟨rfl,h0⟩|⟨b,o,e,q,L,rfl,h1,h2,h3,h4,h5⟩
 ·simp at h0
 ·have e1:kM 1 (.sl b o (n+1) (n+1) e) (some (iN 1)) none none=iD b o 1 ⟨1,n+1,n+1⟩ e:=by
   show(match bounds (n+1) (n+1) (some (iN 1)) none none with|some bd=>iD b o 1 bd e|none=>R0.bad)=_;rfl
  rw[e1];unfold iD;simp only[beq_eq];by_cases hn:n=0
  ·subst hn;cases e with
   |true=>exact⟨_,rfl,rfl,fun h=>absurd h (xn 0),fun c hc=>by obtain⟨o',n',m',e',h'⟩:=hc;cases h';exact⟨_,_,_,_,rfl⟩⟩
   |false=>exact⟨_,rfl,rfl,fun h=>absurd h (xn 0),fun c hc=>by obtain⟨o',n',m',e',h'⟩:=hc;cases h'⟩
  ·have hd:decide (n+1=1)=false:=by simp;exact hn
   rw[hd];refine⟨.sl b (o+1) n n e,by show R0.val (.sl b (o+1*1) (n+1-1) (n+1-1) e)=_;rw[lA6,au],rfl,fun _=>⟨?_,.inr ⟨b,o+1,e,q,L,rfl,h1,?_,?_,h4,h5⟩⟩,fun c hc=>by obtain⟨o',n',m',e',h'⟩:=hc;cases h';exact⟨_,_,_,_,rfl⟩⟩
   ·simp_all
   ·have:(L.drop o).length=(x::l).length:=by rw[h3]
    rw[xg]at this;simp at this;omega
   ·rw[<-lAI,h3];rfl
theorem zrw(l v:List AV)(h:Tr (decide (v.length=l.length))):bD l 0 v=v:=by unfold Tr at h;rw[vz]at h;unfold bD;simp[h]
theorem qgn(z:List AV)(w nm n:Nat)(h:n*w<=1099511627776)(h2:n<=1099511627776):qjs z w nm (iN n) (iN n)=.new (.sl nm 0 n n true) (aB 0 (aV z n)):=by show(bif Nat.ble n n&&Nat.ble (Nat.mul n w) gH&&Nat.ble n gH then _ else _)=_;rw[xx (lg n),show Nat.mul n w=n*w from rfl,xx (show n*w<=gH from h),xx (show n<=gH from h2)];rfl
theorem qeg(x:AV):∀ n,aV [x] n=List.replicate n x
 |0=>rfl
 |n+1=>by show[x]++aV [x] n=_;rw[qeg x n];rfl
theorem qyj(c:List AV):bK c []=some c:=id rfl
theorem qvy(c:List AV)(off size:Nat)(v:AV)(r:List (Nat×Nat×AV)):bK c ((off,size,v)::r)=match yS v with|some l=>(match qok c off size l with|some c'=>bK c' r|none=>none)|none=>none:=id rfl
theorem zb4(k:IntKind)(n:Int):yS (.int k n)=some [.int k n]:=id rfl
theorem q50(n:Bool):yS (.bool n)=some [.bool n]:=id rfl
theorem zmz(a b c d:Nat)(e:Bool):yS (.sl a b c d e)=some [.sl a b c d e]:=id rfl
theorem qz3:yS .aA=some [.aA]:=id rfl
theorem zb5(l:List AV):yS (.agg l)=some l:=id rfl
theorem zat(c:List AV)(off size:Nat)(v:List AV):qok c off size v=bif Nat.beq v.length size&&Nat.ble (off+size) c.length then some (c.take off++v++c.drop (off+size))else none:=id rfl
theorem z5q(l:List AV):aV l 1=l++[]:=id rfl
theorem z5p(l:List AV):aV l 2=l++(l++[]):=id rfl
theorem z5o(l:List AV):aV l 3=l++(l++(l++[])):=id rfl
attribute [go_sem] qyj qvy zb4 q50 zmz qz3 zb5 zat z5q z5p z5o ble_eq blt_eq beq_eq uh ae nz qk1
attribute [go_sem] zrw qyc bEM z2s z2a aD2 aWB aXN aSW z4x aTy z8n ziq zae zuj zna zmk zbu zmj zbt zil zad zjf z2j ztq z8d zl7 z2i zln Bool.and_true Bool.true_and Bool.and_self
theorem jY{c:bO}:Fm No H (aO H c):=(Fm.refl _ _).push _
theorem pU{c d:bO}:Fm No H (aO (aO H c) d):=jY.push _
theorem fP3{c d e:bO}:Fm No H (aO (aO (aO H c) d) e):=pU.push _
theorem fP4{c d e f:bO}:Fm No H (aO (aO (aO (aO H c) d) e) f):=fP3.push _
theorem oJ{c d:bO}:Fm No H ((aO H c).put H.nx d):=jY.aF _ _ (lg _)
def dn(i A b:Nat)(H:Hp)(p:List Pd)(w:List Wt)(r:R0)(k:AV->Hp->List Pd->List Wt->R1):R1:=dq false false i A (b+i) H p w (fun _=>r) (some true) k
def da(i A b:Nat)(H:Hp)(p:List Pd)(w:List Wt)(r:R0)(k:AV->Hp->List Pd->List Wt->R1):R1:=dq false true i A (b+i) H p w (fun _=>r) (some true) k
def dl(i A b:Nat)(H:Hp)(p:List Pd)(w:List Wt)(f:Hp->R0)(k:AV->Hp->List Pd->List Wt->R1):R1:=dq true false i A (b+i) H p w f (some true) k
theorem aWJ(i A b:Nat)(H:Hp)(p:List Pd)(w:List Wt)(r:R0)(k:AV->Hp->List Pd->List Wt->R1):dn i A b H p w r k=vD r false false i A (b+i) H p w (fun _=>r) k:=aD2 ..
theorem aWo(i A b:Nat)(H:Hp)(p:List Pd)(w:List Wt)(r:R0)(k:AV->Hp->List Pd->List Wt->R1):da i A b H p w r k=vD r false true i A (b+i) H p w (fun _=>r) k:=aD2 ..
theorem aXo(i A b:Nat)(H:Hp)(p:List Pd)(w:List Wt)(f:Hp->R0)(k:AV->Hp->List Pd->List Wt->R1):dl i A b H p w f k=vD (f (eP A p H)) true false i A (b+i) H p w f k:=aD2 ..
@[congr] theorem aL6 {i i' A b : Nat}{H : Hp}{p : List Pd}{w : List Wt}{r : R0}{k : AV -> Hp -> List Pd -> List Wt -> R1}(h : i = i'):dn i A b H p w r k = dn i' A b H p w r k := by rw [h]
@[congr] theorem aMh {i i' A b : Nat}{H : Hp}{p : List Pd}{w : List Wt}{r : R0}{k : AV -> Hp -> List Pd -> List Wt -> R1}(h : i = i'):da i A b H p w r k = da i' A b H p w r k := by rw [h]
@[congr] theorem aOV {i i' A b : Nat}{H : Hp}{p : List Pd}{w : List Wt}{f : Hp -> R0}{k : AV -> Hp -> List Pd -> List Wt -> R1}(h : i = i'):dl i A b H p w f k = dl i' A b H p w f k := by rw [h]
attribute [go_sem] aWJ aWo aXo
def vF(i:Nat)(p:AV)(H:Hp)(k:pD):R1:=vq (aP i p) H fun a H=>vq (aT H a) H k
theorem aOw(i:Nat)(p:AV)(H:Hp)(k:pD):vF i p H k=vq (aP i p) H fun a H=>vq (aT H a) H k:=id rfl
@[congr] theorem aLp {i i' : Nat}{p : AV}{H : Hp}{k : AV -> Hp -> R1}(h : i = i'):vF i p H k = vF i' p H k := by rw [h]
def vI(x:AV)(H:Hp)(k:pD):R1:=vq (gY (nH .add).f x (.int .i64 (.ofNat 1))) H k
theorem aLj(x:AV)(H:Hp)(k:pD):vI x H k=vq (gY (nH .add).f x (.int .i64 (.ofNat 1))) H k:=id rfl
@[congr] theorem aJ3 {x x' : AV}{H : Hp}{k : AV -> Hp -> R1}(h : x = x'):vI x H k = vI x' H k := by rw [h]
attribute [go_sem] aOw aLj
abbrev iC(b:(pD)->pD)(n:Nat):pD:=
 Nat.rec (motive:=fun _=>pD) (fun _ _=>.bad) (fun _ ih=>b ih) n
abbrev oU(b:(AV->pD)->AV->pD)(n:Nat):AV->pD:=
 Nat.rec (motive:=fun _=>AV->pD) (fun _ _ _=>.bad) (fun _ ih=>b ih) n
abbrev lq3(b:(AV->AV->pD)->AV->AV->pD)(n:Nat):AV->AV->pD:=
 Nat.rec (motive:=fun _=>AV->AV->pD) (fun _ _ _ _=>.bad) (fun _ ih=>b ih) n
def wq(r:R0)(k:pD)(H:Hp):R1:=vq r H k
theorem bDX(r:R0)(k:pD)(H:Hp):wq r k H=vq r H k:=id rfl
def wA(n:Nat)(x:AV)(k:pD)(H:Hp):R1:=vq (dD n H x) H k
theorem bA7(n:Nat)(x:AV)(k:pD)(H:Hp):wA n x k H=vq (dD n H x) H k:=id rfl
def w1(x:AV)(k:pD)(H:Hp):R1:=vq (aT H x) H k
theorem aWP(x:AV)(k:pD)(H:Hp):w1 x k H=vq (aT H x) H k:=id rfl
def wB(n:Nat)(x:AV)(k:pD)(H:Hp):R1:=vq (pK n H.nx x) H k
theorem aZg(n:Nat)(x:AV)(k:pD)(H:Hp):wB n x k H=vq (pK n H.nx x) H k:=id rfl
def wN(l:List AV)(k:pD)(H:Hp):R1:=vq (.new (.ptr H.nx 0) (aB 0 l)) H k
theorem aYq(l:List AV)(k:pD)(H:Hp):wN l k H=vq (.new (.ptr H.nx 0) (aB 0 l)) H k:=id rfl
def wS(n:Nat)(l:Option (List AV))(k:pD)(H:Hp):R1:=vq (sZ n H.nx l) H k
theorem aXJ(n:Nat)(l:Option (List AV))(k:pD)(H:Hp):wS n l k H=vq (sZ n H.nx l) H k:=id rfl
def wh(r:Hp->R0)(k:pD)(H:Hp):R1:=vq (r H) H k
theorem bFA(r:Hp->R0)(k:pD)(H:Hp):wh r k H=vq (r H) H k:=id rfl
def wF(i:Nat)(p:AV)(k:pD)(H:Hp):R1:=vF i p H k
theorem aTP(i:Nat)(p:AV)(k:pD)(H:Hp):wF i p k H=vF i p H k:=id rfl
def wI(x:AV)(k:pD)(H:Hp):R1:=vI x H k
theorem bE6(x:AV)(k:pD)(H:Hp):wI x k H=vI x H k:=id rfl
def wT(n:Nat)(x y:AV)(k:pH)(H:Hp):R1:=ve (xV n H x y) fun _ H=>k H
theorem bFq(n:Nat)(x y:AV)(k:pH)(H:Hp):wT n x y k H=ve (xV n H x y) fun _ H=>k H:=id rfl
def wU(x y:AV)(k:pH)(H:Hp):R1:=ve (kL H x y) fun _ H=>k H
theorem aVe(x y:AV)(k:pH)(H:Hp):wU x y k H=ve (kL H x y) fun _ H=>k H:=id rfl
def wP(z w:Nat)(x y:AV)(k:pD)(H:Hp):R1:=ve (j5 z w H x (oQ z H y)) k
theorem bC7(z w:Nat)(x y:AV)(k:pD)(H:Hp):wP z w x y k H=ve (j5 z w H x (oQ z H y)) k:=id rfl
def wc(O:Ev.Call)(f:FuncId)(l:List AV)(k:pD)(H:Hp):R1:=ve (O (.f f) l H) k
theorem bED(O:Ev.Call)(f:FuncId)(l:List AV)(k:pD)(H:Hp):wc O f l k H=ve (O (.f f) l H) k:=id rfl
def we(r:pH)(k:pD)(H:Hp):R1:=ve (r H) k
theorem bET(r:pH)(k:pD)(H:Hp):we r k H=ve (r H) k:=id rfl
def wg(g:Option Bool)(r:R0)(k:pD)(H:Hp):R1:=vg g r H k
theorem bAh(g:Option Bool)(r:R0)(k:pD)(H:Hp):wg g r k H=vg g r H k:=id rfl
def wG(g:Option Bool)(r:Hp->R0)(k:pD)(H:Hp):R1:=vg g (r H) H k
theorem aWN(g:Option Bool)(r:Hp->R0)(k:pD)(H:Hp):wG g r k H=vg g (r H) H k:=id rfl
def wx(g:Option Bool)(r:pH)(k:pD)(H:Hp):R1:=veg g (r H) H k
theorem bC1(g:Option Bool)(r:pH)(k:pD)(H:Hp):wx g r k H=veg g (r H) H k:=id rfl
def wl(r:R0)(k:pD)(H:Hp):R1:=vl r fun a=>k a H
theorem aWj(r:R0)(k:pD)(H:Hp):wl r k H=vl r fun a=>k a H:=id rfl
def wL(r:Hp->R0)(k:pD)(H:Hp):R1:=vl (r H) fun a=>k a H
theorem bC8(r:Hp->R0)(k:pD)(H:Hp):wL r k H=vl (r H) fun a=>k a H:=id rfl
def wm(g:Option Bool)(r:R0)(k:pD)(H:Hp):R1:=vlg g r fun a=>k a H
theorem bEK(g:Option Bool)(r:R0)(k:pD)(H:Hp):wm g r k H=vlg g r fun a=>k a H:=id rfl
def wM(g:Option Bool)(r:Hp->R0)(k:pD)(H:Hp):R1:=vlg g (r H) fun a=>k a H
theorem bBs(g:Option Bool)(r:Hp->R0)(k:pD)(H:Hp):wM g r k H=vlg g (r H) fun a=>k a H:=id rfl
def wd(x:AV)(a b:pH)(H:Hp):R1:=cd x (a H) (b H)
theorem aST(x:AV)(a b:pH)(H:Hp):wd x a b H=cd x (a H) (b H):=id rfl
def wz(n:Nat)(k:Nat->Hp->List Pd->List Wt->R1)(H:Hp):R1:=dz n H fun b H=>k b H [] []
theorem bEy(n:Nat)(k:Nat->Hp->List Pd->List Wt->R1)(H:Hp):wz n k H=dz n H fun b H=>k b H [] []:=id rfl
def wy(k:pH)(H:Hp)(p:List Pd)(w:List Wt):R1:=zQ p H k
theorem bAt(k:pH)(H:Hp)(p:List Pd)(w:List Wt):wy k H p w=zQ p H k:=id rfl
def wn(i A b:Nat)(r:R0)(k:AV->Hp->List Pd->List Wt->R1)(H:Hp)(p:List Pd)(w:List Wt):R1:=dn i A b H p w r k
theorem aVR(i A b:Nat)(r:R0)(k:AV->Hp->List Pd->List Wt->R1)(H:Hp)(p:List Pd)(w:List Wt):wn i A b r k H p w=dn i A b H p w r k:=id rfl
def wo(i A b:Nat)(r:Hp->R0)(k:AV->Hp->List Pd->List Wt->R1)(H:Hp)(p:List Pd)(w:List Wt):R1:=dl i A b H p w r k
theorem aUj(i A b:Nat)(r:Hp->R0)(k:AV->Hp->List Pd->List Wt->R1)(H:Hp)(p:List Pd)(w:List Wt):wo i A b r k H p w=dl i A b H p w r k:=id rfl
def wa(i A b:Nat)(r:R0)(k:AV->Hp->List Pd->List Wt->R1)(H:Hp)(p:List Pd)(w:List Wt):R1:=da i A b H p w r k
theorem bEL(i A b:Nat)(r:R0)(k:AV->Hp->List Pd->List Wt->R1)(H:Hp)(p:List Pd)(w:List Wt):wa i A b r k H p w=da i A b H p w r k:=id rfl
def wr(i A b:Nat)(r:R0)(g:Option Bool)(k:AV->Hp->List Pd->List Wt->R1)(H:Hp)(p:List Pd)(w:List Wt):R1:=dq false false i A (b+i) H p w (fun _=>r) g k
theorem bDF(i A b:Nat)(r:R0)(g:Option Bool)(k:AV->Hp->List Pd->List Wt->R1)(H:Hp)(p:List Pd)(w:List Wt):wr i A b r g k H p w=dq false false i A (b+i) H p w (fun _=>r) g k:=id rfl
def ws(i A b:Nat)(r:Hp->R0)(g:Option Bool)(k:AV->Hp->List Pd->List Wt->R1)(H:Hp)(p:List Pd)(w:List Wt):R1:=dq true false i A (b+i) H p w r g k
theorem bCz(i A b:Nat)(r:Hp->R0)(g:Option Bool)(k:AV->Hp->List Pd->List Wt->R1)(H:Hp)(p:List Pd)(w:List Wt):ws i A b r g k H p w=dq true false i A (b+i) H p w r g k:=id rfl
def wt(A:Nat)(r:pH)(g:Option Bool)(k:AV->Hp->List Pd->List Wt->R1)(H:Hp)(p:List Pd)(w:List Wt):R1:=de A H p w (r (eP A p H)) g k
theorem aWC(A:Nat)(r:pH)(g:Option Bool)(k:AV->Hp->List Pd->List Wt->R1)(H:Hp)(p:List Pd)(w:List Wt):wt A r g k H p w=de A H p w (r (eP A p H)) g k:=id rfl
def wu(A:Nat)(r:pH)(k:AV->Hp->List Pd->List Wt->R1)(H:Hp)(p:List Pd)(w:List Wt):R1:=de A H p w (r (eP A p H)) (some true) k
theorem bA4(A:Nat)(r:pH)(k:AV->Hp->List Pd->List Wt->R1)(H:Hp)(p:List Pd)(w:List Wt):wu A r k H p w=de A H p w (r (eP A p H)) (some true) k:=id rfl
def wv(x:AV):Option Bool:=bI true x
theorem aTC(x:AV):wv x=bI true x:=id rfl
def ib(o:BinOp)(x y:AV):R0:=gY (nH o).f x y
theorem bD8(o:BinOp)(x y:AV):ib o x y=gY (nH o).f x y:=id rfl
attribute [go_sem ↓] bDX bA7 aWP aZg aYq aXJ bFA aTP bE6 bFq aVe bC7 bED bET bAh aWN bC1 aWj bC8 bEK bBs aST bEy bAt aVR aUj bEL bDF bCz aWC bA4 aTC bD8
end Go.Di
end
