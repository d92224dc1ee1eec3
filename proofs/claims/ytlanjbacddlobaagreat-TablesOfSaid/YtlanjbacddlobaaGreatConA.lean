/-
 For TablesOf: functions in direct style, their contracts, and the plain mathematics, part 1 of 10. No conditions beyond those that each theorem states.
-/
import Derived.Handy
import Derived.KernelRfl
import Derived.Test.YtlanjbacddlobaaGreatEv4
import Derived.Attr
set_option linter.unusedSimpArgs false
set_option linter.unusedVariables false
noncomputable section
namespace Go
theorem om{p:Prop}(h:p:=by omega):p:=h
theorem gz{p:Prop}(h:p:=by go_size):p:=h
theorem g1{p:Prop}(h:p:=by first|go_size|omega):p:=h
theorem g2{p:Prop}(h:p:=by simp;omega):p:=h
theorem g3{p:Prop}(h:p:=by simp):p:=h
theorem g4{p:Prop}(h:p:=by decide):p:=h
theorem kr{p:Prop}(h:p:=by kernel_rfl):p:=h
end Go
end
noncomputable section
namespace Go.Di
open Go.Ev
abbrev pH:=AV->Hp->R1
abbrev pL:=Hp->R1
abbrev pS:=AV->Hp->Prop
abbrev iN(n:Nat):AV:=.int .i64 (.ofNat n)
variable {H H' H0:Hp} {S:Nat->Prop} {b k n z:Nat} {l:List AV}
theorem aT(h:n+1<=k):∃ j,k=j+1:=⟨k-1,om⟩
theorem blt_eq(a b:Nat):Nat.blt a b=decide (a<b):=by
 cases h:Nat.blt a b with
 |true=>symm;rw[lUF];exact lOW h
 |false=>symm;rw[lOG];intro c;rw[show Nat.blt a b=Nat.ble (a+1) b from rfl,lOH c]at h;cases h
theorem ble_eq(a b:Nat):Nat.ble a b=decide (a<=b):=by
 cases h:Nat.ble a b with
 |true=>symm;rw[lUF];exact lOW h
 |false=>symm;rw[lOG];intro c;rw[lOH c]at h;cases h
theorem beq_eq(a b:Nat):Nat.beq a b=decide (a=b):=by
 cases h:Nat.beq a b with
 |true=>simp[lIL h]
 |false=>symm;rw[lOG];rintro rfl;rw[lY3]at h;cases h
/- trees are equal where all their cells are -/
theorem aNU{α:Type}{t u:Q α}(h:∀ k,k<8->qrg k t=qrg k u):t=u:=by cases t;cases u;have a:=h 0 g4;have b:=h 1 g4;have c:=h 2 g4;have d:=h 3 g4;have e:=h 4 g4;have f:=h 5 g4;have g:=h 6 g4;have i:=h 7 g4;simp only[qrg]at a b c d e f g i;simp_all
theorem z3s{α:Type}:∀(d:Nat) {t u:TT α d},(∀i,i<8 ^ d->(dW d i).f t=(dW d i).f u)->t=u
 |0,t,u,h=>h 0 g4
 |d+1,t,u,h=>by refine aNU fun k a=>z3s d fun i b=>?_;have:=h (i*8+k) (by rw[Nat.pow_succ];omega);rw[qds,qds]at this;rwa [show(i*8+k) / 8=i by omega,show(i*8+k)%8=k by omega]at this
/- blocks as lists -/
def cellsOf(l:List AV):TT AV (eF l.length):=pE l 0 (same .undef _)
theorem qcs(l:List AV)(i:Nat)(a:i<8 ^ eF l.length):(dW _ i).f (cellsOf l)=l.getD i .undef:=by
 unfold cellsOf;rw[qhp _ _ _ _ (by simpa using qbz l.length) a];by_cases h:i<l.length
 ·simp_all
 ·rw[lEU om,qgu];simp_all
def aY(l:List AV)(o:Nat)(v:List AV):List AV:=l.take o++v++l.drop (o+v.length)
theorem qey(l:List AV)(o:Nat)(v:List AV)(h:o+v.length<=l.length):(aY l o v).length=l.length:=by simp[aY];omega
theorem zxf(l:List AV)(o:Nat)(v:List AV)(h:o+v.length<=l.length)(i:Nat):(aY l o v).getD i .undef=if o<=i/\i<o+v.length then v.getD (i-o) .undef else l.getD i .undef:=by
 unfold aY;simp only[lES];by_cases a:i<o
 ·rw[lEU om,lI5,lIO g2,List.getElem?_take_of_lt a]
 ·by_cases b:i<o+v.length
  ·rw[lEZ om,lI5,lIJ g2,lIO g2];simp[lOE (show o<=l.length by omega)]
  ·rw[lEU om,lIJ g2,lU1];simp only[lEP,lI6,lOE (show o<=l.length by omega)];congr 2;omega
theorem qgi(z:Nat)(l v:List AV)(o:Nat):xZ (aB z l) o v=if o+v.length<=l.length then some (aB z (aY l o v))else none:=by
 show(bif Nat.ble (o+v.length) l.length then some (bX.cells _ _ (pE v o (cellsOf l)) false z)else none)=_;by_cases h:o+v.length<=l.length
 ·rw[lEZ h,lOH h];have d:=qey l o v h;have b:∀(n:Nat) (e:n=l.length) (c:TT AV (eF n)),(∀i,i<8 ^ eF n->(dW _ i).f c=(aY l o v).getD i .undef)->bX.cells (eF l.length) l.length (pE v o (cellsOf l)) false z=bX.cells (eF n) n c false z:=by
   intro n e c f;subst e;congr 1;refine z3s _ fun i a=>?_;have:=qbz l.length;rw[f i a,zxf _ _ _ h,qhp _ _ _ _ om a,qcs _ _ a]
  exact congrArg some (b _ d _ fun i a=>qcs _ _ a)
 ·rw[lEU h];have:Nat.ble (o+v.length) l.length=false:=by
   cases g:Nat.ble (o+v.length) l.length with
   |false=>rfl
   |true=>exact absurd (lOW g) h
  rw[this];rfl
theorem qb3(z:Nat)(l:List AV)(o:Nat):bI (aB z l) o=match l[o]? with|some v=>.val v|none=>.bad:=by
 show(bif Nat.blt o l.length then R0.val ((dW _ o).f (cellsOf l))else .bad)=_;by_cases h:o<l.length
 ·have a:Nat.blt o l.length=true:=by rw[blt_eq];simpa using h
  rw[a,qcs _ _ (af h (qbz _))];simp[h]
 ·have a:Nat.blt o l.length=false:=by rw[blt_eq];simpa using h
  simp_all
theorem zcs{d:Nat}(c:TT AV d)(l:List AV)(a:∀ i,i<8 ^ d->(dW d i).f c=l.getD i .undef):∀(k o:Nat),o+k<=l.length->l.length<=8 ^ d->xO c k o=(l.drop o).take k
 |0,o,_,_=>by simp[zxq]
 |k+1,o,h,h2=>by rw[qy4,a _ om,zcs c l a k (o+1) om h2];rw[lIU (show o<l.length by omega),lUP];simp[show o<l.length by omega]
theorem qbv(z:Nat)(l:List AV)(o k:Nat):iF (aB z l) o k=if o+k<=l.length then some ((l.drop o).take k)else none:=by
 show(bif Nat.ble (o+k) l.length then some (xO (cellsOf l) k o)else none)=_;by_cases h:o+k<=l.length
 ·rw[lEZ h,lOH h,zcs _ l (fun i a=>qcs l i a) k o h (qbz _)];rfl
 ·rw[lEU h];have:Nat.ble (o+k) l.length=false:=by
   cases b:Nat.ble (o+k) l.length with
   |false=>rfl
   |true=>exact absurd (lOW b) h
  rw[this];rfl
theorem zri(z c:Nat)(l:List AV)(e:Nat):qg9 (aB z l) e c=(decide (l.length=e)&&decide (z=c)):=by
 show(Nat.beq l.length e&&Nat.beq z c)=_;have d:∀ a b,Nat.beq a b=decide (a=b):=fun a b=>by
  cases h:Nat.beq a b with
  |true=>simp[lIL h]
  |false=>symm;rw[lOG];rintro rfl;rw[lY3]at h;cases h
 rw[d,d]
/- memory -/
theorem get_put(H:Hp)(b c:Nat)(k:bX):(H.put b k).get c=if c=b then k else H.get c:=Mem.get_put H.t b c k
theorem dL(H:Hp)(b:Nat)(k:bX):(H.put b k).get b=k:=by rw[get_put,lEZ rfl]
theorem dS(H:Hp)(b c:Nat)(k:bX)(h:c≠b):(H.put b k).get c=H.get c:=by rw[get_put,lEU h]
theorem nq(H:Hp)(b:Nat)(k:bX):(H.put b k).nx=H.nx:=id rfl
theorem qgv(H:Hp)(c:Nat)(k:bX):(aK H k).get c=if c=H.nx then k else H.get c:=Mem.get_put H.t H.nx c k
theorem jQ(H:Hp)(k:bX):(aK H k).get H.nx=k:=by rw[qgv,lEZ rfl]
theorem q8q(H:Hp)(c:Nat)(k:bX)(h:H.nx<=c/\c<=H.nx):(aK H k).get c=k:=by rw[qgv,lEZ om]
theorem qbo(H:Hp)(c:Nat)(k:bX)(h:c<H.nx):(aK H k).get c=H.get c:=by rw[qgv,lEU om]
theorem np(H:Hp)(k:bX):(aK H k).nx=H.nx+1:=id rfl
attribute [simp] np nq
structure Fm(S:Nat->Prop)(H H':Hp):Prop where
 nx:H.nx<=H'.nx
 get:∀ b,b<H.nx->¬ S b->H'.get b=H.get b
def No:Nat->Prop:=fun _=>False
theorem Fm.refl(S:Nat->Prop)(H:Hp):Fm S H H:=⟨lEO _,fun _ _ _=>rfl⟩
theorem Fm.trans{H H1 d:Hp}(a:Fm S H H1)(b:Fm S H1 d):Fm S H d:=⟨lI7 a.nx b.nx,fun c e f=>(b.get c (af e a.nx) f).trans (a.get c e f)⟩
theorem Fm.mono{S T:Nat->Prop}(a:Fm S H H')(h:∀ b,b<H.nx->S b->T b):Fm T H H':=⟨a.nx,fun b c d=>a.get b c fun e=>d (h b c e)⟩
theorem Fm.push(a:Fm S H H')(k:bX):Fm S H (aK H' k):=⟨Nat.le_succ_of_le a.nx,fun b c d=>by rw[qbo _ _ _ (af c a.nx)];exact a.get b c d⟩
theorem Fm.put(a:Fm S H H')(b:Nat)(k:bX)(h:b<H.nx->S b):Fm S H (H'.put b k):=⟨a.nx,fun c d f=>by rw[dS _ _ _ _ (fun e=>f (by subst e;exact h d))];exact a.get c d f⟩
theorem Fm.aH(a:Fm S H H')(b:Nat)(k:bX)(h:H.nx<=b):Fm S H (H'.put b k):=a.put b k fun c=>om
theorem Fm.keep(a:Fm No H H')(c:b<H.nx):H'.get b=H.get b:=a.get b c id
theorem Fm.then{S T:Nat->Prop}{H H1 e:Hp}(a:Fm S H H1)(b:Fm T H1 e)(h:∀ c,c<H.nx->T c->S c):Fm S H e:=
 ⟨lI7 a.nx b.nx,fun c d f=>(b.get c (af d a.nx) fun g=>f (h c d g)).trans (a.get c d f)⟩
def Ok(r:R1)(Q:pS):Prop:=∃ v H',r=.ok v H'/\Q v H'
theorem Ok.ret{v:AV}{Q:pS}(h:Q v H):Ok (.ok v H) Q:=⟨v,H,rfl,h⟩
theorem Ok.mono{r:R1}{Q R:pS}(h:Ok r Q)(a:∀ v H,Q v H->R v H):Ok r R:=by obtain⟨v,H,e,q⟩:=h;exact⟨v,H,e,a _ _ q⟩
theorem Ok.ve{r:R1}{k:pH}{Q R:pS}(h:Ok r R)(a:∀ v H,R v H->Ok (k v H) Q):Ok (ve r k) Q:=by obtain⟨v,H,e,q⟩:=h;subst e;exact a v H q
theorem Ok.de{A:Nat}{p:List Pd}{w:List Wt}{r:R1}{k:AV->Hp->List Pd->List Wt->R1}{Q R:pS}(h:Ok r R)(a:∀ v H',R v H'->qjl (qT A p) H' (qV A w)=true/\Ok (k v H' (qT A p) (qV A w)) Q):Ok (de A H p w r (some true) k) Q:=by obtain⟨v,H',e,q⟩:=h;subst e;obtain⟨b,c⟩:=a v H' q;rw[zze];unfold de0;simp only[b,lII];exact c
/- steps -/
theorem xbs(v:AV)(H:Hp)(k:pH):vq (.val v) H k=k v H:=id rfl
theorem xbt(v:AV)(b:bX)(H:Hp)(k:pH):vq (.new v b) H k=k v (aK H b):=id rfl
theorem aM2(v:AV)(H:Hp)(k:pH):ve (.ok v H) k=k v H:=id rfl
theorem aXQ(r:R0)(H:Hp)(k:pH):vg (some true) r H k=vq r H k:=by rw[z7y];rfl
theorem aYx(r:R0)(H:Hp)(k:pH):vg (some false) r H k=k .undef H:=by rw[z7y];rfl
theorem aPP(r:R1)(H:Hp)(k:pH):veg (some true) r H k=ve r k:=by rw[zn8];rfl
theorem aLr(r:R1)(H:Hp)(k:pH):veg (some false) r H k=k .undef H:=by rw[zn8];rfl
theorem xbv(v:AV)(k:AV->R1):vl (.val v) k=k v:=id rfl
theorem aOe(r:R0)(k:AV->R1):vlg (some true) r k=vl r k:=by rw[zb0];rfl
theorem aKI(r:R0)(k:AV->R1):vlg (some false) r k=k .undef:=by rw[zb0];rfl
theorem z7w(a b:Bool):aM a (.bool b)=some (b==a):=id rfl
theorem z7v(a:Bool):aM a .undef=some false:=id rfl
theorem aXi(x y:R1):cd (.bool true) x y=x:=id rfl
theorem bBP(x y:R1):cd (.bool false) x y=y:=id rfl
theorem aNu(up:Nat)(H:Hp)(k:Nat->pL):dz up H k=k H.nx ⟨H.t,H.nx+up⟩:=id rfl
theorem z9j(c:Bool)(a b:AV):dH (.bool c) a b=.val (if c=true then a else b):=by cases c<;>rfl
@[congr] theorem aO4 {r a : R0}{H : Hp}{k : AV -> Hp -> R1}(h : r = a):vq r H k = vq a H k := by rw [h]
@[congr] theorem aL1 {r a : R1}{k : AV -> Hp -> R1}(h : r = a):ve r k = ve a k := by rw [h]
@[congr] theorem aQl {w w' : Option Bool}{r : R0}{H : Hp}{k : AV -> Hp -> R1}(h : w = w'):vg w r H k = vg w' r H k := by rw [h]
@[congr] theorem xbw {w w' : Option Bool}{r : R1}{H : Hp}{k : AV -> Hp -> R1}(h : w = w'):veg w r H k = veg w' r H k := by rw [h]
@[congr] theorem aOc {r a : R0}{k : AV -> R1}(h : r = a):vl r k = vl a k := by rw [h]
@[congr] theorem xbu {w w' : Option Bool}{r : R0}{k : AV -> R1}(h : w = w'):vlg w r k = vlg w' r k := by rw [h]
@[congr] theorem aPU {x c : AV}{a b : R1}(h : x = c):cd x a b = cd c a b := by rw [h]
@[congr] theorem aNG {u : Nat}{H : Hp}{k : Nat -> Hp -> R1}:dz u H k = dz u H k := rfl
theorem qgy(k:IntKind):xW k k=true:=by cases k<;>rfl
theorem qd4(a b:Int):p9 a b=decide (a<b):=by cases a<;>cases b<;>simp only[p9,blt_eq]<;>rename_i m n<;>apply Bool.eq_iff_iff.2<;>simp only[lO8,lIA,lXT]<;>first|omega|(simp;omega)
theorem qes(a b:Int):sK a b=decide (a=b):=by cases a<;>cases b<;>simp only[sK,beq_eq]<;>rename_i m n<;>apply Bool.eq_iff_iff.2<;>simp only[lO8,lIA,lXT]<;>first|omega|(simp;omega)
theorem qgg(n:Nat)(h:n<9223372036854775808):vZ .i64 (.ofNat n)=.ofNat n:=by show(bif Nat.blt n 9223372036854775808 then _ else _)=_;rw[blt_eq,lI9 h];rfl
theorem xes(a b:Int):fO (lS .add).f (.int .i64 a) (.int .i64 b)=.val (.int .i64 (vZ .i64 (a+b))):=id rfl
theorem xb3(a b:Int):fO (lS .sub).f (.int .i64 a) (.int .i64 b)=.val (.int .i64 (vZ .i64 (a-b))):=id rfl
theorem xc6(a b:Int):fO (lS .mul).f (.int .i64 a) (.int .i64 b)=.val (.int .i64 (vZ .i64 (a*b))):=id rfl
theorem xer(a b:Nat)(h:a+b<9223372036854775808):fO (lS .add).f (iN a) (iN b)=.val (iN ((a+b))):=by rw[xes];exact congrArg (fun x=>R0.val (.int .i64 x)) (qgg (a+b) h)
theorem xb2(a b:Nat)(h:b<=a)(c:a<9223372036854775808):fO (lS .sub).f (iN a) (iN b)=.val (iN ((a-b))):=by rw[xb3,show(Int.ofNat a-Int.ofNat b)=Int.ofNat (a-b)by simp only[lIA];omega,qgg _ om]
theorem xc5(a b:Nat)(h:a*b<9223372036854775808):fO (lS .mul).f (iN a) (iN b)=.val (iN ((a*b))):=by rw[xc6];exact congrArg (fun x=>R0.val (.int .i64 x)) (qgg (a*b) h)
theorem xcq(a b:Nat)(h:0<b)(c:a<9223372036854775808):fO (lS .quo).f (iN a) (iN b)=.val (iN ((a / b))):=by
 have d:sK (.ofNat b) 0=false:=by rw[qes];simp;omega
 show(bif sK (.ofNat b) 0 then R0.bad else .val (.int .i64 (vZ .i64 ((Int.ofNat a).tdiv (Int.ofNat b)))))=_;rw[d];exact congrArg (fun x=>R0.val (.int .i64 x)) (qgg (a / b) (lXP (Nat.div_le_self _ _) c))
theorem xcm(a b:Nat)(h:0<b):fO (lS .rem).f (iN a) (iN b)=.val (iN ((a%b))):=by
 have c:sK (.ofNat b) 0=false:=by rw[qes];simp;omega
 show(bif sK (.ofNat b) 0 then R0.bad else .val (.int .i64 ((Int.ofNat a).tmod (Int.ofNat b))))=_;rw[c];rfl
theorem xcl(a b:Nat)(h:0<b):fO (lS .rem).f (.int .u8 (.ofNat a)) (.int .u8 (.ofNat b))=.val (.int .u8 (.ofNat (a%b))):=by
 have c:sK (.ofNat b) 0=false:=by rw[qes];simp;omega
 show(bif sK (.ofNat b) 0 then R0.bad else .val (.int .u8 ((Int.ofNat a).tmod (Int.ofNat b))))=_;rw[c];rfl
theorem xdc(k:IntKind)(a b:Int):fO (lS .lss).f (.int k a) (.int k b)=.val (.bool (decide (a<b))):=by show(bif xW k k then R0.val (.bool (p9 a b))else .bad)=_;rw[qgy,qd4];rfl
theorem xdi(k:IntKind)(a b:Int):fO (lS .leq).f (.int k a) (.int k b)=.val (.bool (decide (a<=b))):=by show(bif xW k k then R0.val (.bool (!p9 b a))else .bad)=_;rw[qgy,qd4,<-decide_not];simp only[lII];congr 2;simp only[Int.not_lt]
theorem xdu(k:IntKind)(a b:Int):fO (lS .gtr).f (.int k a) (.int k b)=.val (.bool (decide (b<a))):=by show(bif xW k k then R0.val (.bool (p9 b a))else .bad)=_;rw[qgy,qd4];rfl
theorem xdv(k:IntKind)(a b:Int):fO (lS .geq).f (.int k a) (.int k b)=.val (.bool (decide (b<=a))):=by show(bif xW k k then R0.val (.bool (!p9 a b))else .bad)=_;rw[qgy,qd4,<-decide_not];simp only[lII];congr 2;simp only[Int.not_lt]
theorem xd0(k:IntKind)(a b:Int):fO (lS .eql).f (.int k a) (.int k b)=.val (.bool (decide (a=b))):=by show(bif xW k k then R0.val (.bool (sK a b))else .bad)=_;rw[qgy,qes];rfl
theorem xc3(k:IntKind)(a b:Int):fO (lS .neq).f (.int k a) (.int k b)=.val (.bool (!decide (a=b))):=by show(bif xW k k then R0.val (.bool (!sK a b))else .bad)=_;rw[qgy,qes];rfl
theorem aNP(b:Bool):(kE .not).f (.bool b)=.val (.bool !b):=id rfl
/- numbers -/
theorem zx8(a b:Nat):(Int.ofNat a<Int.ofNat b)=(a<b):=g3
theorem zx9(a b:Nat):(Int.ofNat a<=Int.ofNat b)=(a<=b):=g3
theorem zc4(a b:Nat):(Int.ofNat a=Int.ofNat b)=(a=b):=by simp only[lIA,eq_iff_iff];omega
theorem zfd(a b:Nat):(Int.negSucc a<Int.ofNat b)=True:=by simp only[lXT,lIA,eq_iff_iff,iff_true];omega
theorem zfg(a b:Nat):(Int.ofNat a<Int.negSucc b)=False:=by simp only[lXT,lIA,eq_iff_iff,iff_false];omega
theorem zfe(a b:Nat):(Int.negSucc a<=Int.ofNat b)=True:=by simp only[lXT,lIA,eq_iff_iff,iff_true];omega
theorem zfh(a b:Nat):(Int.ofNat a<=Int.negSucc b)=False:=by simp only[lXT,lIA,eq_iff_iff,iff_false];omega
theorem zff(a b:Nat):(Int.negSucc a=Int.ofNat b)=False:=g3
theorem zfi(a b:Nat):(Int.ofNat a=Int.negSucc b)=False:=g3
/- memory -/
theorem z9w(H:Hp)(b o:Nat):aN H (.ptr b o)=bI (H.get b) o:=id rfl
theorem z9v(k:Nat)(H:Hp)(b o:Nat):dB k H (.ptr b o)=aDr (iF (H.get b) o k):=id rfl
theorem zsf(l:List AV):aDr (some l)=.val (.agg l):=id rfl
theorem zsg(l:List AV):bY (some l)=.val (.agg l):=id rfl
theorem xcp(v:AV):rV (.val v)=some v:=id rfl
theorem zq7(v:AV)(H:Hp):cO (some v) H=.ok v H:=id rfl
theorem qb5(H:Hp)(b o:Nat)(v:List AV)(r:AV)(z:Nat)(l:List AV)(a:H.get b=aB z l)(h:o+v.length<=l.length):storeAt H b o v r=.ok r (H.put b (aB z (aY l o v))):=by unfold storeAt;rw[a,qgi,lEZ h]
theorem qve(H:Hp)(b o:Nat)(v:List AV)(r:AV):storeAt H b o v r=(match xZ (H.get b) o v with|some blk=>.ok r (H.put b blk)|none=>.bad):=id rfl
theorem zer(H:Hp)(b o:Nat)(k:IntKind)(n:Int):jN H (.ptr b o) (.int k n)=storeAt H b o [.int k n] .undef:=id rfl
theorem q7y(H:Hp)(b o:Nat)(n:Bool):jN H (.ptr b o) (.bool n)=storeAt H b o [.bool n] .undef:=id rfl
theorem zom(H:Hp)(b o:Nat)(a d l c:Nat)(e:Bool):jN H (.ptr b o) (.sl a d l c e)=storeAt H b o [.sl a d l c e] .undef:=id rfl
theorem q1j(H:Hp)(b o:Nat):jN H (.ptr b o) .aA=storeAt H b o [.aA] .undef:=id rfl
theorem zb6(k:Nat)(H:Hp)(b o:Nat)(l:List AV):qdc k H (.ptr b o) (.agg l)=bif Nat.beq l.length k then storeAt H b o l .undef else .bad:=id rfl
theorem xek(k nm:Nat)(l:List AV):zG k nm (.agg l)=bif Nat.beq l.length k then .new (.ptr nm 0) (aB 0 l)else .bad:=id rfl
theorem zzl(nm:Nat)(k:IntKind)(n:Int):mX nm (.int k n)=.new (.ptr nm 0) (aB 0 [.int k n]):=id rfl
theorem xau(nm:Nat)(a b l c:Nat)(e:Bool):mX nm (.sl a b l c e)=.new (.ptr nm 0) (aB 0 [.sl a b l c e]):=id rfl
theorem zgc(nm:Nat):mX nm .aA=.new (.ptr nm 0) (aB 0 [.aA]):=id rfl
theorem zy0(a b o:Nat):aP a (.ptr b o)=.val (.ptr b (o+a)):=id rfl
theorem xc2(b o:Nat):aV (.ptr b o)=.val (.ptr b o):=id rfl
theorem uY(z b o n c:Nat)(e:Bool)(k:IntKind)(i:Nat)(h:i<n):aG z (.sl b o n c e) (.int k (.ofNat i))=.val (.ptr b (o+i*z)):=by show(bif Nat.blt i n then _ else _)=_;rw[blt_eq,lI9 h];rfl
theorem xdt(n z b o:Nat)(k:IntKind)(i:Nat)(h:i<n):gH n z (.ptr b o) (.int k (.ofNat i))=.val (.ptr b (o+i*z)):=by show(bif Nat.blt i n then _ else _)=_;rw[blt_eq,lI9 h];rfl
theorem zym(b o n c:Nat)(e:Bool):aD (.sl b o n c e)=.val (iN n):=id rfl
theorem zql:aD .aA=.val (iN 0):=id rfl
theorem z9x:aD .sle=.val (iN 0):=id rfl
theorem xas(b o n c:Nat):dA (.sl b o n c true)=.val (iN c):=id rfl
theorem zzi:dA .aA=.val (iN 0):=id rfl
theorem xdy(i:Nat)(l:List AV):aW i (.bB l)=(match l[i]? with|some v=>.val v|none=>.bad):=id rfl
theorem zfc(n nm:Nat)(l:List AV):vT n nm (some l)=.new (.sl nm 0 n n true) (aB 0 l):=id rfl
attribute [go_sem] xbs xbt aM2 aXQ aYx aPP aLr xbv aOe aKI z7w z7v aXi bBP aNu z9j
 xer xb2 xc5 xcq xcm xcl xdc xdi xdu xdv xd0 xc3 aNP
 zx8 zx9 zc4 zfd zfg zfe zfh zff zfi
 z9w z9v zsf zsg xcp zq7 zer q7y zom q1j zb6 xek zzl xau zgc zy0 xc2 uY xdt
 zym zql z9x xas zzi xdy zfc qb3 qbv qgi qve
 dL q8q qbo dS nq np
 beq_self_eq_true Bool.true_beq Bool.false_beq beq_true beq_false lX8 lX0 lOC Bool.not_eq_false' decide_true decide_false lO8 lOG lUE
 lU8 lX7 ite_self lEW lO7 lI1 lY4 lII lOZ reduceCtorEq not_false_eq_true not_true_eq_false
 lUP lX1 lX2 List.drop_succ_cons List.getElem?_cons_zero lU3 lEX lIT lET lO6
def vD(r:R0)(lk al:Bool)(i A nm:Nat)(H:Hp)(p:List Pd)(w:List Wt)(f:Hp->R0)(k:AV->Hp->List Pd->List Wt->R1):R1:=
 match r with
  | .bad=>.bad
  | .val v=>k v H p (bif lk then⟨i,A,f,v⟩::w else w)
  | .new v b=>bif al&&b.wr then k v H (⟨i,nm,b⟩::p) w else .bad
theorem aEG(a b:Bool)(i A nm:Nat)(H:Hp)(p:List Pd)(w:List Wt)(f:Hp->R0)(k:AV->Hp->List Pd->List Wt->R1):dq a b i A nm H p w f (some true) k=vD (f (fI A p H)) a b i A nm H p w f k:=by rw[zzd];rfl
theorem aZY(a b:Bool)(i A nm:Nat)(H:Hp)(p:List Pd)(w:List Wt)(f:Hp->R0)(k:AV->Hp->List Pd->List Wt->R1):dq a b i A nm H p w f (some false) k=k .undef H p w:=by rw[zzd];rfl
@[congr] theorem aM0 {a b : Bool}{i A nm : Nat}{H : Hp}{p : List Pd}{w : List Wt}{f : Hp -> R0}{g c : Option Bool}{k : AV -> Hp -> List Pd -> List Wt -> R1}(h : g = c):dq a b i A nm H p w f g k = dq a b i A nm H p w f c k := by rw [h]
@[congr] theorem aNr {r a : R0}{b c : Bool}{i A nm : Nat}{H : Hp}{p : List Pd}{w : List Wt}{f : Hp -> R0}{k : AV -> Hp -> List Pd -> List Wt -> R1}(h : r = a):vD r b c i A nm H p w f k = vD a b c i A nm H p w f k := by rw [h]
@[congr] theorem aQi {A : Nat}{H : Hp}{p : List Pd}{w : List Wt}{r a : R1}{g b : Option Bool}{k : AV -> Hp -> List Pd -> List Wt -> R1}(h : g = b)(c : r = a):de A H p w r g k = de A H p w a b k := by rw [h, c]
theorem bA4(v:AV)(a:Bool)(i A nm:Nat)(H:Hp)(p:List Pd)(w:List Wt)(f:Hp->R0)(k:AV->Hp->List Pd->List Wt->R1):vD (.val v) false a i A nm H p w f k=k v H p w:=id rfl
theorem aWc(v:AV)(a:Bool)(i A nm:Nat)(H:Hp)(p:List Pd)(w:List Wt)(f:Hp->R0)(k:AV->Hp->List Pd->List Wt->R1):vD (.val v) true a i A nm H p w f k=k v H p (⟨i,A,f,v⟩::w):=id rfl
theorem xbx(v:AV)(z:Nat)(l:List AV)(a:Bool)(i A nm:Nat)(H:Hp)(p:List Pd)(w:List Wt)(f:Hp->R0)(k:AV->Hp->List Pd->List Wt->R1):vD (.new v (aB z l)) a true i A nm H p w f k=k v H (⟨i,nm,aB z l⟩::p) w:=id rfl
theorem aWV(A:Nat)(H:Hp)(p:List Pd)(w:List Wt)(r:R1)(k:AV->Hp->List Pd->List Wt->R1):de A H p w r (some false) k=k .undef H p w:=by rw[zze];rfl
def vE(c:Bool)(r:R1):R1:=bif c then r else .bad
@[congr] theorem aPm {c a : Bool}{r : R1}(h : c = a):vE c r = vE a r := by rw [h]
theorem bHR(r:R1):vE true r=r:=id rfl
theorem xal(A:Nat)(H:Hp)(p:List Pd)(w:List Wt)(v:AV)(H':Hp)(k:AV->Hp->List Pd->List Wt->R1):de A H p w (.ok v H') (some true) k=vE (qjl (qT A p) H' (qV A w)) (k v H' (qT A p) (qV A w)):=by rw[zze];rfl
theorem z97(m i:Nat):hasB m i=decide ((m >>> i) &&& 1=1):=beq_eq _ _
theorem xec(p:List Pd)(H:Hp)(k:pL):dz2 p H k=k (nT p H):=id rfl
theorem bFM(H:Hp)(k:Nat->pL):dz 0 H k=k H.nx H:=id rfl
attribute [go_sem] bFM
theorem zn7(A:Nat)(H:Hp):fI A [] H=H:=id rfl
theorem zem(A:Nat)(x:Pd)(p:List Pd)(H:Hp):fI A (x::p) H=bif hasB A x.i then(fI A p H).put x.nm x.b else fI A p H:=by rfl
theorem zzu(H:Hp):nT [] H=H:=id rfl
theorem zse(x:Pd)(p:List Pd)(H:Hp):nT (x::p) H=(nT p H).put x.nm x.b:=id rfl
theorem zrs(A:Nat):qT A []=[]:=id rfl
theorem zfy(A:Nat)(x:Pd)(p:List Pd):qT A (x::p)=bif hasB A x.i then qT A p else x::qT A p:=id rfl
theorem zrr(A:Nat):qV A []=[]:=id rfl
theorem zfx(A:Nat)(x:Wt)(p:List Wt):qV A (x::p)=bif hasB A x.i then qV A p else x::qV A p:=id rfl
theorem zn3(p:List Pd)(H:Hp):qjl p H []=true:=id rfl
theorem zek(p:List Pd)(H:Hp)(x:Wt)(w:List Wt):qjl p H (x::w)=(zo3 (x.f (fI x.A p H)) x.v&&qjl p H w):=id rfl
theorem zo2(u v:AV):zo3 (.val u) v=oD 64 u v:=id rfl
def rH:AV->Bool
 | .undef| .bS| .aA| .sle| .eP| .jE| .oW=>true
 | .bool _| .int _ _| .str _ _| .ptr _ _| .sl .. | .map _| .yield _=>true
 |_=>false
theorem qP{v:AV}(h:rH v=true)(k:Nat):oD (k+1) v v=true:=by cases v<;>first|(cases h;done)|(simp[oD,beq_eq];done)
theorem q3u:∀(l:List AV) (k:Nat),l.all rH=true->l.length<k->rT (k+1) l l=true
 | [],k,_,_=>by simp[rT]
 |x::l,0,_,h=>by simp at h
 |x::l,k+1,ha,h=>by rw[lXK,lI0]at ha;rw[rT,qP ha.1,q3u l k ha.2 (by simpa using h)];rfl
theorem zrg(k:IntKind)(n:Int):oD 64 (.int k n) (.int k n)=true:=qP (v:=.int k n) rfl 63
theorem zy6(b:Bool):oD 64 (.bool b) (.bool b)=true:=qP (v:=.bool b) rfl 63
theorem xd1(a b c d:Nat)(e:Bool):oD 64 (.sl a b c d e) (.sl a b c d e)=true:=qP (v:=.sl a b c d e) rfl 63
theorem zrf:oD 64 .aA .aA=true:=qP (v:=.aA) rfl 63
theorem xae(a b:Nat):oD 64 (.ptr a b) (.ptr a b)=true:=qP (v:=.ptr a b) rfl 63
def Tr(b:Bool):Prop:=b=true
theorem ti{b:Bool}(h:b=true):Tr b:=h
@[simp] theorem bZ8 {b : Bool}:Tr b = (b = true) := rfl
attribute [simp] rH
theorem qgc(l:List AV)(h:Tr (l.all rH&&decide (l.length<62))):oD 64 (.agg l) (.agg l)=true:=by unfold Tr at h;rw[lI0,lUF]at h;exact q3u l 62 h.1 h.2
theorem zqz(H:Hp)(n c:Nat):(Hp.mk H.t n).get c=H.get c:=id rfl
theorem Fm.up(a:Fm S H H')(k:Nat):Fm S H ⟨H'.t,H'.nx+k⟩:=⟨by have:=a.nx;show H.nx<=H'.nx+k;omega,fun b c d=>a.get b c d⟩
theorem Fm.up2(a:Fm S H H')(h:H.nx<=n):Fm S H ⟨H'.t,n⟩:=⟨h,fun b c d=>a.get b c d⟩
theorem Ok.tT{A:Nat}{p:List Pd}{w:List Wt}{r:R1}{k:AV->Hp->List Pd->List Wt->R1}{Q:pS}{v:AV}(h:r=.ok v H')(a:Ok (vE (qjl (qT A p) H' (qV A w)) (k v H' (qT A p) (qV A w))) Q):Ok (Di.de A H p w r (some true) k) Q:=by rw[h,xal];exact a
theorem Ok.veE{r:R1}{k:pH}{Q:pS}{v:AV}(h:r=.ok v H')(a:Ok (k v H') Q):Ok (Di.ve r k) Q:=by rw[h];exact a
theorem Ok.iR{A:Nat}{p:List Pd}{w:List Wt}{r:R1}{k:AV->Hp->List Pd->List Wt->R1}{Q R:pS}(h:Ok r R)(a:∀ v H',R v H'->Ok (vE (qjl (qT A p) H' (qV A w)) (k v H' (qT A p) (qV A w))) Q):Ok (Di.de A H p w r (some true) k) Q:=by obtain⟨v,H',e,q⟩:=h;rw[e,xal];exact a v H' q
def In(v:AV)(b:Nat):Prop:=∃ o n m e,v=.sl b o n m e
structure Gl(z:Nat)(H:Hp)(v:AV)(n:Nat)(l:List AV):Prop where
 len:l.length=n*z
 is:(v=.aA/\n=0)\/∃ b o e q L,v=.sl b o n n e/\H.get b=aB q L/\o<=L.length/\L.drop o=l/\(e=true\/q=z)/\b<H.nx
theorem Gl.nil(z:Nat)(H:Hp):Gl z H .aA 0 []:=⟨g3,.inl ⟨rfl,rfl⟩⟩
theorem Gl.aX{v:AV}(h:Gl z H v n l):aD v=.val (iN n):=by rcases h.is with⟨rfl,rfl⟩|⟨b,o,e,q,L,rfl,_⟩<;>rfl
theorem Gl.keep{v:AV}(h:Gl z H v n l)(c:H.nx<=H'.nx)(d:∀ b,In v b->b<H.nx->H'.get b=H.get b):Gl z H' v n l:=by
 refine⟨h.len,?_⟩;rcases h.is with⟨rfl,rfl⟩|⟨b,o,e,q,L,rfl,f,g,i,j,a⟩
 ·simp
 ·exact .inr ⟨b,o,e,q,L,rfl,(d b ⟨_,_,_,_,rfl⟩ a).trans f,g,i,j,af a c⟩
theorem Gl.fm{v:AV}(h:Gl z H v n l)(a:Fm S H H')(c:∀ b,In v b->¬ S b):Gl z H' v n l:=
 h.keep a.nx fun b d e=>a.get b e (c b d)
theorem Gl.no{v:AV}(h:Gl z H v n l)(a:Fm No H H'):Gl z H' v n l:=h.fm a fun _ _ h=>h
theorem Gl.append{z w n k:Nat}{v:AV}{l x:List AV}(h:Gl z H v n l)(D:0<k)(r:x.length=k*z)(s:(n+k)*w<=1099511627776)(i:n+k<=1099511627776):∃H',kJ z w H v (some ⟨k,x⟩)=.ok (.sl H.nx 0 (n+k) (n+k) false) H'/\Gl z H' (.sl H.nx 0 (n+k) (n+k) false) (n+k) (l++x)/\H'.get H.nx=aB z (l++x)/\Fm (In v) H H'/\H'.nx=H.nx+1:=by
 have d:(l++x).length=(n+k)*z:=by rw[lEP,h.len,r,lOS]
 have fin:∀ H1:Hp,H1.nx=H.nx->Fm (In v) H H1->kJ z w H v (some ⟨k,x⟩)=.ok (.sl H1.nx 0 (n+k) (n+k) false) (aK H1 (aB z (l++x))) ->
   ∃H',kJ z w H v (some ⟨k,x⟩)=.ok (.sl H.nx 0 (n+k) (n+k) false) H'/\Gl z H' (.sl H.nx 0 (n+k) (n+k) false) (n+k) (l++x)/\H'.get H.nx=aB z (l++x)/\Fm (In v) H H'/\H'.nx=H.nx+1:=by
  intro H1 g A B;refine⟨_,by rw[B,g],⟨d,.inr ⟨_,_,_,z,l++x,rfl,by rw[<-g,jQ],lEV _,lX2,.inr rfl,by rw[np,g];omega⟩⟩,by rw[<-g,jQ],A.push _,by rw[np,g]⟩
 have j:Nat.ble ((n+k)*w) gM=true:=lOH s;have a:Nat.ble (n+k) gM=true:=lOH i;rcases h.is with⟨rfl,rfl⟩|⟨b,o,e,q,L,rfl,m,E,p,c,F⟩
 ·have:l=[]:=lIG.1 (by rw[h.len];simp);subst this;refine fin H rfl (Fm.refl _ _) ?_;show(bif Nat.beq k 0 then _ else bif Nat.ble (Nat.mul k w) gM&&Nat.ble k gM then _ else _)=_;rw[beq_eq,lIF om];rw[lEW]at j a;show(bif Nat.ble (k*w) gM&&Nat.ble k gM then _ else _)=_;rw[j,a,lEW];rfl
 ·have t:Nat.ble (n+k) n=false:=by rw[ble_eq,lIF om]
  have u:o+n*z=L.length:=by have:=h.len;rw[<-p,lIZ]at this;omega
  have y:iF (H.get b) o (Nat.mul n z)=some l:=by rw[m,qbv,lEZ (by show o+n*z<=_;omega),p,lIW (by rw[h.len];exact lEO _)]
  have f:∀(e:Bool) (H1:Hp),H1=(bif e then H else H.put b .dead)->(e=true\/q=z)->kJ z w H (.sl b o n n e) (some ⟨k,x⟩)=.ok (.sl H1.nx 0 (n+k) (n+k) false) (aK H1 (aB z (l++x))):=by
   intro e H1 C c;show(bif Nat.ble (n+k) n then _ else bif Nat.ble (Nat.mul (n+k) w) gM&&Nat.ble (n+k) gM then(match iF (H.get b) o (Nat.mul n z)with|none=>R1.bad|some old=>bif e then _ else bif qg9 (H.get b) (o+n*z) z then _ else _)else R1.bad)=_;rw[t,show Nat.mul (n+k) w=(n+k)*w from rfl,j,a,y];subst C;cases e with
   |true=>rfl
   |false=>
    rcases c with c|c
    ·cases c
    ·have:qg9 (H.get b) (o+n*z) z=true:=by rw[m,zri];simp[u,c]
     simp only[lOZ,lII,Bool.and_self,this];rfl
  refine fin (bif e then H else H.put b .dead) (by cases e<;>rfl) ?_ (f e _ rfl c);cases e with
  |true=>exact Fm.refl _ _
  |false=>exact(Fm.refl _ _).put b _ fun _=>⟨_,_,_,_,rfl⟩
theorem zot(z:Nat)(H:Hp)(b o n m:Nat)(e:Bool)(q:Nat)(L:List AV)(h:H.get b=aB q L)(a:o+n*z<=L.length):pJ z H (.sl b o n m e)=some ⟨n,(L.drop o).take (n*z)⟩:=by show(match iF (H.get b) o (Nat.mul n z)with|some l=>some (Src.mk n l)|none=>none)=_;rw[h,qbv,lEZ (show o+Nat.mul n z<=L.length from a)];rfl
theorem q1n(z:Nat)(H:Hp)(b o n m:Nat)(e:Bool):pJ z H (.sl b o n m e)=(match iF (H.get b) o (n*z)with|some l=>some ⟨n,l⟩|none=>none):=id rfl
theorem Gl.head{v:AV}{x:AV}(h:Gl 1 H v n (x::l)):∃ b o,aG 1 v (iN 0)=.val (.ptr b o)/\b<H.nx/\In v b/\bI (H.get b) o=.val x:=by
 have a:=h.len;rcases h.is with⟨rfl,rfl⟩|⟨b,o,e,q,L,rfl,c,g,d,i,f⟩
 ·simp at a
 ·refine⟨b,o,?_,f,⟨_,_,_,_,rfl⟩,?_⟩
  ·rw[uY _ _ _ _ _ _ _ _ (by simp at a;omega),lY4,lO7]
  ·have:L[o]? =some x:=by rw[<-lO7 o,<-lU1,d];rfl
   rw[c,qb3,this]
theorem Gl.tail{v:AV}{x:AV}(h:Gl 1 H v (n+1) (x::l)):∃w,lC 1 v (some (iN 1)) none none=.val w/\Ev.aD w=.val (iN n)/\(0<n->Gl 1 H w n l)/\(∀b,In w b->In v b):=by
 have z:=h.len;rcases h.is with⟨rfl,s⟩|⟨b,o,e,q,L,rfl,t,A,f,u,y⟩
 ·simp at s
 ·have p:lC 1 (.sl b o (n+1) (n+1) e) (some (iN 1)) none none=jF b o 1 ⟨1,n+1,n+1⟩ e:=by
   show(match bounds (n+1) (n+1) (some (iN 1)) none none with|some bd=>jF b o 1 bd e|none=>R0.bad)=_;rfl
  rw[p];unfold jF;simp only[beq_eq];by_cases m:n=0
  ·subst m;cases e with
   |true=>exact⟨_,rfl,rfl,fun h=>absurd h (lOB 0),fun c a=>by obtain⟨g,i,j,k,d⟩:=a;cases d;exact⟨_,_,_,_,rfl⟩⟩
   |false=>exact⟨_,rfl,rfl,fun h=>absurd h (lOB 0),fun c a=>by obtain⟨g,i,j,k,d⟩:=a;cases d⟩
  ·have r:decide (n+1=1)=false:=by simp;exact m
   rw[r];refine⟨.sl b (o+1) n n e,by show R0.val (.sl b (o+1*1) (n+1-1) (n+1-1) e)=_;rw[lX3,lUB],rfl,fun _=>⟨?_,.inr ⟨b,o+1,e,q,L,rfl,t,?_,?_,u,y⟩⟩,fun c a=>by obtain⟨g,i,j,k,d⟩:=a;cases d;exact⟨_,_,_,_,rfl⟩⟩
   ·simp_all
   ·have:(L.drop o).length=(x::l).length:=by rw[f]
    rw[lIZ]at this;simp at this;omega
   ·rw[<-lXE,f];rfl
theorem zxg(l v:List AV)(h:Tr (decide (v.length=l.length))):aY l 0 v=v:=by unfold Tr at h;rw[lUF]at h;unfold aY;simp[h]
theorem qck(z:List AV)(w nm n:Nat)(h:n*w<=1099511627776)(a:n<=1099511627776):qer z w nm (iN n) (iN n)=.new (.sl nm 0 n n true) (aB 0 (aZ z n)):=by show(bif Nat.ble n n&&Nat.ble (Nat.mul n w) gM&&Nat.ble n gM then _ else _)=_;rw[lOH (lEO n),show Nat.mul n w=n*w from rfl,lOH (show n*w<=gM from h),lOH (show n<=gM from a)];rfl
theorem qcv(x:AV):∀ n,aZ [x] n=List.replicate n x
 |0=>rfl
 |n+1=>by show[x]++aZ [x] n=_;rw[qcv x n];rfl
theorem q1y(c:List AV):cB c []=some c:=id rfl
theorem qyv(c:List AV)(a size:Nat)(v:AV)(r:List (Nat×Nat×AV)):cB c ((a,size,v)::r)=match wX v with|some l=>(match qq3 c a size l with|some c'=>cB c' r|none=>none)|none=>none:=id rfl
theorem zf6(k:IntKind)(n:Int):wX (.int k n)=some [.int k n]:=id rfl
theorem q83(n:Bool):wX (.bool n)=some [.bool n]:=id rfl
theorem zr2(a b c d:Nat)(e:Bool):wX (.sl a b c d e)=some [.sl a b c d e]:=id rfl
theorem q3y:wX .aA=some [.aA]:=id rfl
theorem zf7(l:List AV):wX (.agg l)=some l:=id rfl
theorem zew(c:List AV)(a size:Nat)(v:List AV):qq3 c a size v=bif Nat.beq v.length size&&Nat.ble (a+size) c.length then some (c.take a++v++c.drop (a+size))else none:=id rfl
theorem xck(l:List AV):aZ l 1=l++[]:=id rfl
theorem xcj(l:List AV):aZ l 2=l++(l++[]):=id rfl
theorem xci(l:List AV):aZ l 3=l++(l++(l++[])):=id rfl
attribute [go_sem] q1y qyv zf6 q83 zr2 q3y zf7 zew xck xcj xci ble_eq blt_eq beq_eq lIM lOX lUS qgc
attribute [go_sem] zxg q1n bHR xal z97 aEG aZY bA4 aWc xbx aWV xec zn7 zem zzu zse zrs zfy zrr zfx zn3 zek zo2 zrg zy6 xd1 zrf xae zqz Bool.and_true Bool.true_and Bool.and_self
theorem kW{c:bX}:Fm No H (aK H c):=(Fm.refl _ _).push _
theorem xE{c d:bX}:Fm No H (aK (aK H c) d):=kW.push _
theorem fP3{c d e:bX}:Fm No H (aK (aK (aK H c) d) e):=xE.push _
theorem fP4{c d e f:bX}:Fm No H (aK (aK (aK (aK H c) d) e) f):=fP3.push _
theorem jW{c d:bX}:Fm No H ((aK H c).put H.nx d):=kW.aH _ _ (lEO _)
theorem bAY{c d e:bX}:Fm No H (aK ((aK H c).put H.nx d) e):=jW.push _
def dn(i A b:Nat)(H:Hp)(p:List Pd)(w:List Wt)(r:R0)(k:AV->Hp->List Pd->List Wt->R1):R1:=dq false false i A (b+i) H p w (fun _=>r) (some true) k
def da(i A b:Nat)(H:Hp)(p:List Pd)(w:List Wt)(r:R0)(k:AV->Hp->List Pd->List Wt->R1):R1:=dq false true i A (b+i) H p w (fun _=>r) (some true) k
def dl(i A b:Nat)(H:Hp)(p:List Pd)(w:List Wt)(f:Hp->R0)(k:AV->Hp->List Pd->List Wt->R1):R1:=dq true false i A (b+i) H p w f (some true) k
theorem aZ7(i A b:Nat)(H:Hp)(p:List Pd)(w:List Wt)(r:R0)(k:AV->Hp->List Pd->List Wt->R1):dn i A b H p w r k=vD r false false i A (b+i) H p w (fun _=>r) k:=aEG ..
theorem aZK(i A b:Nat)(H:Hp)(p:List Pd)(w:List Wt)(r:R0)(k:AV->Hp->List Pd->List Wt->R1):da i A b H p w r k=vD r false true i A (b+i) H p w (fun _=>r) k:=aEG ..
theorem bAJ(i A b:Nat)(H:Hp)(p:List Pd)(w:List Wt)(f:Hp->R0)(k:AV->Hp->List Pd->List Wt->R1):dl i A b H p w f k=vD (f (fI A p H)) true false i A (b+i) H p w f k:=aEG ..
@[congr] theorem aNq {i a A b : Nat}{H : Hp}{p : List Pd}{w : List Wt}{r : R0}{k : AV -> Hp -> List Pd -> List Wt -> R1}(h : i = a):dn i A b H p w r k = dn a A b H p w r k := by rw [h]
@[congr] theorem aNB {i a A b : Nat}{H : Hp}{p : List Pd}{w : List Wt}{r : R0}{k : AV -> Hp -> List Pd -> List Wt -> R1}(h : i = a):da i A b H p w r k = da a A b H p w r k := by rw [h]
@[congr] theorem aQp {i a A b : Nat}{H : Hp}{p : List Pd}{w : List Wt}{f : Hp -> R0}{k : AV -> Hp -> List Pd -> List Wt -> R1}(h : i = a):dl i A b H p w f k = dl a A b H p w f k := by rw [h]
attribute [go_sem] aZ7 aZK bAJ
def vF(i:Nat)(p:AV)(H:Hp)(k:pH):R1:=vq (aP i p) H fun a H=>vq (aN H a) H k
theorem aP6(i:Nat)(p:AV)(H:Hp)(k:pH):vF i p H k=vq (aP i p) H fun a H=>vq (aN H a) H k:=id rfl
@[congr] theorem aMy {i a : Nat}{p : AV}{H : Hp}{k : AV -> Hp -> R1}(h : i = a):vF i p H k = vF a p H k := by rw [h]
def vI(x:AV)(H:Hp)(k:pH):R1:=vq (fO (lS .add).f x (.int .i64 (.ofNat 1))) H k
theorem aMt(x:AV)(H:Hp)(k:pH):vI x H k=vq (fO (lS .add).f x (.int .i64 (.ofNat 1))) H k:=id rfl
@[congr] theorem aK4 {x a : AV}{H : Hp}{k : AV -> Hp -> R1}(h : x = a):vI x H k = vI a H k := by rw [h]
attribute [go_sem] aP6 aMt
abbrev gG(b:(pH)->pH)(n:Nat):pH:=
 Nat.rec (motive:=fun _=>pH) (fun _ _=>.bad) (fun _ ih=>b ih) n
abbrev oL(b:(AV->pH)->AV->pH)(n:Nat):AV->pH:=
 Nat.rec (motive:=fun _=>AV->pH) (fun _ _ _=>.bad) (fun _ ih=>b ih) n
abbrev lq3(b:(AV->AV->pH)->AV->AV->pH)(n:Nat):AV->AV->pH:=
 Nat.rec (motive:=fun _=>AV->AV->pH) (fun _ _ _ _=>.bad) (fun _ ih=>b ih) n
def wq(r:R0)(k:pH)(H:Hp):R1:=vq r H k
theorem bG6(r:R0)(k:pH)(H:Hp):wq r k H=vq r H k:=id rfl
def wA(n:Nat)(x:AV)(k:pH)(H:Hp):R1:=vq (dB n H x) H k
theorem bEg(n:Nat)(x:AV)(k:pH)(H:Hp):wA n x k H=vq (dB n H x) H k:=id rfl
def w1(x:AV)(k:pH)(H:Hp):R1:=vq (aN H x) H k
theorem bAe(x:AV)(k:pH)(H:Hp):w1 x k H=vq (aN H x) H k:=id rfl
def wB(n:Nat)(x:AV)(k:pH)(H:Hp):R1:=vq (zG n H.nx x) H k
theorem bCi(n:Nat)(x:AV)(k:pH)(H:Hp):wB n x k H=vq (zG n H.nx x) H k:=id rfl
def wN(l:List AV)(k:pH)(H:Hp):R1:=vq (.new (.ptr H.nx 0) (aB 0 l)) H k
theorem bBw(l:List AV)(k:pH)(H:Hp):wN l k H=vq (.new (.ptr H.nx 0) (aB 0 l)) H k:=id rfl
def wQ(n:Nat)(l:Option (List AV))(k:pH)(H:Hp):R1:=vq (vT n H.nx l) H k
theorem bAX(n:Nat)(l:Option (List AV))(k:pH)(H:Hp):wQ n l k H=vq (vT n H.nx l) H k:=id rfl
def wh(r:Hp->R0)(k:pH)(H:Hp):R1:=vq (r H) H k
theorem bII(r:Hp->R0)(k:pH)(H:Hp):wh r k H=vq (r H) H k:=id rfl
def wF(i:Nat)(p:AV)(k:pH)(H:Hp):R1:=vF i p H k
theorem aXc(i:Nat)(p:AV)(k:pH)(H:Hp):wF i p k H=vF i p H k:=id rfl
def wI(x:AV)(k:pH)(H:Hp):R1:=vI x H k
theorem bH6(x:AV)(k:pH)(H:Hp):wI x k H=vI x H k:=id rfl
def wT(n:Nat)(x y:AV)(k:pL)(H:Hp):R1:=ve (qdc n H x y) fun _ H=>k H
theorem bIy(n:Nat)(x y:AV)(k:pL)(H:Hp):wT n x y k H=ve (qdc n H x y) fun _ H=>k H:=id rfl
def wU(x y:AV)(k:pL)(H:Hp):R1:=ve (jN H x y) fun _ H=>k H
theorem aYA(x y:AV)(k:pL)(H:Hp):wU x y k H=ve (jN H x y) fun _ H=>k H:=id rfl
def wP(z w:Nat)(x y:AV)(k:pH)(H:Hp):R1:=ve (kJ z w H x (pJ z H y)) k
theorem bGl(z w:Nat)(x y:AV)(k:pH)(H:Hp):wP z w x y k H=ve (kJ z w H x (pJ z H y)) k:=id rfl
def wc(O:Ev.Call)(f:FuncId)(l:List AV)(k:pH)(H:Hp):R1:=ve (O (.f f) l H) k
theorem bHN(O:Ev.Call)(f:FuncId)(l:List AV)(k:pH)(H:Hp):wc O f l k H=ve (O (.f f) l H) k:=id rfl
def we(r:pL)(k:pH)(H:Hp):R1:=ve (r H) k
theorem bHW(r:pL)(k:pH)(H:Hp):we r k H=ve (r H) k:=id rfl
def wg(g:Option Bool)(r:R0)(k:pH)(H:Hp):R1:=vg g r H k
theorem bDt(g:Option Bool)(r:R0)(k:pH)(H:Hp):wg g r k H=vg g r H k:=id rfl
def wG(g:Option Bool)(r:Hp->R0)(k:pH)(H:Hp):R1:=vg g (r H) H k
theorem bAc(g:Option Bool)(r:Hp->R0)(k:pH)(H:Hp):wG g r k H=vg g (r H) H k:=id rfl
def wx(g:Option Bool)(r:pL)(k:pH)(H:Hp):R1:=veg g (r H) H k
theorem bGf(g:Option Bool)(r:pL)(k:pH)(H:Hp):wx g r k H=veg g (r H) H k:=id rfl
def wl(r:R0)(k:pH)(H:Hp):R1:=vl r fun a=>k a H
theorem aZJ(r:R0)(k:pH)(H:Hp):wl r k H=vl r fun a=>k a H:=id rfl
def wL(r:Hp->R0)(k:pH)(H:Hp):R1:=vl (r H) fun a=>k a H
theorem bGn(r:Hp->R0)(k:pH)(H:Hp):wL r k H=vl (r H) fun a=>k a H:=id rfl
def wm(g:Option Bool)(r:R0)(k:pH)(H:Hp):R1:=vlg g r fun a=>k a H
theorem bHO(g:Option Bool)(r:R0)(k:pH)(H:Hp):wm g r k H=vlg g r fun a=>k a H:=id rfl
def wM(g:Option Bool)(r:Hp->R0)(k:pH)(H:Hp):R1:=vlg g (r H) fun a=>k a H
theorem bEA(g:Option Bool)(r:Hp->R0)(k:pH)(H:Hp):wM g r k H=vlg g (r H) fun a=>k a H:=id rfl
def wd(x:AV)(a b:pL)(H:Hp):R1:=cd x (a H) (b H)
theorem aWa(x:AV)(a b:pL)(H:Hp):wd x a b H=cd x (a H) (b H):=id rfl
def wz(n:Nat)(k:Nat->Hp->List Pd->List Wt->R1)(H:Hp):R1:=dz n H fun b H=>k b H [] []
theorem bHL(n:Nat)(k:Nat->Hp->List Pd->List Wt->R1)(H:Hp):wz n k H=dz n H fun b H=>k b H [] []:=id rfl
def wy(k:pL)(H:Hp)(p:List Pd)(w:List Wt):R1:=dz2 p H k
theorem bDD(k:pL)(H:Hp)(p:List Pd)(w:List Wt):wy k H p w=dz2 p H k:=id rfl
def wn(i A b:Nat)(r:R0)(k:AV->Hp->List Pd->List Wt->R1)(H:Hp)(p:List Pd)(w:List Wt):R1:=dn i A b H p w r k
theorem aZf(i A b:Nat)(r:R0)(k:AV->Hp->List Pd->List Wt->R1)(H:Hp)(p:List Pd)(w:List Wt):wn i A b r k H p w=dn i A b H p w r k:=id rfl
def wo(i A b:Nat)(r:Hp->R0)(k:AV->Hp->List Pd->List Wt->R1)(H:Hp)(p:List Pd)(w:List Wt):R1:=dl i A b H p w r k
theorem aXw(i A b:Nat)(r:Hp->R0)(k:AV->Hp->List Pd->List Wt->R1)(H:Hp)(p:List Pd)(w:List Wt):wo i A b r k H p w=dl i A b H p w r k:=id rfl
def wa(i A b:Nat)(r:R0)(k:AV->Hp->List Pd->List Wt->R1)(H:Hp)(p:List Pd)(w:List Wt):R1:=da i A b H p w r k
theorem bHP(i A b:Nat)(r:R0)(k:AV->Hp->List Pd->List Wt->R1)(H:Hp)(p:List Pd)(w:List Wt):wa i A b r k H p w=da i A b H p w r k:=id rfl
def wr(i A b:Nat)(r:R0)(g:Option Bool)(k:AV->Hp->List Pd->List Wt->R1)(H:Hp)(p:List Pd)(w:List Wt):R1:=dq false false i A (b+i) H p w (fun _=>r) g k
theorem bGF(i A b:Nat)(r:R0)(g:Option Bool)(k:AV->Hp->List Pd->List Wt->R1)(H:Hp)(p:List Pd)(w:List Wt):wr i A b r g k H p w=dq false false i A (b+i) H p w (fun _=>r) g k:=id rfl
def ws(i A b:Nat)(r:Hp->R0)(g:Option Bool)(k:AV->Hp->List Pd->List Wt->R1)(H:Hp)(p:List Pd)(w:List Wt):R1:=dq true false i A (b+i) H p w r g k
theorem bFN(i A b:Nat)(r:Hp->R0)(g:Option Bool)(k:AV->Hp->List Pd->List Wt->R1)(H:Hp)(p:List Pd)(w:List Wt):ws i A b r g k H p w=dq true false i A (b+i) H p w r g k:=id rfl
def wt(A:Nat)(r:pL)(g:Option Bool)(k:AV->Hp->List Pd->List Wt->R1)(H:Hp)(p:List Pd)(w:List Wt):R1:=de A H p w (r (fI A p H)) g k
theorem aZZ(A:Nat)(r:pL)(g:Option Bool)(k:AV->Hp->List Pd->List Wt->R1)(H:Hp)(p:List Pd)(w:List Wt):wt A r g k H p w=de A H p w (r (fI A p H)) g k:=id rfl
def wu(A:Nat)(r:pL)(k:AV->Hp->List Pd->List Wt->R1)(H:Hp)(p:List Pd)(w:List Wt):R1:=de A H p w (r (fI A p H)) (some true) k
theorem bEf(A:Nat)(r:pL)(k:AV->Hp->List Pd->List Wt->R1)(H:Hp)(p:List Pd)(w:List Wt):wu A r k H p w=de A H p w (r (fI A p H)) (some true) k:=id rfl
def wv(x:AV):Option Bool:=aM true x
theorem aWY(x:AV):wv x=aM true x:=id rfl
def ib(o:BinOp)(x y:AV):R0:=fO (lS o).f x y
theorem bHi(o:BinOp)(x y:AV):ib o x y=fO (lS o).f x y:=id rfl
attribute [go_sem ↓] bG6 bEg bAe bCi bBw bAX bII aXc bH6 bIy aYA bGl bHN bHW bDt bAc bGf aZJ bGn bHO bEA aWa bHL bDD aZf aXw bHP bGF bFN aZZ bEf aWY bHi
theorem fm(h:Fm S H0 H:=by repeat(first|exact Fm.refl _ _|assumption|refine Fm.push ?_ _|refine Fm.up2 ?_ g1|refine Fm.aH ?_ _ _ g1|refine Fm.put ?_ _ _ (fun _=>rfl))):Fm S H0 H:=h
theorem g5{p:Prop}(h:p:=by simp(disch:=go_size)only[go_sem,seval]):p:=h
theorem g6{p:Prop}(h:p:=by simp(disch:=first|go_size|omega)only[go_sem,seval]):p:=h
theorem gx{p:Prop}(h:p:=by first|omega|(simp only[np,nq];omega)):p:=h
end Go.Di
end
