/-
 For FitsObjects: functions in direct style, their contracts, and the plain mathematics, part 1 of 9. No conditions beyond those that each theorem states.
-/
import Derived.Test.YtbfjjkjiokfdgaaGreatEv4
import Derived.Attr
set_option linter.unusedSimpArgs false
set_option linter.unusedVariables false
noncomputable section
namespace Go.Di
open Go.Ev
abbrev pD:=AV->Hp->R1
abbrev pH:=Hp->R1
abbrev pL:=AV->Hp->Prop
abbrev iN(n:Nat):AV:=.int .i64 (.ofNat n)
variable {H H':Hp} {S:Nat->Prop} {b k n z:Nat} {l:List AV}
theorem aX(h:n+1<=k):∃ j,k=j+1:=⟨k-1,by omega⟩
theorem blt_eq(a b:Nat):Nat.blt a b=decide (a<b):=by
 cases h:Nat.blt a b with
 |true=>symm;rw[decide_eq_true_iff];exact Nat.le_of_ble_eq_true h
 |false=>symm;rw[decide_eq_false_iff_not];intro h';rw[show Nat.blt a b=Nat.ble (a+1) b from rfl,Nat.ble_eq_true_of_le h']at h;cases h
theorem ble_eq(a b:Nat):Nat.ble a b=decide (a<=b):=by
 cases h:Nat.ble a b with
 |true=>symm;rw[decide_eq_true_iff];exact Nat.le_of_ble_eq_true h
 |false=>symm;rw[decide_eq_false_iff_not];intro h';rw[Nat.ble_eq_true_of_le h']at h;cases h
theorem beq_eq(a b:Nat):Nat.beq a b=decide (a=b):=by
 cases h:Nat.beq a b with
 |true=>simp[Nat.eq_of_beq_eq_true h]
 |false=>symm;rw[decide_eq_false_iff_not];rintro rfl;rw[Nat.beq_refl]at h;cases h
/- trees are equal where all their cells are -/
theorem aMU{α:Type}{t u:Q α}(h:∀ k,k<8->qmo k t=qmo k u):t=u:=by cases t;cases u;have h0:=h 0 (by decide);have h1:=h 1 (by decide);have h2:=h 2 (by decide);have h3:=h 3 (by decide);have h4:=h 4 (by decide);have h5:=h 5 (by decide);have h6:=h 6 (by decide);have h7:=h 7 (by decide);simp only[qmo]at h0 h1 h2 h3 h4 h5 h6 h7;simp_all
theorem zsf{α:Type}:∀(d:Nat) {t u:TT α d},(∀i,i<8 ^ d->(dG d i).f t=(dG d i).f u)->t=u
 |0,t,u,h=>h 0 (by decide)
 |d+1,t,u,h=>by refine aMU fun k hk=>zsf d fun i hi=>?_;have:=h (i*8+k) (by rw[Nat.pow_succ];omega);rw[qdo,qdo]at this;rwa [show(i*8+k) / 8=i by omega,show(i*8+k)%8=k by omega]at this
/- blocks as lists -/
def cellsOf(l:List AV):TT AV (iJ l.length):=mU l 0 (same .undef _)
theorem qci(l:List AV)(i:Nat)(hi:i<8 ^ iJ l.length):(dG _ i).f (cellsOf l)=l.getD i .undef:=by
 unfold cellsOf;rw[qg8 _ _ _ _ (by simpa using qbz l.length) hi];by_cases h:i<l.length
 ·simp_all
 ·rw[if_neg (by omega),qgj];simp_all
def bH(l:List AV)(o:Nat)(v:List AV):List AV:=l.take o++v++l.drop (o+v.length)
theorem qdm(l:List AV)(o:Nat)(v:List AV)(h:o+v.length<=l.length):(bH l o v).length=l.length:=by simp[bH];omega
theorem zm5(l:List AV)(o:Nat)(v:List AV)(h:o+v.length<=l.length)(i:Nat):(bH l o v).getD i .undef=if o<=i/\i<o+v.length then v.getD (i-o) .undef else l.getD i .undef:=by
 unfold bH;simp only[List.getD_eq_getElem?_getD];by_cases h1:i<o
 ·rw[if_neg (by omega),List.append_assoc,List.getElem?_append_left (by simp;omega),List.getElem?_take_of_lt h1]
 ·by_cases h2:i<o+v.length
  ·rw[if_pos (by omega),List.append_assoc,List.getElem?_append_right (by simp;omega),List.getElem?_append_left (by simp;omega)];simp[Nat.min_eq_left (show o<=l.length by omega)]
  ·rw[if_neg (by omega),List.getElem?_append_right (by simp;omega),List.getElem?_drop];simp only[List.length_append,List.length_take,Nat.min_eq_left (show o<=l.length by omega)];congr 2;omega
theorem qhu(z:Nat)(l v:List AV)(o:Nat):vZ (aB z l) o v=if o+v.length<=l.length then some (aB z (bH l o v))else none:=by
 show(bif Nat.ble (o+v.length) l.length then some (bM.cells _ _ (mU v o (cellsOf l)) false z)else none)=_;by_cases h:o+v.length<=l.length
 ·rw[if_pos h,Nat.ble_eq_true_of_le h];have hl:=qdm l o v h;have key:∀(n:Nat) (e:n=l.length) (c:TT AV (iJ n)),(∀i,i<8 ^ iJ n->(dG _ i).f c=(bH l o v).getD i .undef)->bM.cells (iJ l.length) l.length (mU v o (cellsOf l)) false z=bM.cells (iJ n) n c false z:=by
   intro n e c hc;subst e;congr 1;refine zsf _ fun i hi=>?_;have:=qbz l.length;rw[hc i hi,zm5 _ _ _ h,qg8 _ _ _ _ (by omega) hi,qci _ _ hi]
  exact congrArg some (key _ hl _ fun i hi=>qci _ _ hi)
 ·rw[if_neg h];have:Nat.ble (o+v.length) l.length=false:=by
   cases hb:Nat.ble (o+v.length) l.length with
   |false=>rfl
   |true=>exact absurd (Nat.le_of_ble_eq_true hb) h
  rw[this];rfl
theorem qb6(z:Nat)(l:List AV)(o:Nat):dI (aB z l) o=match l[o]? with|some v=>.val v|none=>.bad:=by
 show(bif Nat.blt o l.length then R0.val ((dG _ o).f (cellsOf l))else .bad)=_;by_cases h:o<l.length
 ·have hb:Nat.blt o l.length=true:=by rw[blt_eq];simpa using h
  rw[hb,qci _ _ (Nat.lt_of_lt_of_le h (qbz _))];simp[h]
 ·have hb:Nat.blt o l.length=false:=by rw[blt_eq];simpa using h
  simp_all
theorem q4i{d:Nat}(c:TT AV d)(l:List AV)(hc:∀ i,i<8 ^ d->(dG d i).f c=l.getD i .undef):∀(k o:Nat),o+k<=l.length->l.length<=8 ^ d->q8 c k o=(l.drop o).take k
 |0,o,_,_=>by simp[znf]
 |k+1,o,h,h2=>by rw[qs4,hc _ (by omega),q4i c l hc k (o+1) (by omega) h2];rw[List.drop_eq_getElem_cons (show o<l.length by omega),List.take_succ_cons];simp[show o<l.length by omega]
theorem qb2(z:Nat)(l:List AV)(o k:Nat):fU (aB z l) o k=if o+k<=l.length then some ((l.drop o).take k)else none:=by
 show(bif Nat.ble (o+k) l.length then some (q8 (cellsOf l) k o)else none)=_;by_cases h:o+k<=l.length
 ·rw[if_pos h,Nat.ble_eq_true_of_le h,q4i _ l (fun i hi=>qci l i hi) k o h (qbz _)];rfl
 ·rw[if_neg h];have:Nat.ble (o+k) l.length=false:=by
   cases hb:Nat.ble (o+k) l.length with
   |false=>rfl
   |true=>exact absurd (Nat.le_of_ble_eq_true hb) h
  rw[this];rfl
theorem zhm(z z':Nat)(l:List AV)(e:Nat):qg1 (aB z l) e z'=(decide (l.length=e)&&decide (z=z')):=by
 show(Nat.beq l.length e&&Nat.beq z z')=_;have hb:∀ a b,Nat.beq a b=decide (a=b):=fun a b=>by
  cases h:Nat.beq a b with
  |true=>simp[Nat.eq_of_beq_eq_true h]
  |false=>symm;rw[decide_eq_false_iff_not];rintro rfl;rw[Nat.beq_refl]at h;cases h
 rw[hb,hb]
/- memory -/
theorem get_put(H:Hp)(b c:Nat)(k:bM):(H.put b k).get c=if c=b then k else H.get c:=Mem.get_put H.t b c k
theorem eD(H:Hp)(b:Nat)(k:bM):(H.put b k).get b=k:=by rw[get_put,if_pos rfl]
theorem dJ(H:Hp)(b c:Nat)(k:bM)(h:c≠b):(H.put b k).get c=H.get c:=by rw[get_put,if_neg h]
theorem nq(H:Hp)(b:Nat)(k:bM):(H.put b k).nx=H.nx:=id rfl
theorem qgk(H:Hp)(c:Nat)(k:bM):(aS H k).get c=if c=H.nx then k else H.get c:=Mem.get_put H.t H.nx c k
theorem lI(H:Hp)(k:bM):(aS H k).get H.nx=k:=by rw[qgk,if_pos rfl]
theorem q1c(H:Hp)(c:Nat)(k:bM)(h:H.nx<=c/\c<=H.nx):(aS H k).get c=k:=by rw[qgk,if_pos (by omega)]
theorem qbt(H:Hp)(c:Nat)(k:bM)(h:c<H.nx):(aS H k).get c=H.get c:=by rw[qgk,if_neg (by omega)]
theorem np(H:Hp)(k:bM):(aS H k).nx=H.nx+1:=id rfl
structure Fm(S:Nat->Prop)(H H':Hp):Prop where
 nx:H.nx<=H'.nx
 get:∀ b,b<H.nx->¬ S b->H'.get b=H.get b
def No:Nat->Prop:=fun _=>False
theorem Fm.refl(S:Nat->Prop)(H:Hp):Fm S H H:=⟨Nat.le_refl _,fun _ _ _=>rfl⟩
theorem Fm.trans{H H1 H2:Hp}(a:Fm S H H1)(b:Fm S H1 H2):Fm S H H2:=⟨Nat.le_trans a.nx b.nx,fun c hc hs=>(b.get c (Nat.lt_of_lt_of_le hc a.nx) hs).trans (a.get c hc hs)⟩
theorem Fm.mono{S T:Nat->Prop}(a:Fm S H H')(h:∀ b,b<H.nx->S b->T b):Fm T H H':=⟨a.nx,fun b hb ht=>a.get b hb fun hs=>ht (h b hb hs)⟩
theorem Fm.push(a:Fm S H H')(k:bM):Fm S H (aS H' k):=⟨Nat.le_succ_of_le a.nx,fun b hb hs=>by rw[qbt _ _ _ (Nat.lt_of_lt_of_le hb a.nx)];exact a.get b hb hs⟩
theorem Fm.put(a:Fm S H H')(b:Nat)(k:bM)(h:b<H.nx->S b):Fm S H (H'.put b k):=⟨a.nx,fun c hc hs=>by rw[dJ _ _ _ _ (fun e=>hs (by subst e;exact h hc))];exact a.get c hc hs⟩
theorem Fm.aG(a:Fm S H H')(b:Nat)(k:bM)(h:H.nx<=b):Fm S H (H'.put b k):=a.put b k fun hb=>by omega
theorem Fm.keep(a:Fm No H H')(hb:b<H.nx):H'.get b=H.get b:=a.get b hb id
theorem Fm.then{S T:Nat->Prop}{H H1 H2:Hp}(a:Fm S H H1)(b:Fm T H1 H2)(h:∀ c,c<H.nx->T c->S c):Fm S H H2:=
 ⟨Nat.le_trans a.nx b.nx,fun c hc hs=>(b.get c (Nat.lt_of_lt_of_le hc a.nx) fun ht=>hs (h c hc ht)).trans (a.get c hc hs)⟩
def Ok(r:R1)(Q:pL):Prop:=∃ v H',r=.ok v H'/\Q v H'
theorem Ok.ret{v:AV}{Q:pL}(h:Q v H):Ok (.ok v H) Q:=⟨v,H,rfl,h⟩
theorem Ok.mono{r:R1}{Q R:pL}(h:Ok r Q)(hm:∀ v H,Q v H->R v H):Ok r R:=by obtain⟨v,H,e,q⟩:=h;exact⟨v,H,e,hm _ _ q⟩
theorem Ok.ve{r:R1}{k:pD}{Q R:pL}(h:Ok r R)(hk:∀ v H,R v H->Ok (k v H) Q):Ok (ve r k) Q:=by obtain⟨v,H,e,q⟩:=h;subst e;exact hk v H q
theorem Ok.de{A:Nat}{p:List Pd}{w:List Wt}{r:R1}{k:AV->Hp->List Pd->List Wt->R1}{Q R:pL}(h:Ok r R)(hk:∀ v H',R v H'->yO (pM A p) H' (pK A w)=true/\Ok (k v H' (pM A p) (pK A w)) Q):Ok (de A H p w r (some true) k) Q:=by obtain⟨v,H',e,q⟩:=h;subst e;obtain⟨h1,h2⟩:=hk v H' q;rw[zo5];unfold de0;simp only[h1,cond_true];exact h2
/- steps -/
theorem zy1(v:AV)(H:Hp)(k:pD):vq (.val v) H k=k v H:=id rfl
theorem zy2(v:AV)(b:bM)(H:Hp)(k:pD):vq (.new v b) H k=k v (aS H b):=id rfl
theorem aJJ(v:AV)(H:Hp)(k:pD):ve (.ok v H) k=k v H:=id rfl
theorem aWw(r:R0)(H:Hp)(k:pD):vg (some true) r H k=vq r H k:=by rw[zvl];rfl
theorem aUp(r:R0)(H:Hp)(k:pD):vg (some false) r H k=k .undef H:=by rw[zvl];rfl
theorem aIi(r:R1)(H:Hp)(k:pD):qG (some true) r H k=ve r k:=by rw[zeb];rfl
theorem aMR(r:R1)(H:Hp)(k:pD):qG (some false) r H k=k .undef H:=by rw[zeb];rfl
theorem zy4(v:AV)(k:AV->R1):vl (.val v) k=k v:=id rfl
theorem aIW(r:R0)(k:AV->R1):rQ (some true) r k=vl r k:=by rw[q3k];rfl
theorem aJn(r:R0)(k:AV->R1):rQ (some false) r k=k .undef:=by rw[q3k];rfl
theorem zvj(a b:Bool):aM a (.bool b)=some (b==a):=id rfl
theorem zvi(a:Bool):aM a .undef=some false:=id rfl
theorem aZG(x y:R1):cd (.bool true) x y=x:=id rfl
theorem aRi(x y:R1):cd (.bool false) x y=y:=id rfl
theorem aKa(up:Nat)(H:Hp)(k:Nat->pH):dz up H k=k H.nx ⟨H.t,H.nx+up⟩:=id rfl
theorem zwl(c:Bool)(a b:AV):fO (.bool c) a b=.val (if c=true then a else b):=by cases c<;>rfl
@[congr] theorem aLb {r r' : R0}{H : Hp}{k : AV -> Hp -> R1}(h : r = r'):vq r H k = vq r' H k := by rw [h]
@[congr] theorem aKB {r r' : R1}{k : AV -> Hp -> R1}(h : r = r'):ve r k = ve r' k := by rw [h]
@[congr] theorem aJZ {w w' : Option Bool}{r : R0}{H : Hp}{k : AV -> Hp -> R1}(h : w = w'):vg w r H k = vg w' r H k := by rw [h]
@[congr] theorem zy5 {w w' : Option Bool}{r : R1}{H : Hp}{k : AV -> Hp -> R1}(h : w = w'):qG w r H k = qG w' r H k := by rw [h]
@[congr] theorem aM7 {r r' : R0}{k : AV -> R1}(h : r = r'):vl r k = vl r' k := by rw [h]
@[congr] theorem zy3 {w w' : Option Bool}{r : R0}{k : AV -> R1}(h : w = w'):rQ w r k = rQ w' r k := by rw [h]
@[congr] theorem aMs {x x' : AV}{a b : R1}(h : x = x'):cd x a b = cd x' a b := by rw [h]
@[congr] theorem aLL {u : Nat}{H : Hp}{k : Nat -> Hp -> R1}:dz u H k = dz u H k := rfl
theorem qgm(k:IntKind):uL k k=true:=by cases k<;>rfl
theorem yT(a b:Int):oL a b=decide (a<b):=by cases a<;>cases b<;>simp only[oL,blt_eq]<;>rename_i m n<;>apply Bool.eq_iff_iff.2<;>simp only[decide_eq_true_eq,Int.ofNat_eq_natCast,Int.negSucc_eq]<;>first|omega|(simp;omega)
theorem zN(a b:Int):pY a b=decide (a=b):=by cases a<;>cases b<;>simp only[pY,beq_eq]<;>rename_i m n<;>apply Bool.eq_iff_iff.2<;>simp only[decide_eq_true_eq,Int.ofNat_eq_natCast,Int.negSucc_eq]<;>first|omega|(simp;omega)
theorem qf5(n:Nat)(h:n<9223372036854775808):sZ .i64 (.ofNat n)=.ofNat n:=by show(bif Nat.blt n 9223372036854775808 then _ else _)=_;rw[blt_eq,decide_eq_true h];rfl
theorem z2c(a b:Int):aD (aO .add).f (.int .i64 a) (.int .i64 b)=.val (.int .i64 (sZ .i64 (a+b))):=id rfl
theorem zzb(a b:Int):aD (aO .sub).f (.int .i64 a) (.int .i64 b)=.val (.int .i64 (sZ .i64 (a-b))):=id rfl
theorem z0g(a b:Int):aD (aO .mul).f (.int .i64 a) (.int .i64 b)=.val (.int .i64 (sZ .i64 (a*b))):=id rfl
theorem z2a(a b:Nat)(h:a+b<9223372036854775808):aD (aO .add).f (iN a) (iN b)=.val (iN ((a+b))):=by rw[z2c];exact congrArg (fun x=>R0.val (.int .i64 x)) (qf5 (a+b) h)
theorem zza(a b:Nat)(h:b<=a)(h2:a<9223372036854775808):aD (aO .sub).f (iN a) (iN b)=.val (iN ((a-b))):=by rw[zzb,show(Int.ofNat a-Int.ofNat b)=Int.ofNat (a-b)by simp only[Int.ofNat_eq_natCast];omega,qf5 _ (by omega)]
theorem z0f(a b:Nat)(h:a*b<9223372036854775808):aD (aO .mul).f (iN a) (iN b)=.val (iN ((a*b))):=by rw[z0g];exact congrArg (fun x=>R0.val (.int .i64 x)) (qf5 (a*b) h)
theorem zzy(a b:Nat)(h:0<b)(h2:a<9223372036854775808):aD (aO .quo).f (iN a) (iN b)=.val (iN ((a / b))):=by
 have hz:pY (.ofNat b) 0=false:=by rw[zN];simp;omega
 show(bif pY (.ofNat b) 0 then R0.bad else .val (.int .i64 (sZ .i64 ((Int.ofNat a).tdiv (Int.ofNat b)))))=_;rw[hz];exact congrArg (fun x=>R0.val (.int .i64 x)) (qf5 (a / b) (Nat.lt_of_le_of_lt (Nat.div_le_self _ _) h2))
theorem zzr(a b:Nat)(h:0<b):aD (aO .rem).f (iN a) (iN b)=.val (iN ((a%b))):=by
 have hz:pY (.ofNat b) 0=false:=by rw[zN];simp;omega
 show(bif pY (.ofNat b) 0 then R0.bad else .val (.int .i64 ((Int.ofNat a).tmod (Int.ofNat b))))=_;rw[hz];rfl
theorem zzq(a b:Nat)(h:0<b):aD (aO .rem).f (.int .u8 (.ofNat a)) (.int .u8 (.ofNat b))=.val (.int .u8 (.ofNat (a%b))):=by
 have hz:pY (.ofNat b) 0=false:=by rw[zN];simp;omega
 show(bif pY (.ofNat b) 0 then R0.bad else .val (.int .u8 ((Int.ofNat a).tmod (Int.ofNat b))))=_;rw[hz];rfl
theorem z0m(k:IntKind)(a b:Int):aD (aO .lss).f (.int k a) (.int k b)=.val (.bool (decide (a<b))):=by show(bif uL k k then R0.val (.bool (oL a b))else .bad)=_;rw[qgm,yT];rfl
theorem z0t(k:IntKind)(a b:Int):aD (aO .leq).f (.int k a) (.int k b)=.val (.bool (decide (a<=b))):=by show(bif uL k k then R0.val (.bool (!oL b a))else .bad)=_;rw[qgm,yT,<-decide_not];simp only[cond_true];congr 2;simp only[Int.not_lt]
theorem z05(k:IntKind)(a b:Int):aD (aO .gtr).f (.int k a) (.int k b)=.val (.bool (decide (b<a))):=by show(bif uL k k then R0.val (.bool (oL b a))else .bad)=_;rw[qgm,yT];rfl
theorem z07(k:IntKind)(a b:Int):aD (aO .geq).f (.int k a) (.int k b)=.val (.bool (decide (b<=a))):=by show(bif uL k k then R0.val (.bool (!oL a b))else .bad)=_;rw[qgm,yT,<-decide_not];simp only[cond_true];congr 2;simp only[Int.not_lt]
theorem z1g(k:IntKind)(a b:Int):aD (aO .eql).f (.int k a) (.int k b)=.val (.bool (decide (a=b))):=by show(bif uL k k then R0.val (.bool (pY a b))else .bad)=_;rw[qgm,zN];rfl
theorem z0e(k:IntKind)(a b:Int):aD (aO .neq).f (.int k a) (.int k b)=.val (.bool (!decide (a=b))):=by show(bif uL k k then R0.val (.bool (!pY a b))else .bad)=_;rw[qgm,zN];rfl
theorem aMy(b:Bool):(lY .not).f (.bool b)=.val (.bool !b):=id rfl
/- numbers -/
theorem znx(a b:Nat):(Int.ofNat a<Int.ofNat b)=(a<b):=by simp
theorem zny(a b:Nat):(Int.ofNat a<=Int.ofNat b)=(a<=b):=by simp
theorem q4v(a b:Nat):(Int.ofNat a=Int.ofNat b)=(a=b):=by simp only[Int.ofNat_eq_natCast,eq_iff_iff];omega
theorem q64(a b:Nat):(Int.negSucc a<Int.ofNat b)=True:=by simp only[Int.negSucc_eq,Int.ofNat_eq_natCast,eq_iff_iff,iff_true];omega
theorem q67(a b:Nat):(Int.ofNat a<Int.negSucc b)=False:=by simp only[Int.negSucc_eq,Int.ofNat_eq_natCast,eq_iff_iff,iff_false];omega
theorem q65(a b:Nat):(Int.negSucc a<=Int.ofNat b)=True:=by simp only[Int.negSucc_eq,Int.ofNat_eq_natCast,eq_iff_iff,iff_true];omega
theorem q68(a b:Nat):(Int.ofNat a<=Int.negSucc b)=False:=by simp only[Int.negSucc_eq,Int.ofNat_eq_natCast,eq_iff_iff,iff_false];omega
theorem q66(a b:Nat):(Int.negSucc a=Int.ofNat b)=False:=by simp
theorem q69(a b:Nat):(Int.ofNat a=Int.negSucc b)=False:=by simp
/- memory -/
theorem zw3(H:Hp)(b o:Nat):aQ H (.ptr b o)=dI (H.get b) o:=id rfl
theorem zw2(k:Nat)(H:Hp)(b o:Nat):aV k H (.ptr b o)=aBe (fU (H.get b) o k):=id rfl
theorem zit(l:List AV):aBe (some l)=.val (.agg l):=id rfl
theorem ziu(l:List AV):cO (some l)=.val (.agg l):=id rfl
theorem zzv(v:AV):rV (.val v)=some v:=id rfl
theorem zhd(v:AV)(H:Hp):eO (some v) H=.ok v H:=id rfl
theorem qb9(H:Hp)(b o:Nat)(v:List AV)(r:AV)(z:Nat)(l:List AV)(hb:H.get b=aB z l)(h:o+v.length<=l.length):storeAt H b o v r=.ok r (H.put b (aB z (bH l o v))):=by unfold storeAt;rw[hb,qhu,if_pos h]
theorem q6f(H:Hp)(b o:Nat)(v:List AV)(r:AV):storeAt H b o v r=(match vZ (H.get b) o v with|some blk=>.ok r (H.put b blk)|none=>.bad):=id rfl
theorem q6j(H:Hp)(b o:Nat)(k:IntKind)(n:Int):fQ H (.ptr b o) (.int k n)=storeAt H b o [.int k n] .undef:=id rfl
theorem q0e(H:Hp)(b o:Nat)(n:Bool):fQ H (.ptr b o) (.bool n)=storeAt H b o [.bool n] .undef:=id rfl
theorem zek(H:Hp)(b o:Nat)(b' o' l c:Nat)(e:Bool):fQ H (.ptr b o) (.sl b' o' l c e)=storeAt H b o [.sl b' o' l c e] .undef:=id rfl
theorem qu8(H:Hp)(b o:Nat):fQ H (.ptr b o) .aA=storeAt H b o [.aA] .undef:=id rfl
theorem q3q(k:Nat)(H:Hp)(b o:Nat)(l:List AV):eB k H (.ptr b o) (.agg l)=bif Nat.beq l.length k then storeAt H b o l .undef else .bad:=id rfl
theorem z11(k nm:Nat)(l:List AV):bJ k nm (.agg l)=bif Nat.beq l.length k then .new (.ptr nm 0) (aB 0 l)else .bad:=id rfl
theorem zpe(nm:Nat)(k:IntKind)(n:Int):iY nm (.int k n)=.new (.ptr nm 0) (aB 0 [.int k n]):=id rfl
theorem zx9(nm:Nat)(b' o' l c:Nat)(e:Bool):iY nm (.sl b' o' l c e)=.new (.ptr nm 0) (aB 0 [.sl b' o' l c e]):=id rfl
theorem q74(nm:Nat):iY nm .aA=.new (.ptr nm 0) (aB 0 [.aA]):=id rfl
theorem zor(off b o:Nat):aU off (.ptr b o)=.val (.ptr b (o+off)):=id rfl
theorem z0c(b o:Nat):aZ (.ptr b o)=.val (.ptr b o):=id rfl
theorem sP(z b o n c:Nat)(e:Bool)(k:IntKind)(i:Nat)(h:i<n):aJ z (.sl b o n c e) (.int k (.ofNat i))=.val (.ptr b (o+i*z)):=by show(bif Nat.blt i n then _ else _)=_;rw[blt_eq,decide_eq_true h];rfl
theorem z03(n z b o:Nat)(k:IntKind)(i:Nat)(h:i<n):fD n z (.ptr b o) (.int k (.ofNat i))=.val (.ptr b (o+i*z)):=by show(bif Nat.blt i n then _ else _)=_;rw[blt_eq,decide_eq_true h];rfl
theorem zob(b o n c:Nat)(e:Bool):aF (.sl b o n c e)=.val (iN n):=id rfl
theorem zgo:aF .aA=.val (iN 0):=id rfl
theorem zw5:aF .sle=.val (iN 0):=id rfl
theorem zx7(b o n c:Nat):iC (.sl b o n c true)=.val (iN c):=id rfl
theorem zpb:iC .aA=.val (iN 0):=id rfl
theorem z1d(i:Nat)(l:List AV):dD i (.aY l)=(match l[i]? with|some v=>.val v|none=>.bad):=id rfl
theorem q63(n nm:Nat)(l:List AV):iL n nm (some l)=.new (.sl nm 0 n n true) (aB 0 l):=id rfl
attribute [go_sem] zy1 zy2 aJJ aWw aUp aIi aMR zy4 aIW aJn zvj zvi aZG aRi aKa zwl
 z2a zza z0f zzy zzr zzq z0m z0t z05 z07 z1g z0e aMy
 znx zny q4v q64 q67 q65 q68 q66 q69
 zw3 zw2 zit ziu zzv zhd q6j q0e zek qu8 q3q z11 zpe zx9 q74 zor z0c sP z03
 zob zgo zw5 zx7 zpb z1d q63 qb6 qb2 qhu q6f
 eD q1c qbt dJ nq np
 beq_self_eq_true Bool.true_beq Bool.false_beq beq_true beq_false Bool.not_true Bool.not_false Bool.not_eq_true' Bool.not_eq_false' decide_true decide_false decide_eq_true_eq decide_eq_false_iff_not Bool.false_eq_true
 if_true if_false ite_self Nat.zero_add Nat.add_zero Nat.mul_one Nat.zero_mul cond_true cond_false reduceCtorEq not_false_eq_true not_true_eq_false
 List.take_succ_cons List.take_zero List.drop_zero List.drop_succ_cons List.getElem?_cons_zero List.getElem?_cons_succ List.length_cons List.length_nil List.length_map List.getElem?_map
def vD(r:R0)(lk al:Bool)(i A nm:Nat)(H:Hp)(p:List Pd)(w:List Wt)(f:Hp->R0)(k:AV->Hp->List Pd->List Wt->R1):R1:=
 match r with
  | .bad=>.bad
  | .val v=>k v H p (bif lk then⟨i,A,f,v⟩::w else w)
  | .new v b=>bif al&&b.wr then k v H (⟨i,nm,b⟩::p) w else .bad
theorem aDa(lk al:Bool)(i A nm:Nat)(H:Hp)(p:List Pd)(w:List Wt)(f:Hp->R0)(k:AV->Hp->List Pd->List Wt->R1):dq lk al i A nm H p w f (some true) k=vD (f (bQ A p H)) lk al i A nm H p w f k:=by rw[zo4];rfl
theorem aUt(lk al:Bool)(i A nm:Nat)(H:Hp)(p:List Pd)(w:List Wt)(f:Hp->R0)(k:AV->Hp->List Pd->List Wt->R1):dq lk al i A nm H p w f (some false) k=k .undef H p w:=by rw[zo4];rfl
@[congr] theorem aMS {lk al : Bool}{i A nm : Nat}{H : Hp}{p : List Pd}{w : List Wt}{f : Hp -> R0}{g g' : Option Bool}{k : AV -> Hp -> List Pd -> List Wt -> R1}(h : g = g'):dq lk al i A nm H p w f g k = dq lk al i A nm H p w f g' k := by rw [h]
@[congr] theorem aIm {r r' : R0}{lk al : Bool}{i A nm : Nat}{H : Hp}{p : List Pd}{w : List Wt}{f : Hp -> R0}{k : AV -> Hp -> List Pd -> List Wt -> R1}(h : r = r'):vD r lk al i A nm H p w f k = vD r' lk al i A nm H p w f k := by rw [h]
@[congr] theorem aK7 {A : Nat}{H : Hp}{p : List Pd}{w : List Wt}{r r' : R1}{g g' : Option Bool}{k : AV -> Hp -> List Pd -> List Wt -> R1}(h : g = g')(hr : r = r'):de A H p w r g k = de A H p w r' g' k := by rw [h, hr]
theorem aRZ(v:AV)(al:Bool)(i A nm:Nat)(H:Hp)(p:List Pd)(w:List Wt)(f:Hp->R0)(k:AV->Hp->List Pd->List Wt->R1):vD (.val v) false al i A nm H p w f k=k v H p w:=id rfl
theorem aZl(v:AV)(al:Bool)(i A nm:Nat)(H:Hp)(p:List Pd)(w:List Wt)(f:Hp->R0)(k:AV->Hp->List Pd->List Wt->R1):vD (.val v) true al i A nm H p w f k=k v H p (⟨i,A,f,v⟩::w):=id rfl
theorem zy6(v:AV)(z:Nat)(l:List AV)(lk:Bool)(i A nm:Nat)(H:Hp)(p:List Pd)(w:List Wt)(f:Hp->R0)(k:AV->Hp->List Pd->List Wt->R1):vD (.new v (aB z l)) lk true i A nm H p w f k=k v H (⟨i,nm,aB z l⟩::p) w:=id rfl
theorem aYY(A:Nat)(H:Hp)(p:List Pd)(w:List Wt)(r:R1)(k:AV->Hp->List Pd->List Wt->R1):de A H p w r (some false) k=k .undef H p w:=by rw[zo5];rfl
def vE(c:Bool)(r:R1):R1:=bif c then r else .bad
@[congr] theorem aJK {c c' : Bool}{r : R1}(h : c = c'):vE c r = vE c' r := by rw [h]
theorem aRm(r:R1):vE true r=r:=id rfl
theorem zxu(A:Nat)(H:Hp)(p:List Pd)(w:List Wt)(v:AV)(H':Hp)(k:AV->Hp->List Pd->List Wt->R1):de A H p w (.ok v H') (some true) k=vE (yO (pM A p) H' (pK A w)) (k v H' (pM A p) (pK A w)):=by rw[zo5];rfl
theorem zxc(m i:Nat):hasB m i=decide ((m >>> i) &&& 1=1):=beq_eq _ _
theorem z1s(p:List Pd)(H:Hp)(k:pH):jU p H k=k (lW p H):=id rfl
theorem aZ0(H:Hp)(k:Nat->pH):dz 0 H k=k H.nx H:=id rfl
attribute [go_sem] aZ0
theorem zea(A:Nat)(H:Hp):bQ A [] H=H:=id rfl
theorem q6c(A:Nat)(x:Pd)(p:List Pd)(H:Hp):bQ A (x::p) H=bif hasB A x.i then(bQ A p H).put x.nm x.b else bQ A p H:=by rfl
theorem zpn(H:Hp):lW [] H=H:=id rfl
theorem zis(x:Pd)(p:List Pd)(H:Hp):lW (x::p) H=(lW p H).put x.nm x.b:=id rfl
theorem zhw(A:Nat):pM A []=[]:=id rfl
theorem q7p(A:Nat)(x:Pd)(p:List Pd):pM A (x::p)=bif hasB A x.i then pM A p else x::pM A p:=id rfl
theorem zhv(A:Nat):pK A []=[]:=id rfl
theorem q7o(A:Nat)(x:Wt)(p:List Wt):pK A (x::p)=bif hasB A x.i then pK A p else x::pK A p:=id rfl
theorem zd6(p:List Pd)(H:Hp):yO p H []=true:=id rfl
theorem q6b(p:List Pd)(H:Hp)(x:Wt)(w:List Wt):yO p H (x::w)=(ze2 (x.f (bQ x.A p H)) x.v&&yO p H w):=id rfl
theorem ze1(u v:AV):ze2 (.val u) v=nV 64 u v:=id rfl
def yG:AV->Bool
 | .undef| .bX| .aA| .sle| .dS| .jF| .nH=>true
 | .bool _| .int _ _| .str _ _| .ptr _ _| .sl .. | .map _| .yield _=>true
 |_=>false
theorem zT{v:AV}(h:yG v=true)(k:Nat):nV (k+1) v v=true:=by cases v<;>first|(cases h;done)|(simp[nV,beq_eq];done)
theorem qww:∀(l:List AV) (k:Nat),l.all yG=true->l.length<k->pV (k+1) l l=true
 | [],k,_,_=>by simp[pV]
 |x::l,0,_,h=>by simp at h
 |x::l,k+1,ha,h=>by rw[List.all_cons,Bool.and_eq_true]at ha;rw[pV,zT ha.1,qww l k ha.2 (by simpa using h)];rfl
theorem zxl(k:IntKind)(n:Int):nV 64 (.int k n) (.int k n)=true:=zT (v:=.int k n) rfl 63
theorem zox(b:Bool):nV 64 (.bool b) (.bool b)=true:=zT (v:=.bool b) rfl 63
theorem z1i(a b c d:Nat)(e:Bool):nV 64 (.sl a b c d e) (.sl a b c d e)=true:=zT (v:=.sl a b c d e) rfl 63
theorem zhj:nV 64 .aA .aA=true:=zT (v:=.aA) rfl 63
theorem zxk(a b:Nat):nV 64 (.ptr a b) (.ptr a b)=true:=zT (v:=.ptr a b) rfl 63
def Tr(b:Bool):Prop:=b=true
theorem ti{b:Bool}(h:b=true):Tr b:=h
theorem qjm(l:List AV)(h:Tr (l.all yG&&Nat.blt l.length 62)):nV 64 (.agg l) (.agg l)=true:=by unfold Tr at h;rw[Bool.and_eq_true,blt_eq,decide_eq_true_iff]at h;exact qww l 62 h.1 h.2
theorem zg3(H:Hp)(n c:Nat):(Hp.mk H.t n).get c=H.get c:=id rfl
theorem Fm.up(a:Fm S H H')(k:Nat):Fm S H ⟨H'.t,H'.nx+k⟩:=⟨by have:=a.nx;show H.nx<=H'.nx+k;omega,fun b hb hs=>a.get b hb hs⟩
theorem Fm.oV(a:Fm S H H')(h:H.nx<=n):Fm S H ⟨H'.t,n⟩:=⟨h,fun b hb hs=>a.get b hb hs⟩
theorem Ok.y7{A:Nat}{p:List Pd}{w:List Wt}{r:R1}{k:AV->Hp->List Pd->List Wt->R1}{Q:pL}{v:AV}(h:r=.ok v H')(hk:Ok (vE (yO (pM A p) H' (pK A w)) (k v H' (pM A p) (pK A w))) Q):Ok (Di.de A H p w r (some true) k) Q:=by rw[h,zxu];exact hk
theorem Ok.veE{r:R1}{k:pD}{Q:pL}{v:AV}(h:r=.ok v H')(hk:Ok (k v H') Q):Ok (Di.ve r k) Q:=by rw[h];exact hk
theorem Ok.mY{A:Nat}{p:List Pd}{w:List Wt}{r:R1}{k:AV->Hp->List Pd->List Wt->R1}{Q R:pL}(h:Ok r R)(hk:∀ v H',R v H'->Ok (vE (yO (pM A p) H' (pK A w)) (k v H' (pM A p) (pK A w))) Q):Ok (Di.de A H p w r (some true) k) Q:=by obtain⟨v,H',e,q⟩:=h;rw[e,zxu];exact hk v H' q
def In(v:AV)(b:Nat):Prop:=∃ o n m e,v=.sl b o n m e
structure Gl(z:Nat)(H:Hp)(v:AV)(n:Nat)(l:List AV):Prop where
 len:l.length=n*z
 is:(v=.aA/\n=0)\/∃ b o e q L,v=.sl b o n n e/\H.get b=aB q L/\o<=L.length/\L.drop o=l/\(e=true\/q=z)/\b<H.nx
theorem Gl.nil(z:Nat)(H:Hp):Gl z H .aA 0 []:=⟨by simp,.inl ⟨rfl,rfl⟩⟩
theorem Gl.dA{v:AV}(h:Gl z H v n l):aF v=.val (iN n):=by rcases h.is with⟨rfl,rfl⟩|⟨b,o,e,q,L,rfl,_⟩<;>rfl
theorem Gl.keep{v:AV}(h:Gl z H v n l)(hn:H.nx<=H'.nx)(hk:∀ b,In v b->b<H.nx->H'.get b=H.get b):Gl z H' v n l:=by
 refine⟨h.len,?_⟩;rcases h.is with⟨rfl,rfl⟩|⟨b,o,e,q,L,rfl,h1,h2,h3,h4,h5⟩
 ·simp
 ·exact .inr ⟨b,o,e,q,L,rfl,(hk b ⟨_,_,_,_,rfl⟩ h5).trans h1,h2,h3,h4,Nat.lt_of_lt_of_le h5 hn⟩
theorem Gl.fm{v:AV}(h:Gl z H v n l)(a:Fm S H H')(hs:∀ b,In v b->¬ S b):Gl z H' v n l:=
 h.keep a.nx fun b hb hl=>a.get b hl (hs b hb)
theorem Gl.no{v:AV}(h:Gl z H v n l)(a:Fm No H H'):Gl z H' v n l:=h.fm a fun _ _ h=>h
theorem Gl.append{z w n k:Nat}{v:AV}{l x:List AV}(h:Gl z H v n l)(hk:0<k)(hx:x.length=k*z)(hb:(n+k)*w<=1099511627776)(hb2:n+k<=1099511627776):∃H',iD z w H v (some ⟨k,x⟩)=.ok (.sl H.nx 0 (n+k) (n+k) false) H'/\Gl z H' (.sl H.nx 0 (n+k) (n+k) false) (n+k) (l++x)/\H'.get H.nx=aB z (l++x)/\Fm (In v) H H'/\H'.nx=H.nx+1:=by
 have hlen:(l++x).length=(n+k)*z:=by rw[List.length_append,h.len,hx,Nat.add_mul]
 have fin:∀ H1:Hp,H1.nx=H.nx->Fm (In v) H H1->iD z w H v (some ⟨k,x⟩)=.ok (.sl H1.nx 0 (n+k) (n+k) false) (aS H1 (aB z (l++x))) ->
   ∃H',iD z w H v (some ⟨k,x⟩)=.ok (.sl H.nx 0 (n+k) (n+k) false) H'/\Gl z H' (.sl H.nx 0 (n+k) (n+k) false) (n+k) (l++x)/\H'.get H.nx=aB z (l++x)/\Fm (In v) H H'/\H'.nx=H.nx+1:=by
  intro H1 e1 f1 e2;refine⟨_,by rw[e2,e1],⟨hlen,.inr ⟨_,_,_,z,l++x,rfl,by rw[<-e1,lI],Nat.zero_le _,List.drop_zero,.inr rfl,by rw[np,e1];omega⟩⟩,by rw[<-e1,lI],f1.push _,by rw[np,e1]⟩
 have bk:Nat.ble ((n+k)*w) eY=true:=Nat.ble_eq_true_of_le hb;have bk2:Nat.ble (n+k) eY=true:=Nat.ble_eq_true_of_le hb2;rcases h.is with⟨rfl,rfl⟩|⟨b,o,e,q,L,rfl,h1,h2,h3,h4,h5⟩
 ·have:l=[]:=List.length_eq_zero_iff.1 (by rw[h.len];simp);subst this;refine fin H rfl (Fm.refl _ _) ?_;show(bif Nat.beq k 0 then _ else bif Nat.ble (Nat.mul k w) eY&&Nat.ble k eY then _ else _)=_;rw[beq_eq,decide_eq_false (by omega)];rw[Nat.zero_add]at bk bk2;show(bif Nat.ble (k*w) eY&&Nat.ble k eY then _ else _)=_;rw[bk,bk2,Nat.zero_add];rfl
 ·have e0:Nat.ble (n+k) n=false:=by rw[ble_eq,decide_eq_false (by omega)]
  have hd:o+n*z=L.length:=by have:=h.len;rw[<-h3,List.length_drop]at this;omega
  have rd:fU (H.get b) o (Nat.mul n z)=some l:=by rw[h1,qb2,if_pos (by show o+n*z<=_;omega),h3,List.take_of_length_le (by rw[h.len];exact Nat.le_refl _)]
  have main:∀(e:Bool) (H1:Hp),H1=(bif e then H else H.put b .dead)->(e=true\/q=z)->iD z w H (.sl b o n n e) (some ⟨k,x⟩)=.ok (.sl H1.nx 0 (n+k) (n+k) false) (aS H1 (aB z (l++x))):=by
   intro e H1 eH h4;show(bif Nat.ble (n+k) n then _ else bif Nat.ble (Nat.mul (n+k) w) eY&&Nat.ble (n+k) eY then(match fU (H.get b) o (Nat.mul n z)with|none=>R1.bad|some old=>bif e then _ else bif qg1 (H.get b) (o+n*z) z then _ else _)else R1.bad)=_;rw[e0,show Nat.mul (n+k) w=(n+k)*w from rfl,bk,bk2,rd];subst eH;cases e with
   |true=>rfl
   |false=>
    rcases h4 with h4|h4
    ·cases h4
    ·have:qg1 (H.get b) (o+n*z) z=true:=by rw[h1,zhm];simp[hd,h4]
     simp only[cond_false,cond_true,Bool.and_self,this];rfl
  refine fin (bif e then H else H.put b .dead) (by cases e<;>rfl) ?_ (main e _ rfl h4);cases e with
  |true=>exact Fm.refl _ _
  |false=>exact(Fm.refl _ _).put b _ fun _=>⟨_,_,_,_,rfl⟩
theorem zes(z:Nat)(H:Hp)(b o n m:Nat)(e:Bool):jE z H (.sl b o n m e)=(match fU (H.get b) o (n*z)with|some l=>some ⟨n,l⟩|none=>none):=id rfl
theorem Gl.head{v:AV}{x:AV}(h:Gl 1 H v n (x::l)):∃ b o,aJ 1 v (iN 0)=.val (.ptr b o)/\b<H.nx/\In v b/\dI (H.get b) o=.val x:=by
 have hl:=h.len;rcases h.is with⟨rfl,rfl⟩|⟨b,o,e,q,L,rfl,h1,h2,h3,h4,h5⟩
 ·simp at hl
 ·refine⟨b,o,?_,h5,⟨_,_,_,_,rfl⟩,?_⟩
  ·rw[sP _ _ _ _ _ _ _ _ (by simp at hl;omega),Nat.zero_mul,Nat.add_zero]
  ·have:L[o]? =some x:=by rw[<-Nat.add_zero o,<-List.getElem?_drop,h3];rfl
   rw[h1,qb6,this]
theorem Gl.tail{v:AV}{x:AV}(h:Gl 1 H v (n+1) (x::l)):∃w,jX 1 v (some (iN 1)) none none=.val w/\Ev.aF w=.val (iN n)/\(0<n->Gl 1 H w n l)/\(∀b,In w b->In v b):=by
 have hl:=h.len;rcases h.is with⟨rfl,h0⟩|⟨b,o,e,q,L,rfl,h1,h2,h3,h4,h5⟩
 ·simp at h0
 ·have e1:jX 1 (.sl b o (n+1) (n+1) e) (some (iN 1)) none none=gZ b o 1 ⟨1,n+1,n+1⟩ e:=by
   show(match bounds (n+1) (n+1) (some (iN 1)) none none with|some bd=>gZ b o 1 bd e|none=>R0.bad)=_;rfl
  rw[e1];unfold gZ;simp only[beq_eq];by_cases hn:n=0
  ·subst hn;cases e with
   |true=>exact⟨_,rfl,rfl,fun h=>absurd h (Nat.lt_irrefl 0),fun c hc=>by obtain⟨o',n',m',e',h'⟩:=hc;cases h';exact⟨_,_,_,_,rfl⟩⟩
   |false=>exact⟨_,rfl,rfl,fun h=>absurd h (Nat.lt_irrefl 0),fun c hc=>by obtain⟨o',n',m',e',h'⟩:=hc;cases h'⟩
  ·have hd:decide (n+1=1)=false:=by simp;exact hn
   rw[hd];refine⟨.sl b (o+1) n n e,by show R0.val (.sl b (o+1*1) (n+1-1) (n+1-1) e)=_;rw[Nat.add_sub_cancel,Nat.one_mul],rfl,fun _=>⟨?_,.inr ⟨b,o+1,e,q,L,rfl,h1,?_,?_,h4,h5⟩⟩,fun c hc=>by obtain⟨o',n',m',e',h'⟩:=hc;cases h';exact⟨_,_,_,_,rfl⟩⟩
   ·simp_all
   ·have:(L.drop o).length=(x::l).length:=by rw[h3]
    rw[List.length_drop]at this;simp at this;omega
   ·rw[<-List.drop_drop,h3];rfl
theorem zm6(l v:List AV)(h:Tr (Nat.beq v.length l.length)):bH l 0 v=v:=by unfold Tr at h;rw[beq_eq,decide_eq_true_iff]at h;unfold bH;simp[h]
theorem qfv(z:List AV)(w nm n:Nat)(h:n*w<=1099511627776)(h2:n<=1099511627776):qie z w nm (iN n) (iN n)=.new (.sl nm 0 n n true) (aB 0 (bE z n)):=by show(bif Nat.ble n n&&Nat.ble (Nat.mul n w) eY&&Nat.ble n eY then _ else _)=_;rw[Nat.ble_eq_true_of_le (Nat.le_refl n),show Nat.mul n w=n*w from rfl,Nat.ble_eq_true_of_le (show n*w<=eY from h),Nat.ble_eq_true_of_le (show n<=eY from h2)];rfl
theorem qd1(x:AV):∀ n,bE [x] n=List.replicate n x
 |0=>rfl
 |n+1=>by show[x]++bE [x] n=_;rw[qd1 x n];rfl
theorem qvi(c:List AV):bU c []=some c:=id rfl
theorem qsu(c:List AV)(off size:Nat)(v:AV)(r:List (Nat×Nat×AV)):bU c ((off,size,v)::r)=match xP v with|some l=>(match qma c off size l with|some c'=>bU c' r|none=>none)|none=>none:=id rfl
theorem q7z(k:IntKind)(n:Int):xP (.int k n)=some [.int k n]:=id rfl
theorem q1v(n:Bool):xP (.bool n)=some [.bool n]:=id rfl
theorem zh9(a b c d:Nat)(e:Bool):xP (.sl a b c d e)=some [.sl a b c d e]:=id rfl
theorem qw0:xP .aA=some [.aA]:=id rfl
theorem q70(l:List AV):xP (.agg l)=some l:=id rfl
theorem q6p(c:List AV)(off size:Nat)(v:List AV):qma c off size v=bif Nat.beq v.length size&&Nat.ble (off+size) c.length then some (c.take off++v++c.drop (off+size))else none:=id rfl
theorem zzp(l:List AV):bE l 1=l++[]:=id rfl
theorem zzo(l:List AV):bE l 2=l++(l++[]):=id rfl
theorem zzn(l:List AV):bE l 3=l++(l++(l++[])):=id rfl
attribute [go_sem] qvi qsu q7z q1v zh9 qw0 q70 q6p zzp zzo zzn ble_eq blt_eq beq_eq List.append_nil List.nil_append List.cons_append qjm
attribute [go_sem] zm6 zes aRm zxu zxc aDa aUt aRZ aZl zy6 aYY z1s zea q6c zpn zis zhw q7p zhv q7o zd6 q6b ze1 zxl zox z1i zhj zxk zg3 Bool.and_true Bool.true_and Bool.and_self
theorem lT{c:bM}:Fm No H (aS H c):=(Fm.refl _ _).push _
theorem qD{c d:bM}:Fm No H (aS (aS H c) d):=lT.push _
theorem fP3{c d e:bM}:Fm No H (aS (aS (aS H c) d) e):=qD.push _
theorem fP4{c d e f:bM}:Fm No H (aS (aS (aS (aS H c) d) e) f):=fP3.push _
theorem mO{c d:bM}:Fm No H ((aS H c).put H.nx d):=lT.aG _ _ (Nat.le_refl _)
def dn(i A b:Nat)(H:Hp)(p:List Pd)(w:List Wt)(r:R0)(k:AV->Hp->List Pd->List Wt->R1):R1:=dq false false i A (b+i) H p w (fun _=>r) (some true) k
def da(i A b:Nat)(H:Hp)(p:List Pd)(w:List Wt)(r:R0)(k:AV->Hp->List Pd->List Wt->R1):R1:=dq false true i A (b+i) H p w (fun _=>r) (some true) k
def dl(i A b:Nat)(H:Hp)(p:List Pd)(w:List Wt)(f:Hp->R0)(k:AV->Hp->List Pd->List Wt->R1):R1:=dq true false i A (b+i) H p w f (some true) k
theorem bAQ(i A b:Nat)(H:Hp)(p:List Pd)(w:List Wt)(r:R0)(k:AV->Hp->List Pd->List Wt->R1):dn i A b H p w r k=vD r false false i A (b+i) H p w (fun _=>r) k:=aDa ..
theorem aSf(i A b:Nat)(H:Hp)(p:List Pd)(w:List Wt)(r:R0)(k:AV->Hp->List Pd->List Wt->R1):da i A b H p w r k=vD r false true i A (b+i) H p w (fun _=>r) k:=aDa ..
theorem bA1(i A b:Nat)(H:Hp)(p:List Pd)(w:List Wt)(f:Hp->R0)(k:AV->Hp->List Pd->List Wt->R1):dl i A b H p w f k=vD (f (bQ A p H)) true false i A (b+i) H p w f k:=aDa ..
@[congr] theorem aKs {i i' A b : Nat}{H : Hp}{p : List Pd}{w : List Wt}{r : R0}{k : AV -> Hp -> List Pd -> List Wt -> R1}(h : i = i'):dn i A b H p w r k = dn i' A b H p w r k := by rw [h]
@[congr] theorem aLf {i i' A b : Nat}{H : Hp}{p : List Pd}{w : List Wt}{r : R0}{k : AV -> Hp -> List Pd -> List Wt -> R1}(h : i = i'):da i A b H p w r k = da i' A b H p w r k := by rw [h]
@[congr] theorem aIz {i i' A b : Nat}{H : Hp}{p : List Pd}{w : List Wt}{f : Hp -> R0}{k : AV -> Hp -> List Pd -> List Wt -> R1}(h : i = i'):dl i A b H p w f k = dl i' A b H p w f k := by rw [h]
attribute [go_sem] bAQ aSf bA1
def vF(i:Nat)(p:AV)(H:Hp)(k:pD):R1:=vq (aU i p) H fun a H=>vq (aQ H a) H k
theorem aK1(i:Nat)(p:AV)(H:Hp)(k:pD):vF i p H k=vq (aU i p) H fun a H=>vq (aQ H a) H k:=id rfl
@[congr] theorem aJ2 {i i' : Nat}{p : AV}{H : Hp}{k : AV -> Hp -> R1}(h : i = i'):vF i p H k = vF i' p H k := by rw [h]
def vI(x:AV)(H:Hp)(k:pD):R1:=vq (aD (aO .add).f x (.int .i64 (.ofNat 1))) H k
theorem aI4(x:AV)(H:Hp)(k:pD):vI x H k=vq (aD (aO .add).f x (.int .i64 (.ofNat 1))) H k:=id rfl
@[congr] theorem aKC {x x' : AV}{H : Hp}{k : AV -> Hp -> R1}(h : x = x'):vI x H k = vI x' H k := by rw [h]
attribute [go_sem] aK1 aI4
abbrev iK(b:(pD)->pD)(n:Nat):pD:=
 Nat.rec (motive:=fun _=>pD) (fun _ _=>.bad) (fun _ ih=>b ih) n
abbrev oF(b:(AV->pD)->AV->pD)(n:Nat):AV->pD:=
 Nat.rec (motive:=fun _=>AV->pD) (fun _ _ _=>.bad) (fun _ ih=>b ih) n
abbrev lq3(b:(AV->AV->pD)->AV->AV->pD)(n:Nat):AV->AV->pD:=
 Nat.rec (motive:=fun _=>AV->AV->pD) (fun _ _ _ _=>.bad) (fun _ ih=>b ih) n
end Go.Di
end
