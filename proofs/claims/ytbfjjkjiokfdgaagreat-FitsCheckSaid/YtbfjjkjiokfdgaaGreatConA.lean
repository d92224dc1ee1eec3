/-
 For FitsCheck: functions in direct style, their contracts, and the plain mathematics, part 1 of 9. No conditions beyond those that each theorem states.
-/
import Derived.Test.YtbfjjkjiokfdgaaGreatEv4
import Derived.Attr
set_option linter.unusedSimpArgs false
set_option linter.unusedVariables false
noncomputable section
namespace Go.Di
open Go.Ev
abbrev pD:=AV->Hp->R1
abbrev pH:=Hp->R1
abbrev pL:=AV->Hp->Prop
abbrev iN(n:Nat):AV:=.int .i64 (.ofNat n)
theorem aW{k n:Nat}(h:n+1<=k):∃ j,k=j+1:=⟨k-1,by omega⟩
theorem blt_eq(a b:Nat):Nat.blt a b=decide (a<b):=by
 cases h:Nat.blt a b with
 |true=>symm;rw[decide_eq_true_iff];exact Nat.le_of_ble_eq_true h
 |false=>symm;rw[decide_eq_false_iff_not];intro h';rw[show Nat.blt a b=Nat.ble (a+1) b from rfl,Nat.ble_eq_true_of_le h']at h;cases h
theorem ble_eq(a b:Nat):Nat.ble a b=decide (a<=b):=by
 cases h:Nat.ble a b with
 |true=>symm;rw[decide_eq_true_iff];exact Nat.le_of_ble_eq_true h
 |false=>symm;rw[decide_eq_false_iff_not];intro h';rw[Nat.ble_eq_true_of_le h']at h;cases h
theorem beq_eq(a b:Nat):Nat.beq a b=decide (a=b):=by
 cases h:Nat.beq a b with
 |true=>simp[Nat.eq_of_beq_eq_true h]
 |false=>symm;rw[decide_eq_false_iff_not];rintro rfl;rw[Nat.beq_refl]at h;cases h
/- trees are equal where all their cells are -/
theorem aIb{α:Type}{t u:Q α}(h:∀ k,k<8->qmw k t=qmw k u):t=u:=by cases t;cases u;have h0:=h 0 (by decide);have h1:=h 1 (by decide);have h2:=h 2 (by decide);have h3:=h 3 (by decide);have h4:=h 4 (by decide);have h5:=h 5 (by decide);have h6:=h 6 (by decide);have h7:=h 7 (by decide);simp only[qmw]at h0 h1 h2 h3 h4 h5 h6 h7;simp_all
theorem zqn{α:Type}:∀(d:Nat) {t u:TT α d},(∀i,i<8 ^ d->(dI d i).f t=(dI d i).f u)->t=u
 |0,t,u,h=>h 0 (by decide)
 |d+1,t,u,h=>by refine aIb fun k hk=>zqn d fun i hi=>?_;have:=h (i*8+k) (by rw[Nat.pow_succ];omega);rw[qdn,qdn]at this;rwa [show(i*8+k) / 8=i by omega,show(i*8+k)%8=k by omega]at this
/- blocks as lists -/
def cellsOf(l:List AV):TT AV (iE l.length):=nK l 0 (same .undef _)
theorem qcl(l:List AV)(i:Nat)(hi:i<8 ^ iE l.length):(dI _ i).f (cellsOf l)=l.getD i .undef:=by
 unfold cellsOf;rw[qg4 _ _ _ _ (by simpa using qbx l.length) hi];by_cases h:i<l.length
 ·simp_all
 ·rw[if_neg (by omega),qgc];simp_all
def bJ(l:List AV)(o:Nat)(v:List AV):List AV:=l.take o++v++l.drop (o+v.length)
theorem qeu(l:List AV)(o:Nat)(v:List AV)(h:o+v.length<=l.length):(bJ l o v).length=l.length:=by simp[bJ];omega
theorem zll(l:List AV)(o:Nat)(v:List AV)(h:o+v.length<=l.length)(i:Nat):(bJ l o v).getD i .undef=if o<=i/\i<o+v.length then v.getD (i-o) .undef else l.getD i .undef:=by
 unfold bJ;simp only[List.getD_eq_getElem?_getD];by_cases h1:i<o
 ·rw[if_neg (by omega),List.append_assoc,List.getElem?_append_left (by simp;omega),List.getElem?_take_of_lt h1]
 ·by_cases h2:i<o+v.length
  ·rw[if_pos (by omega),List.append_assoc,List.getElem?_append_right (by simp;omega),List.getElem?_append_left (by simp;omega)];simp[Nat.min_eq_left (show o<=l.length by omega)]
  ·rw[if_neg (by omega),List.getElem?_append_right (by simp;omega),List.getElem?_drop];simp only[List.length_append,List.length_take,Nat.min_eq_left (show o<=l.length by omega)];congr 2;omega
theorem qhs(z:Nat)(l v:List AV)(o:Nat):vS (aD z l) o v=if o+v.length<=l.length then some (aD z (bJ l o v))else none:=by
 show(bif Nat.ble (o+v.length) l.length then some (bQ.cells _ _ (nK v o (cellsOf l)) false z)else none)=_;by_cases h:o+v.length<=l.length
 ·rw[if_pos h,Nat.ble_eq_true_of_le h];have hl:=qeu l o v h;have key:∀(n:Nat) (e:n=l.length) (c:TT AV (iE n)),(∀i,i<8 ^ iE n->(dI _ i).f c=(bJ l o v).getD i .undef)->bQ.cells (iE l.length) l.length (nK v o (cellsOf l)) false z=bQ.cells (iE n) n c false z:=by
   intro n e c hc;subst e;congr 1;refine zqn _ fun i hi=>?_;have:=qbx l.length;rw[hc i hi,zll _ _ _ h,qg4 _ _ _ _ (by omega) hi,qcl _ _ hi]
  exact congrArg some (key _ hl _ fun i hi=>qcl _ _ hi)
 ·rw[if_neg h];have:Nat.ble (o+v.length) l.length=false:=by
   cases hb:Nat.ble (o+v.length) l.length with
   |false=>rfl
   |true=>exact absurd (Nat.le_of_ble_eq_true hb) h
  rw[this];rfl
theorem qb6(z:Nat)(l:List AV)(o:Nat):dO (aD z l) o=match l[o]? with|some v=>.val v|none=>.bad:=by
 show(bif Nat.blt o l.length then R0.val ((dI _ o).f (cellsOf l))else .bad)=_;by_cases h:o<l.length
 ·have hb:Nat.blt o l.length=true:=by rw[blt_eq];simpa using h
  rw[hb,qcl _ _ (Nat.lt_of_lt_of_le h (qbx _))];simp[h]
 ·have hb:Nat.blt o l.length=false:=by rw[blt_eq];simpa using h
  simp_all
theorem q3o{d:Nat}(c:TT AV d)(l:List AV)(hc:∀ i,i<8 ^ d->(dI d i).f c=l.getD i .undef):∀(k o:Nat),o+k<=l.length->l.length<=8 ^ d->rM c k o=(l.drop o).take k
 |0,o,_,_=>by simp[zlv]
 |k+1,o,h,h2=>by rw[qs1,hc _ (by omega),q3o c l hc k (o+1) (by omega) h2];rw[List.drop_eq_getElem_cons (show o<l.length by omega),List.take_succ_cons];simp[show o<l.length by omega]
theorem qb5(z:Nat)(l:List AV)(o k:Nat):gN (aD z l) o k=if o+k<=l.length then some ((l.drop o).take k)else none:=by
 show(bif Nat.ble (o+k) l.length then some (rM (cellsOf l) k o)else none)=_;by_cases h:o+k<=l.length
 ·rw[if_pos h,Nat.ble_eq_true_of_le h,q3o _ l (fun i hi=>qcl l i hi) k o h (qbx _)];rfl
 ·rw[if_neg h];have:Nat.ble (o+k) l.length=false:=by
   cases hb:Nat.ble (o+k) l.length with
   |false=>rfl
   |true=>exact absurd (Nat.le_of_ble_eq_true hb) h
  rw[this];rfl
theorem zf9(z z':Nat)(l:List AV)(e:Nat):qgx (aD z l) e z'=(decide (l.length=e)&&decide (z=z')):=by
 show(Nat.beq l.length e&&Nat.beq z z')=_;have hb:∀ a b,Nat.beq a b=decide (a=b):=fun a b=>by
  cases h:Nat.beq a b with
  |true=>simp[Nat.eq_of_beq_eq_true h]
  |false=>symm;rw[decide_eq_false_iff_not];rintro rfl;rw[Nat.beq_refl]at h;cases h
 rw[hb,hb]
/- memory -/
theorem get_put(H:Hp)(b c:Nat)(k:bQ):(H.put b k).get c=if c=b then k else H.get c:=Mem.get_put H.t b c k
theorem eB(H:Hp)(b:Nat)(k:bQ):(H.put b k).get b=k:=by rw[get_put,if_pos rfl]
theorem dW(H:Hp)(b c:Nat)(k:bQ)(h:c≠b):(H.put b k).get c=H.get c:=by rw[get_put,if_neg h]
theorem nq(H:Hp)(b:Nat)(k:bQ):(H.put b k).nx=H.nx:=id rfl
theorem qgd(H:Hp)(c:Nat)(k:bQ):(aT H k).get c=if c=H.nx then k else H.get c:=Mem.get_put H.t H.nx c k
theorem mP(H:Hp)(k:bQ):(aT H k).get H.nx=k:=by rw[qgd,if_pos rfl]
theorem q00(H:Hp)(c:Nat)(k:bQ)(h:H.nx<=c/\c<=H.nx):(aT H k).get c=k:=by rw[qgd,if_pos (by omega)]
theorem qb8(H:Hp)(c:Nat)(k:bQ)(h:c<H.nx):(aT H k).get c=H.get c:=by rw[qgd,if_neg (by omega)]
theorem np(H:Hp)(k:bQ):(aT H k).nx=H.nx+1:=id rfl
structure Fm(S:Nat->Prop)(H H':Hp):Prop where
 nx:H.nx<=H'.nx
 get:∀ b,b<H.nx->¬ S b->H'.get b=H.get b
def No:Nat->Prop:=fun _=>False
theorem Fm.refl(S:Nat->Prop)(H:Hp):Fm S H H:=⟨Nat.le_refl _,fun _ _ _=>rfl⟩
theorem Fm.trans{S:Nat->Prop}{H H1 H2:Hp}(a:Fm S H H1)(b:Fm S H1 H2):Fm S H H2:=⟨Nat.le_trans a.nx b.nx,fun c hc hs=>(b.get c (Nat.lt_of_lt_of_le hc a.nx) hs).trans (a.get c hc hs)⟩
theorem Fm.mono{S T:Nat->Prop}{H H':Hp}(a:Fm S H H')(h:∀ b,b<H.nx->S b->T b):Fm T H H':=⟨a.nx,fun b hb ht=>a.get b hb fun hs=>ht (h b hb hs)⟩
theorem Fm.push{S:Nat->Prop}{H H':Hp}(a:Fm S H H')(k:bQ):Fm S H (aT H' k):=⟨Nat.le_succ_of_le a.nx,fun b hb hs=>by rw[qb8 _ _ _ (Nat.lt_of_lt_of_le hb a.nx)];exact a.get b hb hs⟩
theorem Fm.put{S:Nat->Prop}{H H':Hp}(a:Fm S H H')(b:Nat)(k:bQ)(h:b<H.nx->S b):Fm S H (H'.put b k):=⟨a.nx,fun c hc hs=>by rw[dW _ _ _ _ (fun e=>hs (by subst e;exact h hc))];exact a.get c hc hs⟩
theorem Fm.aG{S:Nat->Prop}{H H':Hp}(a:Fm S H H')(b:Nat)(k:bQ)(h:H.nx<=b):Fm S H (H'.put b k):=a.put b k fun hb=>by omega
theorem Fm.keep{H H':Hp}(a:Fm No H H'){b:Nat}(hb:b<H.nx):H'.get b=H.get b:=a.get b hb id
theorem Fm.then{S T:Nat->Prop}{H H1 H2:Hp}(a:Fm S H H1)(b:Fm T H1 H2)(h:∀ c,c<H.nx->T c->S c):Fm S H H2:=
 ⟨Nat.le_trans a.nx b.nx,fun c hc hs=>(b.get c (Nat.lt_of_lt_of_le hc a.nx) fun ht=>hs (h c hc ht)).trans (a.get c hc hs)⟩
def Ok(r:R1)(Q:pL):Prop:=∃ v H',r=.ok v H'/\Q v H'
theorem Ok.ret{v:AV}{H:Hp}{Q:pL}(h:Q v H):Ok (.ok v H) Q:=⟨v,H,rfl,h⟩
theorem Ok.mono{r:R1}{Q R:pL}(h:Ok r Q)(hm:∀ v H,Q v H->R v H):Ok r R:=by obtain⟨v,H,e,q⟩:=h;exact⟨v,H,e,hm _ _ q⟩
theorem Ok.ve{r:R1}{k:pD}{Q R:pL}(h:Ok r R)(hk:∀ v H,R v H->Ok (k v H) Q):Ok (ve r k) Q:=by obtain⟨v,H,e,q⟩:=h;subst e;exact hk v H q
theorem Ok.de{A:Nat}{H:Hp}{p:List Pd}{w:List Wt}{r:R1}{k:AV->Hp->List Pd->List Wt->R1}{Q R:pL}(h:Ok r R)(hk:∀ v H',R v H'->yJ (pG A p) H' (pI A w)=true/\Ok (k v H' (pG A p) (pI A w)) Q):Ok (de A H p w r (some true) k) Q:=by obtain⟨v,H',e,q⟩:=h;subst e;obtain⟨h1,h2⟩:=hk v H' q;rw[znh];unfold de0;simp only[h1,cond_true];exact h2
/- steps -/
theorem zwx(v:AV)(H:Hp)(k:pD):vq (.val v) H k=k v H:=id rfl
theorem zwy(v:AV)(b:bQ)(H:Hp)(k:pD):vq (.new v b) H k=k v (aT H b):=id rfl
theorem aH4(v:AV)(H:Hp)(k:pD):ve (.ok v H) k=k v H:=id rfl
theorem aYM(r:R0)(H:Hp)(k:pD):vg (some true) r H k=vq r H k:=by rw[ztn];rfl
theorem aSM(r:R0)(H:Hp)(k:pD):vg (some false) r H k=k .undef H:=by rw[ztn];rfl
theorem aI8(r:R1)(H:Hp)(k:pD):sZ (some true) r H k=ve r k:=by rw[zc2];rfl
theorem aJ6(r:R1)(H:Hp)(k:pD):sZ (some false) r H k=k .undef H:=by rw[zc2];rfl
theorem zw0(v:AV)(k:AV->R1):vl (.val v) k=k v:=id rfl
theorem aID(r:R0)(k:AV->R1):mU (some true) r k=vl r k:=by rw[q2w];rfl
theorem aHD(r:R0)(k:AV->R1):mU (some false) r k=k .undef:=by rw[q2w];rfl
theorem ztl(a b:Bool):aL a (.bool b)=some (b==a):=id rfl
theorem ztk(a:Bool):aL a .undef=some false:=id rfl
theorem aXT(x y:R1):cd (.bool true) x y=x:=id rfl
theorem aQL(x y:R1):cd (.bool false) x y=y:=id rfl
theorem aKP(up:Nat)(H:Hp)(k:Nat->pH):dz up H k=k H.nx ⟨H.t,H.nx+up⟩:=id rfl
theorem zuk(c:Bool)(a b:AV):dX (.bool c) a b=.val (if c=true then a else b):=by cases c<;>rfl
@[congr] theorem aLU {r r' : R0}{H : Hp}{k : AV -> Hp -> R1}(h : r = r'):vq r H k = vq r' H k := by rw [h]
@[congr] theorem aJb {r r' : R1}{k : AV -> Hp -> R1}(h : r = r'):ve r k = ve r' k := by rw [h]
@[congr] theorem aJJ {w w' : Option Bool}{r : R0}{H : Hp}{k : AV -> Hp -> R1}(h : w = w'):vg w r H k = vg w' r H k := by rw [h]
@[congr] theorem zw1 {w w' : Option Bool}{r : R1}{H : Hp}{k : AV -> Hp -> R1}(h : w = w'):sZ w r H k = sZ w' r H k := by rw [h]
@[congr] theorem aH3 {r r' : R0}{k : AV -> R1}(h : r = r'):vl r k = vl r' k := by rw [h]
@[congr] theorem zwz {w w' : Option Bool}{r : R0}{k : AV -> R1}(h : w = w'):mU w r k = mU w' r k := by rw [h]
@[congr] theorem aLD {x x' : AV}{a b : R1}(h : x = x'):cd x a b = cd x' a b := by rw [h]
@[congr] theorem aJ5 {u : Nat}{H : Hp}{k : Nat -> Hp -> R1}:dz u H k = dz u H k := rfl
theorem qgh(k:IntKind):uK k k=true:=by cases k<;>rfl
theorem yA(a b:Int):oM a b=decide (a<b):=by cases a<;>cases b<;>simp only[oM,blt_eq]<;>rename_i m n<;>apply Bool.eq_iff_iff.2<;>simp only[decide_eq_true_eq,Int.ofNat_eq_natCast,Int.negSucc_eq]<;>first|omega|(simp;omega)
theorem zO(a b:Int):qB a b=decide (a=b):=by cases a<;>cases b<;>simp only[qB,beq_eq]<;>rename_i m n<;>apply Bool.eq_iff_iff.2<;>simp only[decide_eq_true_eq,Int.ofNat_eq_natCast,Int.negSucc_eq]<;>first|omega|(simp;omega)
theorem qfz(n:Nat)(h:n<9223372036854775808):sW .i64 (.ofNat n)=.ofNat n:=by show(bif Nat.blt n 9223372036854775808 then _ else _)=_;rw[blt_eq,decide_eq_true h];rfl
theorem zz1(a b:Int):aB (aJ .add).f (.int .i64 a) (.int .i64 b)=.val (.int .i64 (sW .i64 (a+b))):=id rfl
theorem zw6(a b:Int):aB (aJ .sub).f (.int .i64 a) (.int .i64 b)=.val (.int .i64 (sW .i64 (a-b))):=id rfl
theorem zyb(a b:Int):aB (aJ .mul).f (.int .i64 a) (.int .i64 b)=.val (.int .i64 (sW .i64 (a*b))):=id rfl
theorem zz0(a b:Nat)(h:a+b<9223372036854775808):aB (aJ .add).f (iN a) (iN b)=.val (iN ((a+b))):=by rw[zz1];exact congrArg (fun x=>R0.val (.int .i64 x)) (qfz (a+b) h)
theorem zw5(a b:Nat)(h:b<=a)(h2:a<9223372036854775808):aB (aJ .sub).f (iN a) (iN b)=.val (iN ((a-b))):=by rw[zw6,show(Int.ofNat a-Int.ofNat b)=Int.ofNat (a-b)by simp only[Int.ofNat_eq_natCast];omega,qfz _ (by omega)]
theorem zya(a b:Nat)(h:a*b<9223372036854775808):aB (aJ .mul).f (iN a) (iN b)=.val (iN ((a*b))):=by rw[zyb];exact congrArg (fun x=>R0.val (.int .i64 x)) (qfz (a*b) h)
theorem zxt(a b:Nat)(h:0<b)(h2:a<9223372036854775808):aB (aJ .quo).f (iN a) (iN b)=.val (iN ((a / b))):=by
 have hz:qB (.ofNat b) 0=false:=by rw[zO];simp;omega
 show(bif qB (.ofNat b) 0 then R0.bad else .val (.int .i64 (sW .i64 ((Int.ofNat a).tdiv (Int.ofNat b)))))=_;rw[hz];exact congrArg (fun x=>R0.val (.int .i64 x)) (qfz (a / b) (Nat.lt_of_le_of_lt (Nat.div_le_self _ _) h2))
theorem zxn(a b:Nat)(h:0<b):aB (aJ .rem).f (iN a) (iN b)=.val (iN ((a%b))):=by
 have hz:qB (.ofNat b) 0=false:=by rw[zO];simp;omega
 show(bif qB (.ofNat b) 0 then R0.bad else .val (.int .i64 ((Int.ofNat a).tmod (Int.ofNat b))))=_;rw[hz];rfl
theorem zxm(a b:Nat)(h:0<b):aB (aJ .rem).f (.int .u8 (.ofNat a)) (.int .u8 (.ofNat b))=.val (.int .u8 (.ofNat (a%b))):=by
 have hz:qB (.ofNat b) 0=false:=by rw[zO];simp;omega
 show(bif qB (.ofNat b) 0 then R0.bad else .val (.int .u8 ((Int.ofNat a).tmod (Int.ofNat b))))=_;rw[hz];rfl
theorem zyh(k:IntKind)(a b:Int):aB (aJ .lss).f (.int k a) (.int k b)=.val (.bool (decide (a<b))):=by show(bif uK k k then R0.val (.bool (oM a b))else .bad)=_;rw[qgh,yA];rfl
theorem zyn(k:IntKind)(a b:Int):aB (aJ .leq).f (.int k a) (.int k b)=.val (.bool (decide (a<=b))):=by show(bif uK k k then R0.val (.bool (!oM b a))else .bad)=_;rw[qgh,yA,<-decide_not];simp only[cond_true];congr 2;simp only[Int.not_lt]
theorem zyz(k:IntKind)(a b:Int):aB (aJ .gtr).f (.int k a) (.int k b)=.val (.bool (decide (b<a))):=by show(bif uK k k then R0.val (.bool (oM b a))else .bad)=_;rw[qgh,yA];rfl
theorem zy1(k:IntKind)(a b:Int):aB (aJ .geq).f (.int k a) (.int k b)=.val (.bool (decide (b<=a))):=by show(bif uK k k then R0.val (.bool (!oM a b))else .bad)=_;rw[qgh,yA,<-decide_not];simp only[cond_true];congr 2;simp only[Int.not_lt]
theorem zy8(k:IntKind)(a b:Int):aB (aJ .eql).f (.int k a) (.int k b)=.val (.bool (decide (a=b))):=by show(bif uK k k then R0.val (.bool (qB a b))else .bad)=_;rw[qgh,zO];rfl
theorem zx9(k:IntKind)(a b:Int):aB (aJ .neq).f (.int k a) (.int k b)=.val (.bool (!decide (a=b))):=by show(bif uK k k then R0.val (.bool (!qB a b))else .bad)=_;rw[qgh,zO];rfl
theorem aKO(b:Bool):(mR .not).f (.bool b)=.val (.bool !b):=id rfl
/- numbers -/
theorem zme(a b:Nat):(Int.ofNat a<Int.ofNat b)=(a<b):=by simp
theorem zmf(a b:Nat):(Int.ofNat a<=Int.ofNat b)=(a<=b):=by simp
theorem q33(a b:Nat):(Int.ofNat a=Int.ofNat b)=(a=b):=by simp only[Int.ofNat_eq_natCast,eq_iff_iff];omega
theorem q57(a b:Nat):(Int.negSucc a<Int.ofNat b)=True:=by simp only[Int.negSucc_eq,Int.ofNat_eq_natCast,eq_iff_iff,iff_true];omega
theorem q6a(a b:Nat):(Int.ofNat a<Int.negSucc b)=False:=by simp only[Int.negSucc_eq,Int.ofNat_eq_natCast,eq_iff_iff,iff_false];omega
theorem q58(a b:Nat):(Int.negSucc a<=Int.ofNat b)=True:=by simp only[Int.negSucc_eq,Int.ofNat_eq_natCast,eq_iff_iff,iff_true];omega
theorem q6b(a b:Nat):(Int.ofNat a<=Int.negSucc b)=False:=by simp only[Int.negSucc_eq,Int.ofNat_eq_natCast,eq_iff_iff,iff_false];omega
theorem q59(a b:Nat):(Int.negSucc a=Int.ofNat b)=False:=by simp
theorem q6c(a b:Nat):(Int.ofNat a=Int.negSucc b)=False:=by simp
/- memory -/
theorem zu0(H:Hp)(b o:Nat):aI H (.ptr b o)=dO (H.get b) o:=id rfl
theorem zuz(k:Nat)(H:Hp)(b o:Nat):aV k H (.ptr b o)=aAX (gN (H.get b) o k):=id rfl
theorem zhc(l:List AV):aAX (some l)=.val (.agg l):=id rfl
theorem zhd(l:List AV):cO (some l)=.val (.agg l):=id rfl
theorem zxq(v:AV):rV (.val v)=some v:=id rfl
theorem zfy(v:AV)(H:Hp):eU (some v) H=.ok v H:=id rfl
theorem qcm(H:Hp)(b o:Nat)(v:List AV)(r:AV)(z:Nat)(l:List AV)(hb:H.get b=aD z l)(h:o+v.length<=l.length):storeAt H b o v r=.ok r (H.put b (aD z (bJ l o v))):=by unfold storeAt;rw[hb,qhs,if_pos h]
theorem q5g(H:Hp)(b o:Nat)(v:List AV)(r:AV):storeAt H b o v r=(match vS (H.get b) o v with|some blk=>.ok r (H.put b blk)|none=>.bad):=id rfl
theorem q5k(H:Hp)(b o:Nat)(k:IntKind)(n:Int):gJ H (.ptr b o) (.int k n)=storeAt H b o [.int k n] .undef:=id rfl
theorem qz8(H:Hp)(b o:Nat)(n:Bool):gJ H (.ptr b o) (.bool n)=storeAt H b o [.bool n] .undef:=id rfl
theorem zda(H:Hp)(b o:Nat)(b' o' l c:Nat)(e:Bool):gJ H (.ptr b o) (.sl b' o' l c e)=storeAt H b o [.sl b' o' l c e] .undef:=id rfl
theorem qux(H:Hp)(b o:Nat):gJ H (.ptr b o) .aA=storeAt H b o [.aA] .undef:=id rfl
theorem q21(k:Nat)(H:Hp)(b o:Nat)(l:List AV):dY k H (.ptr b o) (.agg l)=bif Nat.beq l.length k then storeAt H b o l .undef else .bad:=id rfl
theorem zzs(k nm:Nat)(l:List AV):bB k nm (.agg l)=bif Nat.beq l.length k then .new (.ptr nm 0) (aD 0 l)else .bad:=id rfl
theorem znq(nm:Nat)(k:IntKind)(n:Int):lQ nm (.int k n)=.new (.ptr nm 0) (aD 0 [.int k n]):=id rfl
theorem zv7(nm:Nat)(b' o' l c:Nat)(e:Bool):lQ nm (.sl b' o' l c e)=.new (.ptr nm 0) (aD 0 [.sl b' o' l c e]):=id rfl
theorem q67(nm:Nat):lQ nm .aA=.new (.ptr nm 0) (aD 0 [.aA]):=id rfl
theorem zm3(off b o:Nat):aK off (.ptr b o)=.val (.ptr b (o+off)):=id rfl
theorem zx6(b o:Nat):aY (.ptr b o)=.val (.ptr b o):=id rfl
theorem sP(z b o n c:Nat)(e:Bool)(k:IntKind)(i:Nat)(h:i<n):aN z (.sl b o n c e) (.int k (.ofNat i))=.val (.ptr b (o+i*z)):=by show(bif Nat.blt i n then _ else _)=_;rw[blt_eq,decide_eq_true h];rfl
theorem zyx(n z b o:Nat)(k:IntKind)(i:Nat)(h:i<n):fJ n z (.ptr b o) (.int k (.ofNat i))=.val (.ptr b (o+i*z)):=by show(bif Nat.blt i n then _ else _)=_;rw[blt_eq,decide_eq_true h];rfl
theorem zmp(b o n c:Nat)(e:Bool):aF (.sl b o n c e)=.val (iN n):=id rfl
theorem zfb:aF .aA=.val (iN 0):=id rfl
theorem zu1:aF .sle=.val (iN 0):=id rfl
theorem zv5(b o n c:Nat):gZ (.sl b o n c true)=.val (iN c):=id rfl
theorem znn:gZ .aA=.val (iN 0):=id rfl
theorem zy5(i:Nat)(l:List AV):bU i (.bG l)=(match l[i]? with|some v=>.val v|none=>.bad):=id rfl
theorem q56(n nm:Nat)(l:List AV):iB n nm (some l)=.new (.sl nm 0 n n true) (aD 0 l):=id rfl
attribute [go_sem] zwx zwy aH4 aYM aSM aI8 aJ6 zw0 aID aHD ztl ztk aXT aQL aKP zuk
 zz0 zw5 zya zxt zxn zxm zyh zyn zyz zy1 zy8 zx9 aKO
 zme zmf q33 q57 q6a q58 q6b q59 q6c
 zu0 zuz zhc zhd zxq zfy q5k qz8 zda qux q21 zzs znq zv7 q67 zm3 zx6 sP zyx
 zmp zfb zu1 zv5 znn zy5 q56 qb6 qb5 qhs q5g
 eB q00 qb8 dW nq np
 beq_self_eq_true Bool.true_beq Bool.false_beq beq_true beq_false Bool.not_true Bool.not_false Bool.not_eq_true' Bool.not_eq_false' decide_true decide_false decide_eq_true_eq decide_eq_false_iff_not Bool.false_eq_true
 if_true if_false ite_self Nat.zero_add Nat.add_zero Nat.mul_one Nat.zero_mul cond_true cond_false reduceCtorEq not_false_eq_true not_true_eq_false
 List.take_succ_cons List.take_zero List.drop_zero List.drop_succ_cons List.getElem?_cons_zero List.getElem?_cons_succ List.length_cons List.length_nil List.length_map List.getElem?_map
def vD(r:R0)(lk al:Bool)(i A nm:Nat)(H:Hp)(p:List Pd)(w:List Wt)(f:Hp->R0)(k:AV->Hp->List Pd->List Wt->R1):R1:=
 match r with
  | .bad=>.bad
  | .val v=>k v H p (bif lk then⟨i,A,f,v⟩::w else w)
  | .new v b=>bif al&&b.wr then k v H (⟨i,nm,b⟩::p) w else .bad
theorem aCf(lk al:Bool)(i A nm:Nat)(H:Hp)(p:List Pd)(w:List Wt)(f:Hp->R0)(k:AV->Hp->List Pd->List Wt->R1):dq lk al i A nm H p w f (some true) k=vD (f (bN A p H)) lk al i A nm H p w f k:=by rw[zng];rfl
theorem aVJ(lk al:Bool)(i A nm:Nat)(H:Hp)(p:List Pd)(w:List Wt)(f:Hp->R0)(k:AV->Hp->List Pd->List Wt->R1):dq lk al i A nm H p w f (some false) k=k .undef H p w:=by rw[zng];rfl
@[congr] theorem aKL {lk al : Bool}{i A nm : Nat}{H : Hp}{p : List Pd}{w : List Wt}{f : Hp -> R0}{g g' : Option Bool}{k : AV -> Hp -> List Pd -> List Wt -> R1}(h : g = g'):dq lk al i A nm H p w f g k = dq lk al i A nm H p w f g' k := by rw [h]
@[congr] theorem aK3 {r r' : R0}{lk al : Bool}{i A nm : Nat}{H : Hp}{p : List Pd}{w : List Wt}{f : Hp -> R0}{k : AV -> Hp -> List Pd -> List Wt -> R1}(h : r = r'):vD r lk al i A nm H p w f k = vD r' lk al i A nm H p w f k := by rw [h]
@[congr] theorem aJH {A : Nat}{H : Hp}{p : List Pd}{w : List Wt}{r r' : R1}{g g' : Option Bool}{k : AV -> Hp -> List Pd -> List Wt -> R1}(h : g = g')(hr : r = r'):de A H p w r g k = de A H p w r' g' k := by rw [h, hr]
theorem aVy(v:AV)(al:Bool)(i A nm:Nat)(H:Hp)(p:List Pd)(w:List Wt)(f:Hp->R0)(k:AV->Hp->List Pd->List Wt->R1):vD (.val v) false al i A nm H p w f k=k v H p w:=id rfl
theorem aYy(v:AV)(al:Bool)(i A nm:Nat)(H:Hp)(p:List Pd)(w:List Wt)(f:Hp->R0)(k:AV->Hp->List Pd->List Wt->R1):vD (.val v) true al i A nm H p w f k=k v H p (⟨i,A,f,v⟩::w):=id rfl
theorem zw2(v:AV)(z:Nat)(l:List AV)(lk:Bool)(i A nm:Nat)(H:Hp)(p:List Pd)(w:List Wt)(f:Hp->R0)(k:AV->Hp->List Pd->List Wt->R1):vD (.new v (aD z l)) lk true i A nm H p w f k=k v H (⟨i,nm,aD z l⟩::p) w:=id rfl
theorem aV0(A:Nat)(H:Hp)(p:List Pd)(w:List Wt)(r:R1)(k:AV->Hp->List Pd->List Wt->R1):de A H p w r (some false) k=k .undef H p w:=by rw[znh];rfl
def vE(c:Bool)(r:R1):R1:=bif c then r else .bad
@[congr] theorem aMd {c c' : Bool}{r : R1}(h : c = c'):vE c r = vE c' r := by rw [h]
theorem aUR(r:R1):vE true r=r:=id rfl
theorem zvs(A:Nat)(H:Hp)(p:List Pd)(w:List Wt)(v:AV)(H':Hp)(k:AV->Hp->List Pd->List Wt->R1):de A H p w (.ok v H') (some true) k=vE (yJ (pG A p) H' (pI A w)) (k v H' (pG A p) (pI A w)):=by rw[znh];rfl
theorem zu8(m i:Nat):hasB m i=decide ((m >>> i) &&& 1=1):=beq_eq _ _
theorem zzj(p:List Pd)(H:Hp)(k:pH):jG p H k=k (l7 p H):=id rfl
theorem aWd(H:Hp)(k:Nat->pH):dz 0 H k=k H.nx H:=id rfl
attribute [go_sem] aWd
theorem zc1(A:Nat)(H:Hp):bN A [] H=H:=id rfl
theorem q5c(A:Nat)(x:Pd)(p:List Pd)(H:Hp):bN A (x::p) H=bif hasB A x.i then(bN A p H).put x.nm x.b else bN A p H:=by rfl
theorem znz(H:Hp):l7 [] H=H:=id rfl
theorem zhb(x:Pd)(p:List Pd)(H:Hp):l7 (x::p) H=(l7 p H).put x.nm x.b:=id rfl
theorem zgk(A:Nat):pG A []=[]:=id rfl
theorem q6s(A:Nat)(x:Pd)(p:List Pd):pG A (x::p)=bif hasB A x.i then pG A p else x::pG A p:=id rfl
theorem zgj(A:Nat):pI A []=[]:=id rfl
theorem q6q(A:Nat)(x:Wt)(p:List Wt):pI A (x::p)=bif hasB A x.i then pI A p else x::pI A p:=id rfl
theorem zcx(p:List Pd)(H:Hp):yJ p H []=true:=id rfl
theorem q5b(p:List Pd)(H:Hp)(x:Wt)(w:List Wt):yJ p H (x::w)=(zdq (x.f (bN x.A p H)) x.v&&yJ p H w):=id rfl
theorem zdp(u v:AV):zdq (.val u) v=oD 64 u v:=id rfl
def xC:AV->Bool
 | .undef| .cB| .aA| .sle| .dP| .jB| .mY=>true
 | .bool _| .int _ _| .str _ _| .ptr _ _| .sl .. | .map _| .yield _=>true
 |_=>false
theorem zD{v:AV}(h:xC v=true)(k:Nat):oD (k+1) v v=true:=by cases v<;>first|(cases h;done)|(simp[oD,beq_eq];done)
theorem qwl:∀(l:List AV) (k:Nat),l.all xC=true->l.length<k->qE (k+1) l l=true
 | [],k,_,_=>by simp[qE]
 |x::l,0,_,h=>by simp at h
 |x::l,k+1,ha,h=>by rw[List.all_cons,Bool.and_eq_true]at ha;rw[qE,zD ha.1,qwl l k ha.2 (by simpa using h)];rfl
theorem zvj(k:IntKind)(n:Int):oD 64 (.int k n) (.int k n)=true:=zD (v:=.int k n) rfl 63
theorem zm9(b:Bool):oD 64 (.bool b) (.bool b)=true:=zD (v:=.bool b) rfl 63
theorem zy9(a b c d:Nat)(e:Bool):oD 64 (.sl a b c d e) (.sl a b c d e)=true:=zD (v:=.sl a b c d e) rfl 63
theorem zf6:oD 64 .aA .aA=true:=zD (v:=.aA) rfl 63
theorem zvi(a b:Nat):oD 64 (.ptr a b) (.ptr a b)=true:=zD (v:=.ptr a b) rfl 63
def Tr(b:Bool):Prop:=b=true
theorem ti{b:Bool}(h:b=true):Tr b:=h
theorem qjl(l:List AV)(h:Tr (l.all xC&&Nat.blt l.length 62)):oD 64 (.agg l) (.agg l)=true:=by unfold Tr at h;rw[Bool.and_eq_true,blt_eq,decide_eq_true_iff]at h;exact qwl l 62 h.1 h.2
theorem zfq(H:Hp)(n c:Nat):(Hp.mk H.t n).get c=H.get c:=id rfl
theorem Fm.up{S:Nat->Prop}{H H':Hp}(a:Fm S H H')(k:Nat):Fm S H ⟨H'.t,H'.nx+k⟩:=⟨by have:=a.nx;show H.nx<=H'.nx+k;omega,fun b hb hs=>a.get b hb hs⟩
theorem Fm.oK{S:Nat->Prop}{H H':Hp}(a:Fm S H H'){n:Nat}(h:H.nx<=n):Fm S H ⟨H'.t,n⟩:=⟨h,fun b hb hs=>a.get b hb hs⟩
theorem Ok.yF{A:Nat}{H:Hp}{p:List Pd}{w:List Wt}{r:R1}{k:AV->Hp->List Pd->List Wt->R1}{Q:pL}{v:AV}{H':Hp}(h:r=.ok v H')(hk:Ok (vE (yJ (pG A p) H' (pI A w)) (k v H' (pG A p) (pI A w))) Q):Ok (Di.de A H p w r (some true) k) Q:=by rw[h,zvs];exact hk
theorem Ok.veE{r:R1}{k:pD}{Q:pL}{v:AV}{H':Hp}(h:r=.ok v H')(hk:Ok (k v H') Q):Ok (Di.ve r k) Q:=by rw[h];exact hk
theorem Ok.kI{A:Nat}{H:Hp}{p:List Pd}{w:List Wt}{r:R1}{k:AV->Hp->List Pd->List Wt->R1}{Q R:pL}(h:Ok r R)(hk:∀ v H',R v H'->Ok (vE (yJ (pG A p) H' (pI A w)) (k v H' (pG A p) (pI A w))) Q):Ok (Di.de A H p w r (some true) k) Q:=by obtain⟨v,H',e,q⟩:=h;rw[e,zvs];exact hk v H' q
def In(v:AV)(b:Nat):Prop:=∃ o n m e,v=.sl b o n m e
structure Gl(z:Nat)(H:Hp)(v:AV)(n:Nat)(l:List AV):Prop where
 len:l.length=n*z
 is:(v=.aA/\n=0)\/∃ b o e q L,v=.sl b o n n e/\H.get b=aD q L/\o<=L.length/\L.drop o=l/\(e=true\/q=z)/\b<H.nx
theorem Gl.nil(z:Nat)(H:Hp):Gl z H .aA 0 []:=⟨by simp,.inl ⟨rfl,rfl⟩⟩
theorem Gl.dD{z n:Nat}{H:Hp}{v:AV}{l:List AV}(h:Gl z H v n l):aF v=.val (iN n):=by rcases h.is with⟨rfl,rfl⟩|⟨b,o,e,q,L,rfl,_⟩<;>rfl
theorem Gl.keep{z n:Nat}{H H':Hp}{v:AV}{l:List AV}(h:Gl z H v n l)(hn:H.nx<=H'.nx)(hk:∀ b,In v b->b<H.nx->H'.get b=H.get b):Gl z H' v n l:=by
 refine⟨h.len,?_⟩;rcases h.is with⟨rfl,rfl⟩|⟨b,o,e,q,L,rfl,h1,h2,h3,h4,h5⟩
 ·simp
 ·exact .inr ⟨b,o,e,q,L,rfl,(hk b ⟨_,_,_,_,rfl⟩ h5).trans h1,h2,h3,h4,Nat.lt_of_lt_of_le h5 hn⟩
theorem Gl.fm{z n:Nat}{H H':Hp}{v:AV}{l:List AV}(h:Gl z H v n l){S:Nat->Prop}(a:Fm S H H')(hs:∀ b,In v b->¬ S b):Gl z H' v n l:=
 h.keep a.nx fun b hb hl=>a.get b hl (hs b hb)
theorem Gl.no{z n:Nat}{H H':Hp}{v:AV}{l:List AV}(h:Gl z H v n l)(a:Fm No H H'):Gl z H' v n l:=h.fm a fun _ _ h=>h
theorem Gl.append{z w n k:Nat}{H:Hp}{v:AV}{l x:List AV}(h:Gl z H v n l)(hk:0<k)(hx:x.length=k*z)(hb:(n+k)*w<=1099511627776)(hb2:n+k<=1099511627776):∃H',gV z w H v (some ⟨k,x⟩)=.ok (.sl H.nx 0 (n+k) (n+k) false) H'/\Gl z H' (.sl H.nx 0 (n+k) (n+k) false) (n+k) (l++x)/\H'.get H.nx=aD z (l++x)/\Fm (In v) H H'/\H'.nx=H.nx+1:=by
 have hlen:(l++x).length=(n+k)*z:=by rw[List.length_append,h.len,hx,Nat.add_mul]
 have fin:∀ H1:Hp,H1.nx=H.nx->Fm (In v) H H1->gV z w H v (some ⟨k,x⟩)=.ok (.sl H1.nx 0 (n+k) (n+k) false) (aT H1 (aD z (l++x))) ->
   ∃H',gV z w H v (some ⟨k,x⟩)=.ok (.sl H.nx 0 (n+k) (n+k) false) H'/\Gl z H' (.sl H.nx 0 (n+k) (n+k) false) (n+k) (l++x)/\H'.get H.nx=aD z (l++x)/\Fm (In v) H H'/\H'.nx=H.nx+1:=by
  intro H1 e1 f1 e2;refine⟨_,by rw[e2,e1],⟨hlen,.inr ⟨_,_,_,z,l++x,rfl,by rw[<-e1,mP],Nat.zero_le _,List.drop_zero,.inr rfl,by rw[np,e1];omega⟩⟩,by rw[<-e1,mP],f1.push _,by rw[np,e1]⟩
 have bk:Nat.ble ((n+k)*w) fD=true:=Nat.ble_eq_true_of_le hb;have bk2:Nat.ble (n+k) fD=true:=Nat.ble_eq_true_of_le hb2;rcases h.is with⟨rfl,rfl⟩|⟨b,o,e,q,L,rfl,h1,h2,h3,h4,h5⟩
 ·have:l=[]:=List.length_eq_zero_iff.1 (by rw[h.len];simp);subst this;refine fin H rfl (Fm.refl _ _) ?_;show(bif Nat.beq k 0 then _ else bif Nat.ble (Nat.mul k w) fD&&Nat.ble k fD then _ else _)=_;rw[beq_eq,decide_eq_false (by omega)];rw[Nat.zero_add]at bk bk2;show(bif Nat.ble (k*w) fD&&Nat.ble k fD then _ else _)=_;rw[bk,bk2,Nat.zero_add];rfl
 ·have e0:Nat.ble (n+k) n=false:=by rw[ble_eq,decide_eq_false (by omega)]
  have hd:o+n*z=L.length:=by have:=h.len;rw[<-h3,List.length_drop]at this;omega
  have rd:gN (H.get b) o (Nat.mul n z)=some l:=by rw[h1,qb5,if_pos (by show o+n*z<=_;omega),h3,List.take_of_length_le (by rw[h.len];exact Nat.le_refl _)]
  have main:∀(e:Bool) (H1:Hp),H1=(bif e then H else H.put b .dead)->(e=true\/q=z)->gV z w H (.sl b o n n e) (some ⟨k,x⟩)=.ok (.sl H1.nx 0 (n+k) (n+k) false) (aT H1 (aD z (l++x))):=by
   intro e H1 eH h4;show(bif Nat.ble (n+k) n then _ else bif Nat.ble (Nat.mul (n+k) w) fD&&Nat.ble (n+k) fD then(match gN (H.get b) o (Nat.mul n z)with|none=>R1.bad|some old=>bif e then _ else bif qgx (H.get b) (o+n*z) z then _ else _)else R1.bad)=_;rw[e0,show Nat.mul (n+k) w=(n+k)*w from rfl,bk,bk2,rd];subst eH;cases e with
   |true=>rfl
   |false=>
    rcases h4 with h4|h4
    ·cases h4
    ·have:qgx (H.get b) (o+n*z) z=true:=by rw[h1,zf9];simp[hd,h4]
     simp only[cond_false,cond_true,Bool.and_self,this];rfl
  refine fin (bif e then H else H.put b .dead) (by cases e<;>rfl) ?_ (main e _ rfl h4);cases e with
  |true=>exact Fm.refl _ _
  |false=>exact(Fm.refl _ _).put b _ fun _=>⟨_,_,_,_,rfl⟩
theorem qu1(z:Nat)(H:Hp)(b o n m:Nat)(e:Bool):jA z H (.sl b o n m e)=(match gN (H.get b) o (n*z)with|some l=>some ⟨n,l⟩|none=>none):=id rfl
theorem Gl.head{n:Nat}{H:Hp}{v:AV}{x:AV}{l:List AV}(h:Gl 1 H v n (x::l)):∃ b o,aN 1 v (iN 0)=.val (.ptr b o)/\b<H.nx/\In v b/\dO (H.get b) o=.val x:=by
 have hl:=h.len;rcases h.is with⟨rfl,rfl⟩|⟨b,o,e,q,L,rfl,h1,h2,h3,h4,h5⟩
 ·simp at hl
 ·refine⟨b,o,?_,h5,⟨_,_,_,_,rfl⟩,?_⟩
  ·rw[sP _ _ _ _ _ _ _ _ (by simp at hl;omega),Nat.zero_mul,Nat.add_zero]
  ·have:L[o]? =some x:=by rw[<-Nat.add_zero o,<-List.getElem?_drop,h3];rfl
   rw[h1,qb6,this]
theorem Gl.tail{n:Nat}{H:Hp}{v:AV}{x:AV}{l:List AV}(h:Gl 1 H v (n+1) (x::l)):∃w,lC 1 v (some (iN 1)) none none=.val w/\Ev.aF w=.val (iN n)/\(0<n->Gl 1 H w n l)/\(∀b,In w b->In v b):=by
 have hl:=h.len;rcases h.is with⟨rfl,h0⟩|⟨b,o,e,q,L,rfl,h1,h2,h3,h4,h5⟩
 ·simp at h0
 ·have e1:lC 1 (.sl b o (n+1) (n+1) e) (some (iN 1)) none none=gY b o 1 ⟨1,n+1,n+1⟩ e:=by
   show(match bounds (n+1) (n+1) (some (iN 1)) none none with|some bd=>gY b o 1 bd e|none=>R0.bad)=_;rfl
  rw[e1];unfold gY;simp only[beq_eq];by_cases hn:n=0
  ·subst hn;cases e with
   |true=>exact⟨_,rfl,rfl,fun h=>absurd h (Nat.lt_irrefl 0),fun c hc=>by obtain⟨o',n',m',e',h'⟩:=hc;cases h';exact⟨_,_,_,_,rfl⟩⟩
   |false=>exact⟨_,rfl,rfl,fun h=>absurd h (Nat.lt_irrefl 0),fun c hc=>by obtain⟨o',n',m',e',h'⟩:=hc;cases h'⟩
  ·have hd:decide (n+1=1)=false:=by simp;exact hn
   rw[hd];refine⟨.sl b (o+1) n n e,by show R0.val (.sl b (o+1*1) (n+1-1) (n+1-1) e)=_;rw[Nat.add_sub_cancel,Nat.one_mul],rfl,fun _=>⟨?_,.inr ⟨b,o+1,e,q,L,rfl,h1,?_,?_,h4,h5⟩⟩,fun c hc=>by obtain⟨o',n',m',e',h'⟩:=hc;cases h';exact⟨_,_,_,_,rfl⟩⟩
   ·simp_all
   ·have:(L.drop o).length=(x::l).length:=by rw[h3]
    rw[List.length_drop]at this;simp at this;omega
   ·rw[<-List.drop_drop,h3];rfl
theorem zlm(l v:List AV)(h:Tr (Nat.beq v.length l.length)):bJ l 0 v=v:=by unfold Tr at h;rw[beq_eq,decide_eq_true_iff]at h;unfold bJ;simp[h]
theorem qfr(z:List AV)(w nm n:Nat)(h:n*w<=1099511627776)(h2:n<=1099511627776):qib z w nm (iN n) (iN n)=.new (.sl nm 0 n n true) (aD 0 (bC z n)):=by show(bif Nat.ble n n&&Nat.ble (Nat.mul n w) fD&&Nat.ble n fD then _ else _)=_;rw[Nat.ble_eq_true_of_le (Nat.le_refl n),show Nat.mul n w=n*w from rfl,Nat.ble_eq_true_of_le (show n*w<=fD from h),Nat.ble_eq_true_of_le (show n<=fD from h2)];rfl
theorem qdz(x:AV):∀ n,bC [x] n=List.replicate n x
 |0=>rfl
 |n+1=>by show[x]++bC [x] n=_;rw[qdz x n];rfl
theorem qu7(c:List AV):bT c []=some c:=id rfl
theorem qst(c:List AV)(off size:Nat)(v:AV)(r:List (Nat×Nat×AV)):bT c ((off,size,v)::r)=match xA v with|some l=>(match qmg c off size l with|some c'=>bT c' r|none=>none)|none=>none:=id rfl
theorem q62(k:IntKind)(n:Int):xA (.int k n)=some [.int k n]:=id rfl
theorem q1b(n:Bool):xA (.bool n)=some [.bool n]:=id rfl
theorem zgu(a b c d:Nat)(e:Bool):xA (.sl a b c d e)=some [.sl a b c d e]:=id rfl
theorem qwp:xA .aA=some [.aA]:=id rfl
theorem q63(l:List AV):xA (.agg l)=some l:=id rfl
theorem q5p(c:List AV)(off size:Nat)(v:List AV):qmg c off size v=bif Nat.beq v.length size&&Nat.ble (off+size) c.length then some (c.take off++v++c.drop (off+size))else none:=id rfl
theorem zxl(l:List AV):bC l 1=l++[]:=id rfl
theorem zxk(l:List AV):bC l 2=l++(l++[]):=id rfl
theorem zxj(l:List AV):bC l 3=l++(l++(l++[])):=id rfl
attribute [go_sem] qu7 qst q62 q1b zgu qwp q63 q5p zxl zxk zxj ble_eq blt_eq beq_eq List.append_nil List.nil_append List.cons_append qjl
attribute [go_sem] zlm qu1 aUR zvs zu8 aCf aVJ aVy aYy zw2 aV0 zzj zc1 q5c znz zhb zgk q6s zgj q6q zcx q5b zdp zvj zm9 zy9 zf6 zvi zfq Bool.and_true Bool.true_and Bool.and_self
theorem jS{H:Hp}{c:bQ}:Fm No H (aT H c):=(Fm.refl _ _).push _
theorem nM{H:Hp}{c d:bQ}:Fm No H (aT (aT H c) d):=jS.push _
theorem fP3{H:Hp}{c d e:bQ}:Fm No H (aT (aT (aT H c) d) e):=nM.push _
theorem fP4{H:Hp}{c d e f:bQ}:Fm No H (aT (aT (aT (aT H c) d) e) f):=fP3.push _
theorem nH{H:Hp}{c d:bQ}:Fm No H ((aT H c).put H.nx d):=jS.aG _ _ (Nat.le_refl _)
def dn(i A b:Nat)(H:Hp)(p:List Pd)(w:List Wt)(r:R0)(k:AV->Hp->List Pd->List Wt->R1):R1:=dq false false i A (b+i) H p w (fun _=>r) (some true) k
def da(i A b:Nat)(H:Hp)(p:List Pd)(w:List Wt)(r:R0)(k:AV->Hp->List Pd->List Wt->R1):R1:=dq false true i A (b+i) H p w (fun _=>r) (some true) k
def dl(i A b:Nat)(H:Hp)(p:List Pd)(w:List Wt)(f:Hp->R0)(k:AV->Hp->List Pd->List Wt->R1):R1:=dq true false i A (b+i) H p w f (some true) k
theorem aYf(i A b:Nat)(H:Hp)(p:List Pd)(w:List Wt)(r:R0)(k:AV->Hp->List Pd->List Wt->R1):dn i A b H p w r k=vD r false false i A (b+i) H p w (fun _=>r) k:=aCf ..
theorem aRm(i A b:Nat)(H:Hp)(p:List Pd)(w:List Wt)(r:R0)(k:AV->Hp->List Pd->List Wt->R1):da i A b H p w r k=vD r false true i A (b+i) H p w (fun _=>r) k:=aCf ..
theorem aQQ(i A b:Nat)(H:Hp)(p:List Pd)(w:List Wt)(f:Hp->R0)(k:AV->Hp->List Pd->List Wt->R1):dl i A b H p w f k=vD (f (bN A p H)) true false i A (b+i) H p w f k:=aCf ..
@[congr] theorem aIm {i i' A b : Nat}{H : Hp}{p : List Pd}{w : List Wt}{r : R0}{k : AV -> Hp -> List Pd -> List Wt -> R1}(h : i = i'):dn i A b H p w r k = dn i' A b H p w r k := by rw [h]
@[congr] theorem aH7 {i i' A b : Nat}{H : Hp}{p : List Pd}{w : List Wt}{r : R0}{k : AV -> Hp -> List Pd -> List Wt -> R1}(h : i = i'):da i A b H p w r k = da i' A b H p w r k := by rw [h]
@[congr] theorem aJO {i i' A b : Nat}{H : Hp}{p : List Pd}{w : List Wt}{f : Hp -> R0}{k : AV -> Hp -> List Pd -> List Wt -> R1}(h : i = i'):dl i A b H p w f k = dl i' A b H p w f k := by rw [h]
attribute [go_sem] aYf aRm aQQ
end Go.Di
end
