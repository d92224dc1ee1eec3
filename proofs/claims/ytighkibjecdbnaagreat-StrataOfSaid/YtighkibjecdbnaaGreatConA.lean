/-
 For StrataOf: functions in direct style, their contracts, and the plain mathematics, part 1 of 9. No conditions beyond those that each theorem states.
-/
import Derived.Test.YtighkibjecdbnaaGreatEv4
import Derived.Attr
set_option linter.unusedSimpArgs false
set_option linter.unusedVariables false
noncomputable section
namespace Go.Di
open Go.Ev
abbrev iN(n:Nat):AV:= .int .i64 (.ofNat n)
theorem aW{k n:Nat}(h:n+1<=k):∃ j,k=j+1:=⟨k-1,by omega⟩
theorem blt_eq(a b:Nat):Nat.blt a b=decide (a<b):=by
 cases h:Nat.blt a b with
 |true=>symm;rw[decide_eq_true_iff];exact Nat.le_of_ble_eq_true h
 |false=>symm;rw[decide_eq_false_iff_not];intro h';rw[show Nat.blt a b=Nat.ble (a+1) b from rfl,Nat.ble_eq_true_of_le h']at h;cases h
theorem ble_eq(a b:Nat):Nat.ble a b=decide (a<=b):=by
 cases h:Nat.ble a b with
 |true=>symm;rw[decide_eq_true_iff];exact Nat.le_of_ble_eq_true h
 |false=>symm;rw[decide_eq_false_iff_not];intro h';rw[Nat.ble_eq_true_of_le h']at h;cases h
theorem beq_eq(a b:Nat):Nat.beq a b=decide (a=b):=by
 cases h:Nat.beq a b with
 |true=>simp[Nat.eq_of_beq_eq_true h]
 |false=>symm;rw[decide_eq_false_iff_not];rintro rfl;rw[Nat.beq_refl]at h;cases h
/- trees are equal where all their cells are -/
theorem aJn{α:Type}{t u:Q α}(h:∀ k,k<8->qlz k t=qlz k u):t=u:=by
 cases t;cases u
 have h0:=h 0 (by decide);have h1:=h 1 (by decide);have h2:=h 2 (by decide);have h3:=h 3 (by decide)
 have h4:=h 4 (by decide);have h5:=h 5 (by decide);have h6:=h 6 (by decide);have h7:=h 7 (by decide)
 simp only[qlz]at h0 h1 h2 h3 h4 h5 h6 h7
 simp_all
theorem zpx{α:Type}:∀(d:Nat) {t u:TT α d},(∀i,i<8 ^ d->(dG d i).f t=(dG d i).f u)->t=u
 |0,t,u,h=>h 0 (by decide)
 |d+1,t,u,h=>by
  refine aJn fun k hk=>zpx d fun i hi=> ?_
  have:=h (i*8+k) (by rw[Nat.pow_succ];omega)
  rw[qdl,qdl]at this
  rwa [show(i*8+k) / 8=i by omega,show(i*8+k)%8=k by omega]at this
/- blocks as lists -/
def cellsOf(l:List AV):TT AV (gV l.length):=mO l 0 (same .undef _)
theorem qcr(l:List AV)(i:Nat)(hi:i<8 ^ gV l.length):(dG _ i).f (cellsOf l)=l.getD i .undef:=by
 unfold cellsOf
 rw[qgt _ _ _ _ (by simpa using qby l.length) hi]
 by_cases h:i<l.length
 ·simp_all
 ·rw[if_neg (by omega),qf5]
  simp_all
def bD(l:List AV)(o:Nat)(v:List AV):List AV:=l.take o++v++l.drop (o+v.length)
theorem qep(l:List AV)(o:Nat)(v:List AV)(h:o+v.length<=l.length):(bD l o v).length=l.length:=by
 simp[bD];omega
theorem zke(l:List AV)(o:Nat)(v:List AV)(h:o+v.length<=l.length)(i:Nat) :
  (bD l o v).getD i .undef=if o<=i/\i<o+v.length then v.getD (i-o) .undef else l.getD i .undef:=by
 unfold bD
 simp only[List.getD_eq_getElem?_getD]
 by_cases h1:i<o
 ·rw[if_neg (by omega),List.append_assoc,List.getElem?_append_left (by simp;omega),List.getElem?_take_of_lt h1]
 ·by_cases h2:i<o+v.length
  ·rw[if_pos (by omega),List.append_assoc,List.getElem?_append_right (by simp;omega),List.getElem?_append_left (by simp;omega)]
   simp[Nat.min_eq_left (show o<=l.length by omega)]
  ·rw[if_neg (by omega),List.getElem?_append_right (by simp;omega),List.getElem?_drop]
   simp only[List.length_append,List.length_take,Nat.min_eq_left (show o<=l.length by omega)]
   congr 2;omega
theorem qha(z:Nat)(l v:List AV)(o:Nat):vZ (aD z l) o v=if o+v.length<=l.length then some (aD z (bD l o v))else none:=by
 show(bif Nat.ble (o+v.length) l.length then some (bP.cells _ _ (mO v o (cellsOf l)) false z)else none)=_
 by_cases h:o+v.length<=l.length
 ·rw[if_pos h,Nat.ble_eq_true_of_le h]
  have hl:=qep l o v h
  have key:∀(n:Nat) (e:n=l.length) (c:TT AV (gV n)),(∀i,i<8 ^ gV n->(dG _ i).f c=(bD l o v).getD i .undef)->bP.cells (gV l.length) l.length (mO v o (cellsOf l)) false z=bP.cells (gV n) n c false z:=by
   intro n e c hc
   subst e
   congr 1
   refine zpx _ fun i hi=> ?_
   have:=qby l.length
   rw[hc i hi,zke _ _ _ h,qgt _ _ _ _ (by omega) hi,qcr _ _ hi]
  exact congrArg some (key _ hl _ fun i hi=>qcr _ _ hi)
 ·rw[if_neg h]
  have:Nat.ble (o+v.length) l.length=false:=by
   cases hb:Nat.ble (o+v.length) l.length with
   |false=>rfl
   |true=>exact absurd (Nat.le_of_ble_eq_true hb) h
  rw[this];rfl
theorem qb3(z:Nat)(l:List AV)(o:Nat):bT (aD z l) o=match l[o]? with|some v=> .val v|none=> .bad:=by
 show(bif Nat.blt o l.length then R0.val ((dG _ o).f (cellsOf l))else .bad)=_
 by_cases h:o<l.length
 ·have hb:Nat.blt o l.length=true:=by rw[blt_eq];simpa using h
  rw[hb,qcr _ _ (Nat.lt_of_lt_of_le h (qby _))]
  simp[h]
 ·have hb:Nat.blt o l.length=false:=by rw[blt_eq];simpa using h
  simp_all
theorem q2u{d:Nat}(c:TT AV d)(l:List AV)(hc:∀ i,i<8 ^ d->(dG d i).f c=l.getD i .undef):∀(k o:Nat),o+k<=l.length->l.length<=8 ^ d->rdN c k o=(l.drop o).take k
 |0,o,_,_=>by simp[zko]
 |k+1,o,h,h2=>by
  rw[qsn,hc _ (by omega),q2u c l hc k (o+1) (by omega) h2]
  rw[List.drop_eq_getElem_cons (show o<l.length by omega),List.take_succ_cons]
  simp[show o<l.length by omega]
theorem qb2(z:Nat)(l:List AV)(o k:Nat):iZ (aD z l) o k=if o+k<=l.length then some ((l.drop o).take k)else none:=by
 show(bif Nat.ble (o+k) l.length then some (rdN (cellsOf l) k o)else none)=_
 by_cases h:o+k<=l.length
 ·rw[if_pos h,Nat.ble_eq_true_of_le h,q2u _ l (fun i hi=>qcr l i hi) k o h (qby _)];rfl
 ·rw[if_neg h]
  have:Nat.ble (o+k) l.length=false:=by
   cases hb:Nat.ble (o+k) l.length with
   |false=>rfl
   |true=>exact absurd (Nat.le_of_ble_eq_true hb) h
  rw[this];rfl
theorem zfo(z z':Nat)(l:List AV)(e:Nat):qgm (aD z l) e z'=(decide (l.length=e)&&decide (z=z')):=by
 show(Nat.beq l.length e&&Nat.beq z z')=_
 have hb:∀ a b,Nat.beq a b=decide (a=b):=fun a b=>by
  cases h:Nat.beq a b with
  |true=>simp[Nat.eq_of_beq_eq_true h]
  |false=>symm;rw[decide_eq_false_iff_not];rintro rfl;rw[Nat.beq_refl]at h;cases h
 rw[hb,hb]
/- memory -/
theorem get_put(H:Hp)(b c:Nat)(k:bP):(H.put b k).get c=if c=b then k else H.get c:=Mem.get_put H.t b c k
theorem eP(H:Hp)(b:Nat)(k:bP):(H.put b k).get b=k:=by rw[get_put,if_pos rfl]
theorem dZ(H:Hp)(b c:Nat)(k:bP)(h:c≠b):(H.put b k).get c=H.get c:=by rw[get_put,if_neg h]
theorem nq(H:Hp)(b:Nat)(k:bP):(H.put b k).nx=H.nx:=id rfl
theorem qf6(H:Hp)(c:Nat)(k:bP):(aR H k).get c=if c=H.nx then k else H.get c:=Mem.get_put H.t H.nx c k
theorem kL(H:Hp)(k:bP):(aR H k).get H.nx=k:=by rw[qf6,if_pos rfl]
theorem qzs(H:Hp)(c:Nat)(k:bP)(h:H.nx<=c/\c<=H.nx):(aR H k).get c=k:=by rw[qf6,if_pos (by omega)]
theorem qbp(H:Hp)(c:Nat)(k:bP)(h:c<H.nx):(aR H k).get c=H.get c:=by rw[qf6,if_neg (by omega)]
theorem np(H:Hp)(k:bP):(aR H k).nx=H.nx+1:=id rfl
structure Fm(S:Nat->Prop)(H H':Hp):Prop where
 nx:H.nx<=H'.nx
 get:∀ b,b<H.nx->¬ S b->H'.get b=H.get b
def No:Nat->Prop:=fun _=>False
theorem Fm.refl(S:Nat->Prop)(H:Hp):Fm S H H:=⟨Nat.le_refl _,fun _ _ _=>rfl⟩
theorem Fm.trans{S:Nat->Prop}{H H1 H2:Hp}(a:Fm S H H1)(b:Fm S H1 H2):Fm S H H2:=⟨Nat.le_trans a.nx b.nx,fun c hc hs=>(b.get c (Nat.lt_of_lt_of_le hc a.nx) hs).trans (a.get c hc hs)⟩
theorem Fm.mono{S T:Nat->Prop}{H H':Hp}(a:Fm S H H')(h:∀ b,b<H.nx->S b->T b):Fm T H H':=⟨a.nx,fun b hb ht=>a.get b hb fun hs=>ht (h b hb hs)⟩
theorem Fm.push{S:Nat->Prop}{H H':Hp}(a:Fm S H H')(k:bP):Fm S H (aR H' k):=⟨Nat.le_succ_of_le a.nx,fun b hb hs=>by rw[qbp _ _ _ (Nat.lt_of_lt_of_le hb a.nx)];exact a.get b hb hs⟩
theorem Fm.put{S:Nat->Prop}{H H':Hp}(a:Fm S H H')(b:Nat)(k:bP)(h:b<H.nx->S b):Fm S H (H'.put b k):=⟨a.nx,fun c hc hs=>by
 rw[dZ _ _ _ _ (fun e=>hs (by subst e;exact h hc))];exact a.get c hc hs⟩
theorem Fm.aM{S:Nat->Prop}{H H':Hp}(a:Fm S H H')(b:Nat)(k:bP)(h:H.nx<=b):Fm S H (H'.put b k):=a.put b k fun hb=>by omega
theorem Fm.keep{H H':Hp}(a:Fm No H H'){b:Nat}(hb:b<H.nx):H'.get b=H.get b:=a.get b hb id
theorem Fm.then{S T:Nat->Prop}{H H1 H2:Hp}(a:Fm S H H1)(b:Fm T H1 H2)(h:∀ c,c<H.nx->T c->S c):Fm S H H2 :=
 ⟨Nat.le_trans a.nx b.nx,fun c hc hs=>(b.get c (Nat.lt_of_lt_of_le hc a.nx) fun ht=>hs (h c hc ht)).trans (a.get c hc hs)⟩
def Ok(r:R1)(Q:AV->Hp->Prop):Prop:=∃ v H',r= .ok v H'/\Q v H'
theorem Ok.ret{v:AV}{H:Hp}{Q:AV->Hp->Prop}(h:Q v H):Ok (.ok v H) Q:=⟨v,H,rfl,h⟩
theorem Ok.mono{r:R1}{Q R:AV->Hp->Prop}(h:Ok r Q)(hm:∀ v H,Q v H->R v H):Ok r R:=by
 obtain⟨v,H,e,q⟩:=h;exact⟨v,H,e,hm _ _ q⟩
theorem Ok.ve{r:R1}{k:AV->Hp->R1}{Q R:AV->Hp->Prop}(h:Ok r R)(hk:∀ v H,R v H->Ok (k v H) Q):Ok (ve r k) Q:=by
 obtain⟨v,H,e,q⟩:=h;subst e;exact hk v H q
theorem Ok.de{A:Nat}{H:Hp}{p:List Pd}{w:List Wt}{r:R1}{k:AV->Hp->List Pd->List Wt->R1}{Q R:AV->Hp->Prop}(h:Ok r R)
  (hk:∀ v H',R v H'->yV (oD A p) H' (nY A w)=true/\Ok (k v H' (oD A p) (nY A w)) Q):Ok (de A H p w r (some true) k) Q:=by
 obtain⟨v,H',e,q⟩:=h
 subst e
 obtain⟨h1,h2⟩:=hk v H' q
 rw[zmc]
 unfold de0
 simp only[h1,cond_true]
 exact h2
/- steps -/
theorem zvh(v:AV)(H:Hp)(k:AV->Hp->R1):vq (.val v) H k=k v H:=id rfl
theorem zvi(v:AV)(b:bP)(H:Hp)(k:AV->Hp->R1):vq (.new v b) H k=k v (aR H b):=id rfl
theorem aLi(v:AV)(H:Hp)(k:AV->Hp->R1):ve (.ok v H) k=k v H:=id rfl
theorem aVa(r:R0)(H:Hp)(k:AV->Hp->R1):vg (some true) r H k=vq r H k:=by rw[zsf];rfl
theorem aVQ(r:R0)(H:Hp)(k:AV->Hp->R1):vg (some false) r H k=k .undef H:=by rw[zsf];rfl
theorem aKu(r:R1)(H:Hp)(k:AV->Hp->R1):qA (some true) r H k=ve r k:=by rw[zcp];rfl
theorem aLo(r:R1)(H:Hp)(k:AV->Hp->R1):qA (some false) r H k=k .undef H:=by rw[zcp];rfl
theorem zvk(v:AV)(k:AV->R1):vl (.val v) k=k v:=id rfl
theorem aL3(r:R0)(k:AV->R1):rD (some true) r k=vl r k:=by rw[q1y];rfl
theorem aLy(r:R0)(k:AV->R1):rD (some false) r k=k .undef:=by rw[q1y];rfl
theorem zsd(a b:Bool):aP a (.bool b)=some (b==a):=id rfl
theorem zsc(a:Bool):aP a .undef=some false:=id rfl
theorem aVv(x y:R1):cd (.bool true) x y=x:=id rfl
theorem aT9(x y:R1):cd (.bool false) x y=y:=id rfl
theorem aKH(up:Nat)(H:Hp)(k:Nat->Hp->R1):dz up H k=k H.nx ⟨H.t,H.nx+up⟩:=id rfl
theorem ztb(c:Bool)(a b:AV):fI (.bool c) a b= .val (if c=true then a else b):=by cases c<;>rfl
@[congr] theorem aJ4 {r r' : R0} {H : Hp} {k : AV -> Hp -> R1} (h : r = r') : vq r H k = vq r' H k := by rw [h]
@[congr] theorem aHT {r r' : R1} {k : AV -> Hp -> R1} (h : r = r') : ve r k = ve r' k := by rw [h]
@[congr] theorem aJm {w w' : Option Bool} {r : R0} {H : Hp} {k : AV -> Hp -> R1} (h : w = w') : vg w r H k = vg w' r H k := by rw [h]
@[congr] theorem zvl {w w' : Option Bool} {r : R1} {H : Hp} {k : AV -> Hp -> R1} (h : w = w') : qA w r H k = qA w' r H k := by rw [h]
@[congr] theorem aLT {r r' : R0} {k : AV -> R1} (h : r = r') : vl r k = vl r' k := by rw [h]
@[congr] theorem zvj {w w' : Option Bool} {r : R0} {k : AV -> R1} (h : w = w') : rD w r k = rD w' r k := by rw [h]
@[congr] theorem aIL {x x' : AV} {a b : R1} (h : x = x') : cd x a b = cd x' a b := by rw [h]
@[congr] theorem aLF {u : Nat} {H : Hp} {k : Nat -> Hp -> R1} : dz u H k = dz u H k := rfl
theorem qf8(k:IntKind):tJ k k=true:=by cases k<;>rfl
theorem yX(a b:Int):nO a b=decide (a<b):=by
 cases a<;>cases b<;>simp only[nO,blt_eq]<;>rename_i m n<;>apply Bool.eq_iff_iff.2<;>simp only[decide_eq_true_eq,Int.ofNat_eq_natCast,Int.negSucc_eq]<;>first|omega|(simp;omega)
theorem qek(a b:Int):pK a b=decide (a=b):=by
 cases a<;>cases b<;>simp only[pK,beq_eq]<;>rename_i m n<;>apply Bool.eq_iff_iff.2<;>simp only[decide_eq_true_eq,Int.ofNat_eq_natCast,Int.negSucc_eq]<;>first|omega|(simp;omega)
theorem qfr(n:Nat)(h:n<9223372036854775808):sQ .i64 (.ofNat n)= .ofNat n:=by
 show(bif Nat.blt n 9223372036854775808 then _ else _)=_
 rw[blt_eq,decide_eq_true h];rfl
theorem zyi(a b:Int):aB (aK .add).f (.int .i64 a) (.int .i64 b)= .val (.int .i64 (sQ .i64 (a+b))):=id rfl
theorem zvq(a b:Int):aB (aK .sub).f (.int .i64 a) (.int .i64 b)= .val (.int .i64 (sQ .i64 (a-b))):=id rfl
theorem zwt(a b:Int):aB (aK .mul).f (.int .i64 a) (.int .i64 b)= .val (.int .i64 (sQ .i64 (a*b))):=id rfl
theorem zyh(a b:Nat)(h:a+b<9223372036854775808):aB (aK .add).f (iN a) (iN b)= .val (iN ((a+b))):=by
 rw[zyi];exact congrArg (fun x=>R0.val (.int .i64 x)) (qfr (a+b) h)
theorem zvp(a b:Nat)(h:b<=a)(h2:a<9223372036854775808):aB (aK .sub).f (iN a) (iN b)= .val (iN ((a-b))):=by
 rw[zvq,show(Int.ofNat a-Int.ofNat b)=Int.ofNat (a-b)by simp only[Int.ofNat_eq_natCast];omega,qfr _ (by omega)]
theorem zws(a b:Nat)(h:a*b<9223372036854775808):aB (aK .mul).f (iN a) (iN b)= .val (iN ((a*b))):=by
 rw[zwt];exact congrArg (fun x=>R0.val (.int .i64 x)) (qfr (a*b) h)
theorem zwc(a b:Nat)(h:0<b)(h2:a<9223372036854775808):aB (aK .quo).f (iN a) (iN b)= .val (iN ((a / b))):=by
 have hz:pK (.ofNat b) 0=false:=by rw[qek];simp;omega
 show(bif pK (.ofNat b) 0 then R0.bad else .val (.int .i64 (sQ .i64 ((Int.ofNat a).tdiv (Int.ofNat b)))))=_
 rw[hz]
 exact congrArg (fun x=>R0.val (.int .i64 x)) (qfr (a / b) (Nat.lt_of_le_of_lt (Nat.div_le_self _ _) h2))
theorem zv7(a b:Nat)(h:0<b):aB (aK .rem).f (iN a) (iN b)= .val (iN ((a%b))):=by
 have hz:pK (.ofNat b) 0=false:=by rw[qek];simp;omega
 show(bif pK (.ofNat b) 0 then R0.bad else .val (.int .i64 ((Int.ofNat a).tmod (Int.ofNat b))))=_
 rw[hz];rfl
theorem zv6(a b:Nat)(h:0<b):aB (aK .rem).f (.int .u8 (.ofNat a)) (.int .u8 (.ofNat b))= .val (.int .u8 (.ofNat (a%b))):=by
 have hz:pK (.ofNat b) 0=false:=by rw[qek];simp;omega
 show(bif pK (.ofNat b) 0 then R0.bad else .val (.int .u8 ((Int.ofNat a).tmod (Int.ofNat b))))=_
 rw[hz];rfl
theorem zwz(k:IntKind)(a b:Int):aB (aK .lss).f (.int k a) (.int k b)= .val (.bool (decide (a<b))):=by
 show(bif tJ k k then R0.val (.bool (nO a b))else .bad)=_
 rw[qf8,yX];rfl
theorem zw5(k:IntKind)(a b:Int):aB (aK .leq).f (.int k a) (.int k b)= .val (.bool (decide (a<=b))):=by
 show(bif tJ k k then R0.val (.bool (!nO b a))else .bad)=_
 rw[qf8,yX,<-decide_not];simp only[cond_true];congr 2;simp only[Int.not_lt]
theorem zxf(k:IntKind)(a b:Int):aB (aK .gtr).f (.int k a) (.int k b)= .val (.bool (decide (b<a))):=by
 show(bif tJ k k then R0.val (.bool (nO b a))else .bad)=_
 rw[qf8,yX];rfl
theorem zxg(k:IntKind)(a b:Int):aB (aK .geq).f (.int k a) (.int k b)= .val (.bool (decide (b<=a))):=by
 show(bif tJ k k then R0.val (.bool (!nO a b))else .bad)=_
 rw[qf8,yX,<-decide_not];simp only[cond_true];congr 2;simp only[Int.not_lt]
theorem zxm(k:IntKind)(a b:Int):aB (aK .eql).f (.int k a) (.int k b)= .val (.bool (decide (a=b))):=by
 show(bif tJ k k then R0.val (.bool (pK a b))else .bad)=_
 rw[qf8,qek];rfl
theorem zwr(k:IntKind)(a b:Int):aB (aK .neq).f (.int k a) (.int k b)= .val (.bool (!decide (a=b))):=by
 show(bif tJ k k then R0.val (.bool (!pK a b))else .bad)=_
 rw[qf8,qek];rfl
theorem aLM(b:Bool):(mZ .not).f (.bool b)= .val (.bool !b):=id rfl
/- numbers -/
theorem zk6(a b:Nat):(Int.ofNat a<Int.ofNat b)=(a<b):=by simp
theorem zk7(a b:Nat):(Int.ofNat a<=Int.ofNat b)=(a<=b):=by simp
theorem q28(a b:Nat):(Int.ofNat a=Int.ofNat b)=(a=b):=by simp only[Int.ofNat_eq_natCast,eq_iff_iff];omega
theorem q5c(a b:Nat):(Int.negSucc a<Int.ofNat b)=True:=by simp only[Int.negSucc_eq,Int.ofNat_eq_natCast,eq_iff_iff,iff_true];omega
theorem q5g(a b:Nat):(Int.ofNat a<Int.negSucc b)=False:=by simp only[Int.negSucc_eq,Int.ofNat_eq_natCast,eq_iff_iff,iff_false];omega
theorem q5d(a b:Nat):(Int.negSucc a<=Int.ofNat b)=True:=by simp only[Int.negSucc_eq,Int.ofNat_eq_natCast,eq_iff_iff,iff_true];omega
theorem q5h(a b:Nat):(Int.ofNat a<=Int.negSucc b)=False:=by simp only[Int.negSucc_eq,Int.ofNat_eq_natCast,eq_iff_iff,iff_false];omega
theorem q5f(a b:Nat):(Int.negSucc a=Int.ofNat b)=False:=by simp
theorem q5i(a b:Nat):(Int.ofNat a=Int.negSucc b)=False:=by simp
/- memory -/
theorem ztr(H:Hp)(b o:Nat):aH H (.ptr b o)=bT (H.get b) o:=id rfl
theorem ztq(k:Nat)(H:Hp)(b o:Nat):aX k H (.ptr b o)=aBt (iZ (H.get b) o k):=id rfl
theorem zgl(l:List AV):aBt (some l)= .val (.agg l):=id rfl
theorem zgm(l:List AV):dH (some l)= .val (.agg l):=id rfl
theorem zwa(v:AV):rV (.val v)=some v:=id rfl
theorem zff(v:AV)(H:Hp):eG (some v) H= .ok v H:=id rfl
theorem qcg(H:Hp)(b o:Nat)(v:List AV)(r:AV)(z:Nat)(l:List AV)(hb:H.get b=aD z l)(h:o+v.length<=l.length):storeAt H b o v r= .ok r (H.put b (aD z (bD l o v))):=by
 unfold storeAt
 rw[hb,qha,if_pos h]
theorem q4n(H:Hp)(b o:Nat)(v:List AV)(r:AV):storeAt H b o v r=(match vZ (H.get b) o v with|some blk=> .ok r (H.put b blk)|none=> .bad):=id rfl
theorem q4s(H:Hp)(b o:Nat)(k:IntKind)(n:Int):eY H (.ptr b o) (.int k n)=storeAt H b o [.int k n] .undef:=id rfl
theorem qy2(H:Hp)(b o:Nat)(n:Bool):eY H (.ptr b o) (.bool n)=storeAt H b o [.bool n] .undef:=id rfl
theorem zcv(H:Hp)(b o:Nat)(b' o' l c:Nat)(e:Bool):eY H (.ptr b o) (.sl b' o' l c e)=storeAt H b o [.sl b' o' l c e] .undef:=id rfl
theorem quf(H:Hp)(b o:Nat):eY H (.ptr b o) .aA=storeAt H b o [.aA] .undef:=id rfl
theorem q15(k:Nat)(H:Hp)(b o:Nat)(l:List AV):dX k H (.ptr b o) (.agg l)=bif Nat.beq l.length k then storeAt H b o l .undef else .bad:=id rfl
theorem zya(k nm:Nat)(l:List AV):bM k nm (.agg l)=bif Nat.beq l.length k then .new (.ptr nm 0) (aD 0 l)else .bad:=id rfl
theorem zml(nm:Nat)(k:IntKind)(n:Int):lJ nm (.int k n)= .new (.ptr nm 0) (aD 0 [.int k n]):=id rfl
theorem zus(nm:Nat)(b' o' l c:Nat)(e:Bool):lJ nm (.sl b' o' l c e)= .new (.ptr nm 0) (aD 0 [.sl b' o' l c e]):=id rfl
theorem q6c(nm:Nat):lJ nm .aA= .new (.ptr nm 0) (aD 0 [.aA]):=id rfl
theorem zly(off b o:Nat):aO off (.ptr b o)= .val (.ptr b (o+off)):=id rfl
theorem zwo(b o:Nat):aV (.ptr b o)= .val (.ptr b o):=id rfl
theorem sP(z b o n c:Nat)(e:Bool)(k:IntKind)(i:Nat)(h:i<n):aL z (.sl b o n c e) (.int k (.ofNat i))= .val (.ptr b (o+i*z)):=by
 show(bif Nat.blt i n then _ else _)=_
 rw[blt_eq,decide_eq_true h];rfl
theorem zxe(n z b o:Nat)(k:IntKind)(i:Nat)(h:i<n):fO n z (.ptr b o) (.int k (.ofNat i))= .val (.ptr b (o+i*z)):=by
 show(bif Nat.blt i n then _ else _)=_
 rw[blt_eq,decide_eq_true h];rfl
theorem zlj(b o n c:Nat)(e:Bool):aG (.sl b o n c e)= .val (iN n):=id rfl
theorem zet:aG .aA= .val (iN 0):=id rfl
theorem zts:aG .sle= .val (iN 0):=id rfl
theorem zuq(b o n c:Nat):iI (.sl b o n c true)= .val (iN c):=id rfl
theorem zmi:iI .aA= .val (iN 0):=id rfl
theorem zxj(i:Nat)(l:List AV):bK i (.aZ l)=(match l[i]? with|some v=> .val v|none=> .bad):=id rfl
theorem q5b(n nm:Nat)(l:List AV):jL n nm (some l)= .new (.sl nm 0 n n true) (aD 0 l):=id rfl
attribute [go_sem] zvh zvi aLi aVa aVQ aKu aLo zvk aL3 aLy zsd zsc aVv aT9 aKH ztb
 zyh zvp zws zwc zv7 zv6 zwz zw5 zxf zxg zxm zwr aLM
 zk6 zk7 q28 q5c q5g q5d q5h q5f q5i
 ztr ztq zgl zgm zwa zff q4s qy2 zcv quf q15 zya zml zus q6c zly zwo sP zxe
 zlj zet zts zuq zmi zxj q5b qb3 qb2 qha q4n
 eP qzs qbp dZ nq np
 beq_self_eq_true Bool.true_beq Bool.false_beq beq_true beq_false Bool.not_true Bool.not_false Bool.not_eq_true' Bool.not_eq_false' decide_true decide_false decide_eq_true_eq decide_eq_false_iff_not Bool.false_eq_true
 if_true if_false ite_self Nat.zero_add Nat.add_zero Nat.mul_one Nat.zero_mul cond_true cond_false reduceCtorEq not_false_eq_true not_true_eq_false
 List.take_succ_cons List.take_zero List.drop_zero List.drop_succ_cons List.getElem?_cons_zero List.getElem?_cons_succ List.length_cons List.length_nil List.length_map List.getElem?_map
def vD(r:R0)(lk al:Bool)(i A nm:Nat)(H:Hp)(p:List Pd)(w:List Wt)(f:Hp->R0)(k:AV->Hp->List Pd->List Wt->R1):R1 :=
 match r with
  | .bad=> .bad
  | .val v=>k v H p (bif lk then⟨i,A,f,v⟩::w else w)
  | .new v b=>bif al&&b.wr then k v H (⟨i,nm,b⟩::p) w else .bad
theorem aDa(lk al:Bool)(i A nm:Nat)(H:Hp)(p:List Pd)(w:List Wt)(f:Hp->R0)(k:AV->Hp->List Pd->List Wt->R1):dq lk al i A nm H p w f (some true) k=vD (f (bO A p H)) lk al i A nm H p w f k:=by rw[zmb];rfl
theorem aQt(lk al:Bool)(i A nm:Nat)(H:Hp)(p:List Pd)(w:List Wt)(f:Hp->R0)(k:AV->Hp->List Pd->List Wt->R1):dq lk al i A nm H p w f (some false) k=k .undef H p w:=by rw[zmb];rfl
@[congr] theorem aHK {lk al : Bool} {i A nm : Nat} {H : Hp} {p : List Pd} {w : List Wt} {f : Hp -> R0} {g g' : Option Bool} {k : AV -> Hp -> List Pd -> List Wt -> R1} (h : g = g') : dq lk al i A nm H p w f g k = dq lk al i A nm H p w f g' k := by rw [h]
@[congr] theorem aJL {r r' : R0} {lk al : Bool} {i A nm : Nat} {H : Hp} {p : List Pd} {w : List Wt} {f : Hp -> R0} {k : AV -> Hp -> List Pd -> List Wt -> R1} (h : r = r') : vD r lk al i A nm H p w f k = vD r' lk al i A nm H p w f k := by rw [h]
@[congr] theorem aI5 {A : Nat} {H : Hp} {p : List Pd} {w : List Wt} {r r' : R1} {g g' : Option Bool} {k : AV -> Hp -> List Pd -> List Wt -> R1} (h : g = g') (hr : r = r') : de A H p w r g k = de A H p w r' g' k := by rw [h, hr]
theorem aYh(v:AV)(al:Bool)(i A nm:Nat)(H:Hp)(p:List Pd)(w:List Wt)(f:Hp->R0)(k:AV->Hp->List Pd->List Wt->R1):vD (.val v) false al i A nm H p w f k=k v H p w:=id rfl
theorem aRX(v:AV)(al:Bool)(i A nm:Nat)(H:Hp)(p:List Pd)(w:List Wt)(f:Hp->R0)(k:AV->Hp->List Pd->List Wt->R1):vD (.val v) true al i A nm H p w f k=k v H p (⟨i,A,f,v⟩::w):=id rfl
theorem zvm(v:AV)(z:Nat)(l:List AV)(lk:Bool)(i A nm:Nat)(H:Hp)(p:List Pd)(w:List Wt)(f:Hp->R0)(k:AV->Hp->List Pd->List Wt->R1):vD (.new v (aD z l)) lk true i A nm H p w f k=k v H (⟨i,nm,aD z l⟩::p) w:=id rfl
theorem aYi(A:Nat)(H:Hp)(p:List Pd)(w:List Wt)(r:R1)(k:AV->Hp->List Pd->List Wt->R1):de A H p w r (some false) k=k .undef H p w:=by rw[zmc];rfl
def vE(c:Bool)(r:R1):R1:=bif c then r else .bad
@[congr] theorem aLq {c c' : Bool} {r : R1} (h : c = c') : vE c r = vE c' r := by rw [h]
theorem aRb(r:R1):vE true r=r:=id rfl
theorem zui(A:Nat)(H:Hp)(p:List Pd)(w:List Wt)(v:AV)(H':Hp)(k:AV->Hp->List Pd->List Wt->R1):de A H p w (.ok v H') (some true) k=vE (yV (oD A p) H' (nY A w)) (k v H' (oD A p) (nY A w)):=by rw[zmc];rfl
theorem zty(m i:Nat):hasB m i=decide ((m >>> i) &&& 1=1):=beq_eq _ _
theorem zx0(p:List Pd)(H:Hp)(k:Hp->R1):jO p H k=k (l8 p H):=id rfl
theorem aQl(H:Hp)(k:Nat->Hp->R1):dz 0 H k=k H.nx H:=id rfl
attribute [go_sem] aQl
theorem zco(A:Nat)(H:Hp):bO A [] H=H:=id rfl
theorem q4l(A:Nat)(x:Pd)(p:List Pd)(H:Hp):bO A (x::p) H=bif hasB A x.i then(bO A p H).put x.nm x.b else bO A p H:=by
 rfl
theorem zmu(H:Hp):l8 [] H=H:=id rfl
theorem zgk(x:Pd)(p:List Pd)(H:Hp):l8 (x::p) H=(l8 p H).put x.nm x.b:=id rfl
theorem zfz(A:Nat):oD A []=[]:=id rfl
theorem q5x(A:Nat)(x:Pd)(p:List Pd):oD A (x::p)=bif hasB A x.i then oD A p else x::oD A p:=id rfl
theorem zfy(A:Nat):nY A []=[]:=id rfl
theorem q5w(A:Nat)(x:Wt)(p:List Wt):nY A (x::p)=bif hasB A x.i then nY A p else x::nY A p:=id rfl
theorem zck(p:List Pd)(H:Hp):yV p H []=true:=id rfl
theorem q4k(p:List Pd)(H:Hp)(x:Wt)(w:List Wt):yV p H (x::w)=(zdc (x.f (bO x.A p H)) x.v&&yV p H w):=id rfl
theorem zdb(u v:AV):zdc (.val u) v=nP 64 u v:=id rfl
def sZ:AV->Bool
 | .undef| .bZ| .aA| .sle| .dQ| .iT| .mD=>true
 | .bool _| .int _ _| .str _ _| .ptr _ _| .sl .. | .map _| .yield _=>true
 |_=>false
theorem qb7{v:AV}(h:sZ v=true)(k:Nat):nP (k+1) v v=true:=by
 cases v<;>first|(cases h;done)|(simp[nP];done)
theorem qv8:∀(l:List AV) (k:Nat),l.all sZ=true->l.length<k->pG (k+1) l l=true
 | [],k,_,_=>by simp[pG]
 |x::l,0,_,h=>by simp at h
 |x::l,k+1,ha,h=>by
  rw[List.all_cons,Bool.and_eq_true]at ha
  rw[pG,qb7 ha.1,qv8 l k ha.2 (by simpa using h)];rfl
theorem zt6(k:IntKind)(n:Int):nP 64 (.int k n) (.int k n)=true:=qb7 (v:= .int k n) rfl 63
theorem zl3(b:Bool):nP 64 (.bool b) (.bool b)=true:=qb7 (v:= .bool b) rfl 63
theorem zxn(a b c d:Nat)(e:Bool):nP 64 (.sl a b c d e) (.sl a b c d e)=true:=qb7 (v:= .sl a b c d e) rfl 63
theorem zfl:nP 64 .aA .aA=true:=qb7 (v:= .aA) rfl 63
theorem zt5(a b:Nat):nP 64 (.ptr a b) (.ptr a b)=true:=qb7 (v:= .ptr a b) rfl 63
def Tr(b:Bool):Prop:=b=true
theorem ti{b:Bool}(h:b=true):Tr b:=h
theorem qmt(l:List AV)(h:Tr (l.all sZ&&Nat.blt l.length 62)):nP 64 (.agg l) (.agg l)=true:=by
 unfold Tr at h
 rw[Bool.and_eq_true,blt_eq,decide_eq_true_iff]at h
 exact qv8 l 62 h.1 h.2
theorem ze8(H:Hp)(n c:Nat):(Hp.mk H.t n).get c=H.get c:=id rfl
theorem Fm.up{S:Nat->Prop}{H H':Hp}(a:Fm S H H')(k:Nat):Fm S H ⟨H'.t,H'.nx+k⟩:=⟨by have:=a.nx;show H.nx<=H'.nx+k;omega,fun b hb hs=>a.get b hb hs⟩
theorem Fm.uF{S:Nat->Prop}{H H':Hp}(a:Fm S H H'){n:Nat}(h:H.nx<=n):Fm S H ⟨H'.t,n⟩:=⟨h,fun b hb hs=>a.get b hb hs⟩
theorem Ok.y7{A:Nat}{H:Hp}{p:List Pd}{w:List Wt}{r:R1}{k:AV->Hp->List Pd->List Wt->R1}{Q:AV->Hp->Prop}{v:AV}{H':Hp}(h:r= .ok v H')
  (hk:Ok (vE (yV (oD A p) H' (nY A w)) (k v H' (oD A p) (nY A w))) Q):Ok (Di.de A H p w r (some true) k) Q:=by rw[h,zui];exact hk
theorem Ok.veE{r:R1}{k:AV->Hp->R1}{Q:AV->Hp->Prop}{v:AV}{H':Hp}(h:r= .ok v H')(hk:Ok (k v H') Q):Ok (Di.ve r k) Q:=by rw[h];exact hk
theorem Ok.lX{A:Nat}{H:Hp}{p:List Pd}{w:List Wt}{r:R1}{k:AV->Hp->List Pd->List Wt->R1}{Q R:AV->Hp->Prop}(h:Ok r R)
  (hk:∀ v H',R v H'->Ok (vE (yV (oD A p) H' (nY A w)) (k v H' (oD A p) (nY A w))) Q):Ok (Di.de A H p w r (some true) k) Q:=by
 obtain⟨v,H',e,q⟩:=h;rw[e,zui];exact hk v H' q
def In(v:AV)(b:Nat):Prop:=∃ o n m e,v= .sl b o n m e
structure Gl(z:Nat)(H:Hp)(v:AV)(n:Nat)(l:List AV):Prop where
 len:l.length=n*z
 is:(v= .aA/\n=0)\/∃ b o e q L,v= .sl b o n n e/\H.get b=aD q L/\o<=L.length/\L.drop o=l/\(e=true\/q=z)/\b<H.nx
theorem Gl.nil(z:Nat)(H:Hp):Gl z H .aA 0 []:=⟨by simp,.inl ⟨rfl,rfl⟩⟩
theorem Gl.cO{z n:Nat}{H:Hp}{v:AV}{l:List AV}(h:Gl z H v n l):aG v= .val (iN n):=by
 rcases h.is with⟨rfl,rfl⟩|⟨b,o,e,q,L,rfl,_⟩<;>rfl
theorem Gl.keep{z n:Nat}{H H':Hp}{v:AV}{l:List AV}(h:Gl z H v n l)(hn:H.nx<=H'.nx)(hk:∀ b,In v b->b<H.nx->H'.get b=H.get b):Gl z H' v n l:=by
 refine⟨h.len,?_⟩
 rcases h.is with⟨rfl,rfl⟩|⟨b,o,e,q,L,rfl,h1,h2,h3,h4,h5⟩
 ·simp
 ·exact .inr ⟨b,o,e,q,L,rfl,(hk b ⟨_,_,_,_,rfl⟩ h5).trans h1,h2,h3,h4,Nat.lt_of_lt_of_le h5 hn⟩
theorem Gl.fm{z n:Nat}{H H':Hp}{v:AV}{l:List AV}(h:Gl z H v n l){S:Nat->Prop}(a:Fm S H H')(hs:∀ b,In v b->¬ S b):Gl z H' v n l :=
 h.keep a.nx fun b hb hl=>a.get b hl (hs b hb)
theorem Gl.no{z n:Nat}{H H':Hp}{v:AV}{l:List AV}(h:Gl z H v n l)(a:Fm No H H'):Gl z H' v n l:=h.fm a fun _ _ h=>h
theorem Gl.append{z w n k:Nat}{H:Hp}{v:AV}{l x:List AV}(h:Gl z H v n l)(hk:0<k)(hx:x.length=k*z)(hb:(n+k)*w<=1099511627776)(hb2:n+k<=1099511627776) :
  ∃H',iJ z w H v (some ⟨k,x⟩)= .ok (.sl H.nx 0 (n+k) (n+k) false) H'/\Gl z H' (.sl H.nx 0 (n+k) (n+k) false) (n+k) (l++x)/\H'.get H.nx=aD z (l++x)/\Fm (In v) H H'/\H'.nx=H.nx+1:=by
 have hlen:(l++x).length=(n+k)*z:=by rw[List.length_append,h.len,hx,Nat.add_mul]
 have fin:∀ H1:Hp,H1.nx=H.nx->Fm (In v) H H1->iJ z w H v (some ⟨k,x⟩)= .ok (.sl H1.nx 0 (n+k) (n+k) false) (aR H1 (aD z (l++x))) ->
   ∃H',iJ z w H v (some ⟨k,x⟩)= .ok (.sl H.nx 0 (n+k) (n+k) false) H'/\Gl z H' (.sl H.nx 0 (n+k) (n+k) false) (n+k) (l++x)/\H'.get H.nx=aD z (l++x)/\Fm (In v) H H'/\H'.nx=H.nx+1:=by
  intro H1 e1 f1 e2
  refine⟨_,by rw[e2,e1],⟨hlen,.inr ⟨_,_,_,z,l++x,rfl,by rw[<-e1,kL],Nat.zero_le _,List.drop_zero,.inr rfl,by rw[np,e1];omega⟩⟩,by rw[<-e1,kL],f1.push _,by rw[np,e1]⟩
 have bk:Nat.ble ((n+k)*w) fD=true:=Nat.ble_eq_true_of_le hb
 have bk2:Nat.ble (n+k) fD=true:=Nat.ble_eq_true_of_le hb2
 rcases h.is with⟨rfl,rfl⟩|⟨b,o,e,q,L,rfl,h1,h2,h3,h4,h5⟩
 ·have:l=[]:=List.length_eq_zero_iff.1 (by rw[h.len];simp)
  subst this
  refine fin H rfl (Fm.refl _ _) ?_
  show(bif Nat.beq k 0 then _ else bif Nat.ble (Nat.mul k w) fD&&Nat.ble k fD then _ else _)=_
  rw[beq_eq,decide_eq_false (by omega)]
  rw[Nat.zero_add]at bk bk2
  show(bif Nat.ble (k*w) fD&&Nat.ble k fD then _ else _)=_
  rw[bk,bk2,Nat.zero_add];rfl
 ·have e0:Nat.ble (n+k) n=false:=by rw[ble_eq,decide_eq_false (by omega)]
  have hd:o+n*z=L.length:=by have:=h.len;rw[<-h3,List.length_drop]at this;omega
  have rd:iZ (H.get b) o (Nat.mul n z)=some l:=by
   rw[h1,qb2,if_pos (by show o+n*z<=_;omega),h3,List.take_of_length_le (by rw[h.len];exact Nat.le_refl _)]
  have main:∀(e:Bool) (H1:Hp),H1=(bif e then H else H.put b .dead)->(e=true\/q=z)->iJ z w H (.sl b o n n e) (some ⟨k,x⟩)= .ok (.sl H1.nx 0 (n+k) (n+k) false) (aR H1 (aD z (l++x))):=by
   intro e H1 eH h4
   show(bif Nat.ble (n+k) n then _ else bif Nat.ble (Nat.mul (n+k) w) fD&&Nat.ble (n+k) fD then(match iZ (H.get b) o (Nat.mul n z)with|none=>R1.bad|some old=>bif e then _ else bif qgm (H.get b) (o+n*z) z then _ else _)else R1.bad)=_
   rw[e0,show Nat.mul (n+k) w=(n+k)*w from rfl,bk,bk2,rd]
   subst eH
   cases e with
   |true=>rfl
   |false =>
    rcases h4 with h4|h4
    ·cases h4
    ·have:qgm (H.get b) (o+n*z) z=true:=by rw[h1,zfo];simp[hd,h4]
     simp only[cond_false,cond_true,Bool.and_self,this];rfl
  refine fin (bif e then H else H.put b .dead) (by cases e<;>rfl) ?_ (main e _ rfl h4)
  cases e with
  |true=>exact Fm.refl _ _
  |false=>exact(Fm.refl _ _).put b _ fun _=>⟨_,_,_,_,rfl⟩
theorem zc4(z:Nat)(H:Hp)(b o n m:Nat)(e:Bool):jY z H (.sl b o n m e)=(match iZ (H.get b) o (n*z)with|some l=>some ⟨n,l⟩|none=>none):=id rfl
theorem Gl.head{n:Nat}{H:Hp}{v:AV}{x:AV}{l:List AV}(h:Gl 1 H v n (x::l)):∃ b o,aL 1 v (iN 0)= .val (.ptr b o)/\b<H.nx/\In v b/\bT (H.get b) o= .val x:=by
 have hl:=h.len
 rcases h.is with⟨rfl,rfl⟩|⟨b,o,e,q,L,rfl,h1,h2,h3,h4,h5⟩
 ·simp at hl
 ·refine⟨b,o,?_,h5,⟨_,_,_,_,rfl⟩,?_⟩
  ·rw[sP _ _ _ _ _ _ _ _ (by simp at hl;omega),Nat.zero_mul,Nat.add_zero]
  ·have:L[o]? =some x:=by rw[<-Nat.add_zero o,<-List.getElem?_drop,h3];rfl
   rw[h1,qb3,this]
theorem Gl.tail{n:Nat}{H:Hp}{v:AV}{x:AV}{l:List AV}(h:Gl 1 H v (n+1) (x::l)) :
  ∃w,lH 1 v (some (iN 1)) none none= .val w/\Ev.aG w= .val (iN n)/\(0<n->Gl 1 H w n l)/\(∀b,In w b->In v b):=by
 have hl:=h.len
 rcases h.is with⟨rfl,h0⟩|⟨b,o,e,q,L,rfl,h1,h2,h3,h4,h5⟩
 ·simp at h0
 ·have e1:lH 1 (.sl b o (n+1) (n+1) e) (some (iN 1)) none none=gU b o 1 ⟨1,n+1,n+1⟩ e:=by
   show(match bounds (n+1) (n+1) (some (iN 1)) none none with|some bd=>gU b o 1 bd e|none=>R0.bad)=_
   rfl
  rw[e1]
  unfold gU
  simp only[beq_eq]
  by_cases hn:n=0
  ·subst hn
   cases e with
   |true=>exact⟨_,rfl,rfl,fun h=>absurd h (Nat.lt_irrefl 0),fun c hc=>by obtain⟨o',n',m',e',h'⟩:=hc;cases h';exact⟨_,_,_,_,rfl⟩⟩
   |false=>exact⟨_,rfl,rfl,fun h=>absurd h (Nat.lt_irrefl 0),fun c hc=>by obtain⟨o',n',m',e',h'⟩:=hc;cases h'⟩
  ·have hd:decide (n+1=1)=false:=by simp;exact hn
   rw[hd]
   refine⟨.sl b (o+1) n n e,by show R0.val (.sl b (o+1*1) (n+1-1) (n+1-1) e)=_;rw[Nat.add_sub_cancel,Nat.one_mul],rfl,fun _=>⟨?_,.inr ⟨b,o+1,e,q,L,rfl,h1,?_,?_,h4,h5⟩⟩,fun c hc=>by obtain⟨o',n',m',e',h'⟩:=hc;cases h';exact⟨_,_,_,_,rfl⟩⟩
   ·simp_all
   ·have:(L.drop o).length=(x::l).length:=by rw[h3]
    rw[List.length_drop]at this;simp at this;omega
   ·rw[<-List.drop_drop,h3];rfl
theorem zkf(l v:List AV)(h:Tr (Nat.beq v.length l.length)):bD l 0 v=v:=by
 unfold Tr at h
 rw[beq_eq,decide_eq_true_iff]at h
 unfold bD
 simp[h]
theorem qcz(z:List AV)(w nm n:Nat)(h:n*w<=1099511627776)(h2:n<=1099511627776):qe7 z w nm (iN n) (iN n)= .new (.sl nm 0 n n true) (aD 0 (bB z n)):=by
 show(bif Nat.ble n n&&Nat.ble (Nat.mul n w) fD&&Nat.ble n fD then _ else _)=_
 rw[Nat.ble_eq_true_of_le (Nat.le_refl n),show Nat.mul n w=n*w from rfl,Nat.ble_eq_true_of_le (show n*w<=fD from h),Nat.ble_eq_true_of_le (show n<=fD from h2)];rfl
theorem qct(x:AV):∀ n,bB [x] n=List.replicate n x
 |0=>rfl
 |n+1=>by show[x]++bB [x] n=_;rw[qct x n];rfl
theorem qup(c:List AV):dD c []=some c:=id rfl
theorem qsd(c:List AV)(off size:Nat)(v:AV)(r:List (Nat×Nat×AV)):dD c ((off,size,v)::r)=match xM v with|some l=>(match qll c off size l with|some c'=>dD c' r|none=>none)|none=>none:=id rfl
theorem q57(k:IntKind)(n:Int):xM (.int k n)=some [.int k n]:=id rfl
theorem qz3(n:Bool):xM (.bool n)=some [.bool n]:=id rfl
theorem zf8(a b c d:Nat)(e:Bool):xM (.sl a b c d e)=some [.sl a b c d e]:=id rfl
theorem qwc:xM .aA=some [.aA]:=id rfl
theorem q58(l:List AV):xM (.agg l)=some l:=id rfl
theorem q4x(c:List AV)(off size:Nat)(v:List AV):qll c off size v=bif Nat.beq v.length size&&Nat.ble (off+size) c.length then some (c.take off++v++c.drop (off+size))else none:=id rfl
theorem zv5(l:List AV):bB l 1=l++[]:=id rfl
theorem zv4(l:List AV):bB l 2=l++(l++[]):=id rfl
theorem zv3(l:List AV):bB l 3=l++(l++(l++[])):=id rfl
attribute [go_sem] qup qsd q57 qz3 zf8 qwc q58 q4x zv5 zv4 zv3 ble_eq blt_eq beq_eq List.append_nil List.nil_append List.cons_append qmt
attribute [go_sem] zkf zc4 aRb zui zty aDa aQt aYh aRX zvm aYi zx0 zco q4l zmu zgk zfz q5x zfy q5w zck q4k zdb zt6 zl3 zxn zfl zt5 ze8 Bool.and_true Bool.true_and Bool.and_self
theorem jW{H:Hp}{c:bP}:Fm No H (aR H c):=(Fm.refl _ _).push _
theorem yN{H:Hp}{c d:bP}:Fm No H (aR (aR H c) d):=jW.push _
theorem fP3{H:Hp}{c d e:bP}:Fm No H (aR (aR (aR H c) d) e):=yN.push _
theorem fP4{H:Hp}{c d e f:bP}:Fm No H (aR (aR (aR (aR H c) d) e) f):=fP3.push _
theorem kI{H:Hp}{c d:bP}:Fm No H ((aR H c).put H.nx d):=jW.aM _ _ (Nat.le_refl _)
theorem aLY{H:Hp}{c d e:bP}:Fm No H (aR ((aR H c).put H.nx d) e):=kI.push _
def dn(i A b:Nat)(H:Hp)(p:List Pd)(w:List Wt)(r:R0)(k:AV->Hp->List Pd->List Wt->R1):R1:=dq false false i A (b+i) H p w (fun _=>r) (some true) k
def da(i A b:Nat)(H:Hp)(p:List Pd)(w:List Wt)(r:R0)(k:AV->Hp->List Pd->List Wt->R1):R1:=dq false true i A (b+i) H p w (fun _=>r) (some true) k
def dl(i A b:Nat)(H:Hp)(p:List Pd)(w:List Wt)(f:Hp->R0)(k:AV->Hp->List Pd->List Wt->R1):R1:=dq true false i A (b+i) H p w f (some true) k
theorem aSQ(i A b:Nat)(H:Hp)(p:List Pd)(w:List Wt)(r:R0)(k:AV->Hp->List Pd->List Wt->R1):dn i A b H p w r k=vD r false false i A (b+i) H p w (fun _=>r) k:=aDa ..
theorem aQb(i A b:Nat)(H:Hp)(p:List Pd)(w:List Wt)(r:R0)(k:AV->Hp->List Pd->List Wt->R1):da i A b H p w r k=vD r false true i A (b+i) H p w (fun _=>r) k:=aDa ..
theorem aXX(i A b:Nat)(H:Hp)(p:List Pd)(w:List Wt)(f:Hp->R0)(k:AV->Hp->List Pd->List Wt->R1):dl i A b H p w f k=vD (f (bO A p H)) true false i A (b+i) H p w f k:=aDa ..
@[congr] theorem aLw {i i' A b : Nat} {H : Hp} {p : List Pd} {w : List Wt} {r : R0} {k : AV -> Hp -> List Pd -> List Wt -> R1} (h : i = i') : dn i A b H p w r k = dn i' A b H p w r k := by rw [h]
@[congr] theorem aIF {i i' A b : Nat} {H : Hp} {p : List Pd} {w : List Wt} {r : R0} {k : AV -> Hp -> List Pd -> List Wt -> R1} (h : i = i') : da i A b H p w r k = da i' A b H p w r k := by rw [h]
@[congr] theorem aLZ {i i' A b : Nat} {H : Hp} {p : List Pd} {w : List Wt} {f : Hp -> R0} {k : AV -> Hp -> List Pd -> List Wt -> R1} (h : i = i') : dl i A b H p w f k = dl i' A b H p w f k := by rw [h]
attribute [go_sem] aSQ aQb aXX
end Go.Di
end
