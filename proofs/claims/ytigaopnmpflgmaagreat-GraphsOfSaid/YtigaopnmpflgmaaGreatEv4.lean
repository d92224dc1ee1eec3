/-
 For GraphsOf: the evaluator and its soundness, part 4 of 4: what a run of the abstract evaluator answers, the model's run answers, in every world and on every schedule. No conditions beyond those that each theorem states.
-/
import Derived.Test.YtigaopnmpflgmaaGreatEv1
import Derived.Test.YtigaopnmpflgmaaGreatEv3
import Derived.Sort.Grow
import Derived.Sort.EveryDepth
import Derived.Sort.Defs
import Derived.Shelf.GgSortFunc.InsertionK
import Derived.WideKeyArgs
import Derived.Carry
import Derived.OpenShut
import Derived.ProofKit
import Derived.WalkKit
noncomputable section
namespace Go.Ev
def zlq (k : IntKind) : Nat := @IntKind.rec (fun _ => Nat) 0 1 2 3 4 5 6 7 k
def eqKF (a b : IntKind) : Bool := Nat.beq (zlq a) (zlq b)
theorem zi6 (a b : IntKind) : eqKF a b = eqK a b := by cases a <;> cases b <;> rfl
def limF (k : IntKind) : Nat := @IntKind.rec (fun _ => Nat) 128 32768 2147483648 9223372036854775808 256 65536 4294967296 18446744073709551616 k
def sgnF (k : IntKind) : Bool := @IntKind.rec (fun _ => Bool) true true true true false false false false k
def q15 (k : IntKind) (n : Int) : Int :=
 @Int.rec (fun _ => Int) (fun m => @Bool.rec (fun _ => Int) (k.wrap (.ofNat m)) (.ofNat m) (Nat.blt m (limF k))) (fun m => @Bool.rec (fun _ => Int) (k.wrap (.negSucc m)) (.negSucc m) (Bool.and (sgnF k) (Nat.blt m (limF k)))) n
theorem q93 (k : IntKind) (n : Int) : q15 k n = qev k n := by
 unfold qev
 cases n with
 | ofNat m =>
  show @Bool.rec (fun _ => Int) _ _ (Nat.blt m (limF k)) = bif qrn k (.ofNat m) then _ else _
  have : qrn k (.ofNat m) = Nat.blt m (limF k) := by cases k <;> rfl
  rw [this]; cases Nat.blt m (limF k) <;> rfl
 | negSucc m =>
  show @Bool.rec (fun _ => Int) _ _ (Bool.and (sgnF k) (Nat.blt m (limF k))) = bif qrn k (.negSucc m) then _ else _
  have : qrn k (.negSucc m) = Bool.and (sgnF k) (Nat.blt m (limF k)) := by cases k <;> rfl
  rw [this]; cases Bool.and (sgnF k) (Nat.blt m (limF k)) <;> rfl
def addF (a b : Int) : Int :=
 @Int.rec (fun _ => Int) (fun m => @Int.rec (fun _ => Int) (fun n => Int.ofNat (Nat.add m n)) (fun n => Int.add (.ofNat m) (.negSucc n)) b) (fun m => Int.add (.negSucc m) b) a
theorem zj0 (a b : Int) : addF a b = a + b := by cases a <;> cases b <;> rfl
def subF (a b : Int) : Int :=
 @Int.rec (fun _ => Int) (fun m => @Int.rec (fun _ => Int) (fun n => @Bool.rec (fun _ => Int) (Int.negSucc (Nat.pred (Nat.sub n m))) (Int.ofNat (Nat.sub m n)) (Nat.ble n m)) (fun n => Int.sub (.ofNat m) (.negSucc n)) b) (fun m => Int.sub (.negSucc m) b) a
theorem zhn (a b : Int) : subF a b = a - b := by
 cases a with
 | negSucc m => rfl
 | ofNat m =>
  cases b with
  | negSucc n => rfl
  | ofNat n =>
   show @Bool.rec (fun _ => Int) _ _ (Nat.ble n m) = _
   cases h : Nat.ble n m with
   | true =>
    have h := Nat.le_of_ble_eq_true h
    show Int.ofNat (m - n) = (m : Int) - (n : Int)
    exact Int.ofNat_sub h
   | false =>
    have h : ¬ n ≤ m := fun h' => by rw [Nat.ble_eq_true_of_le h'] at h; cases h
    show Int.negSucc (Nat.pred (n - m)) = (m : Int) - (n : Int)
    rw [Int.negSucc_eq]
    have : (Nat.pred (n - m) : Int) + 1 = (n : Int) - (m : Int) := by
     have h1 : Nat.pred (n - m) + 1 = n - m := Nat.succ_pred_eq_of_pos (by omega)
     omega
    omega
def mulF (a b : Int) : Int :=
 @Int.rec (fun _ => Int) (fun m => @Int.rec (fun _ => Int) (fun n => Int.ofNat (Nat.mul m n)) (fun n => Int.mul (.ofNat m) (.negSucc n)) b) (fun m => Int.mul (.negSucc m) b) a
theorem zis (a b : Int) : mulF a b = a * b := by cases a <;> cases b <;> rfl
def ltF (a b : Int) : Bool :=
 @Int.rec (fun _ => Bool) (fun m => @Int.rec (fun _ => Bool) (fun n => Nat.blt m n) (fun _ => false) b) (fun m => @Int.rec (fun _ => Bool) (fun _ => true) (fun n => Nat.blt n m) b) a
theorem zlg (a b : Int) : ltF a b = ltI a b := by cases a <;> cases b <;> rfl
def eqIF (a b : Int) : Bool :=
 @Int.rec (fun _ => Bool) (fun m => @Int.rec (fun _ => Bool) (fun n => Nat.beq m n) (fun _ => false) b) (fun m => @Int.rec (fun _ => Bool) (fun _ => false) (fun n => Nat.beq n m) b) a
theorem zi7 (a b : Int) : eqIF a b = eqI a b := by
 cases a with
 | ofNat m => cases b <;> rfl
 | negSucc m =>
  cases b with
  | ofNat n => rfl
  | negSucc n =>
   show Nat.beq n m = Nat.beq m n
   cases h : Nat.beq m n with
   | true => rw [Nat.eq_of_beq_eq_true h]; exact Nat.beq_refl n
   | false =>
    cases h' : Nat.beq n m with
    | false => rfl
    | true => rw [Nat.eq_of_beq_eq_true h', Nat.beq_refl] at h; cases h
def notF (b : Bool) : Bool :=
 @Bool.rec (fun _ => Bool) (true) (false) (b)
theorem zik (b : Bool) : notF b = !b := by cases b <;> rfl
def qyl : BinOp → B2
 | .add => ⟨fun k a b => .val (.int k (q15 k (addF a b)))⟩
 | .sub => ⟨fun k a b => .val (.int k (q15 k (subF a b)))⟩
 | .mul => ⟨fun k a b => .val (.int k (q15 k (mulF a b)))⟩
 | .eql => ⟨fun _ a b => .val (.bool (eqIF a b))⟩
 | .neq => ⟨fun _ a b => .val (.bool (notF (eqIF a b)))⟩
 | .lss => ⟨fun _ a b => .val (.bool (ltF a b))⟩
 | .leq => ⟨fun _ a b => .val (.bool (notF (ltF b a)))⟩
 | .gtr => ⟨fun _ a b => .val (.bool (ltF b a))⟩
 | .geq => ⟨fun _ a b => .val (.bool (notF (ltF a b)))⟩
 | op => qab op
theorem q3h (op : BinOp) : qyl op = qab op := by
 cases op <;> simp only [qyl, qab, q93, zj0, zhn, zis, zi7, zlg, zik]
def ziz (g : IntKind → Int → Int → R0) (x y : AV) : R0 :=
 @AV.rec (fun _ => R0) (fun _ => PUnit) R0.bad (fun _ => R0.bad) (fun _ => R0.bad) (fun k a => @AV.rec (fun _ => R0) (fun _ => PUnit) R0.bad (fun _ => R0.bad) (fun _ => R0.bad) (fun k' b => @Bool.rec (fun _ => R0) (R0.bad) (g k a b) (eqKF k k')) (fun _ _ => R0.bad) (fun _ _ => R0.bad) R0.bad (fun _ _ _ _ _ => R0.bad) R0.bad R0.bad (fun _ => R0.bad) R0.bad (fun _ _ _ _ _ => R0.bad) (fun _ => R0.bad) R0.bad (fun _ _ _ => R0.bad) R0.bad (fun _ _ => R0.bad) (fun _ _ => R0.bad) PUnit.unit (fun _ _ _ _ => PUnit.unit) y) (fun _ _ => R0.bad) (fun _ _ => R0.bad) R0.bad (fun _ _ _ _ _ => R0.bad) R0.bad R0.bad (fun _ => R0.bad) R0.bad (fun _ _ _ _ _ => R0.bad) (fun _ => R0.bad) R0.bad (fun _ _ _ => R0.bad) R0.bad (fun _ _ => R0.bad) (fun _ _ => R0.bad) PUnit.unit (fun _ _ _ _ => PUnit.unit) x
theorem zdv : ziz = intV := by
 funext g x y
 cases x <;> first | rfl | (cases y <;> first | rfl | (simp only [ziz, zi6, intV]; generalize eqK _ _ = e; cases e <;> rfl))
def zkd (g : Nat → Nat → Nat → Nat → R0) (x y : AV) : R0 :=
 @AV.rec (fun _ => R0) (fun _ => PUnit) R0.bad (fun _ => R0.bad) (fun _ => R0.bad) (fun _ _ => R0.bad) (fun n a => @AV.rec (fun _ => R0) (fun _ => PUnit) R0.bad (fun _ => R0.bad) (fun _ => R0.bad) (fun _ _ => R0.bad) (fun m b => g n a m b) (fun _ _ => R0.bad) R0.bad (fun _ _ _ _ _ => R0.bad) R0.bad R0.bad (fun _ => R0.bad) R0.bad (fun _ _ _ _ _ => R0.bad) (fun _ => R0.bad) R0.bad (fun _ _ _ => R0.bad) R0.bad (fun _ _ => R0.bad) (fun _ _ => R0.bad) PUnit.unit (fun _ _ _ _ => PUnit.unit) y) (fun _ _ => R0.bad) R0.bad (fun _ _ _ _ _ => R0.bad) R0.bad R0.bad (fun _ => R0.bad) R0.bad (fun _ _ _ _ _ => R0.bad) (fun _ => R0.bad) R0.bad (fun _ _ _ => R0.bad) R0.bad (fun _ _ => R0.bad) (fun _ _ => R0.bad) PUnit.unit (fun _ _ _ _ => PUnit.unit) x
theorem zcl : zkd = strV := by funext g x y; cases x <;> first | rfl | (cases y <;> rfl)
def ze9 (c a b : AV) : R0 :=
 @AV.rec (fun _ => R0) (fun _ => PUnit) R0.bad (fun _ => R0.bad) (fun x => @Bool.rec (fun _ => R0) (.val b) (.val a) (x)) (fun _ _ => R0.bad) (fun _ _ => R0.bad) (fun _ _ => R0.bad) R0.bad (fun _ _ _ _ _ => R0.bad) R0.bad R0.bad (fun _ => R0.bad) R0.bad (fun _ _ _ _ _ => R0.bad) (fun _ => R0.bad) R0.bad (fun _ _ _ => R0.bad) R0.bad (fun _ _ => R0.bad) (fun _ _ => R0.bad) PUnit.unit (fun _ _ _ _ => PUnit.unit) c
theorem q7w : ze9 = qbf := by funext c a b; cases c <;> first | rfl | (rename_i x; cases x <;> rfl)
def binF (P : Program) (op : BinOp) (t : TypeId) : V2 :=
 match P.underlying t with
 | some (.int _) =>
  match op with
  | .shl | .shr => binS P op t
  | _ => match qyl op with | ⟨g⟩ => ⟨ziz g⟩
 | some .string => match qcb op with | ⟨g⟩ => ⟨zkd g⟩
 | _ => binS P op t
theorem zjx (P : Program) (op : BinOp) (t : TypeId) : binF P op t = binS P op t := by
 unfold binF
 split
 ·rename_i h
  split
  ·rfl
  ·rfl
  ·rw [q3h, zdv]
   unfold binS; rw [h]
   cases op <;> simp_all
 ·rename_i h
  rw [zcl]; unfold binS; rw [h]
 ·rfl
def q8d (H : Hp) (a : AV) : R0 :=
 @AV.rec (fun _ => R0) (fun _ => PUnit) R0.bad (fun _ => R0.bad) (fun _ => R0.bad) (fun _ _ => R0.bad) (fun _ _ => R0.bad) (fun b o => @Blk.rec (fun _ => R0) R0.bad (fun d n c _ _ => @Bool.rec (fun _ => R0) (R0.bad) (.val ((qar d o).f c)) (Nat.blt o n)) (fun _ _ => R0.bad) (fun _ _ _ => R0.bad) (fun _ _ _ _ _ _ _ _ => R0.bad) (H.get b)) R0.bad (fun _ _ _ _ _ => R0.bad) R0.bad R0.bad (fun _ => R0.bad) R0.bad (fun _ _ _ _ _ => R0.bad) (fun _ => R0.bad) R0.bad (fun _ _ _ => R0.bad) R0.bad (fun _ _ => R0.bad) (fun _ _ => R0.bad) PUnit.unit (fun _ _ _ _ => PUnit.unit) a
theorem q8c : q8d = qad := by
 funext H a
 cases a <;> first | rfl | skip
 rename_i b o
 show _ = qap (H.get b) o
 unfold q8d
 simp only
 generalize H.get b = k
 cases k <;> first | rfl | skip
 rename_i d n c ro z
 show @Bool.rec (fun _ => R0) _ _ (Nat.blt o n) = bif Nat.blt o n then _ else _
 cases Nat.blt o n <;> rfl
def q8a (k : Nat) (H : Hp) (a : AV) : R0 :=
 @AV.rec (fun _ => R0) (fun _ => PUnit) R0.bad (fun _ => R0.bad) (fun _ => R0.bad) (fun _ _ => R0.bad) (fun _ _ => R0.bad) (fun b o => @Blk.rec (fun _ => R0) R0.bad (fun _ n c _ _ => @Bool.rec (fun _ => R0) (R0.bad) (.val (.agg (rdN c k o))) (Nat.ble (Nat.add o k) n)) (fun _ _ => R0.bad) (fun _ _ _ => R0.bad) (fun _ _ _ _ _ _ _ _ => R0.bad) (H.get b)) R0.bad (fun _ _ _ _ _ => R0.bad) R0.bad R0.bad (fun _ => R0.bad) R0.bad (fun _ _ _ _ _ => R0.bad) (fun _ => R0.bad) R0.bad (fun _ _ _ => R0.bad) R0.bad (fun _ _ => R0.bad) (fun _ _ => R0.bad) PUnit.unit (fun _ _ _ _ => PUnit.unit) a
theorem q79 : q8a = qas := by
 funext k H a
 cases a <;> first | rfl | skip
 rename_i b o
 show _ = aggR (qba (H.get b) o k)
 unfold q8a
 simp only
 generalize H.get b = B
 cases B <;> first | rfl | skip
 rename_i d n c ro z
 show @Bool.rec (fun _ => R0) _ _ (Nat.ble (Nat.add o k) n) = aggR (bif Nat.ble (o + k) n then _ else _)
 rw [show Nat.add o k = o + k from rfl]
 cases Nat.ble (o + k) n <;> rfl
def oneF (x : AV) : Bool :=
 @AV.rec (fun _ => Bool) (fun _ => PUnit) (false) (fun _ => false) (fun _ => true) (fun _ _ => true) (fun _ _ => true) (fun _ _ => true) true (fun _ _ _ _ _ => true) true true (fun _ => true) true (fun _ _ _ _ _ => true) (fun _ => true) true (fun _ _ _ => true) true (fun _ _ => false) (fun _ _ => false) PUnit.unit (fun _ _ _ _ => PUnit.unit) x
def st1F (H : Hp) (b o : Nat) (v : AV) : R1 :=
 @Blk.rec (fun _ => R1) R1.bad (fun d n c ro z => @Bool.rec (fun _ => R1) (@Bool.rec (fun _ => R1) (R1.bad) (.ok .undef (H.put b (.cells d n ((setter d o).f c v) false z))) (Nat.blt o n)) (R1.bad) (ro)) (fun _ _ => R1.bad) (fun _ _ _ => R1.bad) (fun _ _ _ _ _ _ _ _ => R1.bad) (H.get b)
theorem zhp (H : Hp) (b o : Nat) (v : AV) : st1F H b o v = storeAt H b o [v] .undef := by
 unfold st1F storeAt
 generalize H.get b = k
 cases k <;> first | rfl | skip
 rename_i d n c ro z
 cases ro with
 | true => rfl
 | false =>
  show @Bool.rec (fun _ => R1) _ _ (Nat.blt o n) = _
  have : q2e (.cells d n c false z) o [v] = bif Nat.blt o n then some (.cells d n ((setter d o).f c v) false z) else none := rfl
  rw [this]
  cases Nat.blt o n <;> rfl
def q6t (H : Hp) (a x : AV) : R1 :=
 @AV.rec (fun _ => R1) (fun _ => PUnit) R1.bad (fun _ => R1.bad) (fun _ => R1.bad) (fun _ _ => R1.bad) (fun _ _ => R1.bad) (fun b o => @Bool.rec (fun _ => R1) (R1.bad) (st1F H b o x) (oneF x)) R1.bad (fun _ _ _ _ _ => R1.bad) R1.bad R1.bad (fun _ => R1.bad) R1.bad (fun _ _ _ _ _ => R1.bad) (fun _ => R1.bad) R1.bad (fun _ _ _ => R1.bad) R1.bad (fun _ _ => R1.bad) (fun _ _ => R1.bad) PUnit.unit (fun _ _ _ _ => PUnit.unit) a
theorem q2m : q6t = qbb := by
 funext H a x
 cases a <;> first | rfl | skip
 rename_i b o
 show @Bool.rec (fun _ => R1) _ (st1F H b o x) (oneF x) = _
 rw [zhp]
 cases x <;> rfl
def q86 (off : Nat) (x : AV) : R0 :=
 @AV.rec (fun _ => R0) (fun _ => PUnit) R0.bad (fun _ => R0.bad) (fun _ => R0.bad) (fun _ _ => R0.bad) (fun _ _ => R0.bad) (fun b o => .val (.ptr b (Nat.add o off))) R0.bad (fun _ _ _ _ _ => R0.bad) R0.bad R0.bad (fun _ => R0.bad) R0.bad (fun _ _ _ _ _ => R0.bad) (fun _ => R0.bad) R0.bad (fun _ _ _ => R0.bad) R0.bad (fun _ _ => R0.bad) (fun _ _ => R0.bad) PUnit.unit (fun _ _ _ _ => PUnit.unit) x
theorem q3l : q86 = qac := by funext off x; cases x <;> rfl
def q85 (p : P1) (off : Nat) (x : AV) : R0 :=
 @AV.rec (fun _ => R0) (fun _ => PUnit) R0.bad (fun _ => R0.bad) (fun _ => R0.bad) (fun _ _ => R0.bad) (fun _ _ => R0.bad) (fun _ _ => R0.bad) R0.bad (fun _ _ _ _ _ => R0.bad) R0.bad R0.bad (fun _ => R0.bad) R0.bad (fun _ _ _ _ _ => R0.bad) (fun _ => R0.bad) R0.bad (fun _ _ _ => R0.bad) R0.bad (fun l _ => @Option.rec AV (fun _ => R0) R0.bad (fun v => .val v) (p.f l off)) (fun _ _ => R0.bad) PUnit.unit (fun _ _ _ _ => PUnit.unit) x
theorem q3k : q85 = q1u := by
 funext p off x
 cases x <;> first | rfl | skip
 rename_i l
 show @Option.rec AV (fun _ => R0) _ _ (p.f l off) = match p.f l off with | some v => .val v | none => .bad
 cases p.f l off <;> rfl
def zlu (z : Nat) (x i : AV) : R0 :=
 @AV.rec (fun _ => R0) (fun _ => PUnit) R0.bad (fun _ => R0.bad) (fun _ => R0.bad) (fun _ _ => R0.bad) (fun _ _ => R0.bad) (fun _ _ => R0.bad) R0.bad (fun b o len _ _ => @AV.rec (fun _ => R0) (fun _ => PUnit) R0.bad (fun _ => R0.bad) (fun _ => R0.bad) (fun _ i => @Int.rec (fun _ => R0) (fun i => @Bool.rec (fun _ => R0) (R0.bad) (.val (.ptr b (Nat.add o (Nat.mul i z)))) (Nat.blt i len)) (fun _ => R0.bad) i) (fun _ _ => R0.bad) (fun _ _ => R0.bad) R0.bad (fun _ _ _ _ _ => R0.bad) R0.bad R0.bad (fun _ => R0.bad) R0.bad (fun _ _ _ _ _ => R0.bad) (fun _ => R0.bad) R0.bad (fun _ _ _ => R0.bad) R0.bad (fun _ _ => R0.bad) (fun _ _ => R0.bad) PUnit.unit (fun _ _ _ _ => PUnit.unit) i) R0.bad R0.bad (fun _ => R0.bad) R0.bad (fun _ _ _ _ _ => R0.bad) (fun _ => R0.bad) R0.bad (fun _ _ _ => R0.bad) R0.bad (fun _ _ => R0.bad) (fun _ _ => R0.bad) PUnit.unit (fun _ _ _ _ => PUnit.unit) x
theorem zdw : zlu = idxS := by
 funext z x i
 cases x <;> first | rfl | skip
 rename_i b o len cap ex
 cases i <;> first | rfl | skip
 rename_i k n
 cases n <;> first | rfl | skip
 rename_i i
 show @Bool.rec (fun _ => R0) _ _ (Nat.blt i len) = bif Nat.blt i len then _ else _
 cases Nat.blt i len <;> rfl
def q8n (x i : AV) : R0 :=
 @AV.rec (fun _ => R0) (fun _ => PUnit) R0.bad (fun _ => R0.bad) (fun _ => R0.bad) (fun _ _ => R0.bad) (fun n a => @AV.rec (fun _ => R0) (fun _ => PUnit) R0.bad (fun _ => R0.bad) (fun _ => R0.bad) (fun _ i => @Int.rec (fun _ => R0) (fun i => @Bool.rec (fun _ => R0) (R0.bad) (.val (.int .u8 (.ofNat (qm9 a i)))) (Nat.blt i n)) (fun _ => R0.bad) i) (fun _ _ => R0.bad) (fun _ _ => R0.bad) R0.bad (fun _ _ _ _ _ => R0.bad) R0.bad R0.bad (fun _ => R0.bad) R0.bad (fun _ _ _ _ _ => R0.bad) (fun _ => R0.bad) R0.bad (fun _ _ _ => R0.bad) R0.bad (fun _ _ => R0.bad) (fun _ _ => R0.bad) PUnit.unit (fun _ _ _ _ => PUnit.unit) i) (fun _ _ => R0.bad) R0.bad (fun _ _ _ _ _ => R0.bad) R0.bad R0.bad (fun _ => R0.bad) R0.bad (fun _ _ _ _ _ => R0.bad) (fun _ => R0.bad) R0.bad (fun _ _ _ => R0.bad) R0.bad (fun _ _ => R0.bad) (fun _ _ => R0.bad) PUnit.unit (fun _ _ _ _ => PUnit.unit) x
theorem q3i : q8n = q0o := by
 funext x i
 cases x <;> first | rfl | skip
 rename_i n a
 cases i <;> first | rfl | skip
 rename_i k m
 cases m <;> first | rfl | skip
 rename_i i
 show @Bool.rec (fun _ => R0) _ _ (Nat.blt i n) = bif Nat.blt i n then _ else _
 cases Nat.blt i n <;> rfl
def zll (x : AV) : R0 :=
 @AV.rec (fun _ => R0) (fun _ => PUnit) R0.bad (fun _ => R0.bad) (fun _ => R0.bad) (fun _ _ => R0.bad) (fun n _ => .val (i64 n)) (fun _ _ => R0.bad) R0.bad (fun _ _ _ _ _ => R0.bad) R0.bad R0.bad (fun _ => R0.bad) R0.bad (fun _ _ _ _ _ => R0.bad) (fun _ => R0.bad) R0.bad (fun _ _ _ => R0.bad) R0.bad (fun _ _ => R0.bad) (fun _ _ => R0.bad) PUnit.unit (fun _ _ _ _ => PUnit.unit) x
theorem zdr : zll = lenS := by funext x; cases x <;> rfl
def zfb (x : AV) : R0 :=
 @AV.rec (fun _ => R0) (fun _ => PUnit) R0.bad (fun _ => R0.bad) (fun _ => R0.bad) (fun _ _ => R0.bad) (fun _ _ => R0.bad) (fun _ _ => R0.bad) R0.bad (fun _ _ n _ _ => .val (i64 n)) (.val (i64 0)) (.val (i64 0)) (fun _ => R0.bad) R0.bad (fun _ _ _ _ _ => R0.bad) (fun _ => R0.bad) R0.bad (fun _ _ _ => R0.bad) R0.bad (fun _ _ => R0.bad) (fun _ _ => R0.bad) PUnit.unit (fun _ _ _ _ => PUnit.unit) x
theorem q8g : zfb = lenSl := by funext x; cases x <;> rfl
def nilF (x : AV) : R0 :=
 @AV.rec (fun _ => R0) (fun _ => PUnit) R0.bad (fun _ => R0.bad) (fun _ => R0.bad) (fun _ _ => R0.bad) (fun _ _ => R0.bad) (fun b o => .val (.ptr b o)) R0.bad (fun _ _ _ _ _ => R0.bad) R0.bad R0.bad (fun _ => R0.bad) R0.bad (fun a b c _ _ => .val (.fn a b c)) (fun l => .val (.yield l)) R0.bad (fun _ _ _ => R0.bad) R0.bad (fun _ _ => R0.bad) (fun _ _ => R0.bad) PUnit.unit (fun _ _ _ _ => PUnit.unit) x
theorem zin (x : AV) : nilF x = (match x with | .ptr b o => .val (.ptr b o) | .fn a b c => .val (.fn a b c) | .yield l => .val (.yield l) | _ => .bad) := by cases x <;> rfl
def extF (i : Nat) (x : AV) : R0 :=
 @AV.rec (fun _ => R0) (fun _ => PUnit) R0.bad (fun _ => R0.bad) (fun _ => R0.bad) (fun _ _ => R0.bad) (fun _ _ => R0.bad) (fun _ _ => R0.bad) R0.bad (fun _ _ _ _ _ => R0.bad) R0.bad R0.bad (fun _ => R0.bad) R0.bad (fun _ _ _ _ _ => R0.bad) (fun _ => R0.bad) R0.bad (fun _ _ _ => R0.bad) R0.bad (fun _ _ => R0.bad) (fun l _ => @Option.rec AV (fun _ => R0) R0.bad (fun v => .val v) l[i]?) PUnit.unit (fun _ _ _ _ => PUnit.unit) x
theorem zi4 (i : Nat) (x : AV) : extF i x = (match x with | .tup l => (match l[i]? with | some v => .val v | none => .bad) | _ => .bad) := by
 cases x <;> first | rfl | skip
 rename_i l
 show @Option.rec AV (fun _ => R0) _ _ l[i]? = match l[i]? with | some v => .val v | none => .bad
 cases l[i]? <;> rfl
def zml (nm : Nat) (x : AV) : R0 :=
 @Bool.rec (fun _ => R0) (R0.bad) (.new (.ptr nm 0) (.cells 1 1 (Q.mk x .undef .undef .undef .undef .undef .undef .undef : Q AV) false 0)) (oneF x)
theorem zeo : zml = box1 := by funext nm x; cases x <;> rfl
def opF (P : Program) (d n : Nat) (o : Oper) : OpS d :=
 match o.op with
 | .pick c a b => match opnd d n c, opnd d n a, opnd d n b with | ⟨gc⟩, ⟨ga⟩, ⟨gb⟩ => .q false fun _ L _ => ze9 (gc L) (ga L) (gb L)
 | .box t x => match qby P t, qa7 P t, opnd d n x with
  | some true, some k, ⟨g⟩ => .q false fun nm L _ => boxA k nm (g L)
  | some false, some _, ⟨g⟩ => .q false fun nm L _ => zml nm (g L)
  | _, _, _ => qaz d
 | .load t a => match qby P t, qa7 P t, opnd d n a with
  | some true, some k, ⟨g⟩ => .q true fun _ L H => q8a k H (g L)
  | some false, some _, ⟨g⟩ => .q true fun _ L H => q8d H (g L)
  | _, _, _ => qaz d
 | .store t a x => match qby P t, qa7 P t, opnd d n a, opnd d n x with
  | some true, some k, ⟨g⟩, ⟨h⟩ => .e fun _ L H => qay k H (g L) (h L)
  | some false, some 1, ⟨g⟩, ⟨h⟩ => .e fun _ L H => q6t H (g L) (h L)
  | _, _, _, _ => qaz d
 | .nilCheck x => match opnd d n x with | ⟨g⟩ => .q false fun _ L _ => nilF (g L)
 | .binOp op t x y _ => match binF P op t, opnd d n x, opnd d n y with
  | ⟨e⟩, ⟨g⟩, ⟨h⟩ => .q false fun _ L _ => e (g L) (h L)
 | .fieldAddr s x f => match P.underlying s, opnd d n x with
  | some (.struct fs), ⟨g⟩ => match fs[f]? with
   | some fl => match qa7 P fl.type with
    | some (_ + 1) => .q false fun _ L _ => q86 fl.offset (g L)
    | _ => qaz d
   | none => qaz d
  | _, _ => qaz d
 | .field t x f => match P.underlying t, opnd d n x with
  | some (.struct fs), ⟨g⟩ => match fs[f]? with
   | some fl => match qig P fl.type with | p => .q false fun _ L _ => q85 p fl.offset (g L)
   | none => qaz d
  | _, _ => qaz d
 | .indexAddr t x i => match P.underlying t, opnd d n x, opnd d n i with
  | some (.slice e), ⟨g⟩, ⟨h⟩ => match qa7 P e with
   | some z => .q false fun _ L _ => zlu z (g L) (h L)
   | none => qaz d
  | _, _, _ => opS P d n o
 | .index t x i => match P.underlying t, opnd d n x, opnd d n i with
  | some .string, ⟨g⟩, ⟨h⟩ => .q false fun _ L _ => q8n (g L) (h L)
  | _, _, _ => opS P d n o
 | .extract x i => match opnd d n x with | ⟨g⟩ => .q false fun _ L _ => extF i (g L)
 | .call { callee := .builtin .len, args, argTypes } => match args.toList, argTypes.toList with
  | [x], [t] => match P.underlying t with
   | some .string => match opnd d n x with | ⟨g⟩ => .q false fun _ L _ => zll (g L)
   | some (.slice _) => match opnd d n x with | ⟨g⟩ => .q false fun _ L _ => zfb (g L)
   | _ => opS P d n o
  | _, _ => opS P d n o
 | _ => opS P d n o
theorem zk4 (P : Program) (d n : Nat) (o : Oper) : opF P d n o = opS P d n o := by
 unfold opF
 split
 ·rename_i h; simp only [opS, h, zht, q7w]
 ·rename_i h; simp only [opS, h, sBox, zeo]; rfl
 ·rename_i h; simp only [opS, h, q69, q8c, q79]; rfl
 ·rename_i h; simp only [opS, h, qsl, q2m]; rfl
 ·rename_i h; simp only [opS, h, ql0, zin]; rfl
 ·rename_i h; simp only [opS, h, q7b, zjx]
 ·rename_i h; simp only [opS, h, qen, q3l]; rfl
 ·rename_i h; simp only [opS, h, qso, q3k]; rfl
 ·rename_i h
  simp only [opS, h, zdw]
  unfold qem
  split <;> simp_all <;> rfl
 ·rename_i h
  simp only [opS, h, q3i]
  unfold qsn
  split <;> simp_all
 ·rename_i h; simp only [opS, h, qq1, zi4]; rfl
 ·rename_i args types h
  split
  ·rename_i x t h1 h2
   split
   ·rename_i h3; simp only [opS, h, qd5, h1, h2, lenB, h3, zdr]
   ·rename_i h3; simp only [opS, h, qd5, h1, h2, lenB, h3, q8g]
   ·rfl
  ·rfl
 ·rfl
def doQF {d : Nat} (put : TT AV d → AV → TT AV d) (L : TT AV d) (H : Hp) (r : R0) : Rs d :=
 @R0.rec (fun _ => Rs d) .bad (fun v => .ok (put L v) H) (fun v b => .ok (put L v) (qal H b)) r
theorem zjh {d : Nat} : @doQF d = doQ := by
 funext put L H r
 cases r <;> rfl
def doEF {d : Nat} (put : TT AV d → AV → TT AV d) (L : TT AV d) (r : R1) : Rs d :=
 @R1.rec (fun _ => Rs d) .bad (fun v H => .ok (put L v) H) r
theorem zji {d : Nat} : @doEF d = doE := by funext put L r; cases r <;> rfl
def zfk {d : Nat} (r : Rs d) (k : TT AV d → Hp → Rs d) : Rs d :=
 @Rs.rec d (fun _ => Rs d) .bad k r
theorem q91 {d : Nat} : @zfk d = q4b := by funext r k; cases r <;> rfl
def q8w {d : Nat} (want : Bool) (x : AV) (a b : Rs d) : Rs d :=
 @AV.rec (fun _ => Rs d) (fun _ => PUnit) (b) (fun _ => .bad) (fun v => @Bool.rec (fun _ => Rs d) (@Bool.rec (fun _ => Rs d) (a) (b) (want)) (@Bool.rec (fun _ => Rs d) (b) (a) (want)) (v)) (fun _ _ => .bad) (fun _ _ => .bad) (fun _ _ => .bad) .bad (fun _ _ _ _ _ => .bad) .bad .bad (fun _ => .bad) .bad (fun _ _ _ _ _ => .bad) (fun _ => .bad) .bad (fun _ _ _ => .bad) .bad (fun _ _ => .bad) (fun _ _ => .bad) PUnit.unit (fun _ _ _ _ => PUnit.unit) x
theorem qty {d : Nat} (want : Bool) (x : AV) (a b : Rs d) : q8w want x a b = ifW (match x with | .bool b => some (b == want) | .undef => some false | _ => none) a b := by
 cases x <;> first | rfl | skip
 rename_i v
 cases v <;> cases want <;> rfl
def zho (P : Program) (d n : Nat) (ops : Array Oper) (o : Oper) : St d :=
 match opF P d n o, o.guard, putS d n o.dst with
 | .q _ f, none, ⟨put⟩ => ⟨fun _ L H => doQF put L H (f H.nx L H)⟩
 | .e f, none, ⟨put⟩ => ⟨fun call L H => doEF put L (f call L H)⟩
 | .q _ f, some (j, want), ⟨put⟩ => match (ops[j]?).bind (·.dst) with
  | some t => bif Nat.blt t n then (match qar (α := AV) d t with | ⟨g⟩ => ⟨fun _ L H => q8w want (g L) (doQF put L H (f H.nx L H)) (.ok (put L .undef) H)⟩) else qg3 P d n ops o
  | none => qg3 P d n ops o
 | .e f, some (j, want), ⟨put⟩ => match (ops[j]?).bind (·.dst) with
  | some t => bif Nat.blt t n then (match qar (α := AV) d t with | ⟨g⟩ => ⟨fun call L H => q8w want (g L) (doEF put L (f call L H)) (.ok (put L .undef) H)⟩) else qg3 P d n ops o
  | none => qg3 P d n ops o
theorem zcn (P : Program) (d n : Nat) (ops : Array Oper) (o : Oper) : zho P d n ops o = qg3 P d n ops o := by
 unfold zho
 rw [zk4, zjh, zji]
 split
 ·rename_i f put h1 h2 h3; unfold qg3; rw [h1, h2, h3]
 ·rename_i f put h1 h2 h3; unfold qg3; rw [h1, h2, h3]
 ·rename_i f j want put h1 h2 h3
  split
  ·rename_i t ht
   cases hb : Nat.blt t n with
   | false => rfl
   | true =>
    simp only [cond_true]
    unfold qg3 qec
    rw [h1, h2, h3]
    simp only [ht, hb, cond_true, qty]
    rfl
  ·rfl
 ·rename_i f j want put h1 h2 h3
  split
  ·rename_i t ht
   cases hb : Nat.blt t n with
   | false => rfl
   | true =>
    simp only [cond_true]
    unfold qg3 qec
    rw [h1, h2, h3]
    simp only [ht, hb, cond_true, qty]
    rfl
  ·rfl
def qzn (P : Program) (d n : Nat) (ops : Array Oper) (o : Oper) : St d :=
 match dfOf o with
 | none => zho P d n ops o
 | some _ => qh8 P d n ops o
theorem qsd (P : Program) (d n : Nat) (ops : Array Oper) (o : Oper) : qzn P d n ops o = qh8 P d n ops o := by
 unfold qzn
 split
 ·rename_i h; rw [zcn]; unfold qh8; rw [h]
 ·rfl
def opsF (P : Program) (d n : Nat) (ops : Array Oper) : List Oper → St d
 | [] => ⟨fun _ L H => .ok L H⟩
 | [o] => qzn P d n ops o
 | o :: r => ⟨fun call L H => zfk ((qzn P d n ops o).f call L H) ((opsF P d n ops r).f call)⟩
theorem qyi (P : Program) (d n : Nat) (ops : Array Oper) : ∀ l, opsF P d n ops l = opsS P d n ops l
 | [] => rfl
 | [o] => by
  simp only [opsF, opsS, qsd]
  generalize qh8 P d n ops o = s
  cases s with
  | mk f =>
   congr 1
   funext call L H
   show f call L H = q4b (f call L H) fun L H => .ok L H
   cases f call L H <;> rfl
 | o :: o' :: r => by
  simp only [opsF, q91, qsd]
  rw [qyi P d n ops (o' :: r)]
  rfl
def zij {d : Nat} (r : Rs d) : Rc d :=
 @Rs.rec d (fun _ => Rc d) .bad (fun L H => .ok .normal L H) r
theorem q0f {d : Nat} : @zij d = ofRs := by funext r; cases r <;> rfl
def zhs {d : Nat} (r : Rs d) (k : TT AV d → Hp → Rc d) : Rc d :=
 @Rs.rec d (fun _ => Rc d) .bad k r
theorem qzs {d : Nat} (r : Rs d) (k : TT AV d → Hp → Rc d) : zhs r k = seqC (ofRs r) k := by cases r <;> rfl
def zcv {d : Nat} (r : Rc d) (k : TT AV d → Hp → Rc d) : Rc d :=
 @Rc.rec d (fun _ => Rc d) .bad (fun e L H => @Ex.rec (fun _ => Rc d) (k L H) (fun id => .ok (.exit id) L H) (fun l => .ok (.goto l) L H) (.ok .ret L H) e) r
theorem qb8 {d : Nat} : @zcv d = seqC := by funext r k; cases r <;> first | rfl | (rename_i e L H; cases e <;> rfl)
def q90 {d : Nat} (id : Nat) (r : Rc d) : Rc d :=
 @Rc.rec d (fun _ => Rc d) .bad (fun e L H => @Ex.rec (fun _ => Rc d) (.ok .normal L H) (fun id' => @Bool.rec (fun _ => Rc d) (.ok (.exit id') L H) (.ok .normal L H) (Nat.beq id' id)) (fun l => .ok (.goto l) L H) (.ok .ret L H) e) r
theorem q4a {d : Nat} : @q90 d = qpr := by
 funext id r
 cases r <;> first | rfl | skip
 rename_i e L H
 cases e <;> first | rfl | skip
 rename_i id'
 show @Bool.rec (fun _ => Rc d) _ _ (Nat.beq id' id) = bif Nat.beq id' id then _ else _
 cases Nat.beq id' id <;> rfl
def zfj {d : Nat} (c : AV) (a b : Rc d) : Rc d :=
 @AV.rec (fun _ => Rc d) (fun _ => PUnit) .bad (fun _ => .bad) (fun x => @Bool.rec (fun _ => Rc d) (b) (a) (x)) (fun _ _ => .bad) (fun _ _ => .bad) (fun _ _ => .bad) .bad (fun _ _ _ _ _ => .bad) .bad .bad (fun _ => .bad) .bad (fun _ _ _ _ _ => .bad) (fun _ => .bad) .bad (fun _ _ _ => .bad) .bad (fun _ _ => .bad) (fun _ _ => .bad) PUnit.unit (fun _ _ _ _ => PUnit.unit) c
theorem q9q {d : Nat} : @zfj d = condC := by funext c a b; cases c <;> first | rfl | (rename_i x; cases x <;> rfl)
def q77 {d : Nat} (b : TT AV d → Hp → Rc d) (n : Nat) : TT AV d → Hp → Rc d :=
 Nat.rec (motive := fun _ => TT AV d → Hp → Rc d) (fun _ _ => .bad) (fun _ ih L H => zcv (b L H) ih) n
theorem q76 {d : Nat} : @q77 d = qni := by
 funext b n
 induction n with
 | zero => rfl
 | succ n ih =>
  funext L H
  show zcv (b L H) (q77 b n) = seqC (b L H) (qni b n)
  rw [qb8, ih]
def denF (P : Program) (d n : Nat) : Code → Dn d
 | .skip | .label _ => ⟨fun _ L H => .ok .normal L H⟩
 | .region _ ops false => match opsF P d n ops ops.toList with | ⟨g⟩ => ⟨fun call L H => zij (g call L H)⟩
 | .region _ ops true => match qkg P d n ops with | ⟨g⟩ => ⟨fun call L H => zij (g call L H)⟩
 | .seq (.region _ ops false) b => match opsF P d n ops ops.toList with | ⟨g⟩ => ⟨fun call L H => zhs (g call L H) ((denF P d n b).f call)⟩
 | .seq (.region _ ops true) b => match qkg P d n ops with | ⟨g⟩ => ⟨fun call L H => zhs (g call L H) ((denF P d n b).f call)⟩
 | .seq a b => ⟨fun call L H => zcv ((denF P d n a).f call L H) ((denF P d n b).f call)⟩
 | .cond x a b => match opnd d n x with | ⟨g⟩ => ⟨fun call L H => zfj (g L) ((denF P d n a).f call L H) ((denF P d n b).f call L H)⟩
 | .block id b => ⟨fun call L H => q90 id ((denF P d n b).f call L H)⟩
 | .loop b => ⟨fun call L H => q77 ((denF P d n b).f call) qak L H⟩
 | .scope b => denF P d n b
 | .exit id => ⟨fun _ L H => .ok (.exit id) L H⟩
 | .goto _ => ⟨fun _ _ _ => .bad⟩
 | .ret => ⟨fun _ L H => .ok .ret L H⟩
 | .rangeFunc f ps assign body => den P d n (.rangeFunc f ps assign body)
 | .refuse _ => ⟨fun _ _ _ => .bad⟩
theorem qa6 (P : Program) (d n : Nat) : ∀ c, denF P d n c = den P d n c
 | .skip | .label _ => rfl
 | .region _ ops false => by simp only [denF, qyi, q0f, den]
 | .region _ ops true => by simp only [denF, q0f, den]
 | .seq (.region _ ops false) b => by simp only [denF, qyi, qzs, den, qa6 P d n b]
 | .seq (.region _ ops true) b => by simp only [denF, qzs, den, qa6 P d n b]
 | .seq .skip b => by simp only [denF, qb8, den, qa6 P d n b]
 | .seq (.label _) b => by simp only [denF, qb8, den, qa6 P d n b]
 | .seq (.seq x y) b => by rw [denF, den, qb8, qa6 P d n (.seq x y), qa6 P d n b] <;> simp
 | .seq (.cond x y z) b => by rw [denF, den, qb8, qa6 P d n (.cond x y z), qa6 P d n b] <;> simp
 | .seq (.block x y) b => by rw [denF, den, qb8, qa6 P d n (.block x y), qa6 P d n b] <;> simp
 | .seq (.loop x) b => by rw [denF, den, qb8, qa6 P d n (.loop x), qa6 P d n b] <;> simp
 | .seq (.scope x) b => by rw [denF, den, qb8, qa6 P d n (.scope x), qa6 P d n b] <;> simp
 | .seq (.exit x) b => by rw [denF, den, qb8, qa6 P d n (.exit x), qa6 P d n b] <;> simp
 | .seq (.goto x) b => by rw [denF, den, qb8, qa6 P d n (.goto x), qa6 P d n b] <;> simp
 | .seq .ret b => by rw [denF, den, qb8, qa6 P d n .ret, qa6 P d n b] <;> simp
 | .seq (.rangeFunc x y z t) b => by rw [denF, den, qb8, qa6 P d n (.rangeFunc x y z t), qa6 P d n b] <;> simp
 | .seq (.refuse x) b => by rw [denF, den, qb8, qa6 P d n (.refuse x), qa6 P d n b] <;> simp
 | .cond x a b => by simp only [denF, q9q, den, qa6 P d n a, qa6 P d n b]
 | .block id b => by simp only [denF, q4a, den, qa6 P d n b]
 | .loop b => by simp only [denF, q76, den, qa6 P d n b]
 | .scope b => by simp only [denF, den, qa6 P d n b]
 | .exit id | .goto _ | .ret | .refuse _ => rfl
 | .rangeFunc f ps assign body => by simp only [denF]
def q26 {d : Nat} (n : Nat) (call : Call) (res : TT AV d → Hp → Option AV) (L : TT AV d) (H : Hp) : R1 :=
 @Option.rec Hp (fun _ => R1) .bad (fun H' => @Option.rec AV (fun _ => R1) .bad (fun v => .ok v H') (res L H')) (runD call (dl ((qar d n).f L)) H)
theorem q0c {d : Nat} : @q26 d = outC := by
 funext n call res L H
 unfold q26 outC
 cases runD call (dl ((qar d n).f L)) H with
 | none => rfl
 | some H' =>
  show @Option.rec AV (fun _ => R1) _ _ (res L H') = finR (res L H') H'
  cases res L H' <;> rfl
def zkl {d : Nat} (n : Nat) (call : Call) (res : TT AV d → Hp → Option AV) (r : Rc d) : R1 :=
 @Rc.rec d (fun _ => R1) .bad (fun e L H => @Ex.rec (fun _ => R1) (q26 n call res L H) (fun _ => .bad) (fun _ => .bad) (q26 n call res L H) e) r
theorem zcy {d : Nat} : @zkl d = retC := by
 funext n call res r
 cases r <;> first | rfl | skip
 rename_i e L H
 cases e <;> first | rfl | skip
 ·show q26 n call res L H = outC n call res L H
  rw [q0c]
 ·show q26 n call res L H = outC n call res L H
  rw [q0c]
def funF (P : Program) (f : FuncId) : Fd :=
 match P.funcs[f]? with
 | none => ⟨fun _ _ _ => .bad⟩
 | some fn => if fn.name == "runtime.NumGoroutine" then ⟨fun _ _ _ => .bad⟩ else match fn.body with
  | none => ⟨fun _ _ _ => .bad⟩
  | some c => match qce P (qaw (fn.ntmps + 1)) fn.ntmps fn.results.toList, denF P (qaw (fn.ntmps + 1)) fn.ntmps c, Nat.ble (fn.ntmps + 1) 262144 with
   | ⟨res⟩, ⟨dn⟩, true => ⟨fun call args H => bif Nat.ble args.length fn.ntmps then zkl fn.ntmps call res (dn call (wrL args 0 (same .undef _)) H) else .bad⟩
   | _, _, false => ⟨fun _ _ _ => .bad⟩
theorem qyo (P : Program) (f : FuncId) : funF P f = funS P f := by
 unfold funF funS
 split
 ·rename_i h; rw [h]
 ·rename_i fn h
  rw [h]
  simp only
  split
  ·rfl
  ·split
   ·rename_i hb; rw [hb]
   ·rename_i c hb
    rw [hb]
    simp only [qa6, zcy]
    cases hn : Nat.ble (fn.ntmps + 1) 262144 with
    | true => simp
    | false => simp
def qzc (P : Program) (call : Call) (l : Nat) (args : List AV) (H : Hp) : R1 :=
 match H.get l with
 | .loop true none d n L ps assign body =>
  bif Nat.beq ps.length args.length && ps.all (fun p => Nat.blt p n) then
   match (denF P d n assign).f call (qf9 ((setter d n).f L .undef) ps args) H with
   | .ok .normal L1 H1 => match H1.get l with
    | .loop true none d' n' L' ps' assign' body' => endRound l ((denF P d n body).f call L1 (H1.put l (.loop false none d' n' L' ps' assign' body')))
    | _ => .bad
   | _ => .bad
  else .bad
 | _ => .bad
theorem q6g (P : Program) (call : Call) : qzc P call = qzb P call := by
 funext l args H
 unfold qzc qzb
 simp only [qa6]
 rfl
abbrev Ext := FuncId → List AV → Hp → Option R1
def callF (P : Program) (ext : Ext) (n : Nat) : Call :=
 Nat.rec (motive := fun _ => Call) (fun _ _ _ => .bad) (fun _ ih c args H => @Cl.rec (fun _ => R1) (fun f => @Option.rec R1 (fun _ => R1) ((funF P f).f ih args H) (fun r => r) (ext f args H)) (fun l => qzc P ih l args H) (fun f => @Bool.rec (fun _ => R1) .bad ((funF P f).f ih args H) (qma P f)) c) n
def zil : Ext := fun _ _ _ => none
end Go.Ev
end
noncomputable section
namespace Go.Ev
open Go.RowKit
variable {P : Program} {w : World} {ι : Im} {H : Hp}
structure qnl (P : Program) (ext : Ext) : Prop where
 fn : ∀ f args H r, ext f args H = some r → ∀ v H', r = .ok v H' → ∀ ι w ARGS, HR ι H w → RepL ι args ARGS →
  (callFunc f ARGS.toArray).run P w = .ok (.enter f ARGS.toArray) w ∧ ∀ m, CallsIn Fence.wide m P f ARGS.toArray w (Post ι H w v H')
theorem q0j : qnl P zil := ⟨fun _ _ _ _ h => by cases h⟩
theorem qku (hm : P.follows .mixedOrders = true) {ext : Ext} (hE : qnl P ext) : ∀ k, qd7 P (callF P ext k)
 | 0 => ⟨(fun f args H v H' h => by cases h), (fun b args H v H' h => by cases h), (fun b args H v H' h => by cases h)⟩
 | k + 1 => by
  have ih := qku hm hE k
  refine ⟨fun f args H v H' h ι w ARGS hH ha => ?_, fun b args H v H' h ι w ARGS loc hH ha hl => ?_, fun f args H v H' h ι w ARGS hH ha => ?_⟩
  ·have h' : @Option.rec R1 (fun _ => R1) ((funF P f).f (callF P ext k) args H) (fun r => r) (ext f args H) = .ok v H' := h
   cases he : ext f args H with
   | none =>
    rw [he] at h'
    rw [qyo] at h'
    exact zi2 ih hm h' hH ha
   | some r =>
    rw [he] at h'
    exact hE.fn f args H r he v H' h' ι w ARGS hH ha
  ·have h' : qzc P (callF P ext k) b args H = .ok v H' := h
   rw [q6g] at h'
   exact q6f ih hm h' hH ha hl
  ·have h' : @Bool.rec (fun _ => R1) .bad ((funF P f).f (callF P ext k) args H) (qma P f) = .ok v H' := h
   cases hp : qma P f with
   | false => rw [hp] at h'; cases h'
   | true =>
    rw [hp] at h'
    rw [qyo] at h'
    exact zi3 ih hm h' hp hH ha
theorem HR.of_below (h : HR ι H w) {w' : World} (hb : Below w.heap.size w w') : HR ι H w' ∧ Fr ι ι H H w w' := by
 have keep : ∀ c, c < w.heap.size → w'.heap[c]? = w.heap[c]? := hb.block
 refine ⟨⟨h.top, fun b hb' => (h.blk b hb').keep fun l hd hl => keep _ (h.low b l hb' hd hl), fun b l hb' h1 h2 => Nat.lt_of_lt_of_le (h.low b l hb' h1 h2) hb.size, h.inj, h.fresh, h.free⟩,
  ⟨Im.le_refl _, Nat.le_refl _, fun b h1 h2 => absurd h1 h2, hb.os, hb.tape, hb.output, hb.size, fun c hc _ => keep c hc, fun b l hb h1 h2 => .inr ⟨b, l, hb, h1, h2, rfl⟩, fun b l hb h1 h2 => .inr ⟨b, l, hb, h1, h2, rfl⟩⟩⟩
def Yes (P : Program) (f : FuncId) : Prop := ∀ w, Calls P f #[] w fun e w' => e = .returned (.bool true) ∧ Below w.heap.size w w'
def qjo (P : Program) (f : FuncId) : Bool :=
 match P.funcs[f]? with
 | some fn => fn.body.isSome && !(fn.name == "runtime.NumGoroutine")
 | none => false
def qzd (tbl : List FuncId) : Ext := fun f args H =>
 match args with
 | [] => bif tbl.any (Nat.beq f) then some (.ok (.bool true) H) else none
 | _ => none
theorem q6h {tbl : List FuncId} (h : ∀ f ∈ tbl, Yes P f) (hb : tbl.all (qjo P) = true) : qnl P (qzd tbl) := by
 refine ⟨fun f args H r he v H' hr ι w ARGS hH ha => ?_⟩
 unfold qzd at he
 split at he
 ·cases hc : tbl.any (Nat.beq f) with
  | false => rw [hc] at he; cases he
  | true =>
   rw [hc] at he
   simp only [cond_true, Option.some.injEq] at he
   subst he
   cases hr
   simp only [RepL] at ha
   subst ha
   obtain ⟨g, hg, e⟩ := List.any_eq_true.1 hc
   have e := Nat.eq_of_beq_eq_true e
   subst e
   have hbf := List.all_eq_true.1 hb f hg
   unfold qjo at hbf
   split at hbf
   ·rename_i fn hfn
    simp only [Bool.and_eq_true, Bool.not_eq_true'] at hbf
    refine ⟨?_, fun m => callsIn_wide.2 ((h f hg w).mono fun e w' hp => ?_)⟩
    ·obtain ⟨c, hc'⟩ := Option.isSome_iff_exists.1 hbf.1
     have hname' : ¬ fn.name = "runtime.NumGoroutine" := fun e => by rw [e] at hbf; simp at hbf
     simp [callFunc, hfn, hname', hc']
    ·obtain ⟨rfl, hw⟩ := hp
     obtain ⟨k1, k2⟩ := hH.of_below hw
     exact ⟨ι, by simp only [Rep], k1, k2⟩
   ·cases hbf
 ·cases he
theorem q2b (hm : P.follows .mixedOrders = true) {ext : Ext} (hE : qnl P ext) {k : Nat} {f : FuncId} (h : qo5 (callF P ext k (.f f) [] Hp.empty) = true) : Yes P f := by
 intro w
 unfold qo5 at h
 split at h
 ·rename_i b H' he
  subst h
  have := ((qku hm hE k).fn _ _ _ _ _ he (fun _ => none) w [] HR.empty (by simp [RepL])).2 0
  refine (callsIn_wide.1 this).mono fun e w' hp => ?_
  cases e with
  | returned V =>
   obtain ⟨ι', h1, h2, h3⟩ := hp
   simp only [Rep] at h1
   exact ⟨by rw [h1], h3.below _ (Nat.le_refl _) fun b l _ _ h => by cases h⟩
  | panicked => exact hp.elim
  | outgrown => exact hp.elim
 ·cases h
end Go.Ev
end
noncomputable section
namespace Go.Di
open Go.Ev
variable {d : Nat}
def G (L : TT AV d) (i : Nat) : AV := (qar d i).f L
abbrev Kt (d : Nat) := Ex → TT AV d → Hp → R1
def fin (r : Rc d) (K : Kt d) : R1 := match r with | .bad => .bad | .ok e L H => K e L H
def finS (r : Rs d) (k : TT AV d → Hp → R1) : R1 := match r with | .bad => .bad | .ok L H => k L H
def finX (r : Rx d) (k : TT AV d → Hp → List Pd → List Wt → R1) : R1 := match r with | .bad => .bad | .ok L H p w => k L H p w
def nrm (r : R0) (H : Hp) : Option (AV × Hp) := match r with | .bad => none | .val v => some (v, H) | .new v b => some (v, qal H b)
def vq (r : R0) (H : Hp) (k : AV → Hp → R1) : R1 := match nrm r H with | none => .bad | some p => k p.1 p.2
def ve (r : R1) (k : AV → Hp → R1) : R1 := match r with | .bad => .bad | .ok v H => k v H
def vg0 (w : Option Bool) (r : R0) (H : Hp) (k : AV → Hp → R1) : R1 := match w with | some true => vq r H k | some false => k .undef H | none => .bad
def veg0 (w : Option Bool) (r : R1) (H : Hp) (k : AV → Hp → R1) : R1 := match w with | some true => ve r k | some false => k .undef H | none => .bad
def qae (want : Bool) (v : AV) : Option Bool := match v with | .bool b => some (b == want) | .undef => some false | _ => none
def cd (x : AV) (a b : R1) : R1 := match x with | .bool true => a | .bool false => b | _ => .bad
/- steps of a region that draws its order -/
def dq0 (lk al : Bool) (i A nm : Nat) (H : Hp) (p : List Pd) (w : List Wt) (f : Hp → R0) (g : Option Bool) (k : AV → Hp → List Pd → List Wt → R1) : R1 :=
 match g with
 | none => .bad
 | some false => k .undef H p w
 | some true => match f (qax A p H) with
  | .bad => .bad
  | .val v => k v H p (bif lk then ⟨i, A, f, v⟩ :: w else w)
  | .new v b => bif al && b.wr then k v H (⟨i, nm, b⟩ :: p) w else .bad
def de0 (A : Nat) (H : Hp) (p : List Pd) (w : List Wt) (r : R1) (g : Option Bool) (k : AV → Hp → List Pd → List Wt → R1) : R1 :=
 match g with
 | none => .bad
 | some false => k .undef H p w
 | some true => match r with
  | .bad => .bad
  | .ok v H' => bif qh3 (qdi A p) H' (qdh A w) then k v H' (qdi A p) (qdh A w) else .bad
def vl (r : R0) (k : AV → R1) : R1 := match r with | .bad => .bad | .val v => k v | .new _ _ => .bad
def vlg0 (w : Option Bool) (r : R0) (k : AV → R1) : R1 := match w with | some true => vl r k | some false => k .undef | none => .bad
/- constants that cannot be taken apart: so two sides are compared argument by argument -/
def vg : Option Bool → R0 → Hp → (AV → Hp → R1) → R1 := Classical.choose (⟨vg0, rfl⟩ : ∃ f, f = vg0)
theorem zhj : vg = vg0 := Classical.choose_spec (⟨vg0, rfl⟩ : ∃ f, f = vg0)
def veg : Option Bool → R1 → Hp → (AV → Hp → R1) → R1 := Classical.choose (⟨veg0, rfl⟩ : ∃ f, f = veg0)
theorem q6n : veg = veg0 := Classical.choose_spec (⟨veg0, rfl⟩ : ∃ f, f = veg0)
def vlg : Option Bool → R0 → (AV → R1) → R1 := Classical.choose (⟨vlg0, rfl⟩ : ∃ f, f = vlg0)
theorem qzg : vlg = vlg0 := Classical.choose_spec (⟨vlg0, rfl⟩ : ∃ f, f = vlg0)
def dq : Bool → Bool → Nat → Nat → Nat → Hp → List Pd → List Wt → (Hp → R0) → Option Bool → (AV → Hp → List Pd → List Wt → R1) → R1 := Classical.choose (⟨dq0, rfl⟩ : ∃ f, f = dq0)
theorem zed : dq = dq0 := Classical.choose_spec (⟨dq0, rfl⟩ : ∃ f, f = dq0)
def de : Nat → Hp → List Pd → List Wt → R1 → Option Bool → (AV → Hp → List Pd → List Wt → R1) → R1 := Classical.choose (⟨de0, rfl⟩ : ∃ f, f = de0)
theorem zee : de = de0 := Classical.choose_spec (⟨de0, rfl⟩ : ∃ f, f = de0)
theorem q1q (put : TT AV d → AV → TT AV d) (L : TT AV d) (H : Hp) (r : R0) (k : TT AV d → Hp → R1) : finS (doQ put L H r) k = vq r H fun v H => k (put L v) H := by cases r <;> rfl
theorem q1s (put : TT AV d → AV → TT AV d) (L : TT AV d) (r : R1) (k : TT AV d → Hp → R1) : finS (doE put L r) k = ve r fun v H => k (put L v) H := by cases r <;> rfl
structure StC (d : Nat) where f : Ev.Call → TT AV d → Hp → (TT AV d → Hp → R1) → R1
def q6w (P : Program) (d n : Nat) (ops : Array Oper) (o : Oper) : StC d :=
 match opS P d n o, o.guard, qec d n ops o, putS d n o.dst with
 | .q _ f, none, _, ⟨put⟩ => ⟨fun _ L H k => vq (f H.nx L H) H fun v H => k (put L v) H⟩
 | .e f, none, _, ⟨put⟩ => ⟨fun call L H k => ve (f call L H) fun v H => k (put L v) H⟩
 | .q _ f, some _, ⟨w⟩, ⟨put⟩ => ⟨fun _ L H k => vg (w L) (f H.nx L H) H fun v H => k (put L v) H⟩
 | .e f, some _, ⟨w⟩, ⟨put⟩ => ⟨fun call L H k => veg (w L) (f call L H) H fun v H => k (put L v) H⟩
theorem q6v (P : Program) (d n : Nat) (ops : Array Oper) (o : Oper) (call : Ev.Call) (L : TT AV d) (H : Hp) (k : TT AV d → Hp → R1) :
  finS ((qg3 P d n ops o).f call L H) k = (q6w P d n ops o).f call L H k := by
 unfold qg3 q6w
 generalize opS P d n o = x
 generalize o.guard = g
 generalize qec d n ops o = w
 generalize putS d n o.dst = p
 obtain ⟨p⟩ := p
 obtain ⟨w⟩ := w
 cases x with
 | q l f => cases g with
  | none => exact q1q ..
  | some j =>
   show finS (ifW (w L) _ _) k = vg (w L) _ H _
   rw [zhj]
   cases h : w L with
   | none => rfl
   | some b => cases b with
    | true => exact q1q ..
    | false => rfl
 | e f => cases g with
  | none => exact q1s ..
  | some j =>
   show finS (ifW (w L) _ _) k = veg (w L) _ H _
   rw [q6n]
   cases h : w L with
   | none => rfl
   | some b => cases b with
    | true => exact q1s ..
    | false => rfl
def qzo (P : Program) (d n : Nat) (ops : Array Oper) (o : Oper) : StC d :=
 match dfOf o with
 | none => q6w P d n ops o
 | some _ => match qh8 P d n ops o with | ⟨g⟩ => ⟨fun call L H k => finS (g call L H) k⟩
theorem q6x (P : Program) (d n : Nat) (ops : Array Oper) (o : Oper) (call : Ev.Call) (L : TT AV d) (H : Hp) (k : TT AV d → Hp → R1) :
  finS ((qh8 P d n ops o).f call L H) k = (qzo P d n ops o).f call L H k := by
 unfold qzo
 cases h : dfOf o with
 | none => simp only; rw [← q6v]; unfold qh8; rw [h]
 | some c => rfl
def opsC (P : Program) (d n : Nat) (ops : Array Oper) : List Oper → StC d
 | [] => ⟨fun _ L H k => k L H⟩
 | o :: r => match qzo P d n ops o, opsC P d n ops r with | ⟨g⟩, ⟨h⟩ => ⟨fun call L H k => g call L H fun L H => h call L H k⟩
theorem q7z (P : Program) (d n : Nat) (ops : Array Oper) (call : Ev.Call) : ∀ (l : List Oper) (L : TT AV d) (H : Hp) (k : TT AV d → Hp → R1),
  finS ((opsS P d n ops l).f call L H) k = (opsC P d n ops l).f call L H k
 | [], _, _, _ => rfl
 | o :: r, L, H, k => by
  show finS (q4b ((qh8 P d n ops o).f call L H) ((opsS P d n ops r).f call)) k = (qzo P d n ops o).f call L H fun L H => (opsC P d n ops r).f call L H k
  rw [← q6x]
  cases (qh8 P d n ops o).f call L H with
  | bad => rfl
  | ok L H => exact q7z P d n ops call r L H k
structure SxC (d : Nat) where f : Ev.Call → Nat → TT AV d → Hp → List Pd → List Wt → (TT AV d → Hp → List Pd → List Wt → R1) → R1
def qoo (P : Program) (d n : Nat) (ops : Array Oper) (i A : Nat) (o : Oper) : SxC d :=
 match opS P d n o, qb9 d n (qbd ops o), qec d n ops o, putS d n o.dst with
 | .q lk f, ⟨pj⟩, ⟨w⟩, ⟨put⟩ => ⟨fun _ base L H p ws k => dq lk (qhd o.op && !lk) i A (base + i) H p ws (f (base + i) (pj L)) (w (pj L)) fun v H p ws => k (put L v) H p ws⟩
 | .e f, ⟨pj⟩, ⟨w⟩, ⟨put⟩ => ⟨fun call _ L H p ws k => de A H p ws (f call (pj L) (qax A p H)) (w (pj L)) fun v H p ws => k (put L v) H p ws⟩
theorem q6u (P : Program) (d n : Nat) (ops : Array Oper) (i A : Nat) (o : Oper) (call : Ev.Call) (base : Nat) (L : TT AV d) (H : Hp) (p : List Pd) (ws : List Wt) (k : TT AV d → Hp → List Pd → List Wt → R1) :
  finX ((qsc P d n ops i A o).f call base L H p ws) k = (qoo P d n ops i A o).f call base L H p ws k := by
 unfold qsc qoo
 generalize opS P d n o = x
 generalize qb9 d n (qbd ops o) = j
 generalize qec d n ops o = w
 generalize putS d n o.dst = pt
 obtain ⟨pt⟩ := pt
 obtain ⟨w⟩ := w
 obtain ⟨j⟩ := j
 cases x with
 | q lk f =>
  dsimp only
  rw [zed]
  unfold qX dq0
  cases w (j L) with
  | none => rfl
  | some b => cases b with
   | false => rfl
   | true =>
    simp only
    cases f (base + i) (j L) (qax A p H) with
    | bad => rfl
    | val v => rfl
    | new v b =>
     simp only
     cases (qhd o.op && !lk && b.wr) <;> rfl
 | e f =>
  dsimp only
  rw [zee]
  unfold eX de0
  cases w (j L) with
  | none => rfl
  | some b => cases b with
   | false => rfl
   | true =>
    simp only
    cases f call (j L) (qax A p H) with
    | bad => rfl
    | ok v H' =>
     simp only
     cases qh3 (qdi A p) H' (qdh A ws) <;> rfl
def qmg (P : Program) (d n : Nat) (ops : Array Oper) (ms : List Nat) : List Nat → SxC d
 | [] => ⟨fun _ _ L H p w k => k L H p w⟩
 | i :: r => match ops[i]? with
  | some o => match qoo P d n ops i (ms.getD i 0) o, qmg P d n ops ms r with | ⟨g⟩, ⟨h⟩ => ⟨fun call base L H p w k => g call base L H p w fun L H p w => h call base L H p w k⟩
  | none => ⟨fun _ _ _ _ _ _ _ => .bad⟩
theorem q0d (P : Program) (d n : Nat) (ops : Array Oper) (ms : List Nat) (call : Ev.Call) (base : Nat) : ∀ (l : List Nat) (L : TT AV d) (H : Hp) (p : List Pd) (w : List Wt) (k : TT AV d → Hp → List Pd → List Wt → R1),
  finX ((opsX P d n ops ms l).f call base L H p w) k = (qmg P d n ops ms l).f call base L H p w k
 | [], _, _, _, _, _ => rfl
 | i :: r, L, H, p, w, k => by
  unfold opsX qmg
  cases ops[i]? with
  | none => rfl
  | some o =>
   show finX (zjv ((qsc P d n ops i (ms.getD i 0) o).f call base L H p w) ((opsX P d n ops ms r).f call base)) k = (qoo P d n ops i (ms.getD i 0) o).f call base L H p w fun L H p w => (qmg P d n ops ms r).f call base L H p w k
   rw [← q6u]
   cases (qsc P d n ops i (ms.getD i 0) o).f call base L H p w with
   | bad => rfl
   | ok L H p w => exact q0d P d n ops ms call base r L H p w k
def zjg (P : Program) (d n : Nat) (ops : Array Oper) : StC d :=
 match qyg P d n ops with
 | none => ⟨fun _ _ _ _ => .bad⟩
 | some pl => match qmg P d n ops pl.ms pl.ord with
  | ⟨g⟩ => ⟨fun call L H k => g call H.nx L ⟨H.t, H.nx + pl.up⟩ [] [] fun L H p _ => k L (allH p H)⟩
theorem zec (P : Program) (d n : Nat) (ops : Array Oper) (call : Ev.Call) (L : TT AV d) (H : Hp) (k : TT AV d → Hp → R1) :
  finS ((qkg P d n ops).f call L H) k = (zjg P d n ops).f call L H k := by
 unfold qkg zjg
 cases qyg P d n ops with
 | none => rfl
 | some pl =>
  show finS (match (opsX P d n ops pl.ms pl.ord).f call H.nx L ⟨H.t, H.nx + pl.up⟩ [] [] with | .bad => .bad | .ok L' H' pend _ => .ok L' (allH pend H')) k = (qmg P d n ops pl.ms pl.ord).f call H.nx L ⟨H.t, H.nx + pl.up⟩ [] [] fun L H p _ => k L (allH p H)
  rw [← q0d]
  cases (opsX P d n ops pl.ms pl.ord).f call H.nx L ⟨H.t, H.nx + pl.up⟩ [] [] <;> rfl
/- regions that draw their order, without effects and new blocks -/
def qz7 (P : Program) (d n : Nat) (ops : Array Oper) (i : Nat) : Bool := match ops[i]? with | some o => !isE (opS P d n o) && !qhd o.op | none => false
def ziu (P : Program) (d n : Nat) (ops : Array Oper) (i : Nat) (o : Oper) : StC d :=
 match opS P d n o, qb9 d n (qbd ops o), o.guard, qec d n ops o, putS d n o.dst with
 | .q _ f, ⟨pj⟩, none, _, ⟨put⟩ => ⟨fun _ L H k => vl (f (H.nx + i) (pj L) H) fun v => k (put L v) H⟩
 | .q _ f, ⟨pj⟩, some _, ⟨w⟩, ⟨put⟩ => ⟨fun _ L H k => vlg (w (pj L)) (f (H.nx + i) (pj L) H) fun v => k (put L v) H⟩
 | .e _, _, _, _, _ => ⟨fun _ _ _ _ => .bad⟩
def qs2 (P : Program) (d n : Nat) (ops : Array Oper) : List Nat → StC d
 | [] => ⟨fun _ L H k => k L H⟩
 | i :: r => match ops[i]? with
  | some o => match ziu P d n ops i o, qs2 P d n ops r with | ⟨g⟩, ⟨h⟩ => ⟨fun call L H k => g call L H fun L H => h call L H k⟩
  | none => ⟨fun _ _ _ _ => .bad⟩
theorem zfi (lk : Bool) (i A nm : Nat) (H : Hp) (w : List Wt) (f : Hp → R0) (g : Option Bool) (k : AV → Hp → List Pd → List Wt → R1) (k' : AV → R1) (h : ∀ v w, k v H [] w = k' v) :
  dq lk false i A nm H [] w f g k = vlg g (f H) k' := by
 rw [zed, qzg]
 unfold dq0 vlg0
 cases g with
 | none => rfl
 | some b => cases b with
  | false => exact h _ _
  | true =>
   simp only
   show (match f H with | .bad => R1.bad | .val v => _ | .new v b => _) = vl (f H) k'
   cases f H with
   | bad => rfl
   | val v => exact h _ _
   | new v b => rfl
theorem qra (P : Program) (d n : Nat) (ops : Array Oper) (ms : List Nat) (call : Ev.Call) (H : Hp) : ∀ (l : List Nat), l.all (qz7 P d n ops) = true → ∀ (L : TT AV d) (w : List Wt) (k : TT AV d → Hp → R1),
  (qmg P d n ops ms l).f call H.nx L H [] w (fun L H p _ => k L (allH p H)) = (qs2 P d n ops l).f call L H k
 | [], _, _, _, _ => rfl
 | i :: r, hl, L, w, k => by
  rw [List.all_cons, Bool.and_eq_true] at hl
  have hq := hl.1
  unfold qz7 at hq
  unfold qmg qs2
  cases ho : ops[i]? with
  | none => simp [ho] at hq
  | some o =>
   rw [ho] at hq
   simp only [Bool.and_eq_true, Bool.not_eq_true'] at hq
   show (qoo P d n ops i (ms.getD i 0) o).f call H.nx L H [] w (fun L H' p w => (qmg P d n ops ms r).f call H.nx L H' p w (fun L H p _ => k L (allH p H))) = (ziu P d n ops i o).f call L H fun L H => (qs2 P d n ops r).f call L H k
   unfold qoo ziu
   have hal := hq.2
   have hE := hq.1
   have hw : o.guard = none → (qec d n ops o).f = fun _ => some true := fun hg => by unfold qec; rw [hg]
   generalize qec d n ops o = x1 at hw
   generalize opS P d n o = x2 at hE
   generalize qb9 d n (qbd ops o) = x3
   generalize putS d n o.dst = x4
   obtain ⟨x1⟩ := x1
   obtain ⟨x3⟩ := x3
   obtain ⟨x4⟩ := x4
   cases x2 with
   | e f => cases hE
   | q lk f =>
    cases hg : o.guard with
    | none =>
     have e := hw hg
     simp only at e
     subst e
     dsimp only
     rw [hal]
     refine (zfi lk i _ _ H w _ (some true) _ (fun v => (qs2 P d n ops r).f call (x4 L v) H k) fun v w => ?_).trans (by rw [qzg]; rfl)
     exact qra P d n ops ms call H r hl.2 (x4 L v) w k
    | some j =>
     dsimp only
     rw [hal]
     exact zfi lk i _ _ H w _ (x1 (x3 L)) _ (fun v => (qs2 P d n ops r).f call (x4 L v) H k) fun v w => qra P d n ops ms call H r hl.2 (x4 L v) w k
def zjf (P : Program) (d n : Nat) (ops : Array Oper) : StC d :=
 match qyg P d n ops with
 | none => ⟨fun _ _ _ _ => .bad⟩
 | some pl => match pl.ord.all (qz7 P d n ops) && Nat.beq pl.up 0, qs2 P d n ops pl.ord, qmg P d n ops pl.ms pl.ord with
  | true, ⟨g⟩, _ => ⟨g⟩
  | false, _, ⟨g⟩ => ⟨fun call L H k => g call H.nx L ⟨H.t, H.nx + pl.up⟩ [] [] fun L H p _ => k L (allH p H)⟩
theorem zeb (P : Program) (d n : Nat) (ops : Array Oper) (call : Ev.Call) (L : TT AV d) (H : Hp) (k : TT AV d → Hp → R1) :
  finS ((qkg P d n ops).f call L H) k = (zjf P d n ops).f call L H k := by
 rw [zec]
 unfold zjg zjf
 cases qyg P d n ops with
 | none => rfl
 | some pl =>
  dsimp only
  cases hq : (pl.ord.all (qz7 P d n ops) && Nat.beq pl.up 0) with
  | false => rfl
  | true =>
   rw [Bool.and_eq_true] at hq
   have hu := Nat.eq_of_beq_eq_true hq.2
   show (qmg P d n ops pl.ms pl.ord).f call H.nx L ⟨H.t, H.nx + pl.up⟩ [] [] (fun L H p _ => k L (allH p H)) = (qs2 P d n ops pl.ord).f call L H k
   rw [hu]
   exact qra P d n ops pl.ms call H pl.ord hq.1 L [] k
def thn (b : TT AV d → Hp → R1) (K : Kt d) : Kt d := fun e L H => match e with | .normal => b L H | e => K e L H
def outK (id : Nat) (K : Kt d) : Kt d := fun e L H => match e with | .exit i => bif Nat.beq i id then K .normal L H else K (.exit i) L H | e => K e L H
structure DnC (d : Nat) where f : Ev.Call → TT AV d → Hp → Kt d → R1
def denC (P : Program) (d n : Nat) : Code → DnC d
 | .skip | .label _ => ⟨fun _ L H K => K .normal L H⟩
 | .region _ ops false => match opsC P d n ops ops.toList with | ⟨g⟩ => ⟨fun call L H K => g call L H (K .normal)⟩
 | .region _ ops true => match zjf P d n ops with | ⟨g⟩ => ⟨fun call L H K => g call L H (K .normal)⟩
 | .seq a b => match denC P d n a, denC P d n b with | ⟨f⟩, ⟨g⟩ => ⟨fun call L H K => f call L H (thn (fun L H => g call L H K) K)⟩
 | .cond x a b => match opnd d n x, denC P d n a, denC P d n b with | ⟨g⟩, ⟨f⟩, ⟨h⟩ => ⟨fun call L H K => cd (g L) (f call L H K) (h call L H K)⟩
 | .block id b => match denC P d n b with | ⟨f⟩ => ⟨fun call L H K => f call L H (outK id K)⟩
 | .scope b => denC P d n b
 | .exit id => ⟨fun _ L H K => K (.exit id) L H⟩
 | .ret => ⟨fun _ L H K => K .ret L H⟩
 | c => match den P d n c with | ⟨g⟩ => ⟨fun call L H K => fin (g call L H) K⟩
theorem q1p (r : Rs d) (K : Kt d) : fin (ofRs r) K = finS r (K .normal) := by cases r <;> rfl
theorem qyp (r : Rc d) (k : TT AV d → Hp → Rc d) (K : Kt d) : fin (seqC r k) K = fin r (thn (fun L H => fin (k L H) K) K) := by
 cases r with
 | bad => rfl
 | ok e L H => cases e <;> rfl
theorem qt1 (id : Nat) (r : Rc d) (K : Kt d) : fin (qpr id r) K = fin r (outK id K) := by
 cases r with
 | bad => rfl
 | ok e L H =>
  cases e with
  | exit i =>
   show fin (bif Nat.beq i id then _ else _) K = bif Nat.beq i id then _ else _
   cases Nat.beq i id <;> rfl
  | _ => rfl
theorem qgm (P : Program) (d n : Nat) (call : Ev.Call) : ∀ (c : Code) (L : TT AV d) (H : Hp) (K : Kt d), fin ((den P d n c).f call L H) K = (denC P d n c).f call L H K
 | .skip, _, _, _ | .label _, _, _, _ | .exit _, _, _, _ | .ret, _, _, _ | .goto _, _, _, _ | .loop _, _, _, _ | .rangeFunc .., _, _, _ | .refuse _, _, _, _ => rfl
 | .region _ ops false, L, H, K => (q1p ..).trans (q7z ..)
 | .region _ ops true, L, H, K => (q1p ..).trans (zeb ..)
 | .seq a b, L, H, K => by
  refine (qyp ((den P d n a).f call L H) ((den P d n b).f call) K).trans ?_
  rw [qgm P d n call a]
  show (denC P d n a).f call L H (thn (fun L H => fin ((den P d n b).f call L H) K) K) = (denC P d n a).f call L H (thn (fun L H => (denC P d n b).f call L H K) K)
  congr 2
  funext L H
  exact qgm P d n call b L H K
 | .cond x a b, L, H, K => by
  show fin (condC ((opnd d n x).f L) ((den P d n a).f call L H) ((den P d n b).f call L H)) K = cd ((opnd d n x).f L) ((denC P d n a).f call L H K) ((denC P d n b).f call L H K)
  rw [← qgm P d n call a, ← qgm P d n call b]
  generalize (opnd d n x).f L = v
  cases v with
  | bool q => cases q <;> rfl
  | _ => rfl
 | .block id b, L, H, K => (qt1 ..).trans (qgm P d n call b L H (outK id K))
 | .scope b, L, H, K => qgm P d n call b L H K
def Lk (P : Program) (d n : Nat) (call : Ev.Call) (c : Code) (K : Kt d) (D : TT AV d → Hp → R1) : Prop := ∀ L H, fin ((den P d n c).f call L H) K = D L H
variable {P : Program} {n : Nat} {call : Ev.Call} {K : Kt d}
theorem Lk.one {c : Code} {D : TT AV d → Hp → R1} (h : ∀ L H, (denC P d n c).f call L H K = D L H) : Lk P d n call c K D := fun L H => (qgm P d n call c L H K).trans (h L H)
theorem Lk.seq {a b : Code} {D E : TT AV d → Hp → R1} (hb : Lk P d n call b K E) (ha : Lk P d n call a (thn E K) D) : Lk P d n call (.seq a b) K D := fun L H => by
 refine (qyp ((den P d n a).f call L H) ((den P d n b).f call) K).trans ?_
 rw [show (fun L H => fin ((den P d n b).f call L H) K) = E from funext fun L => funext fun H => hb L H]
 exact ha L H
theorem Lk.block {id : Nat} {b : Code} {D : TT AV d → Hp → R1} (h : Lk P d n call b (outK id K) D) : Lk P d n call (.block id b) K D := fun L H => (qt1 ..).trans (h L H)
theorem Lk.scope {b : Code} {D : TT AV d → Hp → R1} (h : Lk P d n call b K D) : Lk P d n call (.scope b) K D := h
theorem Lk.cond {x : Operand} {a b : Code} {A B : TT AV d → Hp → R1} (ha : Lk P d n call a K A) (hb : Lk P d n call b K B) : Lk P d n call (.cond x a b) K (fun L H => cd ((opnd d n x).f L) (A L H) (B L H)) := fun L H => by
 show fin (condC ((opnd d n x).f L) ((den P d n a).f call L H) ((den P d n b).f call L H)) K = cd ((opnd d n x).f L) (A L H) (B L H)
 rw [← ha L H, ← hb L H]
 generalize (opnd d n x).f L = v
 cases v with
 | bool q => cases q <;> rfl
 | _ => rfl
def qbg : Nat := Classical.choose (⟨qak, rfl⟩ : ∃ n, n = qak)
theorem qan : qbg = qak := Classical.choose_spec (⟨qak, rfl⟩ : ∃ n, n = qak)
theorem Lk.loop {b : Code} {D : Nat → TT AV d → Hp → R1} (h0 : ∀ L H, D 0 L H = .bad) (hs : ∀ k, Lk P d n call b (thn (D k) K) (D (k + 1))) : Lk P d n call (.loop b) K (D qbg) := by
 have main : ∀ k L H, fin (qni ((den P d n b).f call) k L H) K = D k L H := by
  intro k
  induction k with
  | zero => intro L H; exact (h0 L H).symm
  | succ k ih =>
   intro L H
   show fin (seqC ((den P d n b).f call L H) (qni ((den P d n b).f call) k)) K = _
   rw [qyp, show (fun L H => fin (qni ((den P d n b).f call) k L H) K) = D k from funext fun L => funext fun H => ih L H]
   exact hs k L H
 rw [qan]
 exact fun L H => main qak L H
theorem Lk.of {c : Code} {D E : TT AV d → Hp → R1} (h : Lk P d n call c K D) (e : ∀ L H, D L H = E L H) : Lk P d n call c K E := fun L H => (h L H).trans (e L H)
def endK (n : Nat) (call : Ev.Call) (res : TT AV d → Hp → Option AV) : Kt d := fun e L H => match e with | .normal => outC n call res L H | .ret => outC n call res L H | _ => .bad
theorem zhw (n : Nat) (call : Ev.Call) (res : TT AV d → Hp → Option AV) (r : Rc d) : retC n call res r = fin r (endK n call res) := by
 cases r with
 | bad => rfl
 | ok e L H => cases e <;> rfl
def codeOf (f : Func) : Code := match f.body with | some c => c | none => .skip
theorem zdz {f : FuncId} {F : Func} (hf : P.funcs[f]? = some F) (hn : (F.name == "runtime.NumGoroutine") = false) (hb : F.body.isSome = true) {args : List AV} (ha : (Nat.ble args.length F.ntmps && Nat.ble (F.ntmps + 1) 262144) = true)
  {D : TT AV (qaw (F.ntmps + 1)) → Hp → R1} (h : Lk P (qaw (F.ntmps + 1)) F.ntmps call (codeOf F) (endK F.ntmps call (qce P (qaw (F.ntmps + 1)) F.ntmps F.results.toList).f) D) (H : Hp) :
  (funS P f).f call args H = D (wrL args 0 (same .undef _)) H := by
 unfold funS
 rw [hf]
 simp only [hn, Bool.false_eq_true, if_false]
 unfold codeOf at h
 cases hc : F.body with
 | none => rw [hc] at hb; cases hb
 | some c =>
  rw [hc] at h
  show (bif Nat.ble args.length F.ntmps && Nat.ble (F.ntmps + 1) 262144 then retC F.ntmps call _ _ else .bad) = _
  rw [ha, ← h _ H]
  exact zhw ..
end Go.Di
namespace Go.Di
open Go.Ev
variable {d n : Nat} {P : Program} {call : Ev.Call}
def qke : Code → Bool
 | .region _ ops _ => !(ops.toList.any isDf)
 | .seq a b => qke a && qke b
 | .cond _ a b => qke a && qke b
 | .block _ b => qke b
 | .loop b => qke b
 | .scope b => qke b
 | .rangeFunc .. => true
 | _ => true
theorem q9p {o : Oper} (h : isDf o = false) : dfOf o = none := by
 unfold isDf at h
 unfold dfOf
 split
 ·rename_i e _; rw [e] at h; cases h
 ·rfl
theorem qs1 (hn : n < 8 ^ d) {ops : Array Oper} : ∀ (l : List Oper), l.any isDf = false → ∀ {L : TT AV d} {H : Hp} {L' : TT AV d} {H' : Hp}, (opsS P d n ops l).f call L H = .ok L' H' → (qar d n).f L' = (qar d n).f L
 | [], _, L, H, L', H', h => by cases h; rfl
 | o :: r, hl, L, H, L', H', h => by
  rw [List.any_cons, Bool.or_eq_false_iff] at hl
  have h' : q4b ((qh8 P d n ops o).f call L H) ((opsS P d n ops r).f call) = .ok L' H' := h
  cases h1 : (qh8 P d n ops o).f call L H with
  | bad => rw [h1] at h'; cases h'
  | ok L1 H1 =>
   rw [h1] at h'
   unfold qh8 at h1
   rw [q9p hl.1] at h1
   exact (qs1 hn r hl.2 h').trans (qop hn h1)
theorem qd4 (hn : n < 8 ^ d) : ∀ (c : Code), qke c = true → ∀ {L : TT AV d} {H : Hp} {e : Ex} {L' : TT AV d} {H' : Hp}, (den P d n c).f call L H = .ok e L' H' → (qar d n).f L' = (qar d n).f L
 | .skip, _, _, _, _, _, _, h | .label _, _, _, _, _, _, _, h | .exit _, _, _, _, _, _, _, h | .ret, _, _, _, _, _, _, h => by cases h; rfl
 | .goto _, _, _, _, _, _, _, h | .refuse _, _, _, _, _, _, _, h => by cases h
 | .rangeFunc f ps sa bd, _, L, H, e, L', H', h => by
  rw [den] at h
  split at h
  ·cases h
  ·rename_i g _ _
   have h : endLoop H.nx (q9y call (g L) [.yield H.nx] (qal H (.loop true none d n L ps.toList sa bd))) L = .ok e L' H' := h
   unfold endLoop at h
   split at h
   ·cases h
   ·split at h <;> first | (cases h; rfl) | cases h
 | .region _ ops false, hc, L, H, e, L', H', h => by
  have h' : ofRs ((opsS P d n ops ops.toList).f call L H) = .ok e L' H' := h
  cases h1 : (opsS P d n ops ops.toList).f call L H with
  | bad => rw [h1] at h'; cases h'
  | ok L1 H1 =>
   rw [h1] at h'; cases h'
   exact qs1 hn _ (by simpa [qke] using hc) h1
 | .region _ ops true, _, L, H, e, L', H', h => by
  have h' : ofRs ((qkg P d n ops).f call L H) = .ok e L' H' := h
  cases h1 : (qkg P d n ops).f call L H with
  | bad => rw [h1] at h'; cases h'
  | ok L1 H1 => rw [h1] at h'; cases h'; exact qpm hn h1
 | .seq a b, hc, L, H, e, L', H', h => by
  simp only [qke, Bool.and_eq_true] at hc
  have h' : seqC ((den P d n a).f call L H) ((den P d n b).f call) = .ok e L' H' := h
  cases h1 : (den P d n a).f call L H with
  | bad => rw [h1] at h'; cases h'
  | ok e1 L1 H1 =>
   rw [h1] at h'
   have g1 := qd4 hn a hc.1 h1
   cases e1 with
   | normal => exact (qd4 hn b hc.2 h').trans g1
   | exit i => cases h'; exact g1
   | goto i => cases h'; exact g1
   | ret => cases h'; exact g1
 | .cond x a b, hc, L, H, e, L', H', h => by
  simp only [qke, Bool.and_eq_true] at hc
  have h' : condC ((opnd d n x).f L) ((den P d n a).f call L H) ((den P d n b).f call L H) = .ok e L' H' := h
  unfold condC at h'
  split at h'
  ·exact qd4 hn a hc.1 h'
  ·exact qd4 hn b hc.2 h'
  ·cases h'
 | .block id b, hc, L, H, e, L', H', h => by
  have h' : qpr id ((den P d n b).f call L H) = .ok e L' H' := h
  cases h1 : (den P d n b).f call L H with
  | bad => rw [h1] at h'; cases h'
  | ok e1 L1 H1 =>
   rw [h1] at h'
   have g1 := qd4 hn b hc h1
   cases e1 with
   | exit i =>
    have h2 : (bif Nat.beq i id then Rc.ok .normal L1 H1 else Rc.ok (.exit i) L1 H1) = .ok e L' H' := h'
    cases hb : Nat.beq i id with
    | true => rw [hb] at h2; cases h2; exact g1
    | false => rw [hb] at h2; cases h2; exact g1
   | normal => cases h'; exact g1
   | goto i => cases h'; exact g1
   | ret => cases h'; exact g1
 | .loop b, hc, L, H, e, L', H', h => by
  have main : ∀ (k : Nat) {L : TT AV d} {H : Hp}, qni ((den P d n b).f call) k L H = .ok e L' H' → (qar d n).f L' = (qar d n).f L := by
   intro k
   induction k with
   | zero => intro L H h; cases h
   | succ k ih =>
    intro L H h
    have h' : seqC ((den P d n b).f call L H) (qni ((den P d n b).f call) k) = .ok e L' H' := h
    cases h1 : (den P d n b).f call L H with
    | bad => rw [h1] at h'; cases h'
    | ok e1 L1 H1 =>
     rw [h1] at h'
     have g1 := qd4 hn b hc h1
     cases e1 with
     | normal => exact (ih h').trans g1
     | exit i => cases h'; exact g1
     | goto i => cases h'; exact g1
     | ret => cases h'; exact g1
  exact main qak h
 | .scope b, hc, L, H, e, L', H', h => qd4 hn b hc h
def endR (res : TT AV d → Hp → Option AV) : Kt d := fun e L H => match e with | .normal => finR (res L H) H | .ret => finR (res L H) H | _ => .bad
theorem Lk.self {c : Code} {K : Kt d} : Lk P d n call c K (fun L H => (denC P d n c).f call L H K) := fun L H => qgm P d n call c L H K
theorem qah {f : FuncId} {F : Func} (hf : P.funcs[f]? = some F) (hn : (F.name == "runtime.NumGoroutine") = false) (hb : F.body.isSome = true) (hd : qke (codeOf F) = true) {args : List AV} (ha : (Nat.ble args.length F.ntmps && Nat.ble (F.ntmps + 1) 262144) = true)
  {D : TT AV (qaw (F.ntmps + 1)) → Hp → R1} (h : Lk P (qaw (F.ntmps + 1)) F.ntmps call (codeOf F) (endR (qce P (qaw (F.ntmps + 1)) F.ntmps F.results.toList).f) D) (H : Hp) :
  (funS P f).f call args H = D (wrL args 0 (same .undef _)) H := by
 refine (zdz hf hn hb ha (D := fun L H => fin ((den P (qaw (F.ntmps + 1)) F.ntmps (codeOf F)).f call L H) (endK F.ntmps call (qce P (qaw (F.ntmps + 1)) F.ntmps F.results.toList).f)) (fun _ _ => rfl) H).trans ?_
 rw [← h]
 cases h1 : (den P (qaw (F.ntmps + 1)) F.ntmps (codeOf F)).f call (wrL args 0 (same .undef _)) H with
 | bad => rfl
 | ok e L' H' =>
  have hs := qd4 (Nat.lt_of_lt_of_le (Nat.lt_succ_self _) (qbz _)) (codeOf F) hd h1
  simp only [Bool.and_eq_true, Nat.ble_eq] at ha
  have h0 := qje ha.1 ha.2
  have hout : outC F.ntmps call (qce P (qaw (F.ntmps + 1)) F.ntmps F.results.toList).f L' H' = finR ((qce P (qaw (F.ntmps + 1)) F.ntmps F.results.toList).f L' H') H' := by
   unfold outC
   rw [hs, h0]; rfl
  cases e with
  | normal => exact hout
  | ret => exact hout
  | exit i => rfl
  | goto i => rfl
end Go.Di
end
noncomputable section
namespace Go.Di
open Go.Ev
def dz (up : Nat) (H : Hp) (k : Nat → Hp → R1) : R1 := k H.nx ⟨H.t, H.nx + up⟩
def dz2 (p : List Pd) (H : Hp) (k : Hp → R1) : R1 := k (allH p H)
def rV (r : R0) : Option AV := match r with | .val v => some v | _ => none
def qb3 (a : Option AV) (b : Option (List AV)) : Option (List AV) := match a, b with | some v, some l => some (v :: l) | _, _ => none
def tupO (a : Option (List AV)) : Option AV := match a with | some l => some (.tup l) | none => none
def p1 : P1 := ⟨fun cs off => cs[off]?⟩
def nilC (x : AV) : R0 := match x with | .ptr b o => .val (.ptr b o) | .fn a b c => .val (.fn a b c) | .yield l => .val (.yield l) | _ => .bad
def extr (i : Nat) (x : AV) : R0 := match x with | .tup l => (match l[i]? with | some v => .val v | none => .bad) | _ => .bad
end Go.Di
end
noncomputable section
namespace Go.Ev
open Go.RowKit Go.Sort
variable {P : Program} {w : World} {ι : Im} {H : Hp}
theorem zhv {α : Type} [Inhabited α] (enc : α → Value) {b dd nn : Nat} {c : TT AV dd} {zz o : Nat} {loc : Loc} (hH : HR ι H w) (hg : H.get b = .cells dd nn c false zz) (hb : ι b = some loc) {d0 d : Array α} (hHo : Holds enc w loc.blk (loc.base + o) d0) (hsz : d.size = d0.size) {l : List AV} (hl : l.length = d.size) (hle : o + d.size ≤ nn)
  (hrep : ∀ j, j < d.size → Rep ι (l.getD j .undef) (enc d[j]!) ∧ (enc d[j]!).oneCell = true) (k : Nat) (os : Array Obj) :
  HR ι (H.put b (.cells dd nn (wrL l o c) false zz)) (Go.Sort.grow (putRow enc (Sort.ahead w k) loc.blk (loc.base + o) d) os) ∧ Fr ι ι H (H.put b (.cells dd nn (wrL l o c) false zz)) w (Go.Sort.grow (putRow enc (Sort.ahead w k) loc.blk (loc.base + o) d) os) := by
 have hlt := hH.lt hb
 have hB := hH.blk b hlt
 rw [hg] at hB
 obtain ⟨l', b1, b2, b3, b4⟩ := hB
 rw [hb] at b1; cases b1
 have hput : HR ι (H.put b (.cells dd nn (wrL l o c) false zz)) (putRow enc (Sort.ahead w k) loc.blk (loc.base + o) d) ∧ Fr ι ι H (H.put b (.cells dd nn (wrL l o c) false zz)) w (putRow enc (Sort.ahead w k) loc.blk (loc.base + o) d) := by
  refine hH.put hlt (by rw [hg]; rfl) hb _ rfl rfl rfl (by rw [size_putRow]; rfl) (fun c' hc' => ?_) ?_
  ·show (w.heap.modify loc.blk _)[c']? = _
   rw [Array.getElem?_modify, if_neg (by omega)]
  ·refine ⟨loc, hb, b2, fun j hj => ?_, fun _ j hj => ?_⟩
   ·have b2' := b2.1
    rw [qht _ _ _ _ (by omega) (by omega), hl]
    obtain ⟨V, c1, c2, c3, c4⟩ := b3 j hj
    by_cases hin : o ≤ j ∧ j < o + d.size
    ·rw [if_pos hin]
     obtain ⟨e1, e2⟩ := hrep (j - o) (by omega)
     refine ⟨enc d[j - o]!, ?_, e1, e2, fun _ => ?_⟩
     ·have h1 := cell?_putRow enc (Sort.ahead w k) loc.blk (loc.base + o) d0 d hHo hsz (j - o) (by omega)
      rwa [show loc.base + o + (j - o) = loc.base + j by omega] at h1
     ·rw [frozen?_putRow]; exact c4 rfl
    ·rw [if_neg hin]
     refine ⟨V, ?_, c2, c3, fun _ => ?_⟩
     ·rw [cell?_putRow_other _ _ _ _ _ _ (.inr (by simp only; omega))]
      exact c1
     ·rw [frozen?_putRow]; exact c4 rfl
   ·have h4 := b4 rfl j hj
    rw [frozen?_putRow, cell?_putRow_other _ _ _ _ _ _ (.inr (by simp only; omega))]
    exact h4
 obtain ⟨g1, g2⟩ := hput
 have hbel : Below (putRow enc (Sort.ahead w k) loc.blk (loc.base + o) d).heap.size (putRow enc (Sort.ahead w k) loc.blk (loc.base + o) d) (Go.Sort.grow (putRow enc (Sort.ahead w k) loc.blk (loc.base + o) d) os) := ⟨rfl, rfl, rfl, by rw [Go.Sort.size_grow]; omega, fun c hc => Go.Sort.heap_grow_old _ _ hc⟩
 obtain ⟨g3, g4⟩ := g1.of_below hbel
 exact ⟨g3, g2.trans g4⟩
theorem qou {b : Blk} {o n : Nat} {l : List AV} (h : qba b o n = some l) : ∃ dd nn c ro zz, b = .cells dd nn c ro zz ∧ o + n ≤ nn ∧ l.length = n ∧ ∀ j, j < n → l[j]? = some ((qar dd (o + j)).f c) := by
 cases b with
 | cells dd nn c ro zz =>
  have h : (bif Nat.ble (o + n) nn then some (rdN c n o) else none) = some l := h
  cases hon : Nat.ble (o + n) nn with
  | false => rw [hon] at h; cases h
  | true =>
   rw [hon] at h
   simp only [cond_true, Option.some.injEq] at h
   subst h
   exact ⟨dd, nn, c, ro, zz, rfl, qdg hon, qgy c n o, q7h c n o⟩
 | _ => cases h
theorem qx1 {b o : Nat} {l : List AV} {v v' : AV} {H' : Hp} {dd nn zz : Nat} {c : TT AV dd} {ro : Bool} (hg : H.get b = .cells dd nn c ro zz) (h : storeAt H b o l v = .ok v' H') : ro = false ∧ v' = v ∧ H' = H.put b (.cells dd nn (wrL l o c) false zz) ∧ o + l.length ≤ nn := by
 unfold storeAt q2e at h
 rw [hg] at h
 cases ro with
 | true => cases h
 | false =>
  dsimp only at h
  cases hle : Nat.ble (o + l.length) nn with
  | false => rw [hle] at h; cases h
  | true => rw [hle] at h; cases h; exact ⟨rfl, rfl, rfl, qdg hle⟩
theorem qm1 {f : FuncId} (hb : qjo P f = true) (A : Array Value) : (callFunc f A).run P w = .ok (.enter f A) w := by
 unfold qjo at hb
 split at hb
 ·rename_i fn hfn
  simp only [Bool.and_eq_true, Bool.not_eq_true'] at hb
  obtain ⟨c, hc'⟩ := Option.isSome_iff_exists.1 hb.1
  have hname' : ¬ fn.name = "runtime.NumGoroutine" := fun e => by rw [e] at hb; simp at hb
  simp [callFunc, hfn, hname', hc']
 ·cases hb
end Go.Ev
end
noncomputable section
namespace Go.Ev
open Go.RowKit Go.Sort
variable {P : Program} {w : World} {ι : Im} {H : Hp}
structure Eg where
 (f t : Int)
 s : Bool
 deriving Inhabited
def egV (e : Eg) : List AV := [.int .i64 e.f, .int .i64 e.t, .bool e.s]
def egU (e : Eg) : List Value := [.int .i64 e.f, .int .i64 e.t, .bool e.s]
def qm3 : List AV → Option (List Eg)
 | [] => some []
 | .int .i64 f :: .int .i64 t :: .bool s :: l => match qm3 l with | some r => some (⟨f, t, s⟩ :: r) | none => none
 | _ => none
def cI (a b : Int) : Int := if a < b then -1 else if b < a then 1 else 0
def or3 (a b c : Int) : Int := if a = 0 then if b = 0 then c else b else a
def sgB (s : Bool) : Int := if s then 1 else 0
def cmpEg (x y : Eg) : Int := or3 (cI x.f y.f) (cI x.t y.t) (cI (sgB x.s) (sgB y.s))
def qj5 (l : List Eg) : List Eg := l.mergeSort fun x y => !decide (cmpEg y x < 0)
theorem q2n (l : List Eg) : (qj5 l).length = l.length := List.length_mergeSort _
theorem q9f : ∀ {l : List AV} {es : List Eg}, qm3 l = some es → l = es.flatMap egV := by
 intro l
 induction l using qm3.induct with
 | case1 => intro es h; unfold qm3 at h; cases h; rfl
 | case2 f t s l r h1 ih =>
  intro es h
  unfold qm3 at h
  rw [h1] at h
  cases h
  rw [ih h1]; rfl
 | case3 f t s l h1 _ =>
  intro es h
  unfold qm3 at h
  rw [h1] at h
  cases h
 | case4 l h1 h2 =>
  intro es h
  unfold qm3 at h
  split at h
  ·exact absurd rfl h1
  ·rename_i f t s l
   exact absurd rfl (h2 f t s l)
  ·cases h
theorem q9c (es : List Eg) : (es.flatMap egV).length = es.length * 3 := by
 induction es with
 | nil => rfl
 | cons a l ih => rw [List.flatMap_cons, List.length_append, ih, List.length_cons]; show 3 + _ = _; omega
theorem q9e : ∀ (es : List Eg) (t : Nat) (h : t < es.length * 3), (es.flatMap egV)[t]? = (egV (es[t / 3]'(by omega)))[t % 3]?
 | [], t, h => by simp at h
 | a :: l, t, h => by
  rw [List.flatMap_cons]
  by_cases ht : t < 3
  ·rw [List.getElem?_append_left (by show t < 3; exact ht)]
   have h0 : t / 3 = 0 := by omega
   have h1 : t % 3 = t := by omega
   simp only [h0, h1, List.getElem_cons_zero]
  ·rw [List.getElem?_append_right (by show 3 ≤ t; omega)]
   show (l.flatMap egV)[t - 3]? = _
   rw [List.length_cons] at h
   rw [q9e l (t - 3) (by omega)]
   have h0 : t / 3 = (t - 3) / 3 + 1 := by omega
   have h1 : t % 3 = (t - 3) % 3 := by omega
   simp only [h0, h1, List.getElem_cons_succ]
theorem ze7 (e : Eg) {i : Nat} (hi : i < 3) {V : Value} : Rep ι ((egV e).getD i .undef) V ↔ V = (egU e)[i]! := by
 match i, hi with
 | 0, _ | 1, _ | 2, _ => simp only [egV, egU]; exact Iff.rfl
theorem zjc (e : Eg) {i : Nat} (hi : i < 3) : ((egU e)[i]!).oneCell = true := by
 match i, hi with
 | 0, _ | 1, _ | 2, _ => rfl
def qsh (H : Hp) (b o n : Nat) : Option R1 :=
 match qba (H.get b) o (n * 3) with
 | some l => match qm3 l with
  | some es => match storeAt H b o ((qj5 es).flatMap egV) (.tup []) with
   | .ok v H' => bif Nat.blt n 4611686018427387904 then some (.ok v H') else none
   | .bad => none
  | none => none
 | none => none
def SortECalls (P : Program) (f fc : FuncId) : Prop := ∀ (d : Array Eg) (blk off cap : Nat) (w : World), Go.Sort.HoldsK egU 3 w blk off d → blk < w.heap.size → d.size < 4611686018427387904 →
 Calls P f #[.slice (some ⟨blk, off, none⟩) d.size cap, .func (.func fc) #[] #[]] w fun e w' => e = .returned (.tuple #[]) ∧ ∃ n os, w' = Go.Proofs.sortWorldK egU 3 w blk off n (qj5 d.toList).toArray os
def SortENone (P : Program) (f : FuncId) : Prop := ∀ p cap fv w, Calls P f #[.slice p 0 cap, fv] w fun e w' => e = .returned (.tuple #[]) ∧ w' = w
def qgu (f fc : FuncId) (e : Ext) : Ext := fun g args H =>
 bif Nat.beq g f then (match args with
 | [.sl b o n _ _, .fn c [] []] => bif Nat.beq c fc then qsh H b o n else none
 | [.nilsl, .fn c [] []] => bif Nat.beq c fc then some (.ok (.tup []) H) else none
 | _ => none) else e g args H
theorem q64 {f fc : FuncId} (hf : SortECalls P f fc) {b o n m : Nat} {x : Bool} {v : AV} {H' : Hp} (h : qsh H b o n = some (.ok v H')) {ARGS : List Value} (hH : HR ι H w) (ha : RepL ι [.sl b o n m x, .fn fc [] []] ARGS) : Calls P f ARGS.toArray w (Post ι H w v H') := by
 simp only [RepL, Rep] at ha
 obtain ⟨V, r, rfl, ⟨hnm, loc, hb, rfl⟩, V2, r2, rfl, ⟨_, _, rfl, rfl, rfl⟩, rfl⟩ := ha
 unfold qsh at h
 split at h
 ·rename_i l hl
  split at h
  ·rename_i es hz
   have hlz := q9f hz
   split at h
   ·rename_i v' H2 hst
    cases hn : Nat.blt n 4611686018427387904 with
    | false => rw [hn] at h; cases h
    | true =>
     rw [hn] at h
     cases h
     have hn := qdg hn
     obtain ⟨dd, nn, c, ro, zz, hg, hle, hll, hget⟩ := qou hl
     obtain ⟨rfl, rfl, rfl, _⟩ := qx1 hg hst
     have hlt := hH.lt hb
     have hB := hH.blk b hlt
     rw [hg] at hB
     obtain ⟨l', b1, b2, b3, b4⟩ := hB
     rw [hb] at b1; cases b1
     have hes : es.length = n := by rw [hlz, q9c] at hll; omega
     subst hes
     have hk : ∀ (d : List Eg) (t : Nat), t < d.length * 3 → (Go.Sort.flatK egU 3 d.toArray)[t]! = (egU (d[t / 3]!))[t % 3]! := fun d t ht => by
      rw [Go.Sort.get_flatK egU 3 d.toArray t (by simpa using ht)]; simp
     have hHo : Go.Sort.HoldsK egU 3 w loc.blk (loc.base + o) es.toArray := fun j hj => by
      have hj : j < es.length * 3 := by simpa using hj
      obtain ⟨V, c1, c2, c3, c4⟩ := b3 (o + j) (by omega)
      have h1 := hget j hj
      have h2 := q9e es j hj
      rw [← hlz, h1] at h2
      have hj3 : j % 3 < 3 := Nat.mod_lt _ (by omega)
      have h3 : (qar dd (o + j)).f c = (egV (es[j / 3]'(by omega))).getD (j % 3) .undef := by
       rw [List.getD_eq_getElem?_getD, ← h2]; rfl
      rw [h3, ze7 _ hj3] at c2
      subst c2
      rw [← Nat.add_assoc] at c1 c4
      refine ⟨?_, c4 rfl⟩
      rw [c1]
      show some _ = some (Go.Sort.flatK egU 3 es.toArray)[j]!
      rw [hk es j hj, getElem!_pos es (j / 3) (by omega)]
     have hbs : loc.blk < w.heap.size := hH.low b loc hlt (by rw [hg]; rfl) hb
     have hcall := hf es.toArray loc.blk (loc.base + o) (if x then m else m + loc.ext) w hHo hbs (by rw [List.size_toArray]; omega)
     refine hcall.mono fun e w' hp => ?_
     obtain ⟨rfl, k, os, rfl⟩ := hp
     have hsl := q2n es
     obtain ⟨g1, g2⟩ := zhv (α := Value) id hH hg hb hHo (d := Go.Sort.flatK egU 3 (qj5 es).toArray) (l := (qj5 es).flatMap egV) (by simp [hsl]) (by rw [q9c]; simp) (by simp [hsl]; omega) (fun j hj => by
      have hj : j < (qj5 es).length * 3 := by simpa using hj
      have hj3 : j % 3 < 3 := Nat.mod_lt _ (by omega)
      rw [hk _ j hj, getElem!_pos (qj5 es) (j / 3) (by omega)]
      refine ⟨?_, zjc _ hj3⟩
      rw [List.getD_eq_getElem?_getD, q9e _ j hj, ← List.getD_eq_getElem?_getD]
      exact (ze7 _ hj3).2 rfl) k os
     exact ⟨ι, by simp only [Rep, RepL]; exact ⟨[], rfl, rfl⟩, g1, g2⟩
   ·cases h
  ·cases h
 ·cases h
theorem qx5 {e : Ext} (he : qnl P e) {f fc : FuncId} (hf : SortECalls P f fc) (hn : SortENone P f) (hb : qjo P f = true) : qnl P (qgu f fc e) := by
 refine ⟨fun g args H r hr v H' hv ι w ARGS hH ha => ?_⟩
 unfold qgu at hr
 cases hg : Nat.beq g f with
 | false =>
  rw [hg] at hr
  exact he.fn g _ H r hr v H' hv ι w ARGS hH ha
 | true =>
  rw [hg] at hr
  obtain rfl := Nat.eq_of_beq_eq_true hg
  refine ⟨qm1 hb _, fun k => callsIn_wide.2 ?_⟩
  simp only [cond_true] at hr
  split at hr
  ·rename_i b o n m x c
   cases hc : Nat.beq c fc with
   | false => rw [hc] at hr; cases hr
   | true =>
    rw [hc] at hr
    obtain rfl := Nat.eq_of_beq_eq_true hc
    subst hv
    exact q64 hf hr hH ha
  ·rename_i c
   cases hc : Nat.beq c fc with
   | false => rw [hc] at hr; cases hr
   | true =>
    rw [hc] at hr
    cases hr
    cases hv
    simp only [RepL, Rep] at ha
    obtain ⟨V, r, rfl, rfl, V2, r2, rfl, ⟨_, _, rfl, rfl, rfl⟩, rfl⟩ := ha
    exact (hn none 0 _ w).mono fun e w' hp => by
     obtain ⟨rfl, rfl⟩ := hp
     exact ⟨ι, by simp [Rep, RepL], hH, Fr.refl _ _ _⟩
  ·cases hr
def YesN (P : Program) (f : FuncId) (s : Nat × Nat) : Prop := ∀ (V : Value) (ι : Im) (w : World), Rep ι (.str s.1 s.2) V → Calls P f #[V] w fun e w' => e = .returned (.bool true) ∧ Below w.heap.size w w'
def qqp (fs : List FuncId) (ns : List (Nat × Nat)) (e : Ext) : Ext := fun g args H =>
 bif fs.any (Nat.beq g) then (match args with
 | [.str n a] => bif ns.any (fun s => Nat.beq n s.1 && Nat.beq a s.2) then some (.ok (.bool true) H) else none
 | _ => none) else e g args H
theorem q2c {e : Ext} (he : qnl P e) {fs : List FuncId} {ns : List (Nat × Nat)} (h : ∀ f ∈ fs, ∀ s ∈ ns, YesN P f s) (hb : fs.all (qjo P) = true) : qnl P (qqp fs ns e) := by
 refine ⟨fun g args H r hr v H' hv ι w ARGS hH ha => ?_⟩
 unfold qqp at hr
 cases hg : fs.any (Nat.beq g) with
 | false =>
  rw [hg] at hr
  exact he.fn g _ H r hr v H' hv ι w ARGS hH ha
 | true =>
  rw [hg] at hr
  simp only [cond_true] at hr
  rw [List.any_eq_true] at hg
  obtain ⟨g', hgm, hge⟩ := hg
  obtain rfl := Nat.eq_of_beq_eq_true hge
  refine ⟨qm1 (List.all_eq_true.1 hb _ hgm) _, fun k => callsIn_wide.2 ?_⟩
  split at hr
  ·rename_i n a
   cases hs : ns.any (fun s => Nat.beq n s.1 && Nat.beq a s.2) with
   | false => rw [hs] at hr; cases hr
   | true =>
    rw [hs] at hr
    cases hr
    cases hv
    rw [List.any_eq_true] at hs
    obtain ⟨s, hsm, hse⟩ := hs
    rw [Bool.and_eq_true] at hse
    have e1 := Nat.eq_of_beq_eq_true hse.1
    have e2 := Nat.eq_of_beq_eq_true hse.2
    subst e1 e2
    simp only [RepL] at ha
    obtain ⟨V, r, rfl, hV, rfl⟩ := ha
    refine (h g hgm s hsm V ι w hV).mono fun e w' hp => ?_
    obtain ⟨rfl, hw⟩ := hp
    obtain ⟨k1, k2⟩ := hH.of_below hw
    exact ⟨ι, by simp [Rep], k1, k2⟩
  ·cases hr
theorem qxw (hm : P.follows .mixedOrders = true) {ext : Ext} (hE : qnl P ext) {k : Nat} {f : FuncId} {s : Nat × Nat} (h : qo5 (callF P ext k (.f f) [.str s.1 s.2] Hp.empty) = true) : YesN P f s := by
 intro V ι w hV
 unfold qo5 at h
 split at h
 ·rename_i b H' he
  subst h
  have := ((qku hm hE k).fn _ _ _ _ _ he (fun _ => none) w [V] HR.empty (by simp only [RepL]; exact ⟨V, [], rfl, by simpa only [Rep] using hV, rfl⟩)).2 0
  refine (callsIn_wide.1 this).mono fun e w' hp => ?_
  cases e with
  | returned V =>
   obtain ⟨ι', h1, h2, h3⟩ := hp
   simp only [Rep] at h1
   exact ⟨by rw [h1], h3.below _ (Nat.le_refl _) fun b l _ _ h => by cases h⟩
  | panicked => exact hp.elim
  | outgrown => exact hp.elim
 ·cases h
end Go.Ev
end
noncomputable section
namespace Go.Ev
open Go.RowKit Go.WideShapes Go.ChangeShapes Go.ChangeAt
variable {P : Program} {Hd : Type} {enc : TypeId × Value → Hd}
theorem qiu (hl : laidOutB P = true) {W W' : World} {sp : Nat → Bool} : ∀ {ts : List TypeId} {vs : List Value} {ds : List (DataW Hd)} {ps : List MemPlace}, (∀ t ∈ ts, P.readableRec t = true ∧ t < P.types.size) →
  DataW.TrodAll enc P W 0 (fun _ => true) true ts vs ds ps → (∀ p ∈ ps, W.sameAt W' p) → (∀ p ∈ ps, sp p.block = true) → DataW.TrodAll enc P W' 0 sp true ts vs ds ps
 | [], [], [], _, _, h, _, _ => h
 | _ :: _, _ :: _, _ :: _, _, hT, ⟨p, q, h1, h2, e⟩, hs, hb =>
  ⟨p, q, WideElems.Trod_stays hl (hT _ (List.mem_cons.2 (Or.inl rfl))).1 (hT _ (List.mem_cons.2 (Or.inl rfl))).2 h1 (fun x hx => hs x (by rw [e]; exact List.mem_append_left _ hx)) (fun x hx => hb x (by rw [e]; exact List.mem_append_left _ hx)),
   qiu hl (fun t ht => hT t (List.mem_cons.2 (Or.inr ht))) h2 (fun x hx => hs x (by rw [e]; exact List.mem_append_right _ hx)) (fun x hx => hb x (by rw [e]; exact List.mem_append_right _ hx)), e⟩
def zks (P : Program) (ts : List TypeId) : Bool := ts.all fun t => P.readableRec t && decide (t < P.types.size)
theorem zde (hl : laidOutB P = true) {f : Func} {s : ChangeSpec} {apart fresh handsOn again : Bool} {W W' : World} {args : Array Value} {ds gs : List (DataW Hd)} {before : List MemPlace} {tb : TypeId}
  (hW : DataW.Whole enc P f.params.toList s.vars apart W args.toList ds gs before) (hv : s.vars = []) (hr : zks P f.params.toList = true)
  (hfn : s.fn Hd ds = { results := [.lit (.bool true)], args := ds }) (hres : f.resultTypes = #[tb]) (htb : P.underlying tb = some .bool) (hb : Below W.heap.size W W') :
  s.post enc P f apart fresh handsOn again W args (.bool true) W' := by
 have hW' := hW
 obtain ⟨p, q, hA, hV, hq, _, _⟩ := hW
 rw [hv] at hV
 obtain ⟨rfl, rfl⟩ := trodVars_none hV
 have hread : ∀ t ∈ f.params.toList, P.readableRec t = true ∧ t < P.types.size := fun t ht => by
  have := List.all_eq_true.1 hr t ht
  simpa using this
 have hds : ds ++ [] = ds := List.append_nil ds
 refine q23 (pa := p) (pv := []) hW' (fun b sp hd => ?_) (fun sp hsp => ?_) (fun sp _ => ?_) hq hb ?_
 ·rw [hds, hfn, hres]
  exact trodAll_cons_mk (shut_bool htb _) trodAll_mk0
 ·rw [hds, hfn]
  have hlow := hW'.lt
  exact qiu hl hread hA (fun x hx => hb.same (hlow x (by rw [hq]; simpa using hx))) (fun x hx => hsp x (by rw [hq]; simpa using hx))
 ·rw [hds, hfn, hv]; rfl
 ·exact ok_one hres rfl (okWide_bool_mk htb _)
end Go.Ev
end
