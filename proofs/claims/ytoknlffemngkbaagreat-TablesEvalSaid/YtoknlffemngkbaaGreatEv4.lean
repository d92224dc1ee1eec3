/-
 For TablesEval: the evaluator and its soundness, part 4 of 4: what a run of the abstract evaluator answers, the model's run answers, in every world and on every schedule. No conditions beyond those that each theorem states.
-/
import Derived.Test.YtoknlffemngkbaaGreatEv1
import Derived.Test.YtoknlffemngkbaaGreatEv3
import Derived.WideKeyArgs
import Derived.Carry
import Derived.OpenShut
import Derived.ProofKit
import Derived.WalkKit
noncomputable section
namespace Go.Ev
def zaf (k : IntKind) : Nat := @IntKind.rec (fun _ => Nat) 0 1 2 3 4 5 6 7 k
def eqKF (a b : IntKind) : Bool := Nat.beq (zaf a) (zaf b)
theorem q7s (a b : IntKind) : eqKF a b = eqK a b := by cases a <;> cases b <;> rfl
def limF (k : IntKind) : Nat := @IntKind.rec (fun _ => Nat) 128 32768 2147483648 9223372036854775808 256 65536 4294967296 18446744073709551616 k
def sgnF (k : IntKind) : Bool := @IntKind.rec (fun _ => Bool) true true true true false false false false k
def qx2 (k : IntKind) (n : Int) : Int :=
 @Int.rec (fun _ => Int) (fun m => @Bool.rec (fun _ => Int) (k.wrap (.ofNat m)) (.ofNat m) (Nat.blt m (limF k))) (fun m => @Bool.rec (fun _ => Int) (k.wrap (.negSucc m)) (.negSucc m) (Bool.and (sgnF k) (Nat.blt m (limF k)))) n
theorem q2s (k : IntKind) (n : Int) : qx2 k n = qmo k n := by
 unfold qmo
 cases n with
 | ofNat m =>
  show @Bool.rec (fun _ => Int) _ _ (Nat.blt m (limF k)) = bif qt2 k (.ofNat m) then _ else _
  have : qt2 k (.ofNat m) = Nat.blt m (limF k) := by cases k <;> rfl
  rw [this]; cases Nat.blt m (limF k) <;> rfl
 | negSucc m =>
  show @Bool.rec (fun _ => Int) _ _ (Bool.and (sgnF k) (Nat.blt m (limF k))) = bif qt2 k (.negSucc m) then _ else _
  have : qt2 k (.negSucc m) = Bool.and (sgnF k) (Nat.blt m (limF k)) := by cases k <;> rfl
  rw [this]; cases Bool.and (sgnF k) (Nat.blt m (limF k)) <;> rfl
def addF (a b : Int) : Int :=
 @Int.rec (fun _ => Int) (fun m => @Int.rec (fun _ => Int) (fun n => Int.ofNat (Nat.add m n)) (fun n => Int.add (.ofNat m) (.negSucc n)) b) (fun m => Int.add (.negSucc m) b) a
theorem q8j (a b : Int) : addF a b = a + b := by cases a <;> cases b <;> rfl
def subF (a b : Int) : Int :=
 @Int.rec (fun _ => Int) (fun m => @Int.rec (fun _ => Int) (fun n => @Bool.rec (fun _ => Int) (Int.negSucc (Nat.pred (Nat.sub n m))) (Int.ofNat (Nat.sub m n)) (Nat.ble n m)) (fun n => Int.sub (.ofNat m) (.negSucc n)) b) (fun m => Int.sub (.negSucc m) b) a
theorem q6e (a b : Int) : subF a b = a - b := by
 cases a with
 | negSucc m => rfl
 | ofNat m =>
  cases b with
  | negSucc n => rfl
  | ofNat n =>
   show @Bool.rec (fun _ => Int) _ _ (Nat.ble n m) = _
   cases h : Nat.ble n m with
   | true =>
    have h := Nat.le_of_ble_eq_true h
    show Int.ofNat (m - n) = (m : Int) - (n : Int)
    exact Int.ofNat_sub h
   | false =>
    have h : ¬ n ≤ m := fun h' => by rw [Nat.ble_eq_true_of_le h'] at h; cases h
    show Int.negSucc (Nat.pred (n - m)) = (m : Int) - (n : Int)
    rw [Int.negSucc_eq]
    have : (Nat.pred (n - m) : Int) + 1 = (n : Int) - (m : Int) := by
     have h1 : Nat.pred (n - m) + 1 = n - m := Nat.succ_pred_eq_of_pos (by omega)
     omega
    omega
def mulF (a b : Int) : Int :=
 @Int.rec (fun _ => Int) (fun m => @Int.rec (fun _ => Int) (fun n => Int.ofNat (Nat.mul m n)) (fun n => Int.mul (.ofNat m) (.negSucc n)) b) (fun m => Int.mul (.negSucc m) b) a
theorem q68 (a b : Int) : mulF a b = a * b := by cases a <;> cases b <;> rfl
def ltF (a b : Int) : Bool :=
 @Int.rec (fun _ => Bool) (fun m => @Int.rec (fun _ => Bool) (fun n => Nat.blt m n) (fun _ => false) b) (fun m => @Int.rec (fun _ => Bool) (fun _ => true) (fun n => Nat.blt n m) b) a
theorem q97 (a b : Int) : ltF a b = ltI a b := by cases a <;> cases b <;> rfl
def eqIF (a b : Int) : Bool :=
 @Int.rec (fun _ => Bool) (fun m => @Int.rec (fun _ => Bool) (fun n => Nat.beq m n) (fun _ => false) b) (fun m => @Int.rec (fun _ => Bool) (fun _ => false) (fun n => Nat.beq n m) b) a
theorem q7t (a b : Int) : eqIF a b = eqI a b := by
 cases a with
 | ofNat m => cases b <;> rfl
 | negSucc m =>
  cases b with
  | ofNat n => rfl
  | negSucc n =>
   show Nat.beq n m = Nat.beq m n
   cases h : Nat.beq m n with
   | true => rw [Nat.eq_of_beq_eq_true h]; exact Nat.beq_refl n
   | false =>
    cases h' : Nat.beq n m with
    | false => rfl
    | true => rw [Nat.eq_of_beq_eq_true h', Nat.beq_refl] at h; cases h
def notF (b : Bool) : Bool :=
 @Bool.rec (fun _ => Bool) (true) (false) (b)
theorem q64 (b : Bool) : notF b = !b := by cases b <;> rfl
def qv9 : BinOp → B2
 | .add => ⟨fun k a b => .val (.int k (qx2 k (addF a b)))⟩
 | .sub => ⟨fun k a b => .val (.int k (qx2 k (subF a b)))⟩
 | .mul => ⟨fun k a b => .val (.int k (qx2 k (mulF a b)))⟩
 | .eql => ⟨fun _ a b => .val (.bool (eqIF a b))⟩
 | .neq => ⟨fun _ a b => .val (.bool (notF (eqIF a b)))⟩
 | .lss => ⟨fun _ a b => .val (.bool (ltF a b))⟩
 | .leq => ⟨fun _ a b => .val (.bool (notF (ltF b a)))⟩
 | .gtr => ⟨fun _ a b => .val (.bool (ltF b a))⟩
 | .geq => ⟨fun _ a b => .val (.bool (notF (ltF a b)))⟩
 | op => qad op
theorem qyz (op : BinOp) : qv9 op = qad op := by
 cases op <;> simp only [qv9, qad, q2s, q8j, q6e, q68, q7t, q97, q64]
def q7f (g : IntKind → Int → Int → R0) (x y : AV) : R0 :=
 @AV.rec (fun _ => R0) (fun _ => PUnit) R0.bad (fun _ => R0.bad) (fun _ => R0.bad) (fun k a => @AV.rec (fun _ => R0) (fun _ => PUnit) R0.bad (fun _ => R0.bad) (fun _ => R0.bad) (fun k' b => @Bool.rec (fun _ => R0) (R0.bad) (g k a b) (eqKF k k')) (fun _ _ => R0.bad) (fun _ _ => R0.bad) R0.bad (fun _ _ _ _ _ => R0.bad) R0.bad R0.bad (fun _ => R0.bad) R0.bad (fun _ _ _ _ _ => R0.bad) (fun _ => R0.bad) R0.bad (fun _ _ _ => R0.bad) R0.bad (fun _ _ => R0.bad) (fun _ _ => R0.bad) PUnit.unit (fun _ _ _ _ => PUnit.unit) y) (fun _ _ => R0.bad) (fun _ _ => R0.bad) R0.bad (fun _ _ _ _ _ => R0.bad) R0.bad R0.bad (fun _ => R0.bad) R0.bad (fun _ _ _ _ _ => R0.bad) (fun _ => R0.bad) R0.bad (fun _ _ _ => R0.bad) R0.bad (fun _ _ => R0.bad) (fun _ _ => R0.bad) PUnit.unit (fun _ _ _ _ => PUnit.unit) x
theorem q39 : q7f = intV := by
 funext g x y
 cases x <;> first | rfl | (cases y <;> first | rfl | (simp only [q7f, q7s, intV]; generalize eqK _ _ = e; cases e <;> rfl))
def q81 (g : Nat → Nat → Nat → Nat → R0) (x y : AV) : R0 :=
 @AV.rec (fun _ => R0) (fun _ => PUnit) R0.bad (fun _ => R0.bad) (fun _ => R0.bad) (fun _ _ => R0.bad) (fun n a => @AV.rec (fun _ => R0) (fun _ => PUnit) R0.bad (fun _ => R0.bad) (fun _ => R0.bad) (fun _ _ => R0.bad) (fun m b => g n a m b) (fun _ _ => R0.bad) R0.bad (fun _ _ _ _ _ => R0.bad) R0.bad R0.bad (fun _ => R0.bad) R0.bad (fun _ _ _ _ _ => R0.bad) (fun _ => R0.bad) R0.bad (fun _ _ _ => R0.bad) R0.bad (fun _ _ => R0.bad) (fun _ _ => R0.bad) PUnit.unit (fun _ _ _ _ => PUnit.unit) y) (fun _ _ => R0.bad) R0.bad (fun _ _ _ _ _ => R0.bad) R0.bad R0.bad (fun _ => R0.bad) R0.bad (fun _ _ _ _ _ => R0.bad) (fun _ => R0.bad) R0.bad (fun _ _ _ => R0.bad) R0.bad (fun _ _ => R0.bad) (fun _ _ => R0.bad) PUnit.unit (fun _ _ _ _ => PUnit.unit) x
theorem q26 : q81 = strV := by funext g x y; cases x <;> first | rfl | (cases y <;> rfl)
def q5l (c a b : AV) : R0 :=
 @AV.rec (fun _ => R0) (fun _ => PUnit) R0.bad (fun _ => R0.bad) (fun x => @Bool.rec (fun _ => R0) (.val b) (.val a) (x)) (fun _ _ => R0.bad) (fun _ _ => R0.bad) (fun _ _ => R0.bad) R0.bad (fun _ _ _ _ _ => R0.bad) R0.bad R0.bad (fun _ => R0.bad) R0.bad (fun _ _ _ _ _ => R0.bad) (fun _ => R0.bad) R0.bad (fun _ _ _ => R0.bad) R0.bad (fun _ _ => R0.bad) (fun _ _ => R0.bad) PUnit.unit (fun _ _ _ _ => PUnit.unit) c
theorem q0y : q5l = qd2 := by funext c a b; cases c <;> first | rfl | (rename_i x; cases x <;> rfl)
def binF (P : Program) (op : BinOp) (t : TypeId) : V2 :=
 match P.underlying t with
 | some (.int _) =>
  match op with
  | .shl | .shr => binS P op t
  | _ => match qv9 op with | ⟨g⟩ => ⟨q7f g⟩
 | some .string => match qh3 op with | ⟨g⟩ => ⟨q81 g⟩
 | _ => binS P op t
theorem q8g (P : Program) (op : BinOp) (t : TypeId) : binF P op t = binS P op t := by
 unfold binF
 split
 ·rename_i h
  split
  ·rfl
  ·rfl
  ·rw [qyz, q39]
   unfold binS; rw [h]
   cases op <;> simp_all
 ·rename_i h
  rw [q26]; unfold binS; rw [h]
 ·rfl
def q1g (H : Hp) (a : AV) : R0 :=
 @AV.rec (fun _ => R0) (fun _ => PUnit) R0.bad (fun _ => R0.bad) (fun _ => R0.bad) (fun _ _ => R0.bad) (fun _ _ => R0.bad) (fun b o => @Blk.rec (fun _ => R0) R0.bad (fun d n c _ _ => @Bool.rec (fun _ => R0) (R0.bad) (.val ((qap d o).f c)) (Nat.blt o n)) (fun _ _ => R0.bad) (fun _ _ _ => R0.bad) (fun _ _ _ _ _ _ _ _ => R0.bad) (H.get b)) R0.bad (fun _ _ _ _ _ => R0.bad) R0.bad R0.bad (fun _ => R0.bad) R0.bad (fun _ _ _ _ _ => R0.bad) (fun _ => R0.bad) R0.bad (fun _ _ _ => R0.bad) R0.bad (fun _ _ => R0.bad) (fun _ _ => R0.bad) PUnit.unit (fun _ _ _ _ => PUnit.unit) a
theorem q1f : q1g = qao := by
 funext H a
 cases a <;> first | rfl | skip
 rename_i b o
 show _ = qbt (H.get b) o
 unfold q1g
 simp only
 generalize H.get b = k
 cases k <;> first | rfl | skip
 rename_i d n c ro z
 show @Bool.rec (fun _ => R0) _ _ (Nat.blt o n) = bif Nat.blt o n then _ else _
 cases Nat.blt o n <;> rfl
def q1d (k : Nat) (H : Hp) (a : AV) : R0 :=
 @AV.rec (fun _ => R0) (fun _ => PUnit) R0.bad (fun _ => R0.bad) (fun _ => R0.bad) (fun _ _ => R0.bad) (fun _ _ => R0.bad) (fun b o => @Blk.rec (fun _ => R0) R0.bad (fun _ n c _ _ => @Bool.rec (fun _ => R0) (R0.bad) (.val (.agg (rdN c k o))) (Nat.ble (Nat.add o k) n)) (fun _ _ => R0.bad) (fun _ _ _ => R0.bad) (fun _ _ _ _ _ _ _ _ => R0.bad) (H.get b)) R0.bad (fun _ _ _ _ _ => R0.bad) R0.bad R0.bad (fun _ => R0.bad) R0.bad (fun _ _ _ _ _ => R0.bad) (fun _ => R0.bad) R0.bad (fun _ _ _ => R0.bad) R0.bad (fun _ _ => R0.bad) (fun _ _ => R0.bad) PUnit.unit (fun _ _ _ _ => PUnit.unit) a
theorem q1c : q1d = qa7 := by
 funext k H a
 cases a <;> first | rfl | skip
 rename_i b o
 show _ = aggR (qd6 (H.get b) o k)
 unfold q1d
 simp only
 generalize H.get b = B
 cases B <;> first | rfl | skip
 rename_i d n c ro z
 show @Bool.rec (fun _ => R0) _ _ (Nat.ble (Nat.add o k) n) = aggR (bif Nat.ble (o + k) n then _ else _)
 rw [show Nat.add o k = o + k from rfl]
 cases Nat.ble (o + k) n <;> rfl
def oneF (x : AV) : Bool :=
 @AV.rec (fun _ => Bool) (fun _ => PUnit) (false) (fun _ => false) (fun _ => true) (fun _ _ => true) (fun _ _ => true) (fun _ _ => true) true (fun _ _ _ _ _ => true) true true (fun _ => true) true (fun _ _ _ _ _ => true) (fun _ => true) true (fun _ _ _ => true) true (fun _ _ => false) (fun _ _ => false) PUnit.unit (fun _ _ _ _ => PUnit.unit) x
def st1F (H : Hp) (b o : Nat) (v : AV) : R1 :=
 @Blk.rec (fun _ => R1) R1.bad (fun d n c ro z => @Bool.rec (fun _ => R1) (@Bool.rec (fun _ => R1) (R1.bad) (.ok .undef (H.put b (.cells d n ((setter d o).f c v) false z))) (Nat.blt o n)) (R1.bad) (ro)) (fun _ _ => R1.bad) (fun _ _ _ => R1.bad) (fun _ _ _ _ _ _ _ _ => R1.bad) (H.get b)
theorem q6g (H : Hp) (b o : Nat) (v : AV) : st1F H b o v = storeAt H b o [v] .undef := by
 unfold st1F storeAt
 generalize H.get b = k
 cases k <;> first | rfl | skip
 rename_i d n c ro z
 cases ro with
 | true => rfl
 | false =>
  show @Bool.rec (fun _ => R1) _ _ (Nat.blt o n) = _
  have : qzs (.cells d n c false z) o [v] = bif Nat.blt o n then some (.cells d n ((setter d o).f c v) false z) else none := rfl
  rw [this]
  cases Nat.blt o n <;> rfl
def qz3 (H : Hp) (a x : AV) : R1 :=
 @AV.rec (fun _ => R1) (fun _ => PUnit) R1.bad (fun _ => R1.bad) (fun _ => R1.bad) (fun _ _ => R1.bad) (fun _ _ => R1.bad) (fun b o => @Bool.rec (fun _ => R1) (R1.bad) (st1F H b o x) (oneF x)) R1.bad (fun _ _ _ _ _ => R1.bad) R1.bad R1.bad (fun _ => R1.bad) R1.bad (fun _ _ _ _ _ => R1.bad) (fun _ => R1.bad) R1.bad (fun _ _ _ => R1.bad) R1.bad (fun _ _ => R1.bad) (fun _ _ => R1.bad) PUnit.unit (fun _ _ _ _ => PUnit.unit) a
theorem qye : qz3 = qcr := by
 funext H a x
 cases a <;> first | rfl | skip
 rename_i b o
 show @Bool.rec (fun _ => R1) _ (st1F H b o x) (oneF x) = _
 rw [q6g]
 cases x <;> rfl
def q1w (off : Nat) (x : AV) : R0 :=
 @AV.rec (fun _ => R0) (fun _ => PUnit) R0.bad (fun _ => R0.bad) (fun _ => R0.bad) (fun _ _ => R0.bad) (fun _ _ => R0.bad) (fun b o => .val (.ptr b (Nat.add o off))) R0.bad (fun _ _ _ _ _ => R0.bad) R0.bad R0.bad (fun _ => R0.bad) R0.bad (fun _ _ _ _ _ => R0.bad) (fun _ => R0.bad) R0.bad (fun _ _ _ => R0.bad) R0.bad (fun _ _ => R0.bad) (fun _ _ => R0.bad) PUnit.unit (fun _ _ _ _ => PUnit.unit) x
theorem qy2 : q1w = qaj := by funext off x; cases x <;> rfl
def q1v (p : P1) (off : Nat) (x : AV) : R0 :=
 @AV.rec (fun _ => R0) (fun _ => PUnit) R0.bad (fun _ => R0.bad) (fun _ => R0.bad) (fun _ _ => R0.bad) (fun _ _ => R0.bad) (fun _ _ => R0.bad) R0.bad (fun _ _ _ _ _ => R0.bad) R0.bad R0.bad (fun _ => R0.bad) R0.bad (fun _ _ _ _ _ => R0.bad) (fun _ => R0.bad) R0.bad (fun _ _ _ => R0.bad) R0.bad (fun l _ => @Option.rec AV (fun _ => R0) R0.bad (fun v => .val v) (p.f l off)) (fun _ _ => R0.bad) PUnit.unit (fun _ _ _ _ => PUnit.unit) x
theorem qy1 : q1v = qxu := by
 funext p off x
 cases x <;> first | rfl | skip
 rename_i l
 show @Option.rec AV (fun _ => R0) _ _ (p.f l off) = match p.f l off with | some v => .val v | none => .bad
 cases p.f l off <;> rfl
def zai (z : Nat) (x i : AV) : R0 :=
 @AV.rec (fun _ => R0) (fun _ => PUnit) R0.bad (fun _ => R0.bad) (fun _ => R0.bad) (fun _ _ => R0.bad) (fun _ _ => R0.bad) (fun _ _ => R0.bad) R0.bad (fun b o len _ _ => @AV.rec (fun _ => R0) (fun _ => PUnit) R0.bad (fun _ => R0.bad) (fun _ => R0.bad) (fun _ i => @Int.rec (fun _ => R0) (fun i => @Bool.rec (fun _ => R0) (R0.bad) (.val (.ptr b (Nat.add o (Nat.mul i z)))) (Nat.blt i len)) (fun _ => R0.bad) i) (fun _ _ => R0.bad) (fun _ _ => R0.bad) R0.bad (fun _ _ _ _ _ => R0.bad) R0.bad R0.bad (fun _ => R0.bad) R0.bad (fun _ _ _ _ _ => R0.bad) (fun _ => R0.bad) R0.bad (fun _ _ _ => R0.bad) R0.bad (fun _ _ => R0.bad) (fun _ _ => R0.bad) PUnit.unit (fun _ _ _ _ => PUnit.unit) i) R0.bad R0.bad (fun _ => R0.bad) R0.bad (fun _ _ _ _ _ => R0.bad) (fun _ => R0.bad) R0.bad (fun _ _ _ => R0.bad) R0.bad (fun _ _ => R0.bad) (fun _ _ => R0.bad) PUnit.unit (fun _ _ _ _ => PUnit.unit) x
theorem q4b : zai = idxS := by
 funext z x i
 cases x <;> first | rfl | skip
 rename_i b o len cap ex
 cases i <;> first | rfl | skip
 rename_i k n
 cases n <;> first | rfl | skip
 rename_i i
 show @Bool.rec (fun _ => R0) _ _ (Nat.blt i len) = bif Nat.blt i len then _ else _
 cases Nat.blt i len <;> rfl
def q1p (x i : AV) : R0 :=
 @AV.rec (fun _ => R0) (fun _ => PUnit) R0.bad (fun _ => R0.bad) (fun _ => R0.bad) (fun _ _ => R0.bad) (fun n a => @AV.rec (fun _ => R0) (fun _ => PUnit) R0.bad (fun _ => R0.bad) (fun _ => R0.bad) (fun _ i => @Int.rec (fun _ => R0) (fun i => @Bool.rec (fun _ => R0) (R0.bad) (.val (.int .u8 (.ofNat (qse a i)))) (Nat.blt i n)) (fun _ => R0.bad) i) (fun _ _ => R0.bad) (fun _ _ => R0.bad) R0.bad (fun _ _ _ _ _ => R0.bad) R0.bad R0.bad (fun _ => R0.bad) R0.bad (fun _ _ _ _ _ => R0.bad) (fun _ => R0.bad) R0.bad (fun _ _ _ => R0.bad) R0.bad (fun _ _ => R0.bad) (fun _ _ => R0.bad) PUnit.unit (fun _ _ _ _ => PUnit.unit) i) (fun _ _ => R0.bad) R0.bad (fun _ _ _ _ _ => R0.bad) R0.bad R0.bad (fun _ => R0.bad) R0.bad (fun _ _ _ _ _ => R0.bad) (fun _ => R0.bad) R0.bad (fun _ _ _ => R0.bad) R0.bad (fun _ _ => R0.bad) (fun _ _ => R0.bad) PUnit.unit (fun _ _ _ _ => PUnit.unit) x
theorem qy0 : q1p = qxm := by
 funext x i
 cases x <;> first | rfl | skip
 rename_i n a
 cases i <;> first | rfl | skip
 rename_i k m
 cases m <;> first | rfl | skip
 rename_i i
 show @Bool.rec (fun _ => R0) _ _ (Nat.blt i n) = bif Nat.blt i n then _ else _
 cases Nat.blt i n <;> rfl
def zab (x : AV) : R0 :=
 @AV.rec (fun _ => R0) (fun _ => PUnit) R0.bad (fun _ => R0.bad) (fun _ => R0.bad) (fun _ _ => R0.bad) (fun n _ => .val (i64 n)) (fun _ _ => R0.bad) R0.bad (fun _ _ _ _ _ => R0.bad) R0.bad R0.bad (fun _ => R0.bad) R0.bad (fun _ _ _ _ _ => R0.bad) (fun _ => R0.bad) R0.bad (fun _ _ _ => R0.bad) R0.bad (fun _ _ => R0.bad) (fun _ _ => R0.bad) PUnit.unit (fun _ _ _ _ => PUnit.unit) x
theorem q36 : zab = lenS := by funext x; cases x <;> rfl
def q5q (x : AV) : R0 :=
 @AV.rec (fun _ => R0) (fun _ => PUnit) R0.bad (fun _ => R0.bad) (fun _ => R0.bad) (fun _ _ => R0.bad) (fun _ _ => R0.bad) (fun _ _ => R0.bad) R0.bad (fun _ _ n _ _ => .val (i64 n)) (.val (i64 0)) (.val (i64 0)) (fun _ => R0.bad) R0.bad (fun _ _ _ _ _ => R0.bad) (fun _ => R0.bad) R0.bad (fun _ _ _ => R0.bad) R0.bad (fun _ _ => R0.bad) (fun _ _ => R0.bad) PUnit.unit (fun _ _ _ _ => PUnit.unit) x
theorem q1j : q5q = lenSl := by funext x; cases x <;> rfl
def nilF (x : AV) : R0 :=
 @AV.rec (fun _ => R0) (fun _ => PUnit) R0.bad (fun _ => R0.bad) (fun _ => R0.bad) (fun _ _ => R0.bad) (fun _ _ => R0.bad) (fun b o => .val (.ptr b o)) R0.bad (fun _ _ _ _ _ => R0.bad) R0.bad R0.bad (fun _ => R0.bad) R0.bad (fun a b c _ _ => .val (.fn a b c)) (fun l => .val (.yield l)) R0.bad (fun _ _ _ => R0.bad) R0.bad (fun _ _ => R0.bad) (fun _ _ => R0.bad) PUnit.unit (fun _ _ _ _ => PUnit.unit) x
theorem q66 (x : AV) : nilF x = (match x with | .ptr b o => .val (.ptr b o) | .fn a b c => .val (.fn a b c) | .yield l => .val (.yield l) | _ => .bad) := by cases x <;> rfl
def extF (i : Nat) (x : AV) : R0 :=
 @AV.rec (fun _ => R0) (fun _ => PUnit) R0.bad (fun _ => R0.bad) (fun _ => R0.bad) (fun _ _ => R0.bad) (fun _ _ => R0.bad) (fun _ _ => R0.bad) R0.bad (fun _ _ _ _ _ => R0.bad) R0.bad R0.bad (fun _ => R0.bad) R0.bad (fun _ _ _ _ _ => R0.bad) (fun _ => R0.bad) R0.bad (fun _ _ _ => R0.bad) R0.bad (fun _ _ => R0.bad) (fun l _ => @Option.rec AV (fun _ => R0) R0.bad (fun v => .val v) l[i]?) PUnit.unit (fun _ _ _ _ => PUnit.unit) x
theorem q7o (i : Nat) (x : AV) : extF i x = (match x with | .tup l => (match l[i]? with | some v => .val v | none => .bad) | _ => .bad) := by
 cases x <;> first | rfl | skip
 rename_i l
 show @Option.rec AV (fun _ => R0) _ _ l[i]? = match l[i]? with | some v => .val v | none => .bad
 cases l[i]? <;> rfl
def za8 (nm : Nat) (x : AV) : R0 :=
 @Bool.rec (fun _ => R0) (R0.bad) (.new (.ptr nm 0) (.cells 1 1 (Q.mk x .undef .undef .undef .undef .undef .undef .undef : Q AV) false 0)) (oneF x)
theorem q43 : za8 = box1 := by funext nm x; cases x <;> rfl
def opF (P : Program) (d n : Nat) (o : Oper) : OpS d :=
 match o.op with
 | .pick c a b => match opnd d n c, opnd d n a, opnd d n b with | ⟨gc⟩, ⟨ga⟩, ⟨gb⟩ => .q false fun _ L _ => q5l (gc L) (ga L) (gb L)
 | .box t x => match qfo P t, qcl P t, opnd d n x with
  | some true, some k, ⟨g⟩ => .q false fun nm L _ => boxA k nm (g L)
  | some false, some _, ⟨g⟩ => .q false fun nm L _ => za8 nm (g L)
  | _, _, _ => qbm d
 | .load t a => match qfo P t, qcl P t, opnd d n a with
  | some true, some k, ⟨g⟩ => .q true fun _ L H => q1d k H (g L)
  | some false, some _, ⟨g⟩ => .q true fun _ L H => q1g H (g L)
  | _, _, _ => qbm d
 | .store t a x => match qfo P t, qcl P t, opnd d n a, opnd d n x with
  | some true, some k, ⟨g⟩, ⟨h⟩ => .e fun _ L H => qb5 k H (g L) (h L)
  | some false, some 1, ⟨g⟩, ⟨h⟩ => .e fun _ L H => qz3 H (g L) (h L)
  | _, _, _, _ => qbm d
 | .nilCheck x => match opnd d n x with | ⟨g⟩ => .q false fun _ L _ => nilF (g L)
 | .binOp op t x y _ => match binF P op t, opnd d n x, opnd d n y with
  | ⟨e⟩, ⟨g⟩, ⟨h⟩ => .q false fun _ L _ => e (g L) (h L)
 | .fieldAddr s x f => match P.underlying s, opnd d n x with
  | some (.struct fs), ⟨g⟩ => match fs[f]? with
   | some fl => match qcl P fl.type with
    | some (_ + 1) => .q false fun _ L _ => q1w fl.offset (g L)
    | _ => qbm d
   | none => qbm d
  | _, _ => qbm d
 | .field t x f => match P.underlying t, opnd d n x with
  | some (.struct fs), ⟨g⟩ => match fs[f]? with
   | some fl => match qpi P fl.type with | p => .q false fun _ L _ => q1v p fl.offset (g L)
   | none => qbm d
  | _, _ => qbm d
 | .indexAddr t x i => match P.underlying t, opnd d n x, opnd d n i with
  | some (.slice e), ⟨g⟩, ⟨h⟩ => match qcl P e with
   | some z => .q false fun _ L _ => zai z (g L) (h L)
   | none => qbm d
  | _, _, _ => opS P d n o
 | .index t x i => match P.underlying t, opnd d n x, opnd d n i with
  | some .string, ⟨g⟩, ⟨h⟩ => .q false fun _ L _ => q1p (g L) (h L)
  | _, _, _ => opS P d n o
 | .extract x i => match opnd d n x with | ⟨g⟩ => .q false fun _ L _ => extF i (g L)
 | .call { callee := .builtin .len, args, argTypes } => match args.toList, argTypes.toList with
  | [x], [t] => match P.underlying t with
   | some .string => match opnd d n x with | ⟨g⟩ => .q false fun _ L _ => zab (g L)
   | some (.slice _) => match opnd d n x with | ⟨g⟩ => .q false fun _ L _ => q5q (g L)
   | _ => opS P d n o
  | _, _ => opS P d n o
 | _ => opS P d n o
theorem q9u (P : Program) (d n : Nat) (o : Oper) : opF P d n o = opS P d n o := by
 unfold opF
 split
 ·rename_i h; simp only [opS, h, q6j, q0y]
 ·rename_i h; simp only [opS, h, sBox, q43]; rfl
 ·rename_i h; simp only [opS, h, q0i, q1f, q1c]; rfl
 ·rename_i h; simp only [opS, h, quh, qye]; rfl
 ·rename_i h; simp only [opS, h, qq8, q66]; rfl
 ·rename_i h; simp only [opS, h, q0j, q8g]
 ·rename_i h; simp only [opS, h, qmi, qy2]; rfl
 ·rename_i h; simp only [opS, h, quk, qy1]; rfl
 ·rename_i h
  simp only [opS, h, q4b]
  unfold qmh
  split <;> simp_all <;> rfl
 ·rename_i h
  simp only [opS, h, qy0]
  unfold quj
  split <;> simp_all
 ·rename_i h; simp only [opS, h, qtj, q7o]; rfl
 ·rename_i args types h
  split
  ·rename_i x t h1 h2
   split
   ·rename_i h3; simp only [opS, h, qld, h1, h2, lenB, h3, q36]
   ·rename_i h3; simp only [opS, h, qld, h1, h2, lenB, h3, q1j]
   ·rfl
  ·rfl
 ·rfl
def doQF {d : Nat} (put : TT AV d → AV → TT AV d) (L : TT AV d) (H : Hp) (r : R0) : Rs d :=
 @R0.rec (fun _ => Rs d) .bad (fun v => .ok (put L v) H) (fun v b => .ok (put L v) (qaq H b)) r
theorem q73 {d : Nat} : @doQF d = doQ := by
 funext put L H r
 cases r <;> rfl
def doEF {d : Nat} (put : TT AV d → AV → TT AV d) (L : TT AV d) (r : R1) : Rs d :=
 @R1.rec (fun _ => Rs d) .bad (fun v H => .ok (put L v) H) r
theorem q74 {d : Nat} : @doEF d = doE := by funext put L r; cases r <;> rfl
def q50 {d : Nat} (r : Rs d) (k : TT AV d → Hp → Rs d) : Rs d :=
 @Rs.rec d (fun _ => Rs d) .bad k r
theorem q2q {d : Nat} : @q50 d = qzl := by funext r k; cases r <;> rfl
def q1q {d : Nat} (want : Bool) (x : AV) (a b : Rs d) : Rs d :=
 @AV.rec (fun _ => Rs d) (fun _ => PUnit) (b) (fun _ => .bad) (fun v => @Bool.rec (fun _ => Rs d) (@Bool.rec (fun _ => Rs d) (a) (b) (want)) (@Bool.rec (fun _ => Rs d) (b) (a) (want)) (v)) (fun _ _ => .bad) (fun _ _ => .bad) (fun _ _ => .bad) .bad (fun _ _ _ _ _ => .bad) .bad .bad (fun _ => .bad) .bad (fun _ _ _ _ _ => .bad) (fun _ => .bad) .bad (fun _ _ _ => .bad) .bad (fun _ _ => .bad) (fun _ _ => .bad) PUnit.unit (fun _ _ _ _ => PUnit.unit) x
theorem qu7 {d : Nat} (want : Bool) (x : AV) (a b : Rs d) : q1q want x a b = ifW (match x with | .bool b => some (b == want) | .undef => some false | _ => none) a b := by
 cases x <;> first | rfl | skip
 rename_i v
 cases v <;> cases want <;> rfl
def q6f (P : Program) (d n : Nat) (ops : Array Oper) (o : Oper) : St d :=
 match opF P d n o, o.guard, putS d n o.dst with
 | .q _ f, none, ⟨put⟩ => ⟨fun _ L H => doQF put L H (f H.nx L H)⟩
 | .e f, none, ⟨put⟩ => ⟨fun call L H => doEF put L (f call L H)⟩
 | .q _ f, some (j, want), ⟨put⟩ => match (ops[j]?).bind (·.dst) with
  | some t => bif Nat.blt t n then (match qap (α := AV) d t with | ⟨g⟩ => ⟨fun _ L H => q1q want (g L) (doQF put L H (f H.nx L H)) (.ok (put L .undef) H)⟩) else qok P d n ops o
  | none => qok P d n ops o
 | .e f, some (j, want), ⟨put⟩ => match (ops[j]?).bind (·.dst) with
  | some t => bif Nat.blt t n then (match qap (α := AV) d t with | ⟨g⟩ => ⟨fun call L H => q1q want (g L) (doEF put L (f call L H)) (.ok (put L .undef) H)⟩) else qok P d n ops o
  | none => qok P d n ops o
theorem q29 (P : Program) (d n : Nat) (ops : Array Oper) (o : Oper) : q6f P d n ops o = qok P d n ops o := by
 unfold q6f
 rw [q9u, q73, q74]
 split
 ·rename_i f put h1 h2 h3; unfold qok; rw [h1, h2, h3]
 ·rename_i f put h1 h2 h3; unfold qok; rw [h1, h2, h3]
 ·rename_i f j want put h1 h2 h3
  split
  ·rename_i t ht
   cases hb : Nat.blt t n with
   | false => rfl
   | true =>
    simp only [cond_true]
    unfold qok qlf
    rw [h1, h2, h3]
    simp only [ht, hb, cond_true, qu7]
    rfl
  ·rfl
 ·rename_i f j want put h1 h2 h3
  split
  ·rename_i t ht
   cases hb : Nat.blt t n with
   | false => rfl
   | true =>
    simp only [cond_true]
    unfold qok qlf
    rw [h1, h2, h3]
    simp only [ht, hb, cond_true, qu7]
    rfl
  ·rfl
def qwv (P : Program) (d n : Nat) (ops : Array Oper) (o : Oper) : St d :=
 match dfOf o with
 | none => q6f P d n ops o
 | some _ => qpd P d n ops o
theorem qua (P : Program) (d n : Nat) (ops : Array Oper) (o : Oper) : qwv P d n ops o = qpd P d n ops o := by
 unfold qwv
 split
 ·rename_i h; rw [q29]; unfold qpd; rw [h]
 ·rfl
def opsF (P : Program) (d n : Nat) (ops : Array Oper) : List Oper → St d
 | [] => ⟨fun _ L H => .ok L H⟩
 | [o] => qwv P d n ops o
 | o :: r => ⟨fun call L H => q50 ((qwv P d n ops o).f call L H) ((opsF P d n ops r).f call)⟩
theorem qv5 (P : Program) (d n : Nat) (ops : Array Oper) : ∀ l, opsF P d n ops l = opsS P d n ops l
 | [] => rfl
 | [o] => by
  simp only [opsF, opsS, qua]
  generalize qpd P d n ops o = s
  cases s with
  | mk f =>
   congr 1
   funext call L H
   show f call L H = qzl (f call L H) fun L H => .ok L H
   cases f call L H <;> rfl
 | o :: o' :: r => by
  simp only [opsF, q2q, qua]
  rw [qv5 P d n ops (o' :: r)]
  rfl
def q62 {d : Nat} (r : Rs d) : Rc d :=
 @Rs.rec d (fun _ => Rc d) .bad (fun L H => .ok .normal L H) r
theorem qxi {d : Nat} : @q62 d = ofRs := by funext r; cases r <;> rfl
def q6h {d : Nat} (r : Rs d) (k : TT AV d → Hp → Rc d) : Rc d :=
 @Rs.rec d (fun _ => Rc d) .bad k r
theorem qwz {d : Nat} (r : Rs d) (k : TT AV d → Hp → Rc d) : q6h r k = seqC (ofRs r) k := by cases r <;> rfl
def q3f {d : Nat} (r : Rc d) (k : TT AV d → Hp → Rc d) : Rc d :=
 @Rc.rec d (fun _ => Rc d) .bad (fun e L H => @Ex.rec (fun _ => Rc d) (k L H) (fun id => .ok (.exit id) L H) (fun l => .ok (.goto l) L H) (.ok .ret L H) e) r
theorem qgj {d : Nat} : @q3f d = seqC := by funext r k; cases r <;> first | rfl | (rename_i e L H; cases e <;> rfl)
def q2n {d : Nat} (id : Nat) (r : Rc d) : Rc d :=
 @Rc.rec d (fun _ => Rc d) .bad (fun e L H => @Ex.rec (fun _ => Rc d) (.ok .normal L H) (fun id' => @Bool.rec (fun _ => Rc d) (.ok (.exit id') L H) (.ok .normal L H) (Nat.beq id' id)) (fun l => .ok (.goto l) L H) (.ok .ret L H) e) r
theorem qzk {d : Nat} : @q2n d = qs7 := by
 funext id r
 cases r <;> first | rfl | skip
 rename_i e L H
 cases e <;> first | rfl | skip
 rename_i id'
 show @Bool.rec (fun _ => Rc d) _ _ (Nat.beq id' id) = bif Nat.beq id' id then _ else _
 cases Nat.beq id' id <;> rfl
def q5x {d : Nat} (c : AV) (a b : Rc d) : Rc d :=
 @AV.rec (fun _ => Rc d) (fun _ => PUnit) .bad (fun _ => .bad) (fun x => @Bool.rec (fun _ => Rc d) (b) (a) (x)) (fun _ _ => .bad) (fun _ _ => .bad) (fun _ _ => .bad) .bad (fun _ _ _ _ _ => .bad) .bad .bad (fun _ => .bad) .bad (fun _ _ _ _ _ => .bad) (fun _ => .bad) .bad (fun _ _ _ => .bad) .bad (fun _ _ => .bad) (fun _ _ => .bad) PUnit.unit (fun _ _ _ _ => PUnit.unit) c
theorem q2f {d : Nat} : @q5x d = condC := by funext c a b; cases c <;> first | rfl | (rename_i x; cases x <;> rfl)
def q1a {d : Nat} (b : TT AV d → Hp → Rc d) (n : Nat) : TT AV d → Hp → Rc d :=
 Nat.rec (motive := fun _ => TT AV d → Hp → Rc d) (fun _ _ => .bad) (fun _ ih L H => q3f (b L H) ih) n
theorem q09 {d : Nat} : @q1a d = qsk := by
 funext b n
 induction n with
 | zero => rfl
 | succ n ih =>
  funext L H
  show q3f (b L H) (q1a b n) = seqC (b L H) (qsk b n)
  rw [qgj, ih]
def denF (P : Program) (d n : Nat) : Code → Dn d
 | .skip | .label _ => ⟨fun _ L H => .ok .normal L H⟩
 | .region _ ops false => match opsF P d n ops ops.toList with | ⟨g⟩ => ⟨fun call L H => q62 (g call L H)⟩
 | .region _ ops true => match qqw P d n ops with | ⟨g⟩ => ⟨fun call L H => q62 (g call L H)⟩
 | .seq (.region _ ops false) b => match opsF P d n ops ops.toList with | ⟨g⟩ => ⟨fun call L H => q6h (g call L H) ((denF P d n b).f call)⟩
 | .seq (.region _ ops true) b => match qqw P d n ops with | ⟨g⟩ => ⟨fun call L H => q6h (g call L H) ((denF P d n b).f call)⟩
 | .seq a b => ⟨fun call L H => q3f ((denF P d n a).f call L H) ((denF P d n b).f call)⟩
 | .cond x a b => match opnd d n x with | ⟨g⟩ => ⟨fun call L H => q5x (g L) ((denF P d n a).f call L H) ((denF P d n b).f call L H)⟩
 | .block id b => ⟨fun call L H => q2n id ((denF P d n b).f call L H)⟩
 | .loop b => ⟨fun call L H => q1a ((denF P d n b).f call) qaz L H⟩
 | .scope b => denF P d n b
 | .exit id => ⟨fun _ L H => .ok (.exit id) L H⟩
 | .goto _ => ⟨fun _ _ _ => .bad⟩
 | .ret => ⟨fun _ L H => .ok .ret L H⟩
 | .rangeFunc f ps assign body => den P d n (.rangeFunc f ps assign body)
 | .refuse _ => ⟨fun _ _ _ => .bad⟩
theorem qch (P : Program) (d n : Nat) : ∀ c, denF P d n c = den P d n c
 | .skip | .label _ => rfl
 | .region _ ops false => by simp only [denF, qv5, qxi, den]
 | .region _ ops true => by simp only [denF, qxi, den]
 | .seq (.region _ ops false) b => by simp only [denF, qv5, qwz, den, qch P d n b]
 | .seq (.region _ ops true) b => by simp only [denF, qwz, den, qch P d n b]
 | .seq .skip b => by simp only [denF, qgj, den, qch P d n b]
 | .seq (.label _) b => by simp only [denF, qgj, den, qch P d n b]
 | .seq (.seq x y) b => by rw [denF, den, qgj, qch P d n (.seq x y), qch P d n b] <;> simp
 | .seq (.cond x y z) b => by rw [denF, den, qgj, qch P d n (.cond x y z), qch P d n b] <;> simp
 | .seq (.block x y) b => by rw [denF, den, qgj, qch P d n (.block x y), qch P d n b] <;> simp
 | .seq (.loop x) b => by rw [denF, den, qgj, qch P d n (.loop x), qch P d n b] <;> simp
 | .seq (.scope x) b => by rw [denF, den, qgj, qch P d n (.scope x), qch P d n b] <;> simp
 | .seq (.exit x) b => by rw [denF, den, qgj, qch P d n (.exit x), qch P d n b] <;> simp
 | .seq (.goto x) b => by rw [denF, den, qgj, qch P d n (.goto x), qch P d n b] <;> simp
 | .seq .ret b => by rw [denF, den, qgj, qch P d n .ret, qch P d n b] <;> simp
 | .seq (.rangeFunc x y z t) b => by rw [denF, den, qgj, qch P d n (.rangeFunc x y z t), qch P d n b] <;> simp
 | .seq (.refuse x) b => by rw [denF, den, qgj, qch P d n (.refuse x), qch P d n b] <;> simp
 | .cond x a b => by simp only [denF, q2f, den, qch P d n a, qch P d n b]
 | .block id b => by simp only [denF, qzk, den, qch P d n b]
 | .loop b => by simp only [denF, q09, den, qch P d n b]
 | .scope b => by simp only [denF, den, qch P d n b]
 | .exit id | .goto _ | .ret | .refuse _ => rfl
 | .rangeFunc f ps assign body => by simp only [denF]
def qyr {d : Nat} (n : Nat) (call : Call) (res : TT AV d → Hp → Option AV) (L : TT AV d) (H : Hp) : R1 :=
 @Option.rec Hp (fun _ => R1) .bad (fun H' => @Option.rec AV (fun _ => R1) .bad (fun v => .ok v H') (res L H')) (runD call (dl ((qap d n).f L)) H)
theorem qxf {d : Nat} : @qyr d = outC := by
 funext n call res L H
 unfold qyr outC
 cases runD call (dl ((qap d n).f L)) H with
 | none => rfl
 | some H' =>
  show @Option.rec AV (fun _ => R1) _ _ (res L H') = finR (res L H') H'
  cases res L H' <;> rfl
def q87 {d : Nat} (n : Nat) (call : Call) (res : TT AV d → Hp → Option AV) (r : Rc d) : R1 :=
 @Rc.rec d (fun _ => R1) .bad (fun e L H => @Ex.rec (fun _ => R1) (qyr n call res L H) (fun _ => .bad) (fun _ => .bad) (qyr n call res L H) e) r
theorem q3i {d : Nat} : @q87 d = retC := by
 funext n call res r
 cases r <;> first | rfl | skip
 rename_i e L H
 cases e <;> first | rfl | skip
 ·show qyr n call res L H = outC n call res L H
  rw [qxf]
 ·show qyr n call res L H = outC n call res L H
  rw [qxf]
def funF (P : Program) (f : FuncId) : Fd :=
 match P.funcs[f]? with
 | none => ⟨fun _ _ _ => .bad⟩
 | some fn => if fn.name == "runtime.NumGoroutine" then ⟨fun _ _ _ => .bad⟩ else match fn.body with
  | none => ⟨fun _ _ _ => .bad⟩
  | some c => match qei P (qan (fn.ntmps + 1)) fn.ntmps fn.results.toList, denF P (qan (fn.ntmps + 1)) fn.ntmps c, Nat.ble (fn.ntmps + 1) 262144 with
   | ⟨res⟩, ⟨dn⟩, true => ⟨fun call args H => bif Nat.ble args.length fn.ntmps then q87 fn.ntmps call res (dn call (wrL args 0 (same .undef _)) H) else .bad⟩
   | _, _, false => ⟨fun _ _ _ => .bad⟩
theorem qwc (P : Program) (f : FuncId) : funF P f = funS P f := by
 unfold funF funS
 split
 ·rename_i h; rw [h]
 ·rename_i fn h
  rw [h]
  simp only
  split
  ·rfl
  ·split
   ·rename_i hb; rw [hb]
   ·rename_i c hb
    rw [hb]
    simp only [qch, q3i]
    cases hn : Nat.ble (fn.ntmps + 1) 262144 with
    | true => simp
    | false => simp
def qwq (P : Program) (call : Call) (l : Nat) (args : List AV) (H : Hp) : R1 :=
 match H.get l with
 | .loop true none d n L ps assign body =>
  bif Nat.beq ps.length args.length && ps.all (fun p => Nat.blt p n) then
   match (denF P d n assign).f call (qng ((setter d n).f L .undef) ps args) H with
   | .ok .normal L1 H1 => match H1.get l with
    | .loop true none d' n' L' ps' assign' body' => endRound l ((denF P d n body).f call L1 (H1.put l (.loop false none d' n' L' ps' assign' body')))
    | _ => .bad
   | _ => .bad
  else .bad
 | _ => .bad
theorem qzo (P : Program) (call : Call) : qwq P call = qwp P call := by
 funext l args H
 unfold qwq qwp
 simp only [qch]
 rfl
abbrev Ext := FuncId → List AV → Hp → Option R1
def callF (P : Program) (ext : Ext) (n : Nat) : Call :=
 Nat.rec (motive := fun _ => Call) (fun _ _ _ => .bad) (fun _ ih c args H => @Cl.rec (fun _ => R1) (fun f => @Option.rec R1 (fun _ => R1) ((funF P f).f ih args H) (fun r => r) (ext f args H)) (fun l => qwq P ih l args H) (fun f => @Bool.rec (fun _ => R1) .bad ((funF P f).f ih args H) (qrn P f)) c) n
def q65 : Ext := fun _ _ _ => none
end Go.Ev
end
noncomputable section
namespace Go.Ev
open Go.RowKit
variable {P : Program} {w : World} {ι : Im} {H : Hp}
structure qvr (P : Program) (ext : Ext) : Prop where
 fn : ∀ f args H r, ext f args H = some r → ∀ v H', r = .ok v H' → ∀ ι w ARGS, HR ι H w → RepL ι args ARGS →
  (callFunc f ARGS.toArray).run P w = .ok (.enter f ARGS.toArray) w ∧ ∀ m, CallsIn Fence.wide m P f ARGS.toArray w (Post ι H w v H')
theorem qxl : qvr P q65 := ⟨fun _ _ _ _ h => by cases h⟩
theorem qq2 (hm : P.follows .mixedOrders = true) {ext : Ext} (hE : qvr P ext) : ∀ k, qjo P (callF P ext k)
 | 0 => ⟨(fun f args H v H' h => by cases h), (fun b args H v H' h => by cases h), (fun b args H v H' h => by cases h)⟩
 | k + 1 => by
  have ih := qq2 hm hE k
  refine ⟨fun f args H v H' h ι w ARGS hH ha => ?_, fun b args H v H' h ι w ARGS loc hH ha hl => ?_, fun f args H v H' h ι w ARGS hH ha => ?_⟩
  ·have h' : @Option.rec R1 (fun _ => R1) ((funF P f).f (callF P ext k) args H) (fun r => r) (ext f args H) = .ok v H' := h
   cases he : ext f args H with
   | none =>
    rw [he] at h'
    rw [qwc] at h'
    exact q7i ih hm h' hH ha
   | some r =>
    rw [he] at h'
    exact hE.fn f args H r he v H' h' ι w ARGS hH ha
  ·have h' : qwq P (callF P ext k) b args H = .ok v H' := h
   rw [qzo] at h'
   exact qzn ih hm h' hH ha hl
  ·have h' : @Bool.rec (fun _ => R1) .bad ((funF P f).f (callF P ext k) args H) (qrn P f) = .ok v H' := h
   cases hp : qrn P f with
   | false => rw [hp] at h'; cases h'
   | true =>
    rw [hp] at h'
    rw [qwc] at h'
    exact q7j ih hm h' hp hH ha
theorem HR.of_below (h : HR ι H w) {w' : World} (hb : Below w.heap.size w w') : HR ι H w' ∧ Fr ι ι H H w w' := by
 have keep : ∀ c, c < w.heap.size → w'.heap[c]? = w.heap[c]? := hb.block
 refine ⟨⟨h.top, fun b hb' => (h.blk b hb').keep fun l hd hl => keep _ (h.low b l hb' hd hl), fun b l hb' h1 h2 => Nat.lt_of_lt_of_le (h.low b l hb' h1 h2) hb.size, h.inj, h.fresh, h.free⟩,
  ⟨Im.le_refl _, Nat.le_refl _, fun b h1 h2 => absurd h1 h2, hb.os, hb.tape, hb.output, hb.size, fun c hc _ => keep c hc, fun b l hb h1 h2 => .inr ⟨b, l, hb, h1, h2, rfl⟩, fun b l hb h1 h2 => .inr ⟨b, l, hb, h1, h2, rfl⟩⟩⟩
def Yes (P : Program) (f : FuncId) : Prop := ∀ w, Calls P f #[] w fun e w' => e = .returned (.bool true) ∧ Below w.heap.size w w'
def qr3 (P : Program) (f : FuncId) : Bool :=
 match P.funcs[f]? with
 | some fn => fn.body.isSome && !(fn.name == "runtime.NumGoroutine")
 | none => false
def qzq (tbl : List FuncId) : Ext := fun f args H =>
 match args with
 | [] => bif tbl.any (Nat.beq f) then some (.ok (.bool true) H) else none
 | _ => none
theorem qzp {tbl : List FuncId} (h : ∀ f ∈ tbl, Yes P f) (hb : tbl.all (qr3 P) = true) : qvr P (qzq tbl) := by
 refine ⟨fun f args H r he v H' hr ι w ARGS hH ha => ?_⟩
 unfold qzq at he
 split at he
 ·cases hc : tbl.any (Nat.beq f) with
  | false => rw [hc] at he; cases he
  | true =>
   rw [hc] at he
   simp only [cond_true, Option.some.injEq] at he
   subst he
   cases hr
   simp only [RepL] at ha
   subst ha
   obtain ⟨g, hg, e⟩ := List.any_eq_true.1 hc
   have e := Nat.eq_of_beq_eq_true e
   subst e
   have hbf := List.all_eq_true.1 hb f hg
   unfold qr3 at hbf
   split at hbf
   ·rename_i fn hfn
    simp only [Bool.and_eq_true, Bool.not_eq_true'] at hbf
    refine ⟨?_, fun m => callsIn_wide.2 ((h f hg w).mono fun e w' hp => ?_)⟩
    ·obtain ⟨c, hc'⟩ := Option.isSome_iff_exists.1 hbf.1
     have hname' : ¬ fn.name = "runtime.NumGoroutine" := fun e => by rw [e] at hbf; simp at hbf
     simp [callFunc, hfn, hname', hc']
    ·obtain ⟨rfl, hw⟩ := hp
     obtain ⟨k1, k2⟩ := hH.of_below hw
     exact ⟨ι, by simp only [Rep], k1, k2⟩
   ·cases hbf
 ·cases he
theorem qx6 (hm : P.follows .mixedOrders = true) {ext : Ext} (hE : qvr P ext) {k : Nat} {f : FuncId} (h : qsz (callF P ext k (.f f) [] Hp.empty) = true) : Yes P f := by
 intro w
 unfold qsz at h
 split at h
 ·rename_i b H' he
  subst h
  have := ((qq2 hm hE k).fn _ _ _ _ _ he (fun _ => none) w [] HR.empty (by simp [RepL])).2 0
  refine (callsIn_wide.1 this).mono fun e w' hp => ?_
  cases e with
  | returned V =>
   obtain ⟨ι', h1, h2, h3⟩ := hp
   simp only [Rep] at h1
   exact ⟨by rw [h1], h3.below _ (Nat.le_refl _) fun b l _ _ h => by cases h⟩
  | panicked => exact hp.elim
  | outgrown => exact hp.elim
 ·cases h
end Go.Ev
end
noncomputable section
namespace Go.Di
open Go.Ev
variable {d : Nat}
def G (L : TT AV d) (i : Nat) : AV := (qap d i).f L
abbrev Kt (d : Nat) := Ex → TT AV d → Hp → R1
def fin (r : Rc d) (K : Kt d) : R1 := match r with | .bad => .bad | .ok e L H => K e L H
def finS (r : Rs d) (k : TT AV d → Hp → R1) : R1 := match r with | .bad => .bad | .ok L H => k L H
def finX (r : Rx d) (k : TT AV d → Hp → List Pd → List Wt → R1) : R1 := match r with | .bad => .bad | .ok L H p w => k L H p w
def nrm (r : R0) (H : Hp) : Option (AV × Hp) := match r with | .bad => none | .val v => some (v, H) | .new v b => some (v, qaq H b)
def vq (r : R0) (H : Hp) (k : AV → Hp → R1) : R1 := match nrm r H with | none => .bad | some p => k p.1 p.2
def ve (r : R1) (k : AV → Hp → R1) : R1 := match r with | .bad => .bad | .ok v H => k v H
def vg0 (w : Option Bool) (r : R0) (H : Hp) (k : AV → Hp → R1) : R1 := match w with | some true => vq r H k | some false => k .undef H | none => .bad
def veg0 (w : Option Bool) (r : R1) (H : Hp) (k : AV → Hp → R1) : R1 := match w with | some true => ve r k | some false => k .undef H | none => .bad
def qai (want : Bool) (v : AV) : Option Bool := match v with | .bool b => some (b == want) | .undef => some false | _ => none
def cd (x : AV) (a b : R1) : R1 := match x with | .bool true => a | .bool false => b | _ => .bad
/- steps of a region that draws its order -/
def dq0 (lk al : Bool) (i A nm : Nat) (H : Hp) (p : List Pd) (w : List Wt) (f : Hp → R0) (g : Option Bool) (k : AV → Hp → List Pd → List Wt → R1) : R1 :=
 match g with
 | none => .bad
 | some false => k .undef H p w
 | some true => match f (qck A p H) with
  | .bad => .bad
  | .val v => k v H p (bif lk then ⟨i, A, f, v⟩ :: w else w)
  | .new v b => bif al && b.wr then k v H (⟨i, nm, b⟩ :: p) w else .bad
def de0 (A : Nat) (H : Hp) (p : List Pd) (w : List Wt) (r : R1) (g : Option Bool) (k : AV → Hp → List Pd → List Wt → R1) : R1 :=
 match g with
 | none => .bad
 | some false => k .undef H p w
 | some true => match r with
  | .bad => .bad
  | .ok v H' => bif qo2 (qj0 A p) H' (qjz A w) then k v H' (qj0 A p) (qjz A w) else .bad
def vl (r : R0) (k : AV → R1) : R1 := match r with | .bad => .bad | .val v => k v | .new _ _ => .bad
def vlg0 (w : Option Bool) (r : R0) (k : AV → R1) : R1 := match w with | some true => vl r k | some false => k .undef | none => .bad
/- constants that cannot be taken apart: so two sides are compared argument by argument -/
def vg : Option Bool → R0 → Hp → (AV → Hp → R1) → R1 := Classical.choose (⟨vg0, rfl⟩ : ∃ f, f = vg0)
theorem q58 : vg = vg0 := Classical.choose_spec (⟨vg0, rfl⟩ : ∃ f, f = vg0)
def veg : Option Bool → R1 → Hp → (AV → Hp → R1) → R1 := Classical.choose (⟨veg0, rfl⟩ : ∃ f, f = veg0)
theorem qzx : veg = veg0 := Classical.choose_spec (⟨veg0, rfl⟩ : ∃ f, f = veg0)
def vlg : Option Bool → R0 → (AV → R1) → R1 := Classical.choose (⟨vlg0, rfl⟩ : ∃ f, f = vlg0)
theorem qwt : vlg = vlg0 := Classical.choose_spec (⟨vlg0, rfl⟩ : ∃ f, f = vlg0)
def dq : Bool → Bool → Nat → Nat → Nat → Hp → List Pd → List Wt → (Hp → R0) → Option Bool → (AV → Hp → List Pd → List Wt → R1) → R1 := Classical.choose (⟨dq0, rfl⟩ : ∃ f, f = dq0)
theorem q4u : dq = dq0 := Classical.choose_spec (⟨dq0, rfl⟩ : ∃ f, f = dq0)
def de : Nat → Hp → List Pd → List Wt → R1 → Option Bool → (AV → Hp → List Pd → List Wt → R1) → R1 := Classical.choose (⟨de0, rfl⟩ : ∃ f, f = de0)
theorem q4v : de = de0 := Classical.choose_spec (⟨de0, rfl⟩ : ∃ f, f = de0)
theorem qxs (put : TT AV d → AV → TT AV d) (L : TT AV d) (H : Hp) (r : R0) (k : TT AV d → Hp → R1) : finS (doQ put L H r) k = vq r H fun v H => k (put L v) H := by cases r <;> rfl
theorem qxt (put : TT AV d → AV → TT AV d) (L : TT AV d) (r : R1) (k : TT AV d → Hp → R1) : finS (doE put L r) k = ve r fun v H => k (put L v) H := by cases r <;> rfl
structure StC (d : Nat) where f : Ev.Call → TT AV d → Hp → (TT AV d → Hp → R1) → R1
def qz6 (P : Program) (d n : Nat) (ops : Array Oper) (o : Oper) : StC d :=
 match opS P d n o, o.guard, qlf d n ops o, putS d n o.dst with
 | .q _ f, none, _, ⟨put⟩ => ⟨fun _ L H k => vq (f H.nx L H) H fun v H => k (put L v) H⟩
 | .e f, none, _, ⟨put⟩ => ⟨fun call L H k => ve (f call L H) fun v H => k (put L v) H⟩
 | .q _ f, some _, ⟨w⟩, ⟨put⟩ => ⟨fun _ L H k => vg (w L) (f H.nx L H) H fun v H => k (put L v) H⟩
 | .e f, some _, ⟨w⟩, ⟨put⟩ => ⟨fun call L H k => veg (w L) (f call L H) H fun v H => k (put L v) H⟩
theorem qz5 (P : Program) (d n : Nat) (ops : Array Oper) (o : Oper) (call : Ev.Call) (L : TT AV d) (H : Hp) (k : TT AV d → Hp → R1) :
  finS ((qok P d n ops o).f call L H) k = (qz6 P d n ops o).f call L H k := by
 unfold qok qz6
 generalize opS P d n o = x
 generalize o.guard = g
 generalize qlf d n ops o = w
 generalize putS d n o.dst = p
 obtain ⟨p⟩ := p
 obtain ⟨w⟩ := w
 cases x with
 | q l f => cases g with
  | none => exact qxs ..
  | some j =>
   show finS (ifW (w L) _ _) k = vg (w L) _ H _
   rw [q58]
   cases h : w L with
   | none => rfl
   | some b => cases b with
    | true => exact qxs ..
    | false => rfl
 | e f => cases g with
  | none => exact qxt ..
  | some j =>
   show finS (ifW (w L) _ _) k = veg (w L) _ H _
   rw [qzx]
   cases h : w L with
   | none => rfl
   | some b => cases b with
    | true => exact qxt ..
    | false => rfl
def qww (P : Program) (d n : Nat) (ops : Array Oper) (o : Oper) : StC d :=
 match dfOf o with
 | none => qz6 P d n ops o
 | some _ => match qpd P d n ops o with | ⟨g⟩ => ⟨fun call L H k => finS (g call L H) k⟩
theorem qz7 (P : Program) (d n : Nat) (ops : Array Oper) (o : Oper) (call : Ev.Call) (L : TT AV d) (H : Hp) (k : TT AV d → Hp → R1) :
  finS ((qpd P d n ops o).f call L H) k = (qww P d n ops o).f call L H k := by
 unfold qww
 cases h : dfOf o with
 | none => simp only; rw [← qz5]; unfold qpd; rw [h]
 | some c => rfl
def opsC (P : Program) (d n : Nat) (ops : Array Oper) : List Oper → StC d
 | [] => ⟨fun _ L H k => k L H⟩
 | o :: r => match qww P d n ops o, opsC P d n ops r with | ⟨g⟩, ⟨h⟩ => ⟨fun call L H k => g call L H fun L H => h call L H k⟩
theorem q03 (P : Program) (d n : Nat) (ops : Array Oper) (call : Ev.Call) : ∀ (l : List Oper) (L : TT AV d) (H : Hp) (k : TT AV d → Hp → R1),
  finS ((opsS P d n ops l).f call L H) k = (opsC P d n ops l).f call L H k
 | [], _, _, _ => rfl
 | o :: r, L, H, k => by
  show finS (qzl ((qpd P d n ops o).f call L H) ((opsS P d n ops r).f call)) k = (qww P d n ops o).f call L H fun L H => (opsC P d n ops r).f call L H k
  rw [← qz7]
  cases (qpd P d n ops o).f call L H with
  | bad => rfl
  | ok L H => exact q03 P d n ops call r L H k
structure SxC (d : Nat) where f : Ev.Call → Nat → TT AV d → Hp → List Pd → List Wt → (TT AV d → Hp → List Pd → List Wt → R1) → R1
def qso (P : Program) (d n : Nat) (ops : Array Oper) (i A : Nat) (o : Oper) : SxC d :=
 match opS P d n o, qgk d n (qcv ops o), qlf d n ops o, putS d n o.dst with
 | .q lk f, ⟨pj⟩, ⟨w⟩, ⟨put⟩ => ⟨fun _ base L H p ws k => dq lk (qot o.op && !lk) i A (base + i) H p ws (f (base + i) (pj L)) (w (pj L)) fun v H p ws => k (put L v) H p ws⟩
 | .e f, ⟨pj⟩, ⟨w⟩, ⟨put⟩ => ⟨fun call _ L H p ws k => de A H p ws (f call (pj L) (qck A p H)) (w (pj L)) fun v H p ws => k (put L v) H p ws⟩
theorem qz4 (P : Program) (d n : Nat) (ops : Array Oper) (i A : Nat) (o : Oper) (call : Ev.Call) (base : Nat) (L : TT AV d) (H : Hp) (p : List Pd) (ws : List Wt) (k : TT AV d → Hp → List Pd → List Wt → R1) :
  finX ((qt9 P d n ops i A o).f call base L H p ws) k = (qso P d n ops i A o).f call base L H p ws k := by
 unfold qt9 qso
 generalize opS P d n o = x
 generalize qgk d n (qcv ops o) = j
 generalize qlf d n ops o = w
 generalize putS d n o.dst = pt
 obtain ⟨pt⟩ := pt
 obtain ⟨w⟩ := w
 obtain ⟨j⟩ := j
 cases x with
 | q lk f =>
  dsimp only
  rw [q4u]
  unfold qX dq0
  cases w (j L) with
  | none => rfl
  | some b => cases b with
   | false => rfl
   | true =>
    simp only
    cases f (base + i) (j L) (qck A p H) with
    | bad => rfl
    | val v => rfl
    | new v b =>
     simp only
     cases (qot o.op && !lk && b.wr) <;> rfl
 | e f =>
  dsimp only
  rw [q4v]
  unfold eX de0
  cases w (j L) with
  | none => rfl
  | some b => cases b with
   | false => rfl
   | true =>
    simp only
    cases f call (j L) (qck A p H) with
    | bad => rfl
    | ok v H' =>
     simp only
     cases qo2 (qj0 A p) H' (qjz A ws) <;> rfl
def qrr (P : Program) (d n : Nat) (ops : Array Oper) (ms : List Nat) : List Nat → SxC d
 | [] => ⟨fun _ _ L H p w k => k L H p w⟩
 | i :: r => match ops[i]? with
  | some o => match qso P d n ops i (ms.getD i 0) o, qrr P d n ops ms r with | ⟨g⟩, ⟨h⟩ => ⟨fun call base L H p w k => g call base L H p w fun L H p w => h call base L H p w k⟩
  | none => ⟨fun _ _ _ _ _ _ _ => .bad⟩
theorem qxg (P : Program) (d n : Nat) (ops : Array Oper) (ms : List Nat) (call : Ev.Call) (base : Nat) : ∀ (l : List Nat) (L : TT AV d) (H : Hp) (p : List Pd) (w : List Wt) (k : TT AV d → Hp → List Pd → List Wt → R1),
  finX ((opsX P d n ops ms l).f call base L H p w) k = (qrr P d n ops ms l).f call base L H p w k
 | [], _, _, _, _, _ => rfl
 | i :: r, L, H, p, w, k => by
  unfold opsX qrr
  cases ops[i]? with
  | none => rfl
  | some o =>
   show finX (q8e ((qt9 P d n ops i (ms.getD i 0) o).f call base L H p w) ((opsX P d n ops ms r).f call base)) k = (qso P d n ops i (ms.getD i 0) o).f call base L H p w fun L H p w => (qrr P d n ops ms r).f call base L H p w k
   rw [← qz4]
   cases (qt9 P d n ops i (ms.getD i 0) o).f call base L H p w with
   | bad => rfl
   | ok L H p w => exact qxg P d n ops ms call base r L H p w k
def q71 (P : Program) (d n : Nat) (ops : Array Oper) : StC d :=
 match qv3 P d n ops with
 | none => ⟨fun _ _ _ _ => .bad⟩
 | some pl => match qrr P d n ops pl.ms pl.ord with
  | ⟨g⟩ => ⟨fun call L H k => g call H.nx L ⟨H.t, H.nx + pl.up⟩ [] [] fun L H p _ => k L (allH p H)⟩
theorem q4t (P : Program) (d n : Nat) (ops : Array Oper) (call : Ev.Call) (L : TT AV d) (H : Hp) (k : TT AV d → Hp → R1) :
  finS ((qqw P d n ops).f call L H) k = (q71 P d n ops).f call L H k := by
 unfold qqw q71
 cases qv3 P d n ops with
 | none => rfl
 | some pl =>
  show finS (match (opsX P d n ops pl.ms pl.ord).f call H.nx L ⟨H.t, H.nx + pl.up⟩ [] [] with | .bad => .bad | .ok L' H' pend _ => .ok L' (allH pend H')) k = (qrr P d n ops pl.ms pl.ord).f call H.nx L ⟨H.t, H.nx + pl.up⟩ [] [] fun L H p _ => k L (allH p H)
  rw [← qxg]
  cases (opsX P d n ops pl.ms pl.ord).f call H.nx L ⟨H.t, H.nx + pl.up⟩ [] [] <;> rfl
/- regions that draw their order, without effects and new blocks -/
def qxb (P : Program) (d n : Nat) (ops : Array Oper) (i : Nat) : Bool := match ops[i]? with | some o => !isE (opS P d n o) && !qot o.op | none => false
def q7b (P : Program) (d n : Nat) (ops : Array Oper) (i : Nat) (o : Oper) : StC d :=
 match opS P d n o, qgk d n (qcv ops o), o.guard, qlf d n ops o, putS d n o.dst with
 | .q _ f, ⟨pj⟩, none, _, ⟨put⟩ => ⟨fun _ L H k => vl (f (H.nx + i) (pj L) H) fun v => k (put L v) H⟩
 | .q _ f, ⟨pj⟩, some _, ⟨w⟩, ⟨put⟩ => ⟨fun _ L H k => vlg (w (pj L)) (f (H.nx + i) (pj L) H) fun v => k (put L v) H⟩
 | .e _, _, _, _, _ => ⟨fun _ _ _ _ => .bad⟩
def quy (P : Program) (d n : Nat) (ops : Array Oper) : List Nat → StC d
 | [] => ⟨fun _ L H k => k L H⟩
 | i :: r => match ops[i]? with
  | some o => match q7b P d n ops i o, quy P d n ops r with | ⟨g⟩, ⟨h⟩ => ⟨fun call L H k => g call L H fun L H => h call L H k⟩
  | none => ⟨fun _ _ _ _ => .bad⟩
theorem q5v (lk : Bool) (i A nm : Nat) (H : Hp) (w : List Wt) (f : Hp → R0) (g : Option Bool) (k : AV → Hp → List Pd → List Wt → R1) (k' : AV → R1) (h : ∀ v w, k v H [] w = k' v) :
  dq lk false i A nm H [] w f g k = vlg g (f H) k' := by
 rw [q4u, qwt]
 unfold dq0 vlg0
 cases g with
 | none => rfl
 | some b => cases b with
  | false => exact h _ _
  | true =>
   simp only
   show (match f H with | .bad => R1.bad | .val v => _ | .new v b => _) = vl (f H) k'
   cases f H with
   | bad => rfl
   | val v => exact h _ _
   | new v b => rfl
theorem qtp (P : Program) (d n : Nat) (ops : Array Oper) (ms : List Nat) (call : Ev.Call) (H : Hp) : ∀ (l : List Nat), l.all (qxb P d n ops) = true → ∀ (L : TT AV d) (w : List Wt) (k : TT AV d → Hp → R1),
  (qrr P d n ops ms l).f call H.nx L H [] w (fun L H p _ => k L (allH p H)) = (quy P d n ops l).f call L H k
 | [], _, _, _, _ => rfl
 | i :: r, hl, L, w, k => by
  rw [List.all_cons, Bool.and_eq_true] at hl
  have hq := hl.1
  unfold qxb at hq
  unfold qrr quy
  cases ho : ops[i]? with
  | none => simp [ho] at hq
  | some o =>
   rw [ho] at hq
   simp only [Bool.and_eq_true, Bool.not_eq_true'] at hq
   show (qso P d n ops i (ms.getD i 0) o).f call H.nx L H [] w (fun L H' p w => (qrr P d n ops ms r).f call H.nx L H' p w (fun L H p _ => k L (allH p H))) = (q7b P d n ops i o).f call L H fun L H => (quy P d n ops r).f call L H k
   unfold qso q7b
   have hal := hq.2
   have hE := hq.1
   have hw : o.guard = none → (qlf d n ops o).f = fun _ => some true := fun hg => by unfold qlf; rw [hg]
   generalize qlf d n ops o = x1 at hw
   generalize opS P d n o = x2 at hE
   generalize qgk d n (qcv ops o) = x3
   generalize putS d n o.dst = x4
   obtain ⟨x1⟩ := x1
   obtain ⟨x3⟩ := x3
   obtain ⟨x4⟩ := x4
   cases x2 with
   | e f => cases hE
   | q lk f =>
    cases hg : o.guard with
    | none =>
     have e := hw hg
     simp only at e
     subst e
     dsimp only
     rw [hal]
     refine (q5v lk i _ _ H w _ (some true) _ (fun v => (quy P d n ops r).f call (x4 L v) H k) fun v w => ?_).trans (by rw [qwt]; rfl)
     exact qtp P d n ops ms call H r hl.2 (x4 L v) w k
    | some j =>
     dsimp only
     rw [hal]
     exact q5v lk i _ _ H w _ (x1 (x3 L)) _ (fun v => (quy P d n ops r).f call (x4 L v) H k) fun v w => qtp P d n ops ms call H r hl.2 (x4 L v) w k
def q70 (P : Program) (d n : Nat) (ops : Array Oper) : StC d :=
 match qv3 P d n ops with
 | none => ⟨fun _ _ _ _ => .bad⟩
 | some pl => match pl.ord.all (qxb P d n ops) && Nat.beq pl.up 0, quy P d n ops pl.ord, qrr P d n ops pl.ms pl.ord with
  | true, ⟨g⟩, _ => ⟨g⟩
  | false, _, ⟨g⟩ => ⟨fun call L H k => g call H.nx L ⟨H.t, H.nx + pl.up⟩ [] [] fun L H p _ => k L (allH p H)⟩
theorem q4s (P : Program) (d n : Nat) (ops : Array Oper) (call : Ev.Call) (L : TT AV d) (H : Hp) (k : TT AV d → Hp → R1) :
  finS ((qqw P d n ops).f call L H) k = (q70 P d n ops).f call L H k := by
 rw [q4t]
 unfold q71 q70
 cases qv3 P d n ops with
 | none => rfl
 | some pl =>
  dsimp only
  cases hq : (pl.ord.all (qxb P d n ops) && Nat.beq pl.up 0) with
  | false => rfl
  | true =>
   rw [Bool.and_eq_true] at hq
   have hu := Nat.eq_of_beq_eq_true hq.2
   show (qrr P d n ops pl.ms pl.ord).f call H.nx L ⟨H.t, H.nx + pl.up⟩ [] [] (fun L H p _ => k L (allH p H)) = (quy P d n ops pl.ord).f call L H k
   rw [hu]
   exact qtp P d n ops pl.ms call H pl.ord hq.1 L [] k
def thn (b : TT AV d → Hp → R1) (K : Kt d) : Kt d := fun e L H => match e with | .normal => b L H | e => K e L H
def outK (id : Nat) (K : Kt d) : Kt d := fun e L H => match e with | .exit i => bif Nat.beq i id then K .normal L H else K (.exit i) L H | e => K e L H
structure DnC (d : Nat) where f : Ev.Call → TT AV d → Hp → Kt d → R1
def denC (P : Program) (d n : Nat) : Code → DnC d
 | .skip | .label _ => ⟨fun _ L H K => K .normal L H⟩
 | .region _ ops false => match opsC P d n ops ops.toList with | ⟨g⟩ => ⟨fun call L H K => g call L H (K .normal)⟩
 | .region _ ops true => match q70 P d n ops with | ⟨g⟩ => ⟨fun call L H K => g call L H (K .normal)⟩
 | .seq a b => match denC P d n a, denC P d n b with | ⟨f⟩, ⟨g⟩ => ⟨fun call L H K => f call L H (thn (fun L H => g call L H K) K)⟩
 | .cond x a b => match opnd d n x, denC P d n a, denC P d n b with | ⟨g⟩, ⟨f⟩, ⟨h⟩ => ⟨fun call L H K => cd (g L) (f call L H K) (h call L H K)⟩
 | .block id b => match denC P d n b with | ⟨f⟩ => ⟨fun call L H K => f call L H (outK id K)⟩
 | .scope b => denC P d n b
 | .exit id => ⟨fun _ L H K => K (.exit id) L H⟩
 | .ret => ⟨fun _ L H K => K .ret L H⟩
 | c => match den P d n c with | ⟨g⟩ => ⟨fun call L H K => fin (g call L H) K⟩
theorem qxr (r : Rs d) (K : Kt d) : fin (ofRs r) K = finS r (K .normal) := by cases r <;> rfl
theorem qwf (r : Rc d) (k : TT AV d → Hp → Rc d) (K : Kt d) : fin (seqC r k) K = fin r (thn (fun L H => fin (k L H) K) K) := by
 cases r with
 | bad => rfl
 | ok e L H => cases e <;> rfl
theorem qvb (id : Nat) (r : Rc d) (K : Kt d) : fin (qs7 id r) K = fin r (outK id K) := by
 cases r with
 | bad => rfl
 | ok e L H =>
  cases e with
  | exit i =>
   show fin (bif Nat.beq i id then _ else _) K = bif Nat.beq i id then _ else _
   cases Nat.beq i id <;> rfl
  | _ => rfl
theorem qn5 (P : Program) (d n : Nat) (call : Ev.Call) : ∀ (c : Code) (L : TT AV d) (H : Hp) (K : Kt d), fin ((den P d n c).f call L H) K = (denC P d n c).f call L H K
 | .skip, _, _, _ | .label _, _, _, _ | .exit _, _, _, _ | .ret, _, _, _ | .goto _, _, _, _ | .loop _, _, _, _ | .rangeFunc .., _, _, _ | .refuse _, _, _, _ => rfl
 | .region _ ops false, L, H, K => (qxr ..).trans (q03 ..)
 | .region _ ops true, L, H, K => (qxr ..).trans (q4s ..)
 | .seq a b, L, H, K => by
  refine (qwf ((den P d n a).f call L H) ((den P d n b).f call) K).trans ?_
  rw [qn5 P d n call a]
  show (denC P d n a).f call L H (thn (fun L H => fin ((den P d n b).f call L H) K) K) = (denC P d n a).f call L H (thn (fun L H => (denC P d n b).f call L H K) K)
  congr 2
  funext L H
  exact qn5 P d n call b L H K
 | .cond x a b, L, H, K => by
  show fin (condC ((opnd d n x).f L) ((den P d n a).f call L H) ((den P d n b).f call L H)) K = cd ((opnd d n x).f L) ((denC P d n a).f call L H K) ((denC P d n b).f call L H K)
  rw [← qn5 P d n call a, ← qn5 P d n call b]
  generalize (opnd d n x).f L = v
  cases v with
  | bool q => cases q <;> rfl
  | _ => rfl
 | .block id b, L, H, K => (qvb ..).trans (qn5 P d n call b L H (outK id K))
 | .scope b, L, H, K => qn5 P d n call b L H K
def Lk (P : Program) (d n : Nat) (call : Ev.Call) (c : Code) (K : Kt d) (D : TT AV d → Hp → R1) : Prop := ∀ L H, fin ((den P d n c).f call L H) K = D L H
variable {P : Program} {n : Nat} {call : Ev.Call} {K : Kt d}
theorem Lk.one {c : Code} {D : TT AV d → Hp → R1} (h : ∀ L H, (denC P d n c).f call L H K = D L H) : Lk P d n call c K D := fun L H => (qn5 P d n call c L H K).trans (h L H)
theorem Lk.seq {a b : Code} {D E : TT AV d → Hp → R1} (hb : Lk P d n call b K E) (ha : Lk P d n call a (thn E K) D) : Lk P d n call (.seq a b) K D := fun L H => by
 refine (qwf ((den P d n a).f call L H) ((den P d n b).f call) K).trans ?_
 rw [show (fun L H => fin ((den P d n b).f call L H) K) = E from funext fun L => funext fun H => hb L H]
 exact ha L H
theorem Lk.block {id : Nat} {b : Code} {D : TT AV d → Hp → R1} (h : Lk P d n call b (outK id K) D) : Lk P d n call (.block id b) K D := fun L H => (qvb ..).trans (h L H)
theorem Lk.scope {b : Code} {D : TT AV d → Hp → R1} (h : Lk P d n call b K D) : Lk P d n call (.scope b) K D := h
theorem Lk.cond {x : Operand} {a b : Code} {A B : TT AV d → Hp → R1} (ha : Lk P d n call a K A) (hb : Lk P d n call b K B) : Lk P d n call (.cond x a b) K (fun L H => cd ((opnd d n x).f L) (A L H) (B L H)) := fun L H => by
 show fin (condC ((opnd d n x).f L) ((den P d n a).f call L H) ((den P d n b).f call L H)) K = cd ((opnd d n x).f L) (A L H) (B L H)
 rw [← ha L H, ← hb L H]
 generalize (opnd d n x).f L = v
 cases v with
 | bool q => cases q <;> rfl
 | _ => rfl
def qg0 : Nat := Classical.choose (⟨qaz, rfl⟩ : ∃ n, n = qaz)
theorem qbc : qg0 = qaz := Classical.choose_spec (⟨qaz, rfl⟩ : ∃ n, n = qaz)
theorem Lk.loop {b : Code} {D : Nat → TT AV d → Hp → R1} (h0 : ∀ L H, D 0 L H = .bad) (hs : ∀ k, Lk P d n call b (thn (D k) K) (D (k + 1))) : Lk P d n call (.loop b) K (D qg0) := by
 have main : ∀ k L H, fin (qsk ((den P d n b).f call) k L H) K = D k L H := by
  intro k
  induction k with
  | zero => intro L H; exact (h0 L H).symm
  | succ k ih =>
   intro L H
   show fin (seqC ((den P d n b).f call L H) (qsk ((den P d n b).f call) k)) K = _
   rw [qwf, show (fun L H => fin (qsk ((den P d n b).f call) k L H) K) = D k from funext fun L => funext fun H => ih L H]
   exact hs k L H
 rw [qbc]
 exact fun L H => main qaz L H
theorem Lk.of {c : Code} {D E : TT AV d → Hp → R1} (h : Lk P d n call c K D) (e : ∀ L H, D L H = E L H) : Lk P d n call c K E := fun L H => (h L H).trans (e L H)
def endK (n : Nat) (call : Ev.Call) (res : TT AV d → Hp → Option AV) : Kt d := fun e L H => match e with | .normal => outC n call res L H | .ret => outC n call res L H | _ => .bad
theorem q6k (n : Nat) (call : Ev.Call) (res : TT AV d → Hp → Option AV) (r : Rc d) : retC n call res r = fin r (endK n call res) := by
 cases r with
 | bad => rfl
 | ok e L H => cases e <;> rfl
def codeOf (f : Func) : Code := match f.body with | some c => c | none => .skip
theorem q4d {f : FuncId} {F : Func} (hf : P.funcs[f]? = some F) (hn : (F.name == "runtime.NumGoroutine") = false) (hb : F.body.isSome = true) {args : List AV} (ha : (Nat.ble args.length F.ntmps && Nat.ble (F.ntmps + 1) 262144) = true)
  {D : TT AV (qan (F.ntmps + 1)) → Hp → R1} (h : Lk P (qan (F.ntmps + 1)) F.ntmps call (codeOf F) (endK F.ntmps call (qei P (qan (F.ntmps + 1)) F.ntmps F.results.toList).f) D) (H : Hp) :
  (funS P f).f call args H = D (wrL args 0 (same .undef _)) H := by
 unfold funS
 rw [hf]
 simp only [hn, Bool.false_eq_true, if_false]
 unfold codeOf at h
 cases hc : F.body with
 | none => rw [hc] at hb; cases hb
 | some c =>
  rw [hc] at h
  show (bif Nat.ble args.length F.ntmps && Nat.ble (F.ntmps + 1) 262144 then retC F.ntmps call _ _ else .bad) = _
  rw [ha, ← h _ H]
  exact q6k ..
end Go.Di
namespace Go.Di
open Go.Ev
variable {d n : Nat} {P : Program} {call : Ev.Call}
def qqt : Code → Bool
 | .region _ ops _ => !(ops.toList.any isDf)
 | .seq a b => qqt a && qqt b
 | .cond _ a b => qqt a && qqt b
 | .block _ b => qqt b
 | .loop b => qqt b
 | .scope b => qqt b
 | .rangeFunc .. => true
 | _ => true
theorem q2e {o : Oper} (h : isDf o = false) : dfOf o = none := by
 unfold isDf at h
 unfold dfOf
 split
 ·rename_i e _; rw [e] at h; cases h
 ·rfl
theorem qux (hn : n < 8 ^ d) {ops : Array Oper} : ∀ (l : List Oper), l.any isDf = false → ∀ {L : TT AV d} {H : Hp} {L' : TT AV d} {H' : Hp}, (opsS P d n ops l).f call L H = .ok L' H' → (qap d n).f L' = (qap d n).f L
 | [], _, L, H, L', H', h => by cases h; rfl
 | o :: r, hl, L, H, L', H', h => by
  rw [List.any_cons, Bool.or_eq_false_iff] at hl
  have h' : qzl ((qpd P d n ops o).f call L H) ((opsS P d n ops r).f call) = .ok L' H' := h
  cases h1 : (qpd P d n ops o).f call L H with
  | bad => rw [h1] at h'; cases h'
  | ok L1 H1 =>
   rw [h1] at h'
   unfold qpd at h1
   rw [q2e hl.1] at h1
   exact (qux hn r hl.2 h').trans (qsp hn h1)
theorem qlc (hn : n < 8 ^ d) : ∀ (c : Code), qqt c = true → ∀ {L : TT AV d} {H : Hp} {e : Ex} {L' : TT AV d} {H' : Hp}, (den P d n c).f call L H = .ok e L' H' → (qap d n).f L' = (qap d n).f L
 | .skip, _, _, _, _, _, _, h | .label _, _, _, _, _, _, _, h | .exit _, _, _, _, _, _, _, h | .ret, _, _, _, _, _, _, h => by cases h; rfl
 | .goto _, _, _, _, _, _, _, h | .refuse _, _, _, _, _, _, _, h => by cases h
 | .rangeFunc f ps sa bd, _, L, H, e, L', H', h => by
  rw [den] at h
  split at h
  ·cases h
  ·rename_i g _ _
   have h : endLoop H.nx (q2m call (g L) [.yield H.nx] (qaq H (.loop true none d n L ps.toList sa bd))) L = .ok e L' H' := h
   unfold endLoop at h
   split at h
   ·cases h
   ·split at h <;> first | (cases h; rfl) | cases h
 | .region _ ops false, hc, L, H, e, L', H', h => by
  have h' : ofRs ((opsS P d n ops ops.toList).f call L H) = .ok e L' H' := h
  cases h1 : (opsS P d n ops ops.toList).f call L H with
  | bad => rw [h1] at h'; cases h'
  | ok L1 H1 =>
   rw [h1] at h'; cases h'
   exact qux hn _ (by simpa [qqt] using hc) h1
 | .region _ ops true, _, L, H, e, L', H', h => by
  have h' : ofRs ((qqw P d n ops).f call L H) = .ok e L' H' := h
  cases h1 : (qqw P d n ops).f call L H with
  | bad => rw [h1] at h'; cases h'
  | ok L1 H1 => rw [h1] at h'; cases h'; exact qs2 hn h1
 | .seq a b, hc, L, H, e, L', H', h => by
  simp only [qqt, Bool.and_eq_true] at hc
  have h' : seqC ((den P d n a).f call L H) ((den P d n b).f call) = .ok e L' H' := h
  cases h1 : (den P d n a).f call L H with
  | bad => rw [h1] at h'; cases h'
  | ok e1 L1 H1 =>
   rw [h1] at h'
   have g1 := qlc hn a hc.1 h1
   cases e1 with
   | normal => exact (qlc hn b hc.2 h').trans g1
   | exit i => cases h'; exact g1
   | goto i => cases h'; exact g1
   | ret => cases h'; exact g1
 | .cond x a b, hc, L, H, e, L', H', h => by
  simp only [qqt, Bool.and_eq_true] at hc
  have h' : condC ((opnd d n x).f L) ((den P d n a).f call L H) ((den P d n b).f call L H) = .ok e L' H' := h
  unfold condC at h'
  split at h'
  ·exact qlc hn a hc.1 h'
  ·exact qlc hn b hc.2 h'
  ·cases h'
 | .block id b, hc, L, H, e, L', H', h => by
  have h' : qs7 id ((den P d n b).f call L H) = .ok e L' H' := h
  cases h1 : (den P d n b).f call L H with
  | bad => rw [h1] at h'; cases h'
  | ok e1 L1 H1 =>
   rw [h1] at h'
   have g1 := qlc hn b hc h1
   cases e1 with
   | exit i =>
    have h2 : (bif Nat.beq i id then Rc.ok .normal L1 H1 else Rc.ok (.exit i) L1 H1) = .ok e L' H' := h'
    cases hb : Nat.beq i id with
    | true => rw [hb] at h2; cases h2; exact g1
    | false => rw [hb] at h2; cases h2; exact g1
   | normal => cases h'; exact g1
   | goto i => cases h'; exact g1
   | ret => cases h'; exact g1
 | .loop b, hc, L, H, e, L', H', h => by
  have main : ∀ (k : Nat) {L : TT AV d} {H : Hp}, qsk ((den P d n b).f call) k L H = .ok e L' H' → (qap d n).f L' = (qap d n).f L := by
   intro k
   induction k with
   | zero => intro L H h; cases h
   | succ k ih =>
    intro L H h
    have h' : seqC ((den P d n b).f call L H) (qsk ((den P d n b).f call) k) = .ok e L' H' := h
    cases h1 : (den P d n b).f call L H with
    | bad => rw [h1] at h'; cases h'
    | ok e1 L1 H1 =>
     rw [h1] at h'
     have g1 := qlc hn b hc h1
     cases e1 with
     | normal => exact (ih h').trans g1
     | exit i => cases h'; exact g1
     | goto i => cases h'; exact g1
     | ret => cases h'; exact g1
  exact main qaz h
 | .scope b, hc, L, H, e, L', H', h => qlc hn b hc h
def endR (res : TT AV d → Hp → Option AV) : Kt d := fun e L H => match e with | .normal => finR (res L H) H | .ret => finR (res L H) H | _ => .bad
theorem Lk.self {c : Code} {K : Kt d} : Lk P d n call c K (fun L H => (denC P d n c).f call L H K) := fun L H => qn5 P d n call c L H K
theorem qak {f : FuncId} {F : Func} (hf : P.funcs[f]? = some F) (hn : (F.name == "runtime.NumGoroutine") = false) (hb : F.body.isSome = true) (hd : qqt (codeOf F) = true) {args : List AV} (ha : (Nat.ble args.length F.ntmps && Nat.ble (F.ntmps + 1) 262144) = true)
  {D : TT AV (qan (F.ntmps + 1)) → Hp → R1} (h : Lk P (qan (F.ntmps + 1)) F.ntmps call (codeOf F) (endR (qei P (qan (F.ntmps + 1)) F.ntmps F.results.toList).f) D) (H : Hp) :
  (funS P f).f call args H = D (wrL args 0 (same .undef _)) H := by
 refine (q4d hf hn hb ha (D := fun L H => fin ((den P (qan (F.ntmps + 1)) F.ntmps (codeOf F)).f call L H) (endK F.ntmps call (qei P (qan (F.ntmps + 1)) F.ntmps F.results.toList).f)) (fun _ _ => rfl) H).trans ?_
 rw [← h]
 cases h1 : (den P (qan (F.ntmps + 1)) F.ntmps (codeOf F)).f call (wrL args 0 (same .undef _)) H with
 | bad => rfl
 | ok e L' H' =>
  have hs := qlc (Nat.lt_of_lt_of_le (Nat.lt_succ_self _) (qfv _)) (codeOf F) hd h1
  simp only [Bool.and_eq_true, Nat.ble_eq] at ha
  have h0 := qod ha.1 ha.2
  have hout : outC F.ntmps call (qei P (qan (F.ntmps + 1)) F.ntmps F.results.toList).f L' H' = finR ((qei P (qan (F.ntmps + 1)) F.ntmps F.results.toList).f L' H') H' := by
   unfold outC
   rw [hs, h0]; rfl
  cases e with
  | normal => exact hout
  | ret => exact hout
  | exit i => rfl
  | goto i => rfl
end Go.Di
end
noncomputable section
namespace Go.Di
open Go.Ev
def dz (up : Nat) (H : Hp) (k : Nat → Hp → R1) : R1 := k H.nx ⟨H.t, H.nx + up⟩
def dz2 (p : List Pd) (H : Hp) (k : Hp → R1) : R1 := k (allH p H)
def rV (r : R0) : Option AV := match r with | .val v => some v | _ => none
def qd0 (a : Option AV) (b : Option (List AV)) : Option (List AV) := match a, b with | some v, some l => some (v :: l) | _, _ => none
def tupO (a : Option (List AV)) : Option AV := match a with | some l => some (.tup l) | none => none
def p1 : P1 := ⟨fun cs off => cs[off]?⟩
def nilC (x : AV) : R0 := match x with | .ptr b o => .val (.ptr b o) | .fn a b c => .val (.fn a b c) | .yield l => .val (.yield l) | _ => .bad
def extr (i : Nat) (x : AV) : R0 := match x with | .tup l => (match l[i]? with | some v => .val v | none => .bad) | _ => .bad
end Go.Di
end
noncomputable section
namespace Go.Ev
open Go.RowKit
variable {P : Program} {d n : Nat} {call : Call} {m : Nat}
def cutC : Nat → Code → Code
 | 0, _ => .skip
 | k + 1, .seq a b => .seq a (cutC k b)
 | _, c => c
def tlC : Nat → Code → Code
 | 0, c => c
 | k + 1, .seq _ b => tlC k b
 | _, _ => .skip
def spB : Nat → Code → Bool
 | 0, _ => true
 | k + 1, .seq _ b => spB k b
 | _, _ => false
theorem q5w (hC : qjo P call) (hm : P.follows .mixedOrders = true) : ∀ (k : Nat) (c : Code), spB k c = true → ∀ {F : Fence}, Fence.IsWide F → (F.round = none ∨ qa3 c = true) → ∀ {pl : Bool} {lo : Nat} {ι : Im} {w : World} {a : Act} {L : TT AV d} {H : Hp}, HR ι H w → LR ι d n L a.tmps → (pl = true → qa3 c = true) → Md pl lo ι H w (dl ((qap d n).f L)) a.defers →
  ∀ {ex : Ex} {L' : TT AV d} {H' : Hp}, (den P d n (cutC k c)).f call L H = .ok ex L' H' → ∀ {Q : Exit → Act → World → Prop}, (ex = .normal → After pl lo ι H w d n L' H' fun a' w' => (tlC k c).wpIn F m P Q a' w') → (ex ≠ .normal → After pl lo ι H w d n L' H' (Q (q5s ex))) → c.wpIn F m P Q a w
 | 0, c, _, F, hF, hr, pl, lo, ι, w, a, L, H, hH, h, hpl, hM, ex, L', H', he, Q, h1, h2 => by
  cases he
  exact h1 rfl a w ι h hM hH (Fr.refl ..)
 | k + 1, .seq x y, hs, F, hF, hr, pl, lo, ι, w, a, L, H, hH, h, hpl, hM, ex, L', H', he, Q, h1, h2 => by
  have hrx : F.round = none ∨ qa3 x = true := hr.imp id fun h => by simp only [qa3, Bool.and_eq_true] at h; exact h.1
  have hry : F.round = none ∨ qa3 y = true := hr.imp id fun h => by simp only [qa3, Bool.and_eq_true] at h; exact h.2
  have hpx : pl = true → qa3 x = true := fun e => by have := hpl e; simp only [qa3, Bool.and_eq_true] at this; exact this.1
  have hpy : pl = true → qa3 y = true := fun e => by have := hpl e; simp only [qa3, Bool.and_eq_true] at this; exact this.2
  refine wpIn_seq ?_
  have he' : seqC ((den P d n x).f call L H) ((den P d n (cutC k y)).f call) = .ok ex L' H' := he
  rcases qq7 he' with ⟨L1, H1, g1, g2⟩ | ⟨hne, g1⟩
  ·exact qr7 hC hm x hF hrx hH h hpx hM g1 fun a' w' ι' r1 r2 r3 r4 => q5w hC hm k y hs hF hry r3 r1 hpy r2 g2 (fun e => (h1 e).normal r4) fun e => (h2 e).normal r4
  ·refine qr7 hC hm x hF hrx hH h hpx hM g1 fun a' w' ι' r1 r2 r3 r4 => ?_
   have := h2 hne a' w' ι' r1 r2 r3 r4
   cases ex <;> first | exact absurd rfl hne | exact this
theorem qsw : ∀ (k : Nat) (c : Code), qa3 c = true → qa3 (tlC k c) = true
 | 0, _, h => h
 | k + 1, c, h => by
  cases c with
  | seq x y => exact qsw k y (by simp only [qa3, Bool.and_eq_true] at h; exact h.2)
  | _ => rfl
theorem q7h (hC : qjo P call) (hm : P.follows .mixedOrders = true) {f : FuncId} {fn : Func} {c : Code} {k : Nat} (hfn : P.funcs[f]? = some fn) (hbody : fn.body = some c) (hsp : spB k c = true) (hnr : qa3 c = true) {args : List AV} (hb1 : args.length ≤ fn.ntmps) (hb2 : fn.ntmps + 1 ≤ 262144) {ARGS : List Value} {ι : Im} {H : Hp} {w : World} (hH : HR ι H w) (ha : RepL ι args ARGS) {L1 : TT AV (qan (fn.ntmps + 1))} {H1 : Hp}
  (hpre : (den P (qan (fn.ntmps + 1)) fn.ntmps (cutC k c)).f call (wrL args 0 (same .undef _)) H = .ok .normal L1 H1)
  (htail : ∀ ι1 w1 (a1 : Act), HR ι1 H1 w1 → LR ι1 (qan (fn.ntmps + 1)) fn.ntmps L1 a1.tmps → ∃ ι2 L2 H2 ex L3 H3, HR ι2 H2 w1 ∧ LR ι2 (qan (fn.ntmps + 1)) fn.ntmps L2 a1.tmps ∧ Fr ι1 ι2 H1 H2 w1 w1 ∧ (qap (qan (fn.ntmps + 1)) fn.ntmps).f L2 = (qap (qan (fn.ntmps + 1)) fn.ntmps).f L1 ∧
   (den P (qan (fn.ntmps + 1)) fn.ntmps (tlC k c)).f call L2 H2 = .ok ex L3 H3 ∧ (ex = .normal ∨ ex = .ret) ∧ (qei P (qan (fn.ntmps + 1)) fn.ntmps fn.results.toList).f L3 H3 = some (.bool true)) :
  ∀ m, CallsIn Fence.wide m P f ARGS.toArray w fun e w' => e = .returned (.bool true) ∧ ∃ ι' H', HR ι' H' w' ∧ Fr ι ι' H H' w w' := fun m => by
 refine callsIn_of_wp_marks hfn hbody trivial ?_
 refine q5w (m := m) hC hm k c hsp Fence.isWide (.inl rfl) (pl := true) (lo := w.heap.size) hH (LR.start ha hb1 hb2) (fun _ => hnr) (by rw [qod hb1 hb2]; exact Md.nil (Nat.le_refl _)) hpre (fun _ a1 w1 ι1 r1 r2 r3 r4 => ?_) (fun h => absurd rfl h)
 obtain ⟨ι2, L2, H2, ex, L3, H3, q1, q2, q3, q4, e1, e2, e3⟩ := htail ι1 w1 a1 r3 r1
 refine qr7 (m := m) hC hm (tlC k c) Fence.isWide (.inl rfl) (pl := true) (lo := w.heap.size) q1 q2 (fun _ => qsw k c hnr) (by rw [q4]; exact r2.fr q3) e1 fun a' w' ι' s1 s2 s3 s4 => ?_
 obtain ⟨h0, _, Ds, hD⟩ := s2
 have h0 := h0 rfl
 obtain ⟨V, v1, v2⟩ := qp4 s1 s3 fn e3
 have hV : V = .bool true := by simpa only [Rep] using v2
 have fin : LeavesInM Fence.wide m P fn a'.tmps (fun e w' => e = .returned (.bool true) ∧ ∃ ι' H', HR ι' H' w' ∧ Fr ι ι' H H' w w') a'.defers .returning w' := by
  rw [h0]
  exact ⟨V, v1, by rw [hV], ι', H3, s3, (r4.trans q3).trans s4⟩
 rcases e2 with rfl | rfl
 ·exact fin
 ·exact fin
theorem q3c {ι : Im} {H : Hp} {w : World} (hH : HR ι H w) {b : Nat} {loc : Loc} (hb : ι b = some loc) {l : List AV} (hg : H.get b = qac 1 l) (hrd : qd6 (H.get b) 0 l.length = some l) :
  loc.ext = 0 ∨ ∃ (u : Value) (loc' : Loc), loc'.blk = loc.blk ∧ loc'.base = loc.base ∧ loc'.ext + 1 = loc.ext ∧ HR (ι.set H.nx loc') (qaq (H.put b .dead) (qac 1 (l ++ [.lit u]))) w ∧ Fr ι (ι.set H.nx loc') H (qaq (H.put b .dead) (qac 1 (l ++ [.lit u]))) w w := by
 have hlt := hH.lt hb
 have hB := hH.blk b hlt
 obtain ⟨ol, ov⟩ := qkv hB hrd
 rw [hg] at hB
 unfold qac at hB
 obtain ⟨l', b1, ⟨b2, b2'⟩, b3, b4⟩ := hB
 rw [hb] at b1; cases b1
 rcases Nat.eq_zero_or_pos loc.ext with h0 | h0
 ·exact .inl h0
 right
 have hwr : (H.get b).wr = true := by rw [hg]; rfl
 obtain ⟨u, c1, c2, c3⟩ := b4 rfl 0 (by rw [b2']; omega)
 rw [Nat.add_zero] at c1 c2
 let loc' : Loc := ⟨loc.blk, loc.base, loc.ext - 1, 1⟩
 have hnone := hH.fresh H.nx (Nat.le_refl _)
 have hle : ι.le (ι.set H.nx loc') := Im.le_set loc' hnone
 obtain ⟨k1, k2⟩ := hH.kill hlt hwr
 have hnx : InH H.nx := inH
 have hdead : (H.put b .dead).get H.nx = .dead := k1.free _ (Nat.le_refl _) hnx
 obtain ⟨ovs, o1, o2, o3, o4⟩ : ∃ ovs, RepL ι l ovs ∧ ovs.length = l.length ∧ (∀ v ∈ ovs, v.oneCell = true) ∧ ∀ (j : Nat) (v : Value), ovs[j]? = some v → w.cell? ⟨loc.blk, loc.base + j, none⟩ = some v := by
  rcases ov with ov | ⟨l2, ovs, g1, g2, g3, g4, g5⟩
  ·have : l = [] := List.length_eq_zero_iff.1 (by omega)
   subst this
   exact ⟨[], by simp [RepL], rfl, by simp, by simp⟩
  ·rw [hb] at g1; cases g1
   exact ⟨ovs, g2, g3, g4, fun j v hv => by simpa using g5 j v hv⟩
 have hbr : BR (ι.set H.nx loc') w H.nx (qac 1 (l ++ [.lit u])) := by
  refine qpk (vs := ovs ++ [u]) (loc := loc') (Im.set_same _ _ _) (RepL.mono hle _ _ (o1.append ⟨u, [], rfl, by simp only [Rep], by simp [RepL]⟩)) (fun v hv => ?_) (fun j v hv => ?_) (fun j hj => ?_)
  ·rcases List.mem_append.1 hv with hv | hv
   ·exact o3 v hv
   ·obtain rfl := List.mem_singleton.1 hv; exact c3
  ·show w.cell? ⟨loc.blk, loc.base + j, none⟩ = some v ∧ w.frozen? ⟨loc.blk, loc.base + j, none⟩ = false
   by_cases hj : j < ovs.length
   ·rw [List.getElem?_append_left hj] at hv
    obtain ⟨V, d1, _, _, d4⟩ := b3 j (by omega)
    exact ⟨o4 j v hv, d4 rfl⟩
   ·have hj2 : j = ovs.length := by
     rcases Nat.lt_or_ge j (ovs ++ [u]).length with h | h
     ·simp at h; omega
     ·rw [List.getElem?_eq_none h] at hv; cases hv
    subst hj2
    rw [List.getElem?_append_right (Nat.le_refl _), Nat.sub_self] at hv
    cases hv
    rw [o2]
    exact ⟨c1, c2⟩
  ·show ∃ V, w.cell? ⟨loc.blk, loc.base + ((l ++ [AV.lit u]).length + j), none⟩ = some V ∧ w.frozen? ⟨loc.blk, loc.base + ((l ++ [AV.lit u]).length + j), none⟩ = false ∧ V.oneCell = true
   have hj : j < (loc.ext - 1) * 1 := hj
   have := b4 rfl (j + 1) (by rw [b2']; omega)
   rw [List.length_append, List.length_singleton, Nat.add_assoc, Nat.add_comm 1 j]
   exact this
 have hsep : ∀ c mm, InH c → ((H.put b .dead).get c).isDead = false → ι c = some mm → mm.blk ≠ loc.blk := fun c mm hc h1 h2 he => by
  rw [Hp.get_put _ _ _ _ hlt hc] at h1
  by_cases ecb : c = b
  ·subst ecb; simp [Blk.isDead] at h1
  ·rw [if_neg ecb] at h1
   exact ecb (hH.inj b c loc mm hlt hc hwr h1 hb h2 he.symm).symm
 have hadd := k1.add (w' := w) hnx hnone hdead (Nat.le_succ _) hnx (Nat.lt_succ_self _) loc' (qac 1 (l ++ [.lit u])) (Nat.le_refl _) (fun _ _ _ _ _ => rfl) (fun _ => hH.low b loc hlt (Blk.live_of_wr hwr) hb) hsep hbr
 refine ⟨u, loc', rfl, rfl, by show loc.ext - 1 + 1 = loc.ext; omega, hadd, hle, Nat.le_succ _, fun c h1 h2 => ?_, rfl, rfl, rfl, Nat.le_refl _, fun c hc h1 => rfl, fun c mm hc h1 h2 => ?_, fun c mm hc h1 h2 => ?_⟩
 ·by_cases e : c = H.nx
  ·omega
  ·rw [Im.set_ne _ _ e] at h2; exact absurd h1 h2
 ·have hgc : (qaq (H.put b .dead) (qac 1 (l ++ [.lit u]))).get c = if c = H.nx then qac 1 (l ++ [.lit u]) else (H.put b .dead).get c := by exact Mem.get_put _ _ _ _
  by_cases e : c = H.nx
  ·subst e; rw [Im.set_same] at h2; cases h2; exact .inr ⟨b, loc, hlt, hwr, hb, rfl⟩
  ·rw [hgc, if_neg e, Hp.get_put _ _ _ _ hlt hc] at h1; rw [Im.set_ne _ _ e] at h2
   by_cases ecb : c = b
   ·subst ecb; simp [Blk.wr] at h1
   ·rw [if_neg ecb] at h1; exact .inr ⟨c, mm, hc, h1, h2, rfl⟩
 ·have hgc : (qaq (H.put b .dead) (qac 1 (l ++ [.lit u]))).get c = if c = H.nx then qac 1 (l ++ [.lit u]) else (H.put b .dead).get c := by exact Mem.get_put _ _ _ _
  by_cases e : c = H.nx
  ·subst e; rw [Im.set_same] at h2; cases h2; exact .inr ⟨b, loc, hlt, Blk.live_of_wr hwr, hb, rfl⟩
  ·rw [hgc, if_neg e, Hp.get_put _ _ _ _ hlt hc] at h1; rw [Im.set_ne _ _ e] at h2
   by_cases ecb : c = b
   ·subst ecb; simp [Blk.isDead] at h1
   ·rw [if_neg ecb] at h1; exact .inr ⟨c, mm, hc, h1, h2, rfl⟩
end Go.Ev
end
noncomputable section
namespace Go.Ev
open Go.RowKit
variable {P : Program} {w : World}
theorem qwh {f : FuncId} (hb : qr3 P f = true) (A : Array Value) : (callFunc f A).run P w = .ok (.enter f A) w := by
 unfold qr3 at hb
 split at hb
 ·rename_i fn hfn
  simp only [Bool.and_eq_true, Bool.not_eq_true'] at hb
  obtain ⟨c, hc'⟩ := Option.isSome_iff_exists.1 hb.1
  have hname' : ¬ fn.name = "runtime.NumGoroutine" := fun e => by rw [e] at hb; simp at hb
  simp [callFunc, hfn, hname', hc']
 ·cases hb
def YesN (P : Program) (f : FuncId) (s : Nat × Nat) : Prop := ∀ (V : Value) (ι : Im) (w : World), Rep ι (.str s.1 s.2) V → Calls P f #[V] w fun e w' => e = .returned (.bool true) ∧ Below w.heap.size w w'
def qvt (fs : List FuncId) (ns : List (Nat × Nat)) (e : Ext) : Ext := fun g args H =>
 bif fs.any (Nat.beq g) then (match args with
 | [.str n a] => bif ns.any (fun s => Nat.beq n s.1 && Nat.beq a s.2) then some (.ok (.bool true) H) else none
 | _ => none) else e g args H
theorem qx7 {e : Ext} (he : qvr P e) {fs : List FuncId} {ns : List (Nat × Nat)} (h : ∀ f ∈ fs, ∀ s ∈ ns, YesN P f s) (hb : fs.all (qr3 P) = true) : qvr P (qvt fs ns e) := by
 refine ⟨fun g args H r hr v H' hv ι w ARGS hH ha => ?_⟩
 unfold qvt at hr
 cases hg : fs.any (Nat.beq g) with
 | false =>
  rw [hg] at hr
  exact he.fn g _ H r hr v H' hv ι w ARGS hH ha
 | true =>
  rw [hg] at hr
  simp only [cond_true] at hr
  rw [List.any_eq_true] at hg
  obtain ⟨g', hgm, hge⟩ := hg
  obtain rfl := Nat.eq_of_beq_eq_true hge
  refine ⟨qwh (List.all_eq_true.1 hb _ hgm) _, fun k => callsIn_wide.2 ?_⟩
  split at hr
  ·rename_i n a
   cases hs : ns.any (fun s => Nat.beq n s.1 && Nat.beq a s.2) with
   | false => rw [hs] at hr; cases hr
   | true =>
    rw [hs] at hr
    cases hr
    cases hv
    rw [List.any_eq_true] at hs
    obtain ⟨s, hsm, hse⟩ := hs
    rw [Bool.and_eq_true] at hse
    have e1 := Nat.eq_of_beq_eq_true hse.1
    have e2 := Nat.eq_of_beq_eq_true hse.2
    subst e1 e2
    simp only [RepL] at ha
    obtain ⟨V, r, rfl, hV, rfl⟩ := ha
    refine (h g hgm s hsm V ι w hV).mono fun e w' hp => ?_
    obtain ⟨rfl, hw⟩ := hp
    obtain ⟨k1, k2⟩ := hH.of_below hw
    exact ⟨ι, by simp [Rep], k1, k2⟩
  ·cases hr
theorem qvs (hm : P.follows .mixedOrders = true) {ext : Ext} (hE : qvr P ext) {k : Nat} {f : FuncId} {s : Nat × Nat} (h : qsz (callF P ext k (.f f) [.str s.1 s.2] Hp.empty) = true) : YesN P f s := by
 intro V ι w hV
 unfold qsz at h
 split at h
 ·rename_i b H' he
  subst h
  have := ((qq2 hm hE k).fn _ _ _ _ _ he (fun _ => none) w [V] HR.empty (by simp only [RepL]; exact ⟨V, [], rfl, by simpa only [Rep] using hV, rfl⟩)).2 0
  refine (callsIn_wide.1 this).mono fun e w' hp => ?_
  cases e with
  | returned V =>
   obtain ⟨ι', h1, h2, h3⟩ := hp
   simp only [Rep] at h1
   exact ⟨by rw [h1], h3.below _ (Nat.le_refl _) fun b l _ _ h => by cases h⟩
  | panicked => exact hp.elim
  | outgrown => exact hp.elim
 ·cases h
end Go.Ev
end
noncomputable section
namespace Go.Ev
open Go.RowKit Go.WideShapes Go.ChangeShapes Go.ChangeAt
variable {P : Program} {Hd : Type} {enc : TypeId × Value → Hd}
theorem qpu (hl : laidOutB P = true) {W W' : World} {sp : Nat → Bool} : ∀ {ts : List TypeId} {vs : List Value} {ds : List (DataW Hd)} {ps : List MemPlace}, (∀ t ∈ ts, P.readableRec t = true ∧ t < P.types.size) →
  DataW.TrodAll enc P W 0 (fun _ => true) true ts vs ds ps → (∀ p ∈ ps, W.sameAt W' p) → (∀ p ∈ ps, sp p.block = true) → DataW.TrodAll enc P W' 0 sp true ts vs ds ps
 | [], [], [], _, _, h, _, _ => h
 | _ :: _, _ :: _, _ :: _, _, hT, ⟨p, q, h1, h2, e⟩, hs, hb =>
  ⟨p, q, WideElems.Trod_stays hl (hT _ (List.mem_cons.2 (Or.inl rfl))).1 (hT _ (List.mem_cons.2 (Or.inl rfl))).2 h1 (fun x hx => hs x (by rw [e]; exact List.mem_append_left _ hx)) (fun x hx => hb x (by rw [e]; exact List.mem_append_left _ hx)),
   qpu hl (fun t ht => hT t (List.mem_cons.2 (Or.inr ht))) h2 (fun x hx => hs x (by rw [e]; exact List.mem_append_right _ hx)) (fun x hx => hb x (by rw [e]; exact List.mem_append_right _ hx)), e⟩
def q9f (P : Program) (ts : List TypeId) : Bool := ts.all fun t => P.readableRec t && decide (t < P.types.size)
theorem q3s (hl : laidOutB P = true) {f : Func} {s : ChangeSpec} {apart fresh handsOn again : Bool} {W W' : World} {args : Array Value} {ds gs : List (DataW Hd)} {before : List MemPlace} {tb : TypeId}
  (hW : DataW.Whole enc P f.params.toList s.vars apart W args.toList ds gs before) (hv : s.vars = []) (hr : q9f P f.params.toList = true)
  (hfn : s.fn Hd ds = { results := [.lit (.bool true)], args := ds }) (hres : f.resultTypes = #[tb]) (htb : P.underlying tb = some .bool) (hb : Below W.heap.size W W') :
  s.post enc P f apart fresh handsOn again W args (.bool true) W' := by
 have hW' := hW
 obtain ⟨p, q, hA, hV, hq, _, _⟩ := hW
 rw [hv] at hV
 obtain ⟨rfl, rfl⟩ := trodVars_none hV
 have hread : ∀ t ∈ f.params.toList, P.readableRec t = true ∧ t < P.types.size := fun t ht => by
  have := List.all_eq_true.1 hr t ht
  simpa using this
 have hds : ds ++ [] = ds := List.append_nil ds
 refine qyp (pa := p) (pv := []) hW' (fun b sp hd => ?_) (fun sp hsp => ?_) (fun sp _ => ?_) hq hb ?_
 ·rw [hds, hfn, hres]
  exact trodAll_cons_mk (shut_bool htb _) trodAll_mk0
 ·rw [hds, hfn]
  have hlow := hW'.lt
  exact qpu hl hread hA (fun x hx => hb.same (hlow x (by rw [hq]; simpa using hx))) (fun x hx => hsp x (by rw [hq]; simpa using hx))
 ·rw [hds, hfn, hv]; rfl
 ·exact ok_one hres rfl (okWide_bool_mk htb _)
end Go.Ev
end
