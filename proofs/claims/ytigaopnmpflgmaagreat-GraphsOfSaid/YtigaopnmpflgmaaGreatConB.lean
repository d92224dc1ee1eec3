/-
 For GraphsOf: functions in direct style, their contracts, and the plain mathematics, part 2 of 6. No conditions beyond those that each theorem states.
-/
import Derived.Test.YtigaopnmpflgmaaGreatEv4
import Derived.Attr
import Derived.Test.YtigaopnmpflgmaaGreatConA
set_option linter.unusedSimpArgs false
set_option linter.unusedVariables false
open Nat (reduceAdd reduceMul reduceSub reduceLeDiff reduceEqDiff reduceShiftRight reduceAnd)
noncomputable section
namespace Go.Di
open Go.Ev
theorem blt_eq (a b : Nat) : Nat.blt a b = decide (a < b) := by
 cases h : Nat.blt a b with
 | true => symm; rw [decide_eq_true_iff]; exact Nat.le_of_ble_eq_true h
 | false => symm; rw [decide_eq_false_iff_not]; intro h'; rw [show Nat.blt a b = Nat.ble (a + 1) b from rfl, Nat.ble_eq_true_of_le h'] at h; cases h
theorem ble_eq (a b : Nat) : Nat.ble a b = decide (a ≤ b) := by
 cases h : Nat.ble a b with
 | true => symm; rw [decide_eq_true_iff]; exact Nat.le_of_ble_eq_true h
 | false => symm; rw [decide_eq_false_iff_not]; intro h'; rw [Nat.ble_eq_true_of_le h'] at h; cases h
theorem beq_eq (a b : Nat) : Nat.beq a b = decide (a = b) := by
 cases h : Nat.beq a b with
 | true => simp [Nat.eq_of_beq_eq_true h]
 | false => symm; rw [decide_eq_false_iff_not]; rintro rfl; rw [Nat.beq_refl] at h; cases h
/- trees are equal where all their cells are -/
theorem Q_ext {α : Type} {t u : Q α} (h : ∀ k, k < 8 → qmb k t = qmb k u) : t = u := by
 cases t; cases u
 have h0 := h 0 (by decide); have h1 := h 1 (by decide); have h2 := h 2 (by decide); have h3 := h 3 (by decide)
 have h4 := h 4 (by decide); have h5 := h 5 (by decide); have h6 := h 6 (by decide); have h7 := h 7 (by decide)
 simp only [qmb] at h0 h1 h2 h3 h4 h5 h6 h7
 subst h0; subst h1; subst h2; subst h3; subst h4; subst h5; subst h6; subst h7
 rfl
theorem zfl {α : Type} : ∀ (d : Nat) {t u : TT α d}, (∀ i, i < 8 ^ d → (qar d i).f t = (qar d i).f u) → t = u
 | 0, t, u, h => h 0 (by decide)
 | d + 1, t, u, h => by
  refine Q_ext fun k hk => zfl d fun i hi => ?_
  have := h (i * 8 + k) (by rw [Nat.pow_succ]; omega)
  rw [qds, qds] at this
  rwa [show (i * 8 + k) / 8 = i by omega, show (i * 8 + k) % 8 = k by omega] at this
/- blocks as lists -/
def cellsOf (l : List AV) : TT AV (qaw l.length) := wrL l 0 (same .undef _)
theorem qcx (l : List AV) (i : Nat) (hi : i < 8 ^ qaw l.length) : (qar _ i).f (cellsOf l) = l.getD i .undef := by
 unfold cellsOf
 rw [qht _ _ _ _ (by simpa using qbz l.length) hi]
 by_cases h : i < l.length
 ·rw [if_pos (by omega)]; rfl
 ·rw [if_neg (by omega), qg0]
  simp [List.getD_eq_getElem?_getD, List.getElem?_eq_none (Nat.le_of_not_lt h)]
theorem qii (z : Nat) (l : List AV) : qaa z l = .cells (qaw l.length) l.length (cellsOf l) false z := id rfl
def setL (l : List AV) (o : Nat) (v : List AV) : List AV := l.take o ++ v ++ l.drop (o + v.length)
theorem qfm (l : List AV) (o : Nat) (v : List AV) (h : o + v.length ≤ l.length) : (setL l o v).length = l.length := by
 simp [setL]; omega
theorem zct (l : List AV) (o : Nat) (v : List AV) (h : o + v.length ≤ l.length) (i : Nat) :
  (setL l o v).getD i .undef = if o ≤ i ∧ i < o + v.length then v.getD (i - o) .undef else l.getD i .undef := by
 unfold setL
 simp only [List.getD_eq_getElem?_getD]
 by_cases h1 : i < o
 ·rw [if_neg (by omega), List.append_assoc, List.getElem?_append_left (by simp; omega), List.getElem?_take_of_lt h1]
 ·by_cases h2 : i < o + v.length
  ·rw [if_pos (by omega), List.append_assoc, List.getElem?_append_right (by simp; omega), List.getElem?_append_left (by simp; omega)]
   simp [Nat.min_eq_left (show o ≤ l.length by omega)]
  ·rw [if_neg (by omega), List.getElem?_append_right (by simp; omega), List.getElem?_drop]
   simp only [List.length_append, List.length_take, Nat.min_eq_left (show o ≤ l.length by omega)]
   congr 2; omega
theorem qzf (z : Nat) (l v : List AV) (o : Nat) : q2e (qaa z l) o v = if o + v.length ≤ l.length then some (qaa z (setL l o v)) else none := by
 rw [qii]
 show (bif Nat.ble (o + v.length) l.length then some (Blk.cells _ _ (wrL v o (cellsOf l)) false z) else none) = _
 by_cases h : o + v.length ≤ l.length
 ·rw [if_pos h, Nat.ble_eq_true_of_le h]
  have hl := qfm l o v h
  rw [qii]
  have key : ∀ (n : Nat) (e : n = l.length) (c : TT AV (qaw n)), (∀ i, i < 8 ^ qaw n → (qar _ i).f c = (setL l o v).getD i .undef) → Blk.cells (qaw l.length) l.length (wrL v o (cellsOf l)) false z = Blk.cells (qaw n) n c false z := by
   intro n e c hc
   subst e
   congr 1
   refine zfl _ fun i hi => ?_
   have := qbz l.length
   rw [hc i hi, zct _ _ _ h, qht _ _ _ _ (by omega) hi, qcx _ _ hi]
  exact congrArg some (key _ hl _ fun i hi => qcx _ _ hi)
 ·rw [if_neg h]
  have : Nat.ble (o + v.length) l.length = false := by
   cases hb : Nat.ble (o + v.length) l.length with
   | false => rfl
   | true => exact absurd (Nat.le_of_ble_eq_true hb) h
  rw [this]; rfl
theorem qga (z : Nat) (l : List AV) (o : Nat) : qap (qaa z l) o = match l[o]? with | some v => .val v | none => .bad := by
 rw [qii]
 show (bif Nat.blt o l.length then R0.val ((qar _ o).f (cellsOf l)) else .bad) = _
 by_cases h : o < l.length
 ·have hb : Nat.blt o l.length = true := by rw [blt_eq]; simpa using h
  rw [hb, qcx _ _ (Nat.lt_of_lt_of_le h (qbz _))]
  simp [h]
 ·have hb : Nat.blt o l.length = false := by rw [blt_eq]; simpa using h
  rw [hb]
  simp [Nat.le_of_not_lt h]
theorem qz6 {d : Nat} (c : TT AV d) (l : List AV) (hc : ∀ i, i < 8 ^ d → (qar d i).f c = l.getD i .undef) : ∀ (k o : Nat), o + k ≤ l.length → l.length ≤ 8 ^ d → rdN c k o = (l.drop o).take k
 | 0, o, _, _ => by simp [zc2]
 | k + 1, o, h, h2 => by
  rw [qq6, hc _ (by omega), qz6 c l hc k (o + 1) (by omega) h2]
  rw [List.drop_eq_getElem_cons (show o < l.length by omega), List.take_succ_cons]
  simp [show o < l.length by omega]
theorem qdb (z : Nat) (l : List AV) (o k : Nat) : qba (qaa z l) o k = if o + k ≤ l.length then some ((l.drop o).take k) else none := by
 rw [qii]
 show (bif Nat.ble (o + k) l.length then some (rdN (cellsOf l) k o) else none) = _
 by_cases h : o + k ≤ l.length
 ·rw [if_pos h, Nat.ble_eq_true_of_le h, qz6 _ l (fun i hi => qcx l i hi) k o h (qbz _)]; rfl
 ·rw [if_neg h]
  have : Nat.ble (o + k) l.length = false := by
   cases hb : Nat.ble (o + k) l.length with
   | false => rfl
   | true => exact absurd (Nat.le_of_ble_eq_true hb) h
  rw [this]; rfl
theorem q9b (z z' : Nat) (l : List AV) (e : Nat) : qhc (qaa z l) e z' = (decide (l.length = e) && decide (z = z')) := by
 rw [qii]
 show (Nat.beq l.length e && Nat.beq z z') = _
 have hb : ∀ a b, Nat.beq a b = decide (a = b) := fun a b => by
  cases h : Nat.beq a b with
  | true => simp [Nat.eq_of_beq_eq_true h]
  | false => symm; rw [decide_eq_false_iff_not]; rintro rfl; rw [Nat.beq_refl] at h; cases h
 rw [hb, hb]
/- memory -/
theorem get_put (H : Hp) (b c : Nat) (k : Blk) : (H.put b k).get c = if c = b then k else H.get c := Mem.get_put H.t b c k
theorem qam (H : Hp) (b : Nat) (k : Blk) : (H.put b k).get b = k := by rw [get_put, if_pos rfl]
theorem qat (H : Hp) (b c : Nat) (k : Blk) (h : c ≠ b) : (H.put b k).get c = H.get c := by rw [get_put, if_neg h]
theorem nq (H : Hp) (b : Nat) (k : Blk) : (H.put b k).nx = H.nx := id rfl
theorem qil (H : Hp) (c : Nat) (k : Blk) : (qal H k).get c = if c = H.nx then k else H.get c := Mem.get_put H.t H.nx c k
theorem qbc (H : Hp) (k : Blk) : (qal H k).get H.nx = k := by rw [qil, if_pos rfl]
theorem qyn (H : Hp) (c : Nat) (k : Blk) (h : H.nx ≤ c ∧ c ≤ H.nx) : (qal H k).get c = k := by rw [qil, if_pos (by omega)]
theorem qgk (H : Hp) (c : Nat) (k : Blk) (h : c < H.nx) : (qal H k).get c = H.get c := by rw [qil, if_neg (by omega)]
theorem np (H : Hp) (k : Blk) : (qal H k).nx = H.nx + 1 := id rfl
structure Fm (S : Nat → Prop) (H H' : Hp) : Prop where
 nx : H.nx ≤ H'.nx
 get : ∀ b, b < H.nx → ¬ S b → H'.get b = H.get b
def No : Nat → Prop := fun _ => False
theorem Fm.refl (S : Nat → Prop) (H : Hp) : Fm S H H := ⟨Nat.le_refl _, fun _ _ _ => rfl⟩
theorem Fm.trans {S : Nat → Prop} {H H1 H2 : Hp} (a : Fm S H H1) (b : Fm S H1 H2) : Fm S H H2 := ⟨Nat.le_trans a.nx b.nx, fun c hc hs => (b.get c (Nat.lt_of_lt_of_le hc a.nx) hs).trans (a.get c hc hs)⟩
theorem Fm.mono {S T : Nat → Prop} {H H' : Hp} (a : Fm S H H') (h : ∀ b, b < H.nx → S b → T b) : Fm T H H' := ⟨a.nx, fun b hb ht => a.get b hb fun hs => ht (h b hb hs)⟩
theorem Fm.push {S : Nat → Prop} {H H' : Hp} (a : Fm S H H') (k : Blk) : Fm S H (qal H' k) := ⟨Nat.le_succ_of_le a.nx, fun b hb hs => by rw [qgk _ _ _ (Nat.lt_of_lt_of_le hb a.nx)]; exact a.get b hb hs⟩
theorem Fm.put {S : Nat → Prop} {H H' : Hp} (a : Fm S H H') (b : Nat) (k : Blk) (h : b < H.nx → S b) : Fm S H (H'.put b k) := ⟨a.nx, fun c hc hs => by
 rw [qat _ _ _ _ (fun e => hs (by subst e; exact h hc))]; exact a.get c hc hs⟩
theorem Fm.put_new {S : Nat → Prop} {H H' : Hp} (a : Fm S H H') (b : Nat) (k : Blk) (h : H.nx ≤ b) : Fm S H (H'.put b k) := a.put b k fun hb => by omega
theorem Fm.keep {H H' : Hp} (a : Fm No H H') {b : Nat} (hb : b < H.nx) : H'.get b = H.get b := a.get b hb id
theorem Fm.then {S T : Nat → Prop} {H H1 H2 : Hp} (a : Fm S H H1) (b : Fm T H1 H2) (h : ∀ c, c < H.nx → T c → S c) : Fm S H H2 :=
 ⟨Nat.le_trans a.nx b.nx, fun c hc hs => (b.get c (Nat.lt_of_lt_of_le hc a.nx) fun ht => hs (h c hc ht)).trans (a.get c hc hs)⟩
def Ok (r : R1) (Q : AV → Hp → Prop) : Prop := ∃ v H', r = .ok v H' ∧ Q v H'
theorem Ok.ret {v : AV} {H : Hp} {Q : AV → Hp → Prop} (h : Q v H) : Ok (.ok v H) Q := ⟨v, H, rfl, h⟩
theorem Ok.mono {r : R1} {Q R : AV → Hp → Prop} (h : Ok r Q) (hm : ∀ v H, Q v H → R v H) : Ok r R := by
 obtain ⟨v, H, e, q⟩ := h; exact ⟨v, H, e, hm _ _ q⟩
theorem Ok.ve {r : R1} {k : AV → Hp → R1} {Q R : AV → Hp → Prop} (h : Ok r R) (hk : ∀ v H, R v H → Ok (k v H) Q) : Ok (ve r k) Q := by
 obtain ⟨v, H, e, q⟩ := h; subst e; exact hk v H q
theorem Ok.de {A : Nat} {H : Hp} {p : List Pd} {w : List Wt} {r : R1} {k : AV → Hp → List Pd → List Wt → R1} {Q R : AV → Hp → Prop} (h : Ok r R)
  (hk : ∀ v H', R v H' → qh3 (qdi A p) H' (qdh A w) = true ∧ Ok (k v H' (qdi A p) (qdh A w)) Q) : Ok (de A H p w r (some true) k) Q := by
 obtain ⟨v, H', e, q⟩ := h
 subst e
 obtain ⟨h1, h2⟩ := hk v H' q
 rw [zee]
 unfold de0
 simp only [h1, cond_true]
 exact h2
/- steps -/
theorem zj3 (v : AV) (H : Hp) (k : AV → Hp → R1) : vq (.val v) H k = k v H := id rfl
theorem zj4 (v : AV) (b : Blk) (H : Hp) (k : AV → Hp → R1) : vq (.new v b) H k = k v (qal H b) := id rfl
theorem ve_ok (v : AV) (H : Hp) (k : AV → Hp → R1) : ve (.ok v H) k = k v H := id rfl
theorem vg_t (r : R0) (H : Hp) (k : AV → Hp → R1) : vg (some true) r H k = vq r H k := by rw [zhj]; rfl
theorem vg_f (r : R0) (H : Hp) (k : AV → Hp → R1) : vg (some false) r H k = k .undef H := by rw [zhj]; rfl
theorem veg_t (r : R1) (H : Hp) (k : AV → Hp → R1) : veg (some true) r H k = ve r k := by rw [q6n]; rfl
theorem veg_f (r : R1) (H : Hp) (k : AV → Hp → R1) : veg (some false) r H k = k .undef H := by rw [q6n]; rfl
theorem zj6 (v : AV) (k : AV → R1) : vl (.val v) k = k v := id rfl
theorem vlg_t (r : R0) (k : AV → R1) : vlg (some true) r k = vl r k := by rw [qzg]; rfl
theorem vlg_f (r : R0) (k : AV → R1) : vlg (some false) r k = k .undef := by rw [qzg]; rfl
theorem zhi (a b : Bool) : qae a (.bool b) = some (b == a) := id rfl
theorem zhh (a : Bool) : qae a .undef = some false := id rfl
theorem cd_t (x y : R1) : cd (.bool true) x y = x := id rfl
theorem cd_f (x y : R1) : cd (.bool false) x y = y := id rfl
theorem dz_eq (up : Nat) (H : Hp) (k : Nat → Hp → R1) : dz up H k = k H.nx ⟨H.t, H.nx + up⟩ := id rfl
theorem zie (c : Bool) (a b : AV) : qbf (.bool c) a b = .val (if c = true then a else b) := by cases c <;> rfl
@[congr] theorem vq_congr {r r' : R0} {H : Hp} {k : AV → Hp → R1} (h : r = r') : vq r H k = vq r' H k := by rw [h]
@[congr] theorem ve_congr {r r' : R1} {k : AV → Hp → R1} (h : r = r') : ve r k = ve r' k := by rw [h]
@[congr] theorem vg_congr {w w' : Option Bool} {r : R0} {H : Hp} {k : AV → Hp → R1} (h : w = w') : vg w r H k = vg w' r H k := by rw [h]
@[congr] theorem zj7 {w w' : Option Bool} {r : R1} {H : Hp} {k : AV → Hp → R1} (h : w = w') : veg w r H k = veg w' r H k := by rw [h]
@[congr] theorem vl_congr {r r' : R0} {k : AV → R1} (h : r = r') : vl r k = vl r' k := by rw [h]
@[congr] theorem zj5 {w w' : Option Bool} {r : R0} {k : AV → R1} (h : w = w') : vlg w r k = vlg w' r k := by rw [h]
@[congr] theorem cd_congr {x x' : AV} {a b : R1} (h : x = x') : cd x a b = cd x' a b := by rw [h]
@[congr] theorem dz_congr {u : Nat} {H : Hp} {k : Nat → Hp → R1} : dz u H k = dz u H k := rfl
end Go.Di
end
noncomputable section
namespace Go.Di
open Go.Ev
theorem qg1 (k : IntKind) : eqK k k = true := by cases k <;> rfl
theorem qd2 (a b : Int) : ltI a b = decide (a < b) := by
 cases a <;> cases b <;> simp only [ltI, blt_eq] <;> rename_i m n <;> apply Bool.eq_iff_iff.2 <;> simp only [decide_eq_true_eq, Int.ofNat_eq_natCast, Int.negSucc_eq] <;> first | omega | (simp; omega)
theorem qes (a b : Int) : eqI a b = decide (a = b) := by
 cases a <;> cases b <;> simp only [eqI, beq_eq] <;> rename_i m n <;> apply Bool.eq_iff_iff.2 <;> simp only [decide_eq_true_eq, Int.ofNat_eq_natCast, Int.negSucc_eq] <;> first | omega | (simp; omega)
theorem qgn (n : Nat) (h : n < 9223372036854775808) : qev .i64 (.ofNat n) = .ofNat n := by
 show (bif Nat.blt n 9223372036854775808 then _ else _) = _
 rw [blt_eq, decide_eq_true h]; rfl
theorem zms (a b : Int) : intV (qab .add).f (.int .i64 a) (.int .i64 b) = .val (.int .i64 (qev .i64 (a + b))) := id rfl
theorem zkc (a b : Int) : intV (qab .sub).f (.int .i64 a) (.int .i64 b) = .val (.int .i64 (qev .i64 (a - b))) := id rfl
theorem zlb (a b : Int) : intV (qab .mul).f (.int .i64 a) (.int .i64 b) = .val (.int .i64 (qev .i64 (a * b))) := id rfl
theorem zmr (a b : Nat) (h : a + b < 9223372036854775808) : intV (qab .add).f (.int .i64 (.ofNat a)) (.int .i64 (.ofNat b)) = .val (.int .i64 (.ofNat (a + b))) := by
 rw [zms]; exact congrArg (fun x => R0.val (.int .i64 x)) (qgn (a + b) h)
theorem zkb (a b : Nat) (h : b ≤ a) (h2 : a < 9223372036854775808) : intV (qab .sub).f (.int .i64 (.ofNat a)) (.int .i64 (.ofNat b)) = .val (.int .i64 (.ofNat (a - b))) := by
 rw [zkc, show (Int.ofNat a - Int.ofNat b) = Int.ofNat (a - b) by simp only [Int.ofNat_eq_natCast]; omega, qgn _ (by omega)]
theorem zla (a b : Nat) (h : a * b < 9223372036854775808) : intV (qab .mul).f (.int .i64 (.ofNat a)) (.int .i64 (.ofNat b)) = .val (.int .i64 (.ofNat (a * b))) := by
 rw [zlb]; exact congrArg (fun x => R0.val (.int .i64 x)) (qgn (a * b) h)
theorem zkv (a b : Nat) (h : 0 < b) (h2 : a < 9223372036854775808) : intV (qab .quo).f (.int .i64 (.ofNat a)) (.int .i64 (.ofNat b)) = .val (.int .i64 (.ofNat (a / b))) := by
 have hz : eqI (.ofNat b) 0 = false := by rw [qes]; simp; omega
 show (bif eqI (.ofNat b) 0 then R0.bad else .val (.int .i64 (qev .i64 ((Int.ofNat a).tdiv (Int.ofNat b))))) = _
 rw [hz]
 exact congrArg (fun x => R0.val (.int .i64 x)) (qgn (a / b) (Nat.lt_of_le_of_lt (Nat.div_le_self _ _) h2))
theorem zkr (a b : Nat) (h : 0 < b) : intV (qab .rem).f (.int .i64 (.ofNat a)) (.int .i64 (.ofNat b)) = .val (.int .i64 (.ofNat (a % b))) := by
 have hz : eqI (.ofNat b) 0 = false := by rw [qes]; simp; omega
 show (bif eqI (.ofNat b) 0 then R0.bad else .val (.int .i64 ((Int.ofNat a).tmod (Int.ofNat b)))) = _
 rw [hz]; rfl
theorem zkq (a b : Nat) (h : 0 < b) : intV (qab .rem).f (.int .u8 (.ofNat a)) (.int .u8 (.ofNat b)) = .val (.int .u8 (.ofNat (a % b))) := by
 have hz : eqI (.ofNat b) 0 = false := by rw [qes]; simp; omega
 show (bif eqI (.ofNat b) 0 then R0.bad else .val (.int .u8 ((Int.ofNat a).tmod (Int.ofNat b)))) = _
 rw [hz]; rfl
theorem zlh (k : IntKind) (a b : Int) : intV (qab .lss).f (.int k a) (.int k b) = .val (.bool (decide (a < b))) := by
 show (bif eqK k k then R0.val (.bool (ltI a b)) else .bad) = _
 rw [qg1, qd2]; rfl
theorem zlk (k : IntKind) (a b : Int) : intV (qab .leq).f (.int k a) (.int k b) = .val (.bool (decide (a ≤ b))) := by
 show (bif eqK k k then R0.val (.bool (!ltI b a)) else .bad) = _
 rw [qg1, qd2, ← decide_not]; simp only [cond_true]; congr 2; simp only [Int.not_lt]
theorem zlw (k : IntKind) (a b : Int) : intV (qab .gtr).f (.int k a) (.int k b) = .val (.bool (decide (b < a))) := by
 show (bif eqK k k then R0.val (.bool (ltI b a)) else .bad) = _
 rw [qg1, qd2]; rfl
theorem zly (k : IntKind) (a b : Int) : intV (qab .geq).f (.int k a) (.int k b) = .val (.bool (decide (b ≤ a))) := by
 show (bif eqK k k then R0.val (.bool (!ltI a b)) else .bad) = _
 rw [qg1, qd2, ← decide_not]; simp only [cond_true]; congr 2; simp only [Int.not_lt]
theorem zl3 (k : IntKind) (a b : Int) : intV (qab .eql).f (.int k a) (.int k b) = .val (.bool (decide (a = b))) := by
 show (bif eqK k k then R0.val (.bool (eqI a b)) else .bad) = _
 rw [qg1, qes]; rfl
theorem zk9 (k : IntKind) (a b : Int) : intV (qab .neq).f (.int k a) (.int k b) = .val (.bool (!decide (a = b))) := by
 show (bif eqK k k then R0.val (.bool (!eqI a b)) else .bad) = _
 rw [qg1, qes]; rfl
theorem not_b (b : Bool) : (unS .not).f (.bool b) = .val (.bool !b) := id rfl
/- numbers -/
theorem zdg (a b : Nat) : (Int.ofNat a < Int.ofNat b) = (a < b) := by simp
theorem zdh (a b : Nat) : (Int.ofNat a ≤ Int.ofNat b) = (a ≤ b) := by simp
theorem q0g (a b : Nat) : (Int.ofNat a = Int.ofNat b) = (a = b) := by simp only [Int.ofNat_eq_natCast, eq_iff_iff]; omega
theorem q29 (a b : Nat) : (Int.negSucc a < Int.ofNat b) = True := by simp only [Int.negSucc_eq, Int.ofNat_eq_natCast, eq_iff_iff, iff_true]; omega
theorem q3c (a b : Nat) : (Int.ofNat a < Int.negSucc b) = False := by simp only [Int.negSucc_eq, Int.ofNat_eq_natCast, eq_iff_iff, iff_false]; omega
theorem q3a (a b : Nat) : (Int.negSucc a ≤ Int.ofNat b) = True := by simp only [Int.negSucc_eq, Int.ofNat_eq_natCast, eq_iff_iff, iff_true]; omega
theorem q3d (a b : Nat) : (Int.ofNat a ≤ Int.negSucc b) = False := by simp only [Int.negSucc_eq, Int.ofNat_eq_natCast, eq_iff_iff, iff_false]; omega
theorem q3b (a b : Nat) : (Int.negSucc a = Int.ofNat b) = False := by simp
theorem q3e (a b : Nat) : (Int.ofNat a = Int.negSucc b) = False := by simp
/- memory -/
theorem ziw (H : Hp) (b o : Nat) : qad H (.ptr b o) = qap (H.get b) o := id rfl
theorem ziv (k : Nat) (H : Hp) (b o : Nat) : qas k H (.ptr b o) = aggR (qba (H.get b) o k) := id rfl
theorem q95 (l : List AV) : aggR (some l) = .val (.agg l) := id rfl
theorem q96 (l : List AV) : aggN (some l) = .val (.agg l) := id rfl
theorem zkt (v : AV) : rV (.val v) = some v := id rfl
theorem q84 (v : AV) (H : Hp) : finR (some v) H = .ok v H := id rfl
theorem qjd (H : Hp) (b o : Nat) (v : List AV) (r : AV) (z : Nat) (l : List AV) (hb : H.get b = qaa z l) (h : o + v.length ≤ l.length) : storeAt H b o v r = .ok r (H.put b (qaa z (setL l o v))) := by
 unfold storeAt
 rw [hb, qzf, if_pos h]
theorem q2h (H : Hp) (b o : Nat) (v : List AV) (r : AV) : storeAt H b o v r = (match q2e (H.get b) o v with | some blk => .ok r (H.put b blk) | none => .bad) := id rfl
theorem q2l (H : Hp) (b o : Nat) (k : IntKind) (n : Int) : qbb H (.ptr b o) (.int k n) = storeAt H b o [.int k n] .undef := id rfl
theorem qx2 (H : Hp) (b o : Nat) (n : Bool) : qbb H (.ptr b o) (.bool n) = storeAt H b o [.bool n] .undef := id rfl
theorem q6r (H : Hp) (b o : Nat) (b' o' l c : Nat) (e : Bool) : qbb H (.ptr b o) (.sl b' o' l c e) = storeAt H b o [.sl b' o' l c e] .undef := id rfl
theorem qsb (H : Hp) (b o : Nat) : qbb H (.ptr b o) .nilsl = storeAt H b o [.nilsl] .undef := id rfl
theorem qzm (k : Nat) (H : Hp) (b o : Nat) (l : List AV) : qay k H (.ptr b o) (.agg l) = bif Nat.beq l.length k then storeAt H b o l .undef else .bad := id rfl
theorem zmk (k nm : Nat) (l : List AV) : boxA k nm (.agg l) = bif Nat.beq l.length k then .new (.ptr nm 0) (qaa 0 l) else .bad := id rfl
theorem zen (nm : Nat) (k : IntKind) (n : Int) : box1 nm (.int k n) = .new (.ptr nm 0) (qaa 0 [.int k n]) := id rfl
theorem zju (nm : Nat) (b' o' l c : Nat) (e : Bool) : box1 nm (.sl b' o' l c e) = .new (.ptr nm 0) (qaa 0 [.sl b' o' l c e]) := id rfl
theorem q37 (nm : Nat) : box1 nm .nilsl = .new (.ptr nm 0) (qaa 0 [.nilsl]) := id rfl
theorem zd1 (off b o : Nat) : qac off (.ptr b o) = .val (.ptr b (o + off)) := id rfl
theorem zk6 (b o : Nat) : nilC (.ptr b o) = .val (.ptr b o) := id rfl
theorem qg8 (z b o n c : Nat) (e : Bool) (k : IntKind) (i : Nat) (h : i < n) : idxS z (.sl b o n c e) (.int k (.ofNat i)) = .val (.ptr b (o + i * z)) := by
 show (bif Nat.blt i n then _ else _) = _
 rw [blt_eq, decide_eq_true h]; rfl
theorem zlv (n z b o : Nat) (k : IntKind) (i : Nat) (h : i < n) : idxA n z (.ptr b o) (.int k (.ofNat i)) = .val (.ptr b (o + i * z)) := by
 show (bif Nat.blt i n then _ else _) = _
 rw [blt_eq, decide_eq_true h]; rfl
theorem zdq (b o n c : Nat) (e : Bool) : lenSl (.sl b o n c e) = .val (.int .i64 (.ofNat n)) := id rfl
theorem q8f : lenSl .nilsl = .val (.int .i64 (.ofNat 0)) := id rfl
theorem zix : lenSl .sle = .val (.int .i64 (.ofNat 0)) := id rfl
theorem zjt (b o n c : Nat) : capV (.sl b o n c true) = .val (.int .i64 (.ofNat c)) := id rfl
theorem zek : capV .nilsl = .val (.int .i64 (.ofNat 0)) := id rfl
theorem zl0 (i : Nat) (l : List AV) : extr i (.tup l) = (match l[i]? with | some v => .val v | none => .bad) := id rfl
theorem q28 (n nm : Nat) (l : List AV) : qco n nm (some l) = .new (.sl nm 0 n n true) (qaa 0 l) := id rfl
attribute [go_sem] zj3 zj4 ve_ok vg_t vg_f veg_t veg_f zj6 vlg_t vlg_f zhi zhh cd_t cd_f dz_eq zie
 zmr zkb zla zkv zkr zkq zlh zlk zlw zly zl3 zk9 not_b
 zdg zdh q0g q29 q3c q3a q3d q3b q3e
 ziw ziv q95 q96 zkt q84 q2l qx2 q6r qsb qzm zmk zen zju q37 zd1 zk6 qg8 zlv
 zdq q8f zix zjt zek zl0 q28 qga qdb qzf q2h
 qam qyn qgk qat nq np
 beq_self_eq_true Bool.true_beq Bool.false_beq beq_true beq_false Bool.not_true Bool.not_false Bool.not_eq_true' Bool.not_eq_false' decide_true decide_false decide_eq_true_eq decide_eq_false_iff_not Bool.false_eq_true
 if_true if_false ite_self Nat.zero_add Nat.add_zero Nat.mul_one Nat.zero_mul cond_true cond_false reduceCtorEq not_false_eq_true not_true_eq_false
 List.take_succ_cons List.take_zero List.drop_zero List.drop_succ_cons List.getElem?_cons_zero List.getElem?_cons_succ List.length_cons List.length_nil List.length_map List.getElem?_map
end Go.Di
end
noncomputable section
namespace Go.Di
open Go.Ev
def vD (r : R0) (lk al : Bool) (i A nm : Nat) (H : Hp) (p : List Pd) (w : List Wt) (f : Hp → R0) (k : AV → Hp → List Pd → List Wt → R1) : R1 :=
 match r with
  | .bad => .bad
  | .val v => k v H p (bif lk then ⟨i, A, f, v⟩ :: w else w)
  | .new v b => bif al && b.wr then k v H (⟨i, nm, b⟩ :: p) w else .bad
theorem dq_t (lk al : Bool) (i A nm : Nat) (H : Hp) (p : List Pd) (w : List Wt) (f : Hp → R0) (k : AV → Hp → List Pd → List Wt → R1) : dq lk al i A nm H p w f (some true) k = vD (f (qax A p H)) lk al i A nm H p w f k := by rw [zed]; rfl
theorem dq_f (lk al : Bool) (i A nm : Nat) (H : Hp) (p : List Pd) (w : List Wt) (f : Hp → R0) (k : AV → Hp → List Pd → List Wt → R1) : dq lk al i A nm H p w f (some false) k = k .undef H p w := by rw [zed]; rfl
@[congr] theorem dq_congr {lk al : Bool} {i A nm : Nat} {H : Hp} {p : List Pd} {w : List Wt} {f : Hp → R0} {g g' : Option Bool} {k : AV → Hp → List Pd → List Wt → R1} (h : g = g') : dq lk al i A nm H p w f g k = dq lk al i A nm H p w f g' k := by rw [h]
@[congr] theorem vD_congr {r r' : R0} {lk al : Bool} {i A nm : Nat} {H : Hp} {p : List Pd} {w : List Wt} {f : Hp → R0} {k : AV → Hp → List Pd → List Wt → R1} (h : r = r') : vD r lk al i A nm H p w f k = vD r' lk al i A nm H p w f k := by rw [h]
@[congr] theorem de_congr {A : Nat} {H : Hp} {p : List Pd} {w : List Wt} {r r' : R1} {g g' : Option Bool} {k : AV → Hp → List Pd → List Wt → R1} (h : g = g') (hr : r = r') : de A H p w r g k = de A H p w r' g' k := by rw [h, hr]
theorem vD_q (v : AV) (al : Bool) (i A nm : Nat) (H : Hp) (p : List Pd) (w : List Wt) (f : Hp → R0) (k : AV → Hp → List Pd → List Wt → R1) : vD (.val v) false al i A nm H p w f k = k v H p w := id rfl
theorem vD_l (v : AV) (al : Bool) (i A nm : Nat) (H : Hp) (p : List Pd) (w : List Wt) (f : Hp → R0) (k : AV → Hp → List Pd → List Wt → R1) : vD (.val v) true al i A nm H p w f k = k v H p (⟨i, A, f, v⟩ :: w) := id rfl
theorem zj8 (v : AV) (z : Nat) (l : List AV) (lk : Bool) (i A nm : Nat) (H : Hp) (p : List Pd) (w : List Wt) (f : Hp → R0) (k : AV → Hp → List Pd → List Wt → R1) : vD (.new v (qaa z l)) lk true i A nm H p w f k = k v H (⟨i, nm, qaa z l⟩ :: p) w := id rfl
theorem de_f (A : Nat) (H : Hp) (p : List Pd) (w : List Wt) (r : R1) (k : AV → Hp → List Pd → List Wt → R1) : de A H p w r (some false) k = k .undef H p w := by rw [zee]; rfl
def vE (c : Bool) (r : R1) : R1 := bif c then r else .bad
@[congr] theorem vE_congr {c c' : Bool} {r : R1} (h : c = c') : vE c r = vE c' r := by rw [h]
theorem vE_t (r : R1) : vE true r = r := id rfl
theorem zjj (A : Nat) (H : Hp) (p : List Pd) (w : List Wt) (v : AV) (H' : Hp) (k : AV → Hp → List Pd → List Wt → R1) : de A H p w (.ok v H') (some true) k = vE (qh3 (qdi A p) H' (qdh A w)) (k v H' (qdi A p) (qdh A w)) := by rw [zee]; rfl
theorem zi1 (m i : Nat) : hasB m i = decide ((m >>> i) &&& 1 = 1) := beq_eq _ _
theorem zmc (p : List Pd) (H : Hp) (k : Hp → R1) : dz2 p H k = k (allH p H) := id rfl
theorem dz_0 (H : Hp) (k : Nat → Hp → R1) : dz 0 H k = k H.nx H := id rfl
attribute [go_sem] dz_0
theorem q6m (A : Nat) (H : Hp) : qax A [] H = H := id rfl
theorem q2f (A : Nat) (x : Pd) (p : List Pd) (H : Hp) : qax A (x :: p) H = bif hasB A x.i then (qax A p H).put x.nm x.b else qax A p H := by
 rfl
theorem zev (H : Hp) : allH [] H = H := id rfl
theorem q94 (x : Pd) (p : List Pd) (H : Hp) : allH (x :: p) H = (allH p H).put x.nm x.b := id rfl
theorem q9o (A : Nat) : qdi A [] = [] := id rfl
theorem q3p (A : Nat) (x : Pd) (p : List Pd) : qdi A (x :: p) = bif hasB A x.i then qdi A p else x :: qdi A p := id rfl
theorem q9n (A : Nat) : qdh A [] = [] := id rfl
theorem q3o (A : Nat) (x : Wt) (p : List Wt) : qdh A (x :: p) = bif hasB A x.i then qdh A p else x :: qdh A p := id rfl
theorem q6i (p : List Pd) (H : Hp) : qh3 p H [] = true := id rfl
theorem q2d (p : List Pd) (H : Hp) (x : Wt) (w : List Wt) : qh3 p H (x :: w) = (q68 (x.f (qax x.A p H)) x.v && qh3 p H w) := id rfl
theorem q67 (u v : AV) : q68 (.val u) v = eqF 64 u v := id rfl
def qim : AV → Bool
 | .undef | .nilptr | .nilsl | .sle | .nilmap | .nilfn | .nilif => true
 | .bool _ | .int _ _ | .str _ _ | .ptr _ _ | .sl .. | .map _ | .yield _ => true
 | _ => false
theorem qca {v : AV} (h : qim v = true) (k : Nat) : eqF (k + 1) v v = true := by
 cases v <;> first | (cases h; done) | (simp [eqF, beq_eq]; done)
theorem qt4 : ∀ (l : List AV) (k : Nat), l.all qim = true → l.length < k → eqFL (k + 1) l l = true
 | [], k, _, _ => by simp [eqFL]
 | x :: l, 0, _, h => by simp at h
 | x :: l, k + 1, ha, h => by
  rw [List.all_cons, Bool.and_eq_true] at ha
  rw [eqFL, qca ha.1, qt4 l k ha.2 (by simpa using h)]; rfl
theorem zja (k : IntKind) (n : Int) : eqF 64 (.int k n) (.int k n) = true := qca (v := .int k n) rfl 63
theorem zd6 (b : Bool) : eqF 64 (.bool b) (.bool b) = true := qca (v := .bool b) rfl 63
theorem zff (a b c d : Nat) (e : Bool) : eqF 64 (.sl a b c d e) (.sl a b c d e) = true := qca (v := .sl a b c d e) rfl 63
theorem qt3 : eqF 64 .nilsl .nilsl = true := qca (v := .nilsl) rfl 63
theorem zi9 (a b : Nat) : eqF 64 (.ptr a b) (.ptr a b) = true := qca (v := .ptr a b) rfl 63
def Tr (b : Bool) : Prop := b = true
theorem ti {b : Bool} (h : b = true) : Tr b := h
theorem qrr (l : List AV) (h : Tr (l.all qim && Nat.blt l.length 62)) : eqF 64 (.agg l) (.agg l) = true := by
 unfold Tr at h
 rw [Bool.and_eq_true, blt_eq, decide_eq_true_iff] at h
 show eqFL 63 l l = true
 exact qt4 l 62 h.1 h.2
theorem zlx (H : Hp) (n c : Nat) : (Hp.mk H.t n).get c = H.get c := id rfl
theorem Fm.up {S : Nat → Prop} {H H' : Hp} (a : Fm S H H') (k : Nat) : Fm S H ⟨H'.t, H'.nx + k⟩ := ⟨by have := a.nx; show H.nx ≤ H'.nx + k; omega, fun b hb hs => a.get b hb hs⟩
theorem Fm.up2 {S : Nat → Prop} {H H' : Hp} (a : Fm S H H') {n : Nat} (h : H.nx ≤ n) : Fm S H ⟨H'.t, n⟩ := ⟨h, fun b hb hs => a.get b hb hs⟩
theorem Ok.deE {A : Nat} {H : Hp} {p : List Pd} {w : List Wt} {r : R1} {k : AV → Hp → List Pd → List Wt → R1} {Q : AV → Hp → Prop} {v : AV} {H' : Hp} (h : r = .ok v H')
  (hk : Ok (vE (qh3 (qdi A p) H' (qdh A w)) (k v H' (qdi A p) (qdh A w))) Q) : Ok (Di.de A H p w r (some true) k) Q := by rw [h, zjj]; exact hk
theorem Ok.veE {r : R1} {k : AV → Hp → R1} {Q : AV → Hp → Prop} {v : AV} {H' : Hp} (h : r = .ok v H') (hk : Ok (k v H') Q) : Ok (Di.ve r k) Q := by rw [h]; exact hk
theorem Ok.deO {A : Nat} {H : Hp} {p : List Pd} {w : List Wt} {r : R1} {k : AV → Hp → List Pd → List Wt → R1} {Q R : AV → Hp → Prop} (h : Ok r R)
  (hk : ∀ v H', R v H' → Ok (vE (qh3 (qdi A p) H' (qdh A w)) (k v H' (qdi A p) (qdh A w))) Q) : Ok (Di.de A H p w r (some true) k) Q := by
 obtain ⟨v, H', e, q⟩ := h; rw [e, zjj]; exact hk v H' q
def In (v : AV) (b : Nat) : Prop := ∃ o n m e, v = .sl b o n m e
structure Gl (z : Nat) (H : Hp) (v : AV) (n : Nat) (l : List AV) : Prop where
 len : l.length = n * z
 is : (v = .nilsl ∧ n = 0) ∨ ∃ b o e q L, v = .sl b o n n e ∧ H.get b = qaa q L ∧ o ≤ L.length ∧ L.drop o = l ∧ (e = true ∨ q = z) ∧ b < H.nx
theorem Gl.nil (z : Nat) (H : Hp) : Gl z H .nilsl 0 [] := ⟨by simp, .inl ⟨rfl, rfl⟩⟩
theorem Gl.lenV {z n : Nat} {H : Hp} {v : AV} {l : List AV} (h : Gl z H v n l) : lenSl v = .val (.int .i64 (.ofNat n)) := by
 rcases h.is with ⟨rfl, rfl⟩ | ⟨b, o, e, q, L, rfl, _⟩ <;> rfl
theorem Gl.keep {z n : Nat} {H H' : Hp} {v : AV} {l : List AV} (h : Gl z H v n l) (hn : H.nx ≤ H'.nx) (hk : ∀ b, In v b → b < H.nx → H'.get b = H.get b) : Gl z H' v n l := by
 refine ⟨h.len, ?_⟩
 rcases h.is with ⟨rfl, rfl⟩ | ⟨b, o, e, q, L, rfl, h1, h2, h3, h4, h5⟩
 ·exact .inl ⟨rfl, rfl⟩
 ·exact .inr ⟨b, o, e, q, L, rfl, (hk b ⟨_, _, _, _, rfl⟩ h5).trans h1, h2, h3, h4, Nat.lt_of_lt_of_le h5 hn⟩
theorem Gl.fm {z n : Nat} {H H' : Hp} {v : AV} {l : List AV} (h : Gl z H v n l) {S : Nat → Prop} (a : Fm S H H') (hs : ∀ b, In v b → ¬ S b) : Gl z H' v n l :=
 h.keep a.nx fun b hb hl => a.get b hl (hs b hb)
theorem Gl.no {z n : Nat} {H H' : Hp} {v : AV} {l : List AV} (h : Gl z H v n l) (a : Fm No H H') : Gl z H' v n l := h.fm a fun _ _ h => h
theorem Gl.append {z w n k : Nat} {H : Hp} {v : AV} {l x : List AV} (h : Gl z H v n l) (hk : 0 < k) (hx : x.length = k * z) (hb : (n + k) * w ≤ 1099511627776) (hb2 : n + k ≤ 1099511627776) :
  ∃ H', qa2 z w H v (some ⟨k, x⟩) = .ok (.sl H.nx 0 (n + k) (n + k) false) H' ∧ Gl z H' (.sl H.nx 0 (n + k) (n + k) false) (n + k) (l ++ x) ∧ H'.get H.nx = qaa z (l ++ x) ∧ Fm (In v) H H' ∧ H'.nx = H.nx + 1 := by
 have hlen : (l ++ x).length = (n + k) * z := by rw [List.length_append, h.len, hx, Nat.add_mul]
 have fin : ∀ H1 : Hp, H1.nx = H.nx → Fm (In v) H H1 → qa2 z w H v (some ⟨k, x⟩) = .ok (.sl H1.nx 0 (n + k) (n + k) false) (qal H1 (qaa z (l ++ x))) →
   ∃ H', qa2 z w H v (some ⟨k, x⟩) = .ok (.sl H.nx 0 (n + k) (n + k) false) H' ∧ Gl z H' (.sl H.nx 0 (n + k) (n + k) false) (n + k) (l ++ x) ∧ H'.get H.nx = qaa z (l ++ x) ∧ Fm (In v) H H' ∧ H'.nx = H.nx + 1 := by
  intro H1 e1 f1 e2
  refine ⟨_, by rw [e2, e1], ⟨hlen, .inr ⟨_, _, _, z, l ++ x, rfl, by rw [← e1, qbc], Nat.zero_le _, List.drop_zero, .inr rfl, by rw [np, e1]; omega⟩⟩, by rw [← e1, qbc], f1.push _, by rw [np, e1]⟩
 have bk : Nat.ble ((n + k) * w) bigB = true := Nat.ble_eq_true_of_le hb
 have bk2 : Nat.ble (n + k) bigB = true := Nat.ble_eq_true_of_le hb2
 rcases h.is with ⟨rfl, rfl⟩ | ⟨b, o, e, q, L, rfl, h1, h2, h3, h4, h5⟩
 ·have : l = [] := List.length_eq_zero_iff.1 (by rw [h.len]; simp)
  subst this
  refine fin H rfl (Fm.refl _ _) ?_
  show (bif Nat.beq k 0 then _ else bif Nat.ble (Nat.mul k w) bigB && Nat.ble k bigB then _ else _) = _
  rw [beq_eq, decide_eq_false (by omega)]
  rw [Nat.zero_add] at bk bk2
  show (bif Nat.ble (k * w) bigB && Nat.ble k bigB then _ else _) = _
  rw [bk, bk2, Nat.zero_add]; rfl
 ·have e0 : Nat.ble (n + k) n = false := by rw [ble_eq, decide_eq_false (by omega)]
  have hd : o + n * z = L.length := by have := h.len; rw [← h3, List.length_drop] at this; omega
  have rd : qba (H.get b) o (Nat.mul n z) = some l := by
   rw [h1, qdb, if_pos (by show o + n * z ≤ _; omega), h3, List.take_of_length_le (by rw [h.len]; exact Nat.le_refl _)]
  have main : ∀ (e : Bool) (H1 : Hp), H1 = (bif e then H else H.put b .dead) → (e = true ∨ q = z) → qa2 z w H (.sl b o n n e) (some ⟨k, x⟩) = .ok (.sl H1.nx 0 (n + k) (n + k) false) (qal H1 (qaa z (l ++ x))) := by
   intro e H1 eH h4
   show (bif Nat.ble (n + k) n then _ else bif Nat.ble (Nat.mul (n + k) w) bigB && Nat.ble (n + k) bigB then (match qba (H.get b) o (Nat.mul n z) with | none => R1.bad | some old => bif e then _ else bif qhc (H.get b) (o + n * z) z then _ else _) else R1.bad) = _
   rw [e0, show Nat.mul (n + k) w = (n + k) * w from rfl, bk, bk2, rd]
   subst eH
   cases e with
   | true => rfl
   | false =>
    rcases h4 with h4 | h4
    ·cases h4
    ·have : qhc (H.get b) (o + n * z) z = true := by rw [h1, q9b]; simp [hd, h4]
     simp only [cond_false, cond_true, Bool.and_self, this]; rfl
  refine fin (bif e then H else H.put b .dead) (by cases e <;> rfl) ?_ (main e _ rfl h4)
  cases e with
  | true => exact Fm.refl _ _
  | false => exact (Fm.refl _ _).put b _ fun _ => ⟨_, _, _, _, rfl⟩
theorem q60 (z : Nat) (H : Hp) (b o n m : Nat) (e : Bool) : qbp z H (.sl b o n m e) = (match qba (H.get b) o (n * z) with | some l => some ⟨n, l⟩ | none => none) := id rfl
theorem Gl.tail {n : Nat} {H : Hp} {v : AV} {x : AV} {l : List AV} (h : Gl 1 H v (n + 1) (x :: l)) :
  ∃ w, qbq 1 v (some (.int .i64 (.ofNat 1))) none none = .val w ∧ Ev.lenSl w = .val (.int .i64 (.ofNat n)) ∧ (0 < n → Gl 1 H w n l) ∧ (∀ b, In w b → In v b) := by
 have hl := h.len
 rcases h.is with ⟨rfl, h0⟩ | ⟨b, o, e, q, L, rfl, h1, h2, h3, h4, h5⟩
 ·simp at h0
 ·have e1 : qbq 1 (.sl b o (n + 1) (n + 1) e) (some (.int .i64 (.ofNat 1))) none none = mkSl b o 1 ⟨1, n + 1, n + 1⟩ e := by
   show (match bounds (n + 1) (n + 1) (some (.int .i64 (.ofNat 1))) none none with | some bd => mkSl b o 1 bd e | none => R0.bad) = _
   have : bounds (n + 1) (n + 1) (some (.int .i64 (.ofNat 1))) none none = some ⟨1, n + 1, n + 1⟩ := by
    show (match (bif Nat.ble 1 (n + 1) then some 1 else none) with | none => none | some l => some (Bd.mk l (n + 1) (n + 1))) = _
    rw [ble_eq, decide_eq_true (by omega)]; rfl
   rw [this]
  rw [e1]
  unfold mkSl
  simp only [beq_eq]
  by_cases hn : n = 0
  ·subst hn
   cases e with
   | true => exact ⟨_, rfl, rfl, fun h => absurd h (Nat.lt_irrefl 0), fun c hc => by obtain ⟨o', n', m', e', h'⟩ := hc; cases h'; exact ⟨_, _, _, _, rfl⟩⟩
   | false => exact ⟨_, rfl, rfl, fun h => absurd h (Nat.lt_irrefl 0), fun c hc => by obtain ⟨o', n', m', e', h'⟩ := hc; cases h'⟩
  ·have hd : decide (n + 1 = 1) = false := by simp; exact hn
   rw [hd]
   refine ⟨.sl b (o + 1) n n e, by show R0.val (.sl b (o + 1 * 1) (n + 1 - 1) (n + 1 - 1) e) = _; rw [Nat.add_sub_cancel, Nat.one_mul], rfl, fun _ => ⟨?_, .inr ⟨b, o + 1, e, q, L, rfl, h1, ?_, ?_, h4, h5⟩⟩, fun c hc => by obtain ⟨o', n', m', e', h'⟩ := hc; cases h'; exact ⟨_, _, _, _, rfl⟩⟩
   ·simp at hl; omega
   ·have : (L.drop o).length = (x :: l).length := by rw [h3]
    rw [List.length_drop] at this; simp at this; omega
   ·rw [← List.drop_drop, h3]; rfl
theorem zcu (l v : List AV) (h : Tr (Nat.beq v.length l.length)) : setL l 0 v = v := by
 unfold Tr at h
 rw [beq_eq, decide_eq_true_iff] at h
 unfold setL
 simp [h]
theorem q74 (z : List AV) (w nm n : Nat) (h : n * w ≤ 1099511627776) (h2 : n ≤ 1099511627776) : qtd z w nm (.int .i64 (.ofNat n)) (.int .i64 (.ofNat n)) = .new (.sl nm 0 n n true) (qaa 0 (reps z n)) := by
 show (bif Nat.ble n n && Nat.ble (Nat.mul n w) bigB && Nat.ble n bigB then _ else _) = _
 rw [Nat.ble_eq_true_of_le (Nat.le_refl n), show Nat.mul n w = n * w from rfl, Nat.ble_eq_true_of_le (show n * w ≤ bigB from h), Nat.ble_eq_true_of_le (show n ≤ bigB from h2)]; rfl
theorem qz3 (x : AV) : ∀ n, reps [x] n = List.replicate n x
 | 0 => rfl
 | n + 1 => by show [x] ++ reps [x] n = _; rw [qz3 x n]; rfl
theorem qsj (c : List AV) : qaj c [] = some c := id rfl
theorem qqy (c : List AV) (off size : Nat) (v : AV) (r : List (Nat × Nat × AV)) : qaj c ((off, size, v) :: r) = match qdu v with | some l => (match qly c off size l with | some c' => qaj c' r | none => none) | none => none := id rfl
theorem q31 (k : IntKind) (n : Int) : qdu (.int k n) = some [.int k n] := id rfl
theorem qyw (n : Bool) : qdu (.bool n) = some [.bool n] := id rfl
theorem q9v (a b c d : Nat) (e : Bool) : qdu (.sl a b c d e) = some [.sl a b c d e] := id rfl
theorem qua : qdu .nilsl = some [.nilsl] := id rfl
theorem q33 (l : List AV) : qdu (.agg l) = some l := id rfl
theorem q2p (c : List AV) (off size : Nat) (v : List AV) : qly c off size v = bif Nat.beq v.length size && Nat.ble (off + size) c.length then some (c.take off ++ v ++ c.drop (off + size)) else none := id rfl
theorem zkp (l : List AV) : reps l 1 = l ++ [] := id rfl
theorem zko (l : List AV) : reps l 2 = l ++ (l ++ []) := id rfl
theorem zkn (l : List AV) : reps l 3 = l ++ (l ++ (l ++ [])) := id rfl
attribute [go_sem] qsj qqy q31 qyw q9v qua q33 q2p zkp zko zkn ble_eq blt_eq beq_eq List.append_nil List.nil_append List.cons_append qrr
attribute [go_sem] zcu q60 vE_t zjj zi1 dq_t dq_f vD_q vD_l zj8 de_f zmc q6m q2f zev q94 q9o q3p q9n q3o q6i q2d q67 zja zd6 zff qt3 zi9 zlx Bool.and_true Bool.true_and Bool.and_self
end Go.Di
end
noncomputable section
namespace Go.Di
open Go.Ev
structure Lnk (c d : Ev.Call) : Prop where
 zAa : ∀ (x0 : AV) (H : Hp), c (.f zfc) [x0] H = Di.zAa d x0 H
 zAb : ∀ (x0 : AV) (H : Hp), c (.f q1g) [x0] H = Di.zAb d x0 H
 zAc : ∀ (x0 : AV) (H : Hp), c (.f q1f) [x0] H = Di.zAc d x0 H
 zAd : ∀ (x0 : AV) (H : Hp), c (.f q1e) [x0] H = Di.zAd d x0 H
 zAe : ∀ (x0 : AV) (H : Hp), c (.f q1d) [x0] H = Di.zAe d x0 H
 zAf : ∀ (x0 x1 : AV) (H : Hp), c (.f q1c) [x0, x1] H = Di.zAf d x0 x1 H
 zAg : ∀ (x0 : AV) (H : Hp), c (.f q1b) [x0] H = Di.zAg d x0 H
 zAi : ∀ (x0 : AV) (H : Hp), c (.f qik) [x0] H = Di.zAi d x0 H
 zAj : ∀ (x0 : AV) (H : Hp), c (.f qmu) [x0] H = Di.zAj d x0 H
 zAk : ∀ (x0 x1 x2 x3 x4 : AV) (H : Hp), c (.f qpi) [x0, x1, x2, x3, x4] H = Di.zAk d x0 x1 x2 x3 x4 H
 zAl : ∀ (x0 : AV) (H : Hp), c (.f qkb) [x0] H = Di.zAl d x0 H
 zAm : ∀ (x0 x1 : AV) (H : Hp), c (.f qtv) [x0, x1] H = Di.zAm d x0 x1 H
 zAn : ∀ (x0 x1 x2 : AV) (H : Hp), c (.f qtu) [x0, x1, x2] H = Di.zAn d x0 x1 x2 H
 zAo : ∀ (x0 : AV) (H : Hp), c (.f qtt) [x0] H = Di.zAo d x0 H
 zAp : ∀ (x0 : AV) (H : Hp), c (.f q1a) [x0] H = Di.zAp d x0 H
 zAq : ∀ (x0 x1 x2 : AV) (H : Hp), c (.f qph) [x0, x1, x2] H = Di.zAq d x0 x1 x2 H
 zAr : ∀ (x0 x1 x2 : AV) (H : Hp), c (.f qmt) [x0, x1, x2] H = Di.zAr d x0 x1 x2 H
 zAs : ∀ (x0 x1 x2 : AV) (H : Hp), c (.f qms) [x0, x1, x2] H = Di.zAs d x0 x1 x2 H
 zAt : ∀ (x0 x1 x2 x3 : AV) (H : Hp), c (.f qpg) [x0, x1, x2, x3] H = Di.zAt d x0 x1 x2 x3 H
 zAu : ∀ (x0 x1 x2 x3 : AV) (H : Hp), c (.f q09) [x0, x1, x2, x3] H = Di.zAu d x0 x1 x2 x3 H
 zAv : ∀ (x0 : AV) (H : Hp), c (.f qts) [x0] H = Di.zAv d x0 H
 zAw : ∀ (x0 : AV) (H : Hp), c (.f qpf) [x0] H = Di.zAw d x0 H
 zAx : ∀ (x0 x1 x2 x3 x4 x5 x6 : AV) (H : Hp), c (.f qmr) [x0, x1, x2, x3, x4, x5, x6] H = Di.zAx d x0 x1 x2 x3 x4 x5 x6 H
 zAy : ∀ (x0 x1 x2 x3 : AV) (H : Hp), c (.f q08) [x0, x1, x2, x3] H = Di.zAy d x0 x1 x2 x3 H
 zAz : ∀ (x0 : AV) (H : Hp), c (.f q07) [x0] H = Di.zAz d x0 H
 zBa : ∀ (x0 x1 : AV) (H : Hp), c (.f qmq) [x0, x1] H = Di.zBa d x0 x1 H
 zBb : ∀ (x0 : AV) (H : Hp), c (.f qpe) [x0] H = Di.zBb d x0 H
 zBc : ∀ (x0 x1 x2 x3 : AV) (H : Hp), c (.f q06) [x0, x1, x2, x3] H = Di.zBc d x0 x1 x2 x3 H
 zBd : ∀ (x0 x1 x2 x3 : AV) (H : Hp), c (.f q05) [x0, x1, x2, x3] H = Di.zBd d x0 x1 x2 x3 H
 zBe : ∀ (x0 : AV) (H : Hp), c (.f qha) [x0] H = Di.zBe d x0 H
 zBf : ∀ (x0 x1 x2 : AV) (H : Hp), c (.f qpd) [x0, x1, x2] H = Di.zBf d x0 x1 x2 H
 zBg : ∀ (x0 x1 : AV) (H : Hp), c (.f q04) [x0, x1] H = Di.zBg d x0 x1 H
 zBh : ∀ (x0 : AV) (H : Hp), c (.f q03) [x0] H = Di.zBh d x0 H
 zBi : ∀ (x0 : AV) (H : Hp), c (.f qtr) [x0] H = Di.zBi d x0 H
 zBj : ∀ (x0 x1 x2 : AV) (H : Hp), c (.f q02) [x0, x1, x2] H = Di.zBj d x0 x1 x2 H
 zBk : ∀ (x0 : AV) (H : Hp), c (.f qtq) [x0] H = Di.zBk d x0 H
 zBl : ∀ (x0 x1 x2 : AV) (H : Hp), c (.f qg9) [x0, x1, x2] H = Di.zBl d x0 x1 x2 H
 zBm : ∀ (x0 x1 x2 x3 : AV) (H : Hp), c (.f qtp) [x0, x1, x2, x3] H = Di.zBm d x0 x1 x2 x3 H
 zBo : ∀ (x0 : AV) (H : Hp), c (.f qpc) [x0] H = Di.zBo d x0 H
 zBp : ∀ (x0 : AV) (H : Hp), c (.f qto) [x0] H = Di.zBp d x0 H
 zBq : ∀ (x0 x1 : AV) (H : Hp), c (.f qpb) [x0, x1] H = Di.zBq d x0 x1 H
 zBr : ∀ (x0 : AV) (H : Hp), c (.f qtn) [x0] H = Di.zBr d x0 H
 zBs : ∀ (x0 : AV) (H : Hp), c (.f q00) [x0] H = Di.zBs d x0 H
 zBt : ∀ (x0 x1 x2 : AV) (H : Hp), c (.f qtm) [x0, x1, x2] H = Di.zBt d x0 x1 x2 H
 zBv : ∀ (x0 : AV) (H : Hp), c (.f q0y) [x0] H = Di.zBv d x0 H
 zBw : ∀ (x0 x1 x2 x3 : AV) (H : Hp), c (.f qpa) [x0, x1, x2, x3] H = Di.zBw d x0 x1 x2 x3 H
 zBx : ∀ (x0 x1 : AV) (H : Hp), c (.f qo9) [x0, x1] H = Di.zBx d x0 x1 H
 zBy : ∀ (x0 x1 x2 x3 : AV) (H : Hp), c (.f qo8) [x0, x1, x2, x3] H = Di.zBy d x0 x1 x2 x3 H
 zBz : ∀ (x0 x1 x2 : AV) (H : Hp), c (.f qo7) [x0, x1, x2] H = Di.zBz d x0 x1 x2 H
 zCa : ∀ (x0 : AV) (H : Hp), c (.f qtk) [x0] H = Di.zCa d x0 H
 zCb : ∀ (x0 x1 x2 x3 x4 x5 x6 : AV) (H : Hp), c (.f qka) [x0, x1, x2, x3, x4, x5, x6] H = Di.zCb d x0 x1 x2 x3 x4 x5 x6 H
 zCc : ∀ (x0 : AV) (H : Hp), c (.f q0x) [x0] H = Di.zCc d x0 H
 zCd : ∀ (x0 : AV) (H : Hp), c (.f q0w) [x0] H = Di.zCd d x0 H
 zCe : ∀ (x0 : AV) (H : Hp), c (.f qtj) [x0] H = Di.zCe d x0 H
 zCf : ∀ (x0 : AV) (H : Hp), c (.f q0v) [x0] H = Di.zCf d x0 H
 zCg : ∀ (x0 x1 : AV) (H : Hp), c (.f q0u) [x0, x1] H = Di.zCg d x0 x1 H
 zCh : ∀ (x0 x1 x2 : AV) (H : Hp), c (.f q0t) [x0, x1, x2] H = Di.zCh d x0 x1 x2 H
 zCi : ∀ (x0 x1 : AV) (H : Hp), c (.f q0s) [x0, x1] H = Di.zCi d x0 x1 H
 zCj : ∀ (x0 : AV) (H : Hp), c (.f q0r) [x0] H = Di.zCj d x0 H
 zCk : ∀ (x0 : AV) (H : Hp), c (.f q0q) [x0] H = Di.zCk d x0 H
 zCl : ∀ (x0 x1 : AV) (H : Hp), c (.f qti) [x0, x1] H = Di.zCl d x0 x1 H
 zCm : ∀ (x0 x1 : AV) (H : Hp), c (.f qth) [x0, x1] H = Di.zCm d x0 x1 H
 zCn : ∀ (x0 x1 : AV) (H : Hp), c (.f q8t) [x0, x1] H = Di.zCn d x0 x1 H
 zCp : ∀ (x0 x1 : AV) (H : Hp), c (.f q8q) [x0, x1] H = Di.zCp d x0 x1 H
 zCq : ∀ (x0 x1 : AV) (H : Hp), c (.f qo6) [x0, x1] H = Di.zCq d x0 x1 H
 zCr : ∀ (x0 x1 : AV) (H : Hp), c (.f q0p) [x0, x1] H = Di.zCr d x0 x1 H
 zCs : ∀ (x0 x1 : AV) (H : Hp), c (.f q8p) [x0, x1] H = Di.zCs d x0 x1 H
 zCt : ∀ (x0 x1 : AV) (H : Hp), c (.f q8o) [x0, x1] H = Di.zCt d x0 x1 H
abbrev qav (C : Nat → Ev.Call) : Prop := ∀ k, Lnk (C (k + 1)) (C k)
theorem qaf : qak = 1000000 := rfl
attribute [go_sem] qlr qdq qlq qdp qn8 qe9 qn7 qe8 qn6 qe7 qn5 qe6 qn4 qe5 qn3 qe4 qn2 qe3 qnq qey qnp qex qno qew qr1 qhf
end Go.Di
end
noncomputable section
namespace Go.Di
open Go.Ev
theorem Gl.atN {z n : Nat} {H : Hp} {v : AV} {l : List AV} (h : Gl z H v n l) {i : Nat} (hi : i < n) : ∃ b o, idxS z v (.int .i64 (.ofNat i)) = .val (.ptr b o) ∧ b < H.nx ∧ In v b ∧ qba (H.get b) o z = some ((l.drop (i * z)).take z) ∧ ∀ (j : Nat), j < z → qap (H.get b) (o + j) = .val (l.getD (i * z + j) .undef) := by
 have hl := h.len
 rcases h.is with ⟨rfl, rfl⟩ | ⟨b, o, e, q, L, rfl, h1, h2, h3, h4, h5⟩
 ·omega
 ·have hm : i * z + z ≤ n * z := by
   have : (i + 1) * z ≤ n * z := Nat.mul_le_mul_right z hi
   rw [Nat.add_mul, Nat.one_mul] at this; exact this
  have hL : o + n * z = L.length := by rw [← h3, List.length_drop] at hl; omega
  refine ⟨b, o + i * z, qg8 _ _ _ _ _ _ _ _ hi, h5, ⟨_, _, _, _, rfl⟩, ?_, fun j hj => ?_⟩
  ·rw [h1, qdb, if_pos (by omega), ← List.drop_drop, h3]
  ·rw [h1, qga]
   have : L[o + i * z + j]? = l[i * z + j]? := by rw [← h3, List.getElem?_drop]; congr 1; omega
   rw [this, List.getElem?_eq_getElem (by omega)]
   simp [List.getD_eq_getElem?_getD, show i * z + j < l.length by omega]
structure Rs {α : Type} (z : Nat) (f : α → List AV) (H : Hp) (v : AV) (l : List α) : Prop where
 len : lenSl v = .val (.int .i64 (.ofNat l.length))
 at' : ∀ i (h : i < l.length), ∃ b o, idxS z v (.int .i64 (.ofNat i)) = .val (.ptr b o) ∧ b < H.nx ∧ In v b ∧ qba (H.get b) o z = some (f l[i]) ∧ ∀ j (h : j < (f l[i]).length), qap (H.get b) (o + j) = .val (f l[i])[j]
theorem Rs.fmS {α : Type} {z : Nat} {f : α → List AV} {S : Nat → Prop} {H H' : Hp} {v : AV} {l : List α} (h : Rs z f H v l) (a : Fm S H H') (hs : ∀ b, In v b → ¬ S b) : Rs z f H' v l := ⟨h.len, fun i hi => by
 obtain ⟨b, o, h1, h2, h5, h3, h4⟩ := h.at' i hi
 have e := a.get b h2 (hs b h5)
 exact ⟨b, o, h1, Nat.lt_of_lt_of_le h2 a.nx, h5, by rw [e]; exact h3, fun j hj => by rw [e]; exact h4 j hj⟩⟩
theorem Rs.fm {α : Type} {z : Nat} {f : α → List AV} {H H' : Hp} {v : AV} {l : List α} (h : Rs z f H v l) (a : Fm No H H') : Rs z f H' v l := h.fmS a fun _ _ h => h
structure Ac {α : Type} (z : Nat) (f : α → List AV) (H0 H : Hp) (v : AV) (l : List α) : Prop where
 gl : Gl z H v l.length (l.flatMap f)
 fm : Fm No H0 H
 nw : ∀ b, In v b → H0.nx ≤ b
theorem Ac.nil {α : Type} (z : Nat) (f : α → List AV) {H0 H : Hp} (h : Fm No H0 H) : Ac z f H0 H .nilsl ([] : List α) := ⟨Gl.nil z H, h, fun b hb => by obtain ⟨_, _, _, _, h⟩ := hb; cases h⟩
theorem Ac.no {α : Type} {z : Nat} {f : α → List AV} {H0 H H' : Hp} {v : AV} {l : List α} (h : Ac z f H0 H v l) (a : Fm No H H') : Ac z f H0 H' v l := ⟨h.gl.no a, h.fm.trans a, h.nw⟩
theorem Ac.lenV {α : Type} {z : Nat} {f : α → List AV} {H0 H : Hp} {v : AV} {l : List α} (h : Ac z f H0 H v l) : lenSl v = .val (.int .i64 (.ofNat l.length)) := h.gl.lenV
theorem Ac.add {α : Type} {z : Nat} {f : α → List AV} {H0 H : Hp} {v : AV} {l : List α} (h : Ac z f H0 H v l) (x : α) (w : Nat) (hx : (f x).length = z) (hb : (l.length + 1) * w ≤ 1099511627776) (hb2 : l.length + 1 ≤ 1099511627776) :
  Ok (qa2 z w H v (some ⟨1, f x⟩)) fun v' H' => Ac z f H0 H' v' (l ++ [x]) := by
 obtain ⟨H', e, gl', _, fm', nx'⟩ := h.gl.append (k := 1) (w := w) (x := f x) (by omega) (by omega) hb hb2
 refine ⟨_, H', e, ?_, h.fm.then fm' fun c hc hi => by have := h.nw c hi; omega, fun b hb => ?_⟩
 ·rw [List.length_append, List.flatMap_append, List.flatMap_singleton]; exact gl'
 ·obtain ⟨_, _, _, _, h'⟩ := hb
  cases h'
  exact h.fm.nx
theorem qmx {α : Type} {z : Nat} {f : α → List AV} (hf : ∀ x, (f x).length = z) : ∀ (l : List α) (i : Nat) (h : i < l.length), ((l.flatMap f).drop (i * z)).take z = f l[i]
 | [], _, h => by simp at h
 | a :: l, 0, _ => by
  rw [Nat.zero_mul, List.drop_zero, List.flatMap_cons, List.take_left' (hf a)]; rfl
 | a :: l, i + 1, h => by
  rw [List.flatMap_cons, Nat.add_mul, Nat.one_mul, Nat.add_comm, ← List.drop_drop, List.drop_left' (hf a)]
  exact qmx hf l i (by simpa using h)
theorem Gl.rs {α : Type} {z : Nat} {f : α → List AV} (hf : ∀ x, (f x).length = z) {H : Hp} {v : AV} {l : List α} (h : Gl z H v l.length (l.flatMap f)) : Rs z f H v l := ⟨h.lenV, fun i hi => by
 obtain ⟨b, o, e1, e2, e3, e4, e5⟩ := h.atN hi
 rw [qmx hf l i hi] at e4
 refine ⟨b, o, e1, e2, e3, e4, fun j hj => ?_⟩
 rw [e5 j (by rw [hf] at hj; exact hj)]
 have : (f l[i])[j]? = (l.flatMap f)[i * z + j]? := by
  rw [← qmx hf l i hi, List.getElem?_take, if_pos (by rw [hf] at hj; exact hj), List.getElem?_drop]
 rw [List.getElem?_eq_getElem hj] at this
 rw [List.getD_eq_getElem?_getD, ← this]; rfl⟩
theorem Ac.rs {α : Type} {z : Nat} {f : α → List AV} (hf : ∀ x, (f x).length = z) {H0 H : Hp} {v : AV} {l : List α} (h : Ac z f H0 H v l) : Rs z f H v l := h.gl.rs hf
theorem Gl.lt {z n : Nat} {H : Hp} {v : AV} {l : List AV} (h : Gl z H v n l) {b : Nat} (hb : In v b) : b < H.nx := by
 obtain ⟨o, n', m, e, rfl⟩ := hb
 rcases h.is with ⟨h1, _⟩ | ⟨b', o', e', q, L, h1, _, _, _, _, h5⟩
 ·cases h1
 ·cases h1; exact h5
structure AcS {α : Type} (z : Nat) (f : α → List AV) (S : Nat → Prop) (H0 H : Hp) (v : AV) (l : List α) : Prop where
 gl : Gl z H v l.length (l.flatMap f)
 fm : Fm S H0 H
 nw : ∀ b, In v b → S b ∨ H0.nx ≤ b
theorem AcS.no {α : Type} {z : Nat} {f : α → List AV} {S : Nat → Prop} {H0 H H' : Hp} {v : AV} {l : List α} (h : AcS z f S H0 H v l) (a : Fm No H H') : AcS z f S H0 H' v l := ⟨h.gl.no a, h.fm.then a fun _ _ h => absurd h id, h.nw⟩
theorem AcS.lenV {α : Type} {z : Nat} {f : α → List AV} {S : Nat → Prop} {H0 H : Hp} {v : AV} {l : List α} (h : AcS z f S H0 H v l) : lenSl v = .val (.int .i64 (.ofNat l.length)) := h.gl.lenV
theorem AcS.add {α : Type} {z : Nat} {f : α → List AV} {S : Nat → Prop} {H0 H : Hp} {v : AV} {l : List α} (h : AcS z f S H0 H v l) (x : α) (w : Nat) (hx : (f x).length = z) (hb : (l.length + 1) * w ≤ 1099511627776) (hb2 : l.length + 1 ≤ 1099511627776) :
  Ok (qa2 z w H v (some ⟨1, f x⟩)) fun v' H' => AcS z f S H0 H' v' (l ++ [x]) := by
 obtain ⟨H', e, gl', _, fm', nx'⟩ := h.gl.append (k := 1) (w := w) (x := f x) (by omega) (by omega) hb hb2
 refine ⟨_, H', e, ?_, h.fm.then fm' fun c hc hi => ?_, fun b hb => ?_⟩
 ·rw [List.length_append, List.flatMap_append, List.flatMap_singleton]; exact gl'
 ·rcases h.nw c hi with h | h
  ·exact h
  ·omega
 ·obtain ⟨_, _, _, _, h'⟩ := hb
  cases h'
  exact .inr h.fm.nx
theorem Ac.start {α : Type} {z : Nat} {f : α → List AV} {H0 H : Hp} {v : AV} {l : List α} (h : Ac z f H0 H v l) : AcS z f (In v) H H v l := ⟨h.gl, Fm.refl _ _, fun _ h => .inl h⟩
theorem Ac.old {α : Type} {z : Nat} {f : α → List AV} {H0 H H' : Hp} {v : AV} {l : List α} (h : Ac z f H0 H v l) (a : Fm (In v) H H') : Fm No H0 H' := h.fm.then a fun c hc hi => by have := h.nw c hi; omega
theorem Ac.fin {α : Type} {z : Nat} {f : α → List AV} {H0 H H' : Hp} {v v' : AV} {l l' : List α} (h : Ac z f H0 H v l) (h' : AcS z f (In v) H H' v' l') : Ac z f H0 H' v' l' := ⟨h'.gl, h.old h'.fm, fun b hb => by
 rcases h'.nw b hb with h1 | h1
 ·exact h.nw b h1
 ·exact Nat.le_trans h.fm.nx h1⟩
end Go.Di
end
noncomputable section
namespace Go.Di
open Go.Ev
variable {C : Nat → Ev.Call}
structure SS where
 n : Nat
 a : Nat
 deriving DecidableEq
def SS.v (s : SS) : AV := .str s.n s.a
def sE : SS := ⟨0, 0⟩
def sU : SS := ⟨4, 1919251317⟩
def lvl (n : Nat) : Nat := [0, 1, 1, 2].getD (n % 4) 0
def qa8 (n : Nat) : SS := ⟨2, 12402 + 256 * (n % 4)⟩
def spOf (n : Nat) : SS := ⟨1, 97 + n % 3⟩
def qaq (L : List (List Nat)) : Nat := min L.length 12
def qa4 (L : List (List Nat)) (n i : Nat) : Nat := (L.getD n []).getD i 0
structure Rl (H : Hp) (v : AV) (l : List AV) : Prop where
 len : lenSl v = .val (.int .i64 (.ofNat l.length))
 at' : ∀ i (h : i < l.length), ∃ b o, idxS 1 v (.int .i64 (.ofNat i)) = .val (.ptr b o) ∧ b < H.nx ∧ qap (H.get b) o = .val l[i]
theorem Rl.fm {H H' : Hp} {v : AV} {l : List AV} (h : Rl H v l) (f : Fm No H H') : Rl H' v l := ⟨h.len, fun i hi => by
 obtain ⟨b, o, h1, h2, h3⟩ := h.at' i hi
 exact ⟨b, o, h1, Nat.lt_of_lt_of_le h2 f.nx, by rw [f.keep h2]; exact h3⟩⟩
def u8s (l : List Nat) : List AV := l.map fun x => .int .u8 (.ofNat x)
structure ArgC (H : Hp) (v : AV) (L : List (List Nat)) : Prop where
 flat : qim v = true
 ex : ∃ ws : List AV, Rl H v ws ∧ ws.length = L.length ∧ ∀ i (h : i < ws.length) (h' : i < L.length), Rl H ws[i] (u8s L[i])
 lt : ∀ l ∈ L, ∀ x ∈ l, x < 256
theorem ArgC.fm {H H' : Hp} {v : AV} {L : List (List Nat)} (h : ArgC H v L) (f : Fm No H H') : ArgC H' v L := by
 obtain ⟨ws, h1, h2, h3⟩ := h.ex
 exact ⟨h.flat, ⟨ws, h1.fm f, h2, fun i a b => (h3 i a b).fm f⟩, h.lt⟩
theorem ArgC.len {H : Hp} {v : AV} {L : List (List Nat)} (h : ArgC H v L) : lenSl v = .val (.int .i64 (.ofNat L.length)) := by
 obtain ⟨ws, h1, h2, _⟩ := h.ex
 rw [h1.len, h2]
theorem ArgC.at {H : Hp} {v : AV} {L : List (List Nat)} (h : ArgC H v L) {i : Nat} (hi : i < L.length) : ∃ b o w, idxS 1 v (.int .i64 (.ofNat i)) = .val (.ptr b o) ∧ b < H.nx ∧ qap (H.get b) o = .val w ∧ Rl H w (u8s L[i]) := by
 obtain ⟨ws, h1, h2, h3⟩ := h.ex
 obtain ⟨b, o, e1, e2, e3⟩ := h1.at' i (by omega)
 exact ⟨b, o, ws[i]'(by omega), e1, e2, e3, h3 i (by omega) hi⟩
theorem q3x (n a : Nat) : qdu (.str n a) = some [.str n a] := id rfl
theorem zkm (x : List AV) : reps x 4 = x ++ (x ++ (x ++ x)) := id (by show x ++ (x ++ (x ++ (x ++ []))) = _; rw [List.append_nil])
attribute [go_sem] q3x zkm
theorem minI (a b : Nat) : qer minV (.int .i64 (.ofNat a)) [.int .i64 (.ofNat b)] = .val (.int .i64 (.ofNat (min a b))) := by
 show R0.val (.int .i64 (bif ltI (.ofNat b) (.ofNat a) then .ofNat b else .ofNat a)) = _
 rw [qd2]
 by_cases h : b < a
 ·rw [decide_eq_true (by simp only [Int.ofNat_eq_natCast]; omega), Nat.min_eq_right (by omega)]; rfl
 ·rw [decide_eq_false (by simp only [Int.ofNat_eq_natCast]; omega), Nat.min_eq_left (by omega)]; rfl
theorem qjl (hC : qav C) {k : Nat} (hk : 1 ≤ k) {H : Hp} {v : AV} {L : List (List Nat)} (h : ArgC H v L) :
  Ok (C k (.f qik) [.agg [v]] H) fun r H' => r = .int .i64 (.ofNat (qaq L)) ∧ Fm No H H' := by
 obtain ⟨j, rfl⟩ : ∃ j, k = j + 1 := ⟨k - 1, by omega⟩
 rw [(hC j).zAi]
 unfold zAi zg7
 have e := h.len
 simp (disch := first | omega | exact ti rfl | (simp only [np, nq]; first | done | omega)) only [go_sem, reduceAdd, reduceMul, reduceSub, reduceLeDiff, reduceEqDiff, reduceShiftRight, reduceAnd, e, minI]
 exact Ok.ret ⟨rfl, by (repeat (first | exact Fm.refl _ _ | assumption | refine Fm.push ?_ _ | refine Fm.up2 ?_ (by (first | omega | (simp only [np, nq]; omega))) | refine Fm.put_new ?_ _ _ (by (first | omega | (simp only [np, nq]; omega)))))⟩
theorem at4 {α : Type} (a b c d : α) (n : Nat) : [a, b, c, d][n % 4]? = some ([a, b, c, d].getD (n % 4) a) := by
 have h4 : n % 4 < 4 := Nat.mod_lt _ (by omega)
 match n % 4, h4 with
 | 0, _ | 1, _ | 2, _ | 3, _ => rfl
theorem at3 {α : Type} (a b c : α) (n : Nat) : [a, b, c][n % 3]? = some ([a, b, c].getD (n % 3) a) := by
 have h3 : n % 3 < 3 := Nat.mod_lt _ (by omega)
 match n % 3, h3 with
 | 0, _ | 1, _ | 2, _ => rfl
theorem qd3 (hC : qav C) {k : Nat} (hk : 1 ≤ k) (n : Nat) (hn : n < 1000000) (H : Hp) :
  Ok (C k (.f qha) [.int .i64 (.ofNat n)] H) fun r H' => r = .int .i64 (.ofNat (lvl n)) ∧ Fm No H H' := by
 obtain ⟨j, rfl⟩ : ∃ j, k = j + 1 := ⟨k - 1, by omega⟩
 rw [(hC j).zBe]
 unfold zBe zgn
 have h4 : n % 4 < 4 := Nat.mod_lt _ (by omega)
 simp (disch := first | omega | exact ti rfl | (simp only [np, nq]; first | done | omega)) only [go_sem, reduceAdd, reduceMul, reduceSub, reduceLeDiff, reduceEqDiff, reduceShiftRight, reduceAnd, at4]
 refine Ok.ret ⟨?_, by (repeat (first | exact Fm.refl _ _ | assumption | refine Fm.push ?_ _ | refine Fm.up2 ?_ (by (first | omega | (simp only [np, nq]; omega))) | refine Fm.put_new ?_ _ _ (by (first | omega | (simp only [np, nq]; omega)))))⟩
 unfold lvl
 match n % 4, h4 with
 | 0, _ | 1, _ | 2, _ | 3, _ => rfl
theorem qsq (hC : qav C) {k : Nat} (hk : 1 ≤ k) (n : Nat) (hn : n < 1000000) (H : Hp) :
  Ok (C k (.f qkb) [.int .i64 (.ofNat n)] H) fun r H' => r = (qa8 n).v ∧ Fm No H H' := by
 obtain ⟨j, rfl⟩ : ∃ j, k = j + 1 := ⟨k - 1, by omega⟩
 rw [(hC j).zAl]
 unfold zAl zg5
 have h4 : n % 4 < 4 := Nat.mod_lt _ (by omega)
 simp (disch := first | omega | exact ti rfl | (simp only [np, nq]; first | done | omega)) only [go_sem, reduceAdd, reduceMul, reduceSub, reduceLeDiff, reduceEqDiff, reduceShiftRight, reduceAnd, at4]
 refine Ok.ret ⟨?_, by (repeat (first | exact Fm.refl _ _ | assumption | refine Fm.push ?_ _ | refine Fm.up2 ?_ (by (first | omega | (simp only [np, nq]; omega))) | refine Fm.put_new ?_ _ _ (by (first | omega | (simp only [np, nq]; omega)))))⟩
 unfold qa8 SS.v
 match n % 4, h4 with
 | 0, _ | 1, _ | 2, _ | 3, _ => rfl
theorem qki (hC : qav C) {k : Nat} (hk : 1 ≤ k) (n : Nat) (hn : n < 1000000) (H : Hp) :
  Ok (C k (.f qmu) [.int .i64 (.ofNat n)] H) fun r H' => r = (spOf n).v ∧ Fm No H H' := by
 obtain ⟨j, rfl⟩ : ∃ j, k = j + 1 := ⟨k - 1, by omega⟩
 rw [(hC j).zAj]
 unfold zAj zg6
 have h3 : n % 3 < 3 := Nat.mod_lt _ (by omega)
 simp (disch := first | omega | exact ti rfl | (simp only [np, nq]; first | done | omega)) only [go_sem, reduceAdd, reduceMul, reduceSub, reduceLeDiff, reduceEqDiff, reduceShiftRight, reduceAnd, at3]
 refine Ok.ret ⟨?_, by (repeat (first | exact Fm.refl _ _ | assumption | refine Fm.push ?_ _ | refine Fm.up2 ?_ (by (first | omega | (simp only [np, nq]; omega))) | refine Fm.put_new ?_ _ _ (by (first | omega | (simp only [np, nq]; omega)))))⟩
 unfold spOf SS.v
 match n % 3, h3 with
 | 0, _ | 1, _ | 2, _ => rfl
theorem qyu (hC : qav C) {k : Nat} (hk : 1 ≤ k) {H : Hp} {v : AV} {L : List (List Nat)} (h : ArgC H v L) {n i : Nat} (hn : n < L.length) :
  Ok (C k (.f qpd) [.agg [v], .int .i64 (.ofNat n), .int .i64 (.ofNat i)] H) fun r H' => r = .int .u8 (.ofNat (qa4 L n i)) ∧ Fm No H H' := by
 obtain ⟨j, rfl⟩ : ∃ j, k = j + 1 := ⟨k - 1, by omega⟩
 rw [(hC j).zBf]
 unfold zBf zgm
 have f0 : Fm No H (qal H (qaa 0 [v])) := by (repeat (first | exact Fm.refl _ _ | assumption | refine Fm.push ?_ _ | refine Fm.up2 ?_ (by (first | omega | (simp only [np, nq]; omega))) | refine Fm.put_new ?_ _ _ (by (first | omega | (simp only [np, nq]; omega)))))
 obtain ⟨b, o, w, e1, e2, e3, e4⟩ := (h.fm f0).at hn
 have el := e4.len
 have ell : (u8s L[n]).length = L[n].length := by simp [u8s]
 rw [ell] at el
 have hnd : L.getD n [] = L[n] := by rw [List.getD_eq_getElem?_getD, List.getElem?_eq_getElem hn]; rfl
 by_cases hi : i < L[n].length
 ·obtain ⟨b1, o1, g1, g2, g3⟩ := e4.at' i (by omega)
  have hv : (u8s L[n])[i]'(by omega) = .int .u8 (.ofNat (qa4 L n i)) := by
   unfold qa4
   rw [hnd, List.getD_eq_getElem?_getD, List.getElem?_eq_getElem hi]
   simp [u8s]
  rw [hv] at g3
  simp (disch := first | omega | exact ti rfl | (simp only [np, nq]; first | done | omega)) only [go_sem, reduceAdd, reduceMul, reduceSub, reduceLeDiff, reduceEqDiff, reduceShiftRight, reduceAnd, e1, e3, el, hi, g1, g3]
  exact Ok.ret ⟨rfl, f0⟩
 ·have hv : qa4 L n i = 0 := by
   unfold qa4
   rw [hnd, List.getD_eq_getElem?_getD, List.getElem?_eq_none (by omega)]; rfl
  simp (disch := first | omega | exact ti rfl | (simp only [np, nq]; first | done | omega)) only [go_sem, reduceAdd, reduceMul, reduceSub, reduceLeDiff, reduceEqDiff, reduceShiftRight, reduceAnd, e1, e3, el, hi]
  unfold q5k
  rw [hv]
  exact Ok.ret ⟨rfl, f0⟩
end Go.Di
end
noncomputable section
namespace Go.Di
open Go.Ev
variable {C : Nat → Ev.Call}
def ruV (k : Nat) (r t : SS) (a : AV) : AV := .agg [.int .u8 (.ofNat k), r.v, t.v, a]
def sC (s : SS) : List AV := [s.v]
theorem q2i (H : Hp) (b o n a : Nat) : qbb H (.ptr b o) (.str n a) = storeAt H b o [.str n a] .undef := id rfl
attribute [go_sem] q2i
theorem qgh (hC : qav C) {k : Nat} (hk : 1 ≤ k) (neg : Bool) (H : Hp) :
  Ok (C k (.f qpe) [.bool neg] H) fun r H' => r = (if neg then ruV 2 (qa8 0) sE .nilsl else ruV 1 sE sE .nilsl) ∧ Fm No H H' := by
 obtain ⟨j, rfl⟩ : ∃ j, k = j + 1 := ⟨k - 1, by omega⟩
 rw [(hC j).zBb]
 unfold zBb zgq
 cases neg
 ·simp (disch := first | omega | exact ti rfl | (simp only [np, nq]; first | done | omega)) only [go_sem, reduceAdd, reduceMul, reduceSub, reduceLeDiff, reduceEqDiff, reduceShiftRight, reduceAnd]
  unfold q5m
  simp (disch := first | omega | exact ti rfl | (simp only [np, nq]; first | done | omega)) only [go_sem, reduceAdd, reduceMul, reduceSub, reduceLeDiff, reduceEqDiff, reduceShiftRight, reduceAnd]
  exact Ok.ret ⟨rfl, by (repeat (first | exact Fm.refl _ _ | assumption | refine Fm.push ?_ _ | refine Fm.up2 ?_ (by (first | omega | (simp only [np, nq]; omega))) | refine Fm.put_new ?_ _ _ (by (first | omega | (simp only [np, nq]; omega)))))⟩
 ·simp (disch := first | omega | exact ti rfl | (simp only [np, nq]; first | done | omega)) only [go_sem, reduceAdd, reduceMul, reduceSub, reduceLeDiff, reduceEqDiff, reduceShiftRight, reduceAnd]
  exact Ok.ret ⟨rfl, by (repeat (first | exact Fm.refl _ _ | assumption | refine Fm.push ?_ _ | refine Fm.up2 ?_ (by (first | omega | (simp only [np, nq]; omega))) | refine Fm.put_new ?_ _ _ (by (first | omega | (simp only [np, nq]; omega)))))⟩
def qnj (n k : Nat) (neg : Bool) : Bool := decide (lvl k < lvl n) || (!neg && decide (lvl k = lvl n))
theorem q80 (hC : qav C) {k : Nat} (hk : 2 ≤ k) (n m : Nat) (hn : n < 1000000) (hm : m < 1000000) (neg : Bool) (H : Hp) :
  Ok (C k (.f qtm) [.int .i64 (.ofNat n), .int .i64 (.ofNat m), .bool neg] H) fun r H' => r = .bool (qnj n m neg) ∧ Fm No H H' := by
 obtain ⟨j, rfl⟩ : ∃ j, k = j + 1 := ⟨k - 1, by omega⟩
 rw [(hC j).zBt]
 unfold zBt zgc
 refine Ok.ve (qd3 hC (k := j) (by omega) m hm H) ?_
 rintro _ H1 ⟨rfl, f1⟩
 refine Ok.ve (qd3 hC (k := j) (by omega) n hn H1) ?_
 rintro _ H2 ⟨rfl, f2⟩
 unfold qnj
 by_cases h : lvl m < lvl n
 ·have hd : (lvl m < lvl n) = True := eq_true h
  simp (disch := first | omega | exact ti rfl | (simp only [np, nq]; first | done | omega)) only [go_sem, reduceAdd, reduceMul, reduceSub, reduceLeDiff, reduceEqDiff, reduceShiftRight, reduceAnd, hd]
  exact Ok.ret ⟨by simp, f1.trans f2⟩
 ·cases neg
  ·simp (disch := first | omega | exact ti rfl | (simp only [np, nq]; first | done | omega)) only [go_sem, reduceAdd, reduceMul, reduceSub, reduceLeDiff, reduceEqDiff, reduceShiftRight, reduceAnd, h]
   refine Ok.ve (qd3 hC (k := j) (by omega) m hm H2) ?_
   rintro _ H3 ⟨rfl, f3⟩
   refine Ok.ve (qd3 hC (k := j) (by omega) n hn H3) ?_
   rintro _ H4 ⟨rfl, f4⟩
   simp (disch := first | omega | exact ti rfl | (simp only [np, nq]; first | done | omega)) only [go_sem, reduceAdd, reduceMul, reduceSub, reduceLeDiff, reduceEqDiff, reduceShiftRight, reduceAnd]
   exact Ok.ret ⟨by simp, ((f1.trans f2).trans f3).trans f4⟩
  ·simp (disch := first | omega | exact ti rfl | (simp only [np, nq]; first | done | omega)) only [go_sem, reduceAdd, reduceMul, reduceSub, reduceLeDiff, reduceEqDiff, reduceShiftRight, reduceAnd, h]
   exact Ok.ret ⟨by simp, f1.trans f2⟩
def rg (a b : Nat) : List Nat := (List.range b).drop a
theorem qjf {a i : Nat} (h : a ≤ i) : rg a (i + 1) = rg a i ++ [i] := by
 unfold rg
 rw [List.range_succ, List.drop_append_of_le_length (by simpa using h)]
theorem qq3 (a : Nat) : rg a a = [] := by unfold rg; rw [List.drop_eq_nil_of_le (by simp)]
theorem qgg {a b x : Nat} : x ∈ rg a b ↔ a ≤ x ∧ x < b := by
 unfold rg
 rw [List.mem_iff_getElem]
 constructor
 ·rintro ⟨i, h, rfl⟩
  simp at h ⊢; omega
 ·intro h
  exact ⟨x - a, by simp; omega, by simp; omega⟩
theorem qj7 (a b : Nat) : (rg a b).length = b - a := by unfold rg; simp
def cmpL (m n : Nat) (neg : Bool) : List SS := ((rg (n / 4 * 4) (min m (n / 4 * 4 + 4))).filter (qnj n · neg)).map qa8
theorem q7a (s : SS) : (sC s).length = 1 := rfl
structure qg4 (H : Hp) (b : Nat) (v : AV) : Prop where
 lt : b < H.nx
 is : H.get b = qaa 0 [v]
theorem qg4.fm {H H' : Hp} {b : Nat} {v : AV} (h : qg4 H b v) (f : Fm No H H') : qg4 H' b v := ⟨Nat.lt_of_lt_of_le h.lt f.nx, (f.keep h.lt).trans h.is⟩
theorem qft (hC : qav C) {j : Nat} (hj : 2 ≤ j) {v : AV} {L : List (List Nat)} {n cb : Nat} {neg : Bool} (hn : n < 100000) {H1 : Hp} {Q : AV → Hp → Prop} {q : AV → Hp → R1} (hv : ArgC H1 v L) (hb : qg4 H1 cb v)
  (hq : ∀ w H, Ac 1 sC H1 H w (cmpL (qaq L) n neg) → Ok (q w H) Q) :
  ∀ (k i : Nat) (w : AV) (H : Hp), n / 4 * 4 ≤ i → i ≤ max (min (qaq L) (n / 4 * 4 + 4)) (n / 4 * 4) → n / 4 * 4 + 4 - i < k → Ac 1 sC H1 H w (((rg (n / 4 * 4) i).filter (qnj n · neg)).map qa8) →
   Ok (qi3 (C j) q (.int .i64 (.ofNat n)) (.bool neg) (.ptr cb 0) k w (.int .i64 (.ofNat i)) H) Q
 | 0, i, _, _, _, _, h, _ => by omega
 | k + 1, i, w, H, hi, hi2, hk, hw => by
  show Ok (qvw (C j) _ _ _ _ (qi3 (C j) _ _ _ _ k) _ _ H) Q
  unfold qvw
  have hbH := hb.fm hw.fm
  have e0 := hbH.is
  simp (disch := first | omega | exact ti rfl | (simp only [np, nq]; first | done | omega)) only [go_sem, reduceAdd, reduceMul, reduceSub, reduceLeDiff, reduceEqDiff, reduceShiftRight, reduceAnd, e0]
  refine Ok.ve (qjl hC (k := j) (by omega) (hv.fm hw.fm)) ?_
  rintro _ H2 ⟨rfl, f2⟩
  have hw2 := hw.no f2
  by_cases hlt : i < qaq L ∧ i < n / 4 * 4 + 4
  ·obtain ⟨h1, h2⟩ := hlt
   simp (disch := first | omega | exact ti rfl | (simp only [np, nq]; first | done | omega)) only [go_sem, reduceAdd, reduceMul, reduceSub, reduceLeDiff, reduceEqDiff, reduceShiftRight, reduceAnd, h1, h2]
   unfold qvv
   refine Ok.ve (q80 hC (k := j) (by omega) n i (by omega) (by omega) neg H2) ?_
   rintro _ H3 ⟨rfl, f3⟩
   have hw3 := hw2.no f3
   have hr := qjf hi
   cases hf : qnj n i neg
   ·simp (disch := first | omega | exact ti rfl | (simp only [np, nq]; first | done | omega)) only [go_sem, reduceAdd, reduceMul, reduceSub, reduceLeDiff, reduceEqDiff, reduceShiftRight, reduceAnd]
    unfold qlb
    simp (disch := first | omega | exact ti rfl | (simp only [np, nq]; first | done | omega)) only [go_sem, reduceAdd, reduceMul, reduceSub, reduceLeDiff, reduceEqDiff, reduceShiftRight, reduceAnd]
    refine qft hC hj hn hv hb hq k (i + 1) w H3 (by omega) (by omega) (by omega) ?_
    rw [hr, List.filter_append, List.filter_cons, hf]
    simpa using hw3
   ·simp (disch := first | omega | exact ti rfl | (simp only [np, nq]; first | done | omega)) only [go_sem, reduceAdd, reduceMul, reduceSub, reduceLeDiff, reduceEqDiff, reduceShiftRight, reduceAnd]
    refine Ok.ve (qsq hC (k := j) (by omega) i (by omega) H3) ?_
    rintro _ H4 ⟨rfl, f4⟩
    have hw4 := hw3.no f4
    unfold SS.v
    simp (disch := first | omega | exact ti rfl | (simp only [np, nq]; first | done | omega)) only [go_sem, reduceAdd, reduceMul, reduceSub, reduceLeDiff, reduceEqDiff, reduceShiftRight, reduceAnd]
    have hl : (((rg (n / 4 * 4) i).filter (qnj n · neg)).map qa8).length ≤ 4 := by
     rw [List.length_map]
     refine Nat.le_trans (List.length_filter_le _ _) ?_
     rw [qj7]; omega
    refine Ok.ve ((hw4.no ((Fm.refl No H4).push (qaa 0 [.str (qa8 i).n (qa8 i).a]))).add (qa8 i) 16 rfl (by omega) (by omega)) ?_
    intro w5 H5 hw5
    unfold qlb
    simp (disch := first | omega | exact ti rfl | (simp only [np, nq]; first | done | omega)) only [go_sem, reduceAdd, reduceMul, reduceSub, reduceLeDiff, reduceEqDiff, reduceShiftRight, reduceAnd]
    refine qft hC hj hn hv hb hq k (i + 1) w5 H5 (by omega) (by omega) (by omega) ?_
    rw [hr, List.filter_append, List.filter_cons, hf]
    simpa using hw5
  ·have he : rg (n / 4 * 4) i = rg (n / 4 * 4) (min (qaq L) (n / 4 * 4 + 4)) := by
    by_cases h : n / 4 * 4 ≤ min (qaq L) (n / 4 * 4 + 4)
    ·congr 1; omega
    ·unfold rg
     rw [List.drop_eq_nil_of_le (by simp; omega), List.drop_eq_nil_of_le (by simp; omega)]
   rw [he] at hw2
   by_cases h1 : i < qaq L
   ·have h2 : ¬ i < n / 4 * 4 + 4 := fun h => hlt ⟨h1, h⟩
    simp (disch := first | omega | exact ti rfl | (simp only [np, nq]; first | done | omega)) only [go_sem, reduceAdd, reduceMul, reduceSub, reduceLeDiff, reduceEqDiff, reduceShiftRight, reduceAnd, h1, h2]
    exact hq w H2 hw2
   ·simp (disch := first | omega | exact ti rfl | (simp only [np, nq]; first | done | omega)) only [go_sem, reduceAdd, reduceMul, reduceSub, reduceLeDiff, reduceEqDiff, reduceShiftRight, reduceAnd, h1]
    exact hq w H2 hw2
end Go.Di
end
noncomputable section
namespace Go.Di
open Go.Ev
variable {C : Nat → Ev.Call}
theorem zeg (x : Nat) (h : x < 256) : qyt .i64 (.int .u8 (.ofNat x)) = .val (.int .i64 (.ofNat x)) := by
 show R0.val (.int .i64 (qev .i64 (.ofNat x))) = _
 rw [qgn _ (by omega)]
theorem zep (n : Nat) (h : n < 256) : qev .u8 (.ofNat n) = .ofNat n := by
 show (bif Nat.blt n 256 then _ else _) = _
 rw [blt_eq, decide_eq_true h]; rfl
theorem zku (a b : Nat) (h : 0 < b) (h2 : a < 256) : intV (qab .quo).f (.int .u8 (.ofNat a)) (.int .u8 (.ofNat b)) = .val (.int .u8 (.ofNat (a / b))) := by
 show (bif eqI (.ofNat b) 0 then R0.bad else .val (.int .u8 (qev .u8 (Int.tdiv (.ofNat a) (.ofNat b))))) = _
 rw [qes, decide_eq_false (by simp only [Int.ofNat_eq_natCast]; omega)]
 show R0.val (.int .u8 (qev .u8 (.ofNat (a / b)))) = _
 rw [zep _ (Nat.lt_of_le_of_lt (Nat.div_le_self _ _) h2)]
theorem zke (n j : Nat) (k : IntKind) (h : j ≤ 8) : qsi (qh9 .shr).f (.int .u8 (.ofNat n)) (.int k (.ofNat j)) = .val (.int .u8 (.ofNat (n / 2 ^ j))) := by
 show (bif ltI (.ofNat j) 0 then R0.bad else .val (.int .u8 ((Int.ofNat n).fdiv (2 ^ (min j 8))))) = _
 rw [qd2, Nat.min_eq_left h]
 have h0 : decide ((Int.ofNat j) < 0) = false := by simp
 rw [h0]
 show R0.val (.int .u8 ((Int.ofNat n).fdiv (2 ^ j))) = _
 congr 2
 have h2 : ((2 : Int) ^ j) = Int.ofNat (2 ^ j) := by simp
 rw [h2]
 show Int.fdiv (n : Int) ((2 ^ j : Nat) : Int) = ((n / 2 ^ j : Nat) : Int)
 rw [Int.fdiv_eq_ediv_of_nonneg _ (Int.natCast_nonneg _)]
 rfl
attribute [go_sem] zeg zku zke
theorem qrx {H : Hp} {v : AV} {L : List (List Nat)} (h : ArgC H v L) (n i : Nat) : qa4 L n i < 256 := by
 unfold qa4
 rw [List.getD_eq_getElem?_getD, List.getD_eq_getElem?_getD]
 cases h1 : L[n]? with
 | none => simp
 | some l =>
  simp only [Option.getD_some]
  cases h2 : l[i]? with
  | none => simp
  | some x => exact h.lt l (List.mem_of_getElem? h1) x (List.mem_of_getElem? h2)
structure At (m n : Nat) (neg : Bool) : Prop where
 lt : n < m
 le : m ≤ 12
 up : neg = true → 0 < lvl n
theorem lvl0 (q : Nat) : lvl (q * 4) = 0 := by unfold lvl; rw [Nat.mul_mod_left]; rfl
theorem q13 {m n : Nat} {neg : Bool} (h : At m n neg) : 0 < (cmpL m n neg).length := by
 unfold cmpL
 rw [List.length_map]
 refine List.length_pos_of_mem (a := n / 4 * 4) ?_
 rw [List.mem_filter, qgg]
 have := h.lt
 refine ⟨by omega, ?_⟩
 unfold qnj
 rw [lvl0]
 cases neg with
 | true => simp [h.up rfl]
 | false => simp; omega
theorem Rs.at1 {α : Type} {f : α → List AV} {g : α → AV} (hf : ∀ x, f x = [g x]) {H : Hp} {v : AV} {l : List α} (h : Rs 1 f H v l) {i : Nat} (hi : i < l.length) :
  ∃ b o, idxS 1 v (.int .i64 (.ofNat i)) = .val (.ptr b o) ∧ b < H.nx ∧ qap (H.get b) o = .val (g l[i]) := by
 obtain ⟨b, o, h1, h2, _, h3, h4⟩ := h.at' i hi
 refine ⟨b, o, h1, h2, ?_⟩
 have := h4 0 (by rw [hf]; simp)
 simpa [hf] using this
theorem qm4 (hC : qav C) {k : Nat} (hk : 4 ≤ k) {v : AV} {L : List (List Nat)} {n c : Nat} {neg : Bool} {H : Hp} (hv : ArgC H v L) (hA : At (qaq L) n neg) (hc : c < 256) :
  Ok (C k (.f q06) [.agg [v], .int .i64 (.ofNat n), .int .u8 (.ofNat c), .bool neg] H) fun r H' =>
   r = ruV 2 ((cmpL (qaq L) n neg).getD (c % (cmpL (qaq L) n neg).length) sE) sE .nilsl ∧ Fm No H H' := by
 obtain ⟨j, rfl⟩ : ∃ j, k = j + 1 := ⟨k - 1, by omega⟩
 rw [(hC j).zBc]
 unfold zBc zgp
 have hp := q13 hA
 have hn := hA.lt
 have hle := hA.le
 simp (disch := first | omega | exact ti rfl | (simp only [np, nq]; first | done | omega)) only [go_sem, reduceAdd, reduceMul, reduceSub, reduceLeDiff, reduceEqDiff, reduceShiftRight, reduceAnd]
 unfold qvx
 rw [qan]
 have f1 : Fm No H (qal (qal H (qaa 0 [v])) (qaa 0 [.int .u8 (.ofNat 0), .str 0 0, .str 0 0, .nilsl])) := by (repeat (first | exact Fm.refl _ _ | assumption | refine Fm.push ?_ _ | refine Fm.up2 ?_ (by (first | omega | (simp only [np, nq]; omega))) | refine Fm.put_new ?_ _ _ (by (first | omega | (simp only [np, nq]; omega)))))
 have f1' : Fm No (qal H (qaa 0 [v])) (qal (qal H (qaa 0 [v])) (qaa 0 [.int .u8 (.ofNat 0), .str 0 0, .str 0 0, .nilsl])) := by (repeat (first | exact Fm.refl _ _ | assumption | refine Fm.push ?_ _ | refine Fm.up2 ?_ (by (first | omega | (simp only [np, nq]; omega))) | refine Fm.put_new ?_ _ _ (by (first | omega | (simp only [np, nq]; omega)))))
 have hcb : qg4 (qal H (qaa 0 [v])) H.nx v := ⟨by (first | omega | (simp only [np, nq]; omega)), by simp (disch := first | omega | exact ti rfl | (simp only [np, nq]; first | done | omega)) only [go_sem, reduceAdd, reduceMul, reduceSub, reduceLeDiff, reduceEqDiff, reduceShiftRight, reduceAnd]⟩
 refine qft hC (by omega) (by omega) (hv.fm f1) (hcb.fm f1') (fun w H2 hw => ?_) qak (n / 4 * 4) .nilsl _ (Nat.le_refl _) (by omega) (by rw [qaf]; omega) ?_
 ·unfold qla
  have hl := hw.lenV
  have f2 := hw.fm
  have hmod : c % (cmpL (qaq L) n neg).length < (cmpL (qaq L) n neg).length := Nat.mod_lt _ hp
  obtain ⟨b, o, e1, e2, e3⟩ := (hw.rs q7a).at1 (g := SS.v) (fun _ => rfl) hmod
  have k2 : H2.get (H.nx + 1) = qaa 0 [.int .u8 (.ofNat 0), .str 0 0, .str 0 0, .nilsl] := (f2.keep (by (first | omega | (simp only [np, nq]; omega)))).trans (by simp (disch := first | omega | exact ti rfl | (simp only [np, nq]; first | done | omega)) only [go_sem, reduceAdd, reduceMul, reduceSub, reduceLeDiff, reduceEqDiff, reduceShiftRight, reduceAnd])
  unfold SS.v at e3
  have ex := f2.nx
  simp only [np] at ex
  simp (disch := first | omega | exact ti rfl | (simp only [np, nq]; first | done | omega)) only [go_sem, reduceAdd, reduceMul, reduceSub, reduceLeDiff, reduceEqDiff, reduceShiftRight, reduceAnd, hl, e1, e3, k2]
  refine Ok.ret ⟨?_, (f1.trans f2).put_new _ _ (by omega)⟩
  rw [List.getD_eq_getElem?_getD, List.getElem?_eq_getElem hmod]; rfl
 ·rw [qq3]
  exact Ac.nil _ _ (Fm.refl _ _)
structure TyS where
 sp : SS
 rl : SS
 deriving DecidableEq
def tC (t : TyS) : List AV := [t.sp.v, t.rl.v]
theorem qh7 (t : TyS) : (tC t).length = 2 := rfl
def nS (m : Nat) : Nat := min 3 ((m + 3) / 4)
def tyA (c i : Nat) : List TyS := ⟨sU, sE⟩ :: ((rg 0 i).filter fun i => decide (c / 2 ^ i % 2 = 1)).map fun i => ⟨spOf i, sE⟩
def tyB (m n : Nat) : List TyS := ((rg 0 m).filter fun k => decide (lvl k ≤ lvl n)).map fun k => ⟨spOf (k / 4), qa8 k⟩
def qbh (L : List (List Nat)) (n : Nat) : List TyS :=
 tyA (qa4 L n 0) (nS (qaq L)) ++ if qa4 L n 1 % 2 = 1 then [(tyB (qaq L) n).getD (qa4 L n 1 / 2 % (tyB (qaq L) n).length) ⟨sE, sE⟩] else []
theorem Ac.one {α : Type} {z : Nat} {f : α → List AV} {H0 H : Hp} (x : α) (hx : (f x).length = z) (h : Fm No H0 H) : Ac z f H0 (qal H (qaa 0 (f x))) (.sl H.nx 0 1 1 true) [x] :=
 ⟨⟨by simp [hx], .inr ⟨_, _, _, _, _, rfl, qbc _ _, Nat.zero_le _, by simp, .inl rfl, by rw [np]; omega⟩⟩, h.push _, fun b hb => by obtain ⟨_, _, _, _, h'⟩ := hb; cases h'; exact h.nx⟩
theorem qhu (hC : qav C) {j : Nat} (hj : 2 ≤ j) {v : AV} {L : List (List Nat)} {n cb : Nat} (hn : n < 100000) {H1 : Hp} {Q : AV → Hp → Prop} {q : AV → Hp → R1} (hv : ArgC H1 v L) (hb : qg4 H1 cb v)
  (hq : ∀ w H, Ac 2 tC H1 H w (tyB (qaq L) n) → Ok (q w H) Q) :
  ∀ (k i : Nat) (w : AV) (H : Hp), i ≤ qaq L → qaq L - i < k → Ac 2 tC H1 H w (tyB i n) →
   Ok (qi7 (C j) q (.int .i64 (.ofNat n)) (.ptr cb 0) k w (.int .i64 (.ofNat i)) H) Q
 | 0, i, _, _, _, h, _ => by omega
 | k + 1, i, w, H, hi, hk, hw => by
  show Ok (qwg (C j) _ _ _ (qi7 (C j) _ _ _ k) _ _ H) Q
  unfold qwg
  have hm : qaq L ≤ 12 := Nat.min_le_right _ _
  have hbH := hb.fm hw.fm
  have e0 := hbH.is
  simp (disch := first | omega | exact ti rfl | (simp only [np, nq]; first | done | omega)) only [go_sem, reduceAdd, reduceMul, reduceSub, reduceLeDiff, reduceEqDiff, reduceShiftRight, reduceAnd, e0]
  refine Ok.ve (qjl hC (k := j) (by omega) (hv.fm hw.fm)) ?_
  rintro _ H2 ⟨rfl, f2⟩
  have hw2 := hw.no f2
  by_cases hlt : i < qaq L
  ·simp (disch := first | omega | exact ti rfl | (simp only [np, nq]; first | done | omega)) only [go_sem, reduceAdd, reduceMul, reduceSub, reduceLeDiff, reduceEqDiff, reduceShiftRight, reduceAnd, hlt]
   unfold qwe
   refine Ok.ve (qd3 hC (k := j) (by omega) i (by omega) H2) ?_
   rintro _ H3 ⟨rfl, f3⟩
   refine Ok.ve (qd3 hC (k := j) (by omega) n (by omega) H3) ?_
   rintro _ H4 ⟨rfl, f4⟩
   have hw4 := (hw2.no f3).no f4
   have hr : rg 0 (i + 1) = rg 0 i ++ [i] := qjf (Nat.zero_le _)
   by_cases hf : lvl i ≤ lvl n
   ·simp (disch := first | omega | exact ti rfl | (simp only [np, nq]; first | done | omega)) only [go_sem, reduceAdd, reduceMul, reduceSub, reduceLeDiff, reduceEqDiff, reduceShiftRight, reduceAnd, hf]
    refine Ok.ve (qki hC (k := j) (by omega) (i / 4) (by omega) H4) ?_
    rintro _ H5 ⟨rfl, f5⟩
    refine Ok.ve (qsq hC (k := j) (by omega) i (by omega) H5) ?_
    rintro _ H6 ⟨rfl, f6⟩
    have hw6 := (hw4.no f5).no f6
    unfold SS.v
    simp (disch := first | omega | exact ti rfl | (simp only [np, nq]; first | done | omega)) only [go_sem, reduceAdd, reduceMul, reduceSub, reduceLeDiff, reduceEqDiff, reduceShiftRight, reduceAnd]
    have hl : (tyB i n).length ≤ 12 := by
     unfold tyB
     rw [List.length_map]
     refine Nat.le_trans (List.length_filter_le _ _) ?_
     rw [qj7]; omega
    refine Ok.ve ((hw6.no ((Fm.refl No H6).push (qaa 0 (tC ⟨spOf (i / 4), qa8 i⟩)))).add ⟨spOf (i / 4), qa8 i⟩ 32 rfl (by omega) (by omega)) ?_
    intro w7 H7 hw7
    unfold qlk
    simp (disch := first | omega | exact ti rfl | (simp only [np, nq]; first | done | omega)) only [go_sem, reduceAdd, reduceMul, reduceSub, reduceLeDiff, reduceEqDiff, reduceShiftRight, reduceAnd]
    refine qhu hC hj hn hv hb hq k (i + 1) w7 H7 (by omega) (by omega) ?_
    unfold tyB
    rw [hr, List.filter_append, List.filter_cons, decide_eq_true hf]
    simpa [tyB] using hw7
   ·simp (disch := first | omega | exact ti rfl | (simp only [np, nq]; first | done | omega)) only [go_sem, reduceAdd, reduceMul, reduceSub, reduceLeDiff, reduceEqDiff, reduceShiftRight, reduceAnd, hf]
    unfold qlk
    simp (disch := first | omega | exact ti rfl | (simp only [np, nq]; first | done | omega)) only [go_sem, reduceAdd, reduceMul, reduceSub, reduceLeDiff, reduceEqDiff, reduceShiftRight, reduceAnd]
    refine qhu hC hj hn hv hb hq k (i + 1) w H4 (by omega) (by omega) ?_
    unfold tyB
    rw [hr, List.filter_append, List.filter_cons, decide_eq_false hf]
    simpa [tyB] using hw4
  ·have he : i = qaq L := by omega
   simp (disch := first | omega | exact ti rfl | (simp only [np, nq]; first | done | omega)) only [go_sem, reduceAdd, reduceMul, reduceSub, reduceLeDiff, reduceEqDiff, reduceShiftRight, reduceAnd, hlt]
   exact hq w H2 (he ▸ hw2)
end Go.Di
end
noncomputable section
namespace Go.Di
open Go.Ev
variable {C : Nat → Ev.Call}
theorem qxz (c i : Nat) : (tyA c i).length ≤ i + 1 := by
 unfold tyA
 rw [List.length_cons, List.length_map]
 have := List.length_filter_le (fun i => decide (c / 2 ^ i % 2 = 1)) (rg 0 i)
 rw [qj7] at this; omega
theorem qqu {m n : Nat} (h : n < m) : 0 < (tyB m n).length := by
 unfold tyB
 rw [List.length_map]
 refine List.length_pos_of_mem (a := n) ?_
 rw [List.mem_filter, qgg]
 exact ⟨by omega, by simp⟩
theorem Ac.trans {α : Type} {z : Nat} {f : α → List AV} {H0 H1 H : Hp} {v : AV} {l : List α} (a : Fm No H0 H1) (h : Ac z f H1 H v l) : Ac z f H0 H v l := ⟨h.gl, a.trans h.fm, fun b hb => Nat.le_trans a.nx (h.nw b hb)⟩
theorem Rs.atN {α : Type} {z : Nat} {f : α → List AV} {H : Hp} {v : AV} {l : List α} (h : Rs z f H v l) {i : Nat} (hi : i < l.length) :
  ∃ b o, idxS z v (.int .i64 (.ofNat i)) = .val (.ptr b o) ∧ b < H.nx ∧ qba (H.get b) o z = some (f l[i]) := by
 obtain ⟨b, o, h1, h2, _, h3, _⟩ := h.at' i hi
 exact ⟨b, o, h1, h2, h3⟩
theorem q6o (hC : qav C) {j : Nat} (hj : 2 ≤ j) {v : AV} {L : List (List Nat)} {n cb : Nat} (hn : n < qaq L) {H0 H : Hp} (hv : ArgC H v L) (hb : qg4 H cb v) {w : AV}
  (hw : Ac 2 tC H0 H w (tyA (qa4 L n 0) (nS (qaq L)))) :
  Ok (qf7 (C j) (.int .i64 (.ofNat n)) (.ptr cb 0) w H) fun r H' => Ac 2 tC H0 H' r (qbh L n) := by
 have hm : qaq L ≤ 12 := Nat.min_le_right _ _
 have hnL : n < L.length := Nat.lt_of_lt_of_le hn (Nat.min_le_left _ _)
 unfold qf7
 have e0 := hb.is
 simp (disch := first | omega | exact ti rfl | (simp only [np, nq]; first | done | omega)) only [go_sem, reduceAdd, reduceMul, reduceSub, reduceLeDiff, reduceEqDiff, reduceShiftRight, reduceAnd, e0]
 refine Ok.ve (qyu hC (k := j) (by omega) hv hnL) ?_
 rintro _ H1 ⟨rfl, f1⟩
 have hw1 := hw.no f1
 unfold qbh
 have hc := qrx hv n 1
 by_cases h1 : qa4 L n 1 % 2 = 1
 ·rw [if_pos h1]
  simp (disch := first | omega | exact ti rfl | (simp only [np, nq]; first | done | omega)) only [go_sem, reduceAdd, reduceMul, reduceSub, reduceLeDiff, reduceEqDiff, reduceShiftRight, reduceAnd, h1]
  unfold qwi
  rw [qan]
  refine qhu hC hj (by omega) (hv.fm f1) (hb.fm f1) (fun u H2 hu => ?_) qak 0 .nilsl H1 (Nat.zero_le _) (by rw [qaf]; omega) (Ac.nil _ _ (Fm.refl _ _))
  unfold qho
  have f2 := hu.fm
  have e2 := ((hb.fm f1).fm f2).is
  simp (disch := first | omega | exact ti rfl | (simp only [np, nq]; first | done | omega)) only [go_sem, reduceAdd, reduceMul, reduceSub, reduceLeDiff, reduceEqDiff, reduceShiftRight, reduceAnd, e2]
  refine Ok.ve (qyu hC (k := j) (by omega) ((hv.fm f1).fm f2) hnL) ?_
  rintro _ H3 ⟨rfl, f3⟩
  have hu3 := hu.no f3
  have hl := hu3.lenV
  have hmod : qa4 L n 1 / 2 % (tyB (qaq L) n).length < (tyB (qaq L) n).length := Nat.mod_lt _ (qqu hn)
  have hd2 : qa4 L n 1 / 2 < 256 := by omega
  have hp := qqu hn
  obtain ⟨b, o, e1, _, e3⟩ := (hu3.rs qh7).atN hmod
  have hx : (tyB (qaq L) n).getD (qa4 L n 1 / 2 % (tyB (qaq L) n).length) ⟨sE, sE⟩ = (tyB (qaq L) n)[qa4 L n 1 / 2 % (tyB (qaq L) n).length] := by
   rw [List.getD_eq_getElem?_getD, List.getElem?_eq_getElem hmod]; rfl
  rw [hx]
  have hlen := qxz (qa4 L n 0) (nS (qaq L))
  have hn3 : nS (qaq L) ≤ 3 := Nat.min_le_left _ _
  unfold tC at e3
  unfold SS.v at e3
  simp (disch := first | omega | exact ti rfl | (simp only [np, nq]; first | done | omega)) only [go_sem, reduceAdd, reduceMul, reduceSub, reduceLeDiff, reduceEqDiff, reduceShiftRight, reduceAnd, hl, e1, e3]
  refine Ok.ve ((((hw1.no f2).no f3).no ((Fm.refl No H3).push (qaa 0 (tC (tyB (qaq L) n)[qa4 L n 1 / 2 % (tyB (qaq L) n).length])))).add _ 32 rfl (by omega) (by omega)) ?_
  intro w4 H4 hw4
  exact Ok.ret hw4
 ·rw [if_neg h1, List.append_nil]
  simp (disch := first | omega | exact ti rfl | (simp only [np, nq]; first | done | omega)) only [go_sem, reduceAdd, reduceMul, reduceSub, reduceLeDiff, reduceEqDiff, reduceShiftRight, reduceAnd, h1]
  exact Ok.ret hw1
theorem qhv (hC : qav C) {j : Nat} (hj : 2 ≤ j) {v : AV} {L : List (List Nat)} {n cb : Nat} (hn : n < qaq L) {H0 : Hp} {Q : AV → Hp → Prop} {q : AV → Hp → R1} (hv : ArgC H0 v L) (hb : qg4 H0 cb v)
  (hq : ∀ w H, Ac 2 tC H0 H w (tyA (qa4 L n 0) (nS (qaq L))) → Ok (q w H) Q) :
  ∀ (k i : Nat) (w : AV) (H : Hp), i ≤ nS (qaq L) → 3 - i < k → Ac 2 tC H0 H w (tyA (qa4 L n 0) i) →
   Ok (qi6 (C j) q (.int .i64 (.ofNat n)) (.ptr cb 0) k w (.int .i64 (.ofNat i)) H) Q
 | 0, i, _, _, _, h, _ => by omega
 | k + 1, i, w, H, hi, hk, hw => by
  show Ok (qwf (C j) _ _ _ (qi6 (C j) _ _ _ k) _ _ H) Q
  unfold qwf
  have hm : qaq L ≤ 12 := Nat.min_le_right _ _
  have hnL : n < L.length := Nat.lt_of_lt_of_le hn (Nat.min_le_left _ _)
  have hn3 : nS (qaq L) ≤ 3 := Nat.min_le_left _ _
  have e0 := (hb.fm hw.fm).is
  simp (disch := first | omega | exact ti rfl | (simp only [np, nq]; first | done | omega)) only [go_sem, reduceAdd, reduceMul, reduceSub, reduceLeDiff, reduceEqDiff, reduceShiftRight, reduceAnd, e0]
  refine Ok.ve (qjl hC (k := j) (by omega) (hv.fm hw.fm)) ?_
  rintro _ H2 ⟨rfl, f2⟩
  have hw2 := hw.no f2
  by_cases hlt : i < nS (qaq L)
  ·have h1 : 4 * i < qaq L := by unfold nS at hlt; omega
   have h2 : i < 3 := by omega
   simp (disch := first | omega | exact ti rfl | (simp only [np, nq]; first | done | omega)) only [go_sem, reduceAdd, reduceMul, reduceSub, reduceLeDiff, reduceEqDiff, reduceShiftRight, reduceAnd, h1, h2]
   unfold qwd
   have e2 := (hb.fm hw2.fm).is
   simp (disch := first | omega | exact ti rfl | (simp only [np, nq]; first | done | omega)) only [go_sem, reduceAdd, reduceMul, reduceSub, reduceLeDiff, reduceEqDiff, reduceShiftRight, reduceAnd, e2]
   refine Ok.ve (qyu hC (k := j) (by omega) (hv.fm hw2.fm) hnL) ?_
   rintro _ H3 ⟨rfl, f3⟩
   have hw3 := hw2.no f3
   have hr : rg 0 (i + 1) = rg 0 i ++ [i] := qjf (Nat.zero_le _)
   have hc := qrx hv n 0
   by_cases hf : qa4 L n 0 / 2 ^ i % 2 = 1
   ·simp (disch := first | omega | exact ti rfl | (simp only [np, nq]; first | done | omega)) only [go_sem, reduceAdd, reduceMul, reduceSub, reduceLeDiff, reduceEqDiff, reduceShiftRight, reduceAnd, hf]
    refine Ok.ve (qki hC (k := j) (by omega) i (by omega) H3) ?_
    rintro _ H4 ⟨rfl, f4⟩
    have hw4 := hw3.no f4
    unfold SS.v
    simp (disch := first | omega | exact ti rfl | (simp only [np, nq]; first | done | omega)) only [go_sem, reduceAdd, reduceMul, reduceSub, reduceLeDiff, reduceEqDiff, reduceShiftRight, reduceAnd]
    have hl := qxz (qa4 L n 0) i
    refine Ok.ve ((hw4.no ((Fm.refl No H4).push (qaa 0 (tC ⟨spOf i, sE⟩)))).add ⟨spOf i, sE⟩ 32 rfl (by omega) (by omega)) ?_
    intro w5 H5 hw5
    unfold qlj
    simp (disch := first | omega | exact ti rfl | (simp only [np, nq]; first | done | omega)) only [go_sem, reduceAdd, reduceMul, reduceSub, reduceLeDiff, reduceEqDiff, reduceShiftRight, reduceAnd]
    refine qhv hC hj hn hv hb hq k (i + 1) w5 H5 (by omega) (by omega) ?_
    have : tyA (qa4 L n 0) (i + 1) = tyA (qa4 L n 0) i ++ [⟨spOf i, sE⟩] := by
     unfold tyA
     rw [hr, List.filter_append, List.filter_cons, decide_eq_true hf]; simp
    rw [this]; exact hw5
   ·simp (disch := first | omega | exact ti rfl | (simp only [np, nq]; first | done | omega)) only [go_sem, reduceAdd, reduceMul, reduceSub, reduceLeDiff, reduceEqDiff, reduceShiftRight, reduceAnd, hf]
    unfold qlj
    simp (disch := first | omega | exact ti rfl | (simp only [np, nq]; first | done | omega)) only [go_sem, reduceAdd, reduceMul, reduceSub, reduceLeDiff, reduceEqDiff, reduceShiftRight, reduceAnd]
    refine qhv hC hj hn hv hb hq k (i + 1) w H3 (by omega) (by omega) ?_
    have : tyA (qa4 L n 0) (i + 1) = tyA (qa4 L n 0) i := by
     unfold tyA
     rw [hr, List.filter_append, List.filter_cons, decide_eq_false hf]; simp
    rw [this]; exact hw3
  ·have he : i = nS (qaq L) := by omega
   rw [he] at hw2
   by_cases h1 : 4 * i < qaq L
   ·have h2 : ¬ i < 3 := by unfold nS at hlt; omega
    simp (disch := first | omega | exact ti rfl | (simp only [np, nq]; first | done | omega)) only [go_sem, reduceAdd, reduceMul, reduceSub, reduceLeDiff, reduceEqDiff, reduceShiftRight, reduceAnd, h1, h2]
    exact hq w H2 hw2
   ·simp (disch := first | omega | exact ti rfl | (simp only [np, nq]; first | done | omega)) only [go_sem, reduceAdd, reduceMul, reduceSub, reduceLeDiff, reduceEqDiff, reduceShiftRight, reduceAnd, h1]
    exact hq w H2 hw2
theorem qzh (hC : qav C) {k : Nat} (hk : 4 ≤ k) {v : AV} {L : List (List Nat)} {n : Nat} {H : Hp} (hv : ArgC H v L) (hn : n < qaq L) :
  Ok (C k (.f qtv) [.agg [v], .int .i64 (.ofNat n)] H) fun r H' => Ac 2 tC H H' r (qbh L n) := by
 obtain ⟨j, rfl⟩ : ∃ j, k = j + 1 := ⟨k - 1, by omega⟩
 rw [(hC j).zAm]
 unfold zAm zg4
 simp (disch := first | omega | exact ti rfl | (simp only [np, nq]; first | done | omega)) only [go_sem, reduceAdd, reduceMul, reduceSub, reduceLeDiff, reduceEqDiff, reduceShiftRight, reduceAnd]
 unfold qwh
 rw [qan]
 have hcb : qg4 (qal H (qaa 0 [v])) H.nx v := ⟨by (first | omega | (simp only [np, nq]; omega)), by simp (disch := first | omega | exact ti rfl | (simp only [np, nq]; first | done | omega)) only [go_sem, reduceAdd, reduceMul, reduceSub, reduceLeDiff, reduceEqDiff, reduceShiftRight, reduceAnd]⟩
 have fa : Fm No H (qal H (qaa 0 [v])) := by (repeat (first | exact Fm.refl _ _ | assumption | refine Fm.push ?_ _ | refine Fm.up2 ?_ (by (first | omega | (simp only [np, nq]; omega))) | refine Fm.put_new ?_ _ _ (by (first | omega | (simp only [np, nq]; omega)))))
 have h1 := Ac.one (z := 2) (f := tC) (H0 := qal H (qaa 0 [v])) ⟨sU, sE⟩ rfl (Fm.refl _ _)
 refine qhv hC (by omega) hn (hv.fm fa) hcb (fun w H2 hw => ?_) qak 0 _ _ (Nat.zero_le _) (by rw [qaf]; omega) h1
 refine (q6o hC (by omega) hn ((hv.fm fa).fm hw.fm) (hcb.fm hw.fm) (hw.trans (H0 := H) fa)).mono fun r H' h => h
end Go.Di
end
noncomputable section
namespace Go.Di
open Go.Ev
variable {C : Nat → Ev.Call}
theorem zl2 (n a m b : Nat) : strV (qcb .eql).f (.str n a) (.str m b) = .val (.bool (decide (n = m ∧ a = b))) := by
 show R0.val (.bool (Nat.beq n m && Nat.beq a b)) = _
 rw [beq_eq, beq_eq, Bool.decide_and]
theorem zk8 (n a m b : Nat) : strV (qcb .neq).f (.str n a) (.str m b) = .val (.bool (!decide (n = m ∧ a = b))) := by
 show R0.val (.bool (!(Nat.beq n m && Nat.beq a b))) = _
 rw [beq_eq, beq_eq, Bool.decide_and]
theorem zi8 (n a : Nat) : eqF 64 (.str n a) (.str n a) = true := by
 show (Nat.beq n n && Nat.beq a a) = true
 rw [beq_eq, beq_eq]; simp
attribute [go_sem] zl2 zk8 zi8
theorem qde (s t : SS) : (s = t) ↔ (s.n = t.n ∧ s.a = t.a) := by
 cases s; cases t; simp
structure ArS where
 rl : SS
 to : SS
 deriving DecidableEq
def arC (x : ArS) : List AV := [.int .u8 (.ofNat 3), x.rl.v, x.to.v, .nilsl]
theorem zjy (t : ArS) : (arC t).length = 4 := rfl
def arP (n : Nat) (neg : Bool) (t : TyS) (j : Nat) : Bool := decide (t.rl = sE) && decide (t.sp = spOf (j / 4)) && qnj n j neg
def arJ (n : Nat) (neg : Bool) (k : Nat) (t : TyS) (m : Nat) : List ArS := ((rg 0 m).filter (arP n neg t)).map fun j => ⟨qa8 k, qa8 j⟩
def arK (L : List (List Nat)) (n : Nat) (neg : Bool) (k : Nat) : List ArS := (qbh L k).flatMap fun t => arJ n neg k t (qaq L)
def arrL (L : List (List Nat)) (n : Nat) (neg : Bool) (i : Nat) : List ArS := (rg (n / 4 * 4) i).flatMap (arK L n neg)
theorem qyy (n : Nat) (neg : Bool) (k : Nat) (t : TyS) (m : Nat) : (arJ n neg k t m).length ≤ m := by
 unfold arJ
 rw [List.length_map]
 refine Nat.le_trans (List.length_filter_le _ _) ?_
 rw [qj7]; omega
theorem zet (n : Nat) (neg : Bool) (k : Nat) (t : TyS) (i : Nat) : arJ n neg k t (i + 1) = arJ n neg k t i ++ if arP n neg t i then [⟨qa8 k, qa8 i⟩] else [] := by
 unfold arJ
 rw [qjf (Nat.zero_le _), List.filter_append, List.filter_cons]
 cases arP n neg t i <;> simp
theorem qc0 {α β : Type} (g : α → List β) (c : Nat) (h : ∀ x, (g x).length ≤ c) : ∀ l : List α, (l.flatMap g).length ≤ c * l.length
 | [] => by simp
 | a :: l => by
  rw [List.flatMap_cons, List.length_append, List.length_cons, Nat.mul_add, Nat.mul_one]
  have := qc0 g c h l
  have := h a
  omega
theorem qdv (hC : qav C) {j : Nat} (hj : 3 ≤ j) {v : AV} {L : List (List Nat)} {n cb kk : Nat} {neg : Bool} (hn : n < 100000) (hkk : kk < 100000) {S : Nat → Prop} {H0 : Hp} {Q : AV → Hp → Prop} {q : AV → Hp → R1} (hv : ∀ H', Fm S H0 H' → ArgC H' v L) (hb : ∀ H', Fm S H0 H' → qg4 H' cb v)
  {ts : List TyS} {tv : AV} (ht : ∀ H', Fm S H0 H' → Rs 2 tC H' tv ts) {x : Nat} (hx : x < ts.length) {A : List ArS} (hA : A.length ≤ 1000000)
  (hq : ∀ w H, AcS 4 arC S H0 H w (A ++ arJ n neg kk ts[x] (qaq L)) → Ok (q w H) Q) :
  ∀ (k i : Nat) (w : AV) (H : Hp), i ≤ qaq L → qaq L - i < k → AcS 4 arC S H0 H w (A ++ arJ n neg kk ts[x] i) →
   Ok (qi2 (C j) q (.int .i64 (.ofNat n)) (.bool neg) (.ptr cb 0) (.int .i64 (.ofNat kk)) tv (.int .i64 (.ofNat x)) k w (.int .i64 (.ofNat i)) H) Q
 | 0, i, _, _, _, h, _ => by omega
 | k + 1, i, w, H, hi, hk, hw => by
  show Ok (qvp (C j) _ _ _ _ _ _ _ (qi2 (C j) _ _ _ _ _ _ _ k) _ _ H) Q
  unfold qvp
  have hm : qaq L ≤ 12 := Nat.min_le_right _ _
  have e0 := (hb _ hw.fm).is
  simp (disch := first | omega | exact ti rfl | (simp only [np, nq]; first | done | omega)) only [go_sem, reduceAdd, reduceMul, reduceSub, reduceLeDiff, reduceEqDiff, reduceShiftRight, reduceAnd, e0]
  refine Ok.ve (qjl hC (k := j) (by omega) (hv _ hw.fm)) ?_
  rintro _ H2 ⟨rfl, f2⟩
  have hw2 := hw.no f2
  by_cases hlt : i < qaq L
  ·simp (disch := first | omega | exact ti rfl | (simp only [np, nq]; first | done | omega)) only [go_sem, reduceAdd, reduceMul, reduceSub, reduceLeDiff, reduceEqDiff, reduceShiftRight, reduceAnd, hlt]
   unfold qvo
   have ht2 := ht _ hw2.fm
   obtain ⟨b, o, e1, e2, _, e3, e4⟩ := ht2.at' x hx
   have r0 : qap (H2.get b) o = .val (.str ts[x].sp.n ts[x].sp.a) := e4 0 (by rw [qh7]; omega)
   have r1 : qap (H2.get b) (o + 1) = .val (.str ts[x].rl.n ts[x].rl.a) := e4 1 (by rw [qh7]; omega)
   have hsucc := zet n neg kk ts[x] i
   have hlen := qyy n neg kk ts[x] i
   by_cases h1 : ts[x].rl.n = 0 ∧ ts[x].rl.a = 0
   ·have h1' : ts[x].rl = sE := (qde _ _).2 h1
    have h1t := eq_true h1
    simp (disch := first | omega | exact ti rfl | (simp only [np, nq]; first | done | omega)) only [go_sem, reduceAdd, reduceMul, reduceSub, reduceLeDiff, reduceEqDiff, reduceShiftRight, reduceAnd, e1, r0, r1, h1t]
    refine Ok.deO (qki hC (k := j) (by omega) (i / 4) (by omega) H2) ?_
    rintro _ H3 ⟨rfl, f3⟩
    have r0' : qap (H3.get b) o = .val (.str ts[x].sp.n ts[x].sp.a) := by rw [f3.keep e2]; exact r0
    have r1' : qap (H3.get b) (o + 1) = .val (.str ts[x].rl.n ts[x].rl.a) := by rw [f3.keep e2]; exact r1
    have hw3 := hw2.no f3
    unfold SS.v
    by_cases h2 : ts[x].sp.n = (spOf (i / 4)).n ∧ ts[x].sp.a = (spOf (i / 4)).a
    ·have h2' : ts[x].sp = spOf (i / 4) := (qde _ _).2 h2
     have h2t := eq_true h2
     simp (disch := first | omega | exact ti rfl | (simp only [np, nq]; first | done | omega)) only [go_sem, reduceAdd, reduceMul, reduceSub, reduceLeDiff, reduceEqDiff, reduceShiftRight, reduceAnd, r0', r1', h2t]
     refine Ok.deO (q80 hC (k := j) (by omega) n i (by omega) (by omega) neg H3) ?_
     rintro _ H4 ⟨rfl, f4⟩
     have r0'' : qap (H4.get b) o = .val (.str ts[x].sp.n ts[x].sp.a) := by rw [f4.keep (Nat.lt_of_lt_of_le e2 f3.nx)]; exact r0'
     have r1'' : qap (H4.get b) (o + 1) = .val (.str ts[x].rl.n ts[x].rl.a) := by rw [f4.keep (Nat.lt_of_lt_of_le e2 f3.nx)]; exact r1'
     have hw4 := hw3.no f4
     have hap : arP n neg ts[x] i = qnj n i neg := by unfold arP; rw [decide_eq_true h1', decide_eq_true h2']; simp
     rw [hap] at hsucc
     cases hf : qnj n i neg
     ·rw [hf] at hsucc
      simp (disch := first | omega | exact ti rfl | (simp only [np, nq]; first | done | omega)) only [go_sem, reduceAdd, reduceMul, reduceSub, reduceLeDiff, reduceEqDiff, reduceShiftRight, reduceAnd, r0'', r1'']
      unfold qhk
      simp (disch := first | omega | exact ti rfl | (simp only [np, nq]; first | done | omega)) only [go_sem, reduceAdd, reduceMul, reduceSub, reduceLeDiff, reduceEqDiff, reduceShiftRight, reduceAnd]
      refine qdv hC hj hn hkk hv hb ht hx hA hq k (i + 1) w H4 (by omega) (by omega) ?_
      rw [hsucc]
      simpa using hw4
     ·rw [hf] at hsucc
      simp (disch := first | omega | exact ti rfl | (simp only [np, nq]; first | done | omega)) only [go_sem, reduceAdd, reduceMul, reduceSub, reduceLeDiff, reduceEqDiff, reduceShiftRight, reduceAnd, r0'', r1'']
      refine Ok.ve (qsq hC (k := j) (by omega) kk (by omega) H4) ?_
      rintro _ H5 ⟨rfl, f5⟩
      refine Ok.ve (qsq hC (k := j) (by omega) i (by omega) H5) ?_
      rintro _ H6 ⟨rfl, f6⟩
      have hw6 := (hw4.no f5).no f6
      unfold SS.v
      simp (disch := first | omega | exact ti rfl | (simp only [np, nq]; first | done | omega)) only [go_sem, reduceAdd, reduceMul, reduceSub, reduceLeDiff, reduceEqDiff, reduceShiftRight, reduceAnd]
      have hll : (A ++ arJ n neg kk ts[x] i).length ≤ 1000000 + i := by rw [List.length_append]; omega
      refine Ok.ve ((hw6.no ((Fm.refl No H6).push (qaa 0 (arC ⟨qa8 kk, qa8 i⟩)))).add ⟨qa8 kk, qa8 i⟩ 64 rfl (by omega) (by omega)) ?_
      intro w7 H7 hw7
      unfold qhk
      simp (disch := first | omega | exact ti rfl | (simp only [np, nq]; first | done | omega)) only [go_sem, reduceAdd, reduceMul, reduceSub, reduceLeDiff, reduceEqDiff, reduceShiftRight, reduceAnd]
      refine qdv hC hj hn hkk hv hb ht hx hA hq k (i + 1) w7 H7 (by omega) (by omega) ?_
      rw [hsucc, ← List.append_assoc]
      exact hw7
    ·have h2' : ¬ ts[x].sp = spOf (i / 4) := fun h => h2 ((qde _ _).1 h)
     have hap : arP n neg ts[x] i = false := by unfold arP; rw [decide_eq_false h2']; simp
     rw [hap] at hsucc
     simp (disch := first | omega | exact ti rfl | (simp only [np, nq]; first | done | omega)) only [go_sem, reduceAdd, reduceMul, reduceSub, reduceLeDiff, reduceEqDiff, reduceShiftRight, reduceAnd, r0', r1', h2]
     unfold qhk
     simp (disch := first | omega | exact ti rfl | (simp only [np, nq]; first | done | omega)) only [go_sem, reduceAdd, reduceMul, reduceSub, reduceLeDiff, reduceEqDiff, reduceShiftRight, reduceAnd]
     refine qdv hC hj hn hkk hv hb ht hx hA hq k (i + 1) w H3 (by omega) (by omega) ?_
     rw [hsucc]
     simpa using hw3
   ·have h1' : ¬ ts[x].rl = sE := fun h => h1 ((qde _ _).1 h)
    have hap : arP n neg ts[x] i = false := by unfold arP; rw [decide_eq_false h1']; simp
    rw [hap] at hsucc
    simp (disch := first | omega | exact ti rfl | (simp only [np, nq]; first | done | omega)) only [go_sem, reduceAdd, reduceMul, reduceSub, reduceLeDiff, reduceEqDiff, reduceShiftRight, reduceAnd, e1, r0, r1, h1]
    unfold qhk
    simp (disch := first | omega | exact ti rfl | (simp only [np, nq]; first | done | omega)) only [go_sem, reduceAdd, reduceMul, reduceSub, reduceLeDiff, reduceEqDiff, reduceShiftRight, reduceAnd]
    refine qdv hC hj hn hkk hv hb ht hx hA hq k (i + 1) w H2 (by omega) (by omega) ?_
    rw [hsucc]
    simpa using hw2
  ·have he : i = qaq L := by omega
   simp (disch := first | omega | exact ti rfl | (simp only [np, nq]; first | done | omega)) only [go_sem, reduceAdd, reduceMul, reduceSub, reduceLeDiff, reduceEqDiff, reduceShiftRight, reduceAnd, hlt]
   exact hq w H2 (he ▸ hw2)
end Go.Di
end
noncomputable section
namespace Go.Di
open Go.Ev
variable {C : Nat → Ev.Call}
theorem qgr (L : List (List Nat)) (n : Nat) : (qbh L n).length ≤ 5 := by
 unfold qbh
 rw [List.length_append]
 have := qxz (qa4 L n 0) (nS (qaq L))
 have h3 : nS (qaq L) ≤ 3 := Nat.min_le_left _ _
 split <;> simp <;> omega
theorem qna (hC : qav C) {j : Nat} (hj : 3 ≤ j) {v : AV} {L : List (List Nat)} {n cb kk : Nat} {neg : Bool} (hn : n < 100000) (hkk : kk < 100000) {S : Nat → Prop} {H0 : Hp} {Q : AV → Hp → Prop} {q : AV → Hp → R1} (hv : ∀ H', Fm S H0 H' → ArgC H' v L) (hb : ∀ H', Fm S H0 H' → qg4 H' cb v)
  {ts : List TyS} {tv : AV} (ht : ∀ H', Fm S H0 H' → Rs 2 tC H' tv ts) (hts : ts.length ≤ 5) {A : List ArS} (hA : A.length ≤ 900000)
  (hq : ∀ w H, AcS 4 arC S H0 H w (A ++ ts.flatMap fun t => arJ n neg kk t (qaq L)) → Ok (q w H) Q) :
  ∀ (k i : Nat) (w : AV) (H : Hp), i ≤ ts.length → ts.length - i < k → AcS 4 arC S H0 H w (A ++ (ts.take i).flatMap fun t => arJ n neg kk t (qaq L)) →
   Ok (qd9 (C j) q (.int .i64 (.ofNat n)) (.bool neg) (.ptr cb 0) (.int .i64 (.ofNat kk)) tv k w (.int .i64 (.ofNat i)) H) Q
 | 0, i, _, _, _, h, _ => by omega
 | k + 1, i, w, H, hi, hk, hw => by
  show Ok (qvq (C j) _ _ _ _ _ _ (qd9 (C j) _ _ _ _ _ _ k) _ _ H) Q
  unfold qvq
  have hm : qaq L ≤ 12 := Nat.min_le_right _ _
  have hl := (ht _ hw.fm).len
  by_cases hlt : i < ts.length
  ·simp (disch := first | omega | exact ti rfl | (simp only [np, nq]; first | done | omega)) only [go_sem, reduceAdd, reduceMul, reduceSub, reduceLeDiff, reduceEqDiff, reduceShiftRight, reduceAnd, hl, hlt]
   unfold qvn qvs
   rw [qan]
   have f := hw.fm
   have hlen : (A ++ (ts.take i).flatMap fun t => arJ n neg kk t (qaq L)).length ≤ 1000000 := by
    rw [List.length_append]
    have h1 := qc0 (fun t => arJ n neg kk t (qaq L)) 12 (fun t => Nat.le_trans (qyy n neg kk t _) hm) (ts.take i)
    have h2 : (ts.take i).length ≤ 5 := by rw [List.length_take]; omega
    omega
   refine qdv hC hj hn hkk hv hb ht hlt hlen (fun w2 H2 hw2 => ?_) qak 0 w H (Nat.zero_le _) (by rw [qaf]; omega) ?_
   ·unfold qhl
    simp (disch := first | omega | exact ti rfl | (simp only [np, nq]; first | done | omega)) only [go_sem, reduceAdd, reduceMul, reduceSub, reduceLeDiff, reduceEqDiff, reduceShiftRight, reduceAnd]
    refine qna hC hj hn hkk hv hb ht hts hA hq k (i + 1) w2 H2 (by omega) (by omega) ?_
    rw [List.take_succ_eq_append_getElem hlt, List.flatMap_append, List.flatMap_singleton, ← List.append_assoc]
    exact hw2
   ·have : arJ n neg kk ts[i] 0 = [] := by unfold arJ; rw [qq3]; rfl
    rw [this, List.append_nil]
    exact hw
  ·have he : i = ts.length := by omega
   simp (disch := first | omega | exact ti rfl | (simp only [np, nq]; first | done | omega)) only [go_sem, reduceAdd, reduceMul, reduceSub, reduceLeDiff, reduceEqDiff, reduceShiftRight, reduceAnd, hl, hlt]
   rw [he, List.take_length] at hw
   exact hq w H hw
theorem zer (L : List (List Nat)) (n : Nat) (neg : Bool) (i : Nat) (h : i ≤ 12) : (arrL L n neg i).length ≤ 60 * 12 := by
 unfold arrL
 have hm : qaq L ≤ 12 := Nat.min_le_right _ _
 have h1 := qc0 (arK L n neg) 60 (fun k => by
  unfold arK
  have h1 := qc0 (fun t => arJ n neg k t (qaq L)) 12 (fun t => Nat.le_trans (qyy n neg k t _) hm) (qbh L k)
  have h2 := qgr L k
  omega) (rg (n / 4 * 4) i)
 have h2 := qj7 (n / 4 * 4) i
 omega
theorem qpt (hC : qav C) {j : Nat} (hj : 4 ≤ j) {v : AV} {L : List (List Nat)} {n cb : Nat} {neg : Bool} (hn : n < 100000) {H1 : Hp} {Q : AV → Hp → Prop} {q : AV → Hp → R1} (hv : ArgC H1 v L) (hb : qg4 H1 cb v)
  (hq : ∀ w H, Ac 4 arC H1 H w (arrL L n neg (min (qaq L) (n / 4 * 4 + 4))) → Ok (q w H) Q) :
  ∀ (k i : Nat) (w : AV) (H : Hp), n / 4 * 4 ≤ i → i ≤ max (min (qaq L) (n / 4 * 4 + 4)) (n / 4 * 4) → n / 4 * 4 + 4 - i < k → Ac 4 arC H1 H w (arrL L n neg i) →
   Ok (qcq (C j) q (.int .i64 (.ofNat n)) (.bool neg) (.ptr cb 0) k w (.int .i64 (.ofNat i)) H) Q
 | 0, i, _, _, _, _, h, _ => by omega
 | k + 1, i, w, H, hi, hi2, hk, hw => by
  show Ok (qvr (C j) _ _ _ _ (qcq (C j) _ _ _ _ k) _ _ H) Q
  unfold qvr
  have hm : qaq L ≤ 12 := Nat.min_le_right _ _
  have e0 := (hb.fm hw.fm).is
  simp (disch := first | omega | exact ti rfl | (simp only [np, nq]; first | done | omega)) only [go_sem, reduceAdd, reduceMul, reduceSub, reduceLeDiff, reduceEqDiff, reduceShiftRight, reduceAnd, e0]
  refine Ok.ve (qjl hC (k := j) (by omega) (hv.fm hw.fm)) ?_
  rintro _ H2 ⟨rfl, f2⟩
  have hw2 := hw.no f2
  by_cases hlt : i < qaq L ∧ i < n / 4 * 4 + 4
  ·obtain ⟨h1, h2⟩ := hlt
   simp (disch := first | omega | exact ti rfl | (simp only [np, nq]; first | done | omega)) only [go_sem, reduceAdd, reduceMul, reduceSub, reduceLeDiff, reduceEqDiff, reduceShiftRight, reduceAnd, h1, h2]
   unfold qvm
   have e2 := (hb.fm hw2.fm).is
   simp (disch := first | omega | exact ti rfl | (simp only [np, nq]; first | done | omega)) only [go_sem, reduceAdd, reduceMul, reduceSub, reduceLeDiff, reduceEqDiff, reduceShiftRight, reduceAnd, e2]
   refine Ok.ve (qzh hC (k := j) (by omega) (hv.fm hw2.fm) h1) ?_
   intro tv H3 ht
   have hw3 := hw2.no ht.fm
   unfold qvt
   rw [qan]
   have hAl := zer L n neg i (by omega)
   have dj : ∀ b, In tv b → ¬ In w b := fun b h1 h2 => by
    have := ht.nw b h1
    have := hw2.gl.lt h2
    omega
   refine qna (A := arrL L n neg i) (S := In w) hC (by omega) hn (by omega) (fun H' f => hv.fm (hw3.old f)) (fun H' f => hb.fm (hw3.old f)) (fun H' f => (ht.rs qh7).fmS f dj) (qgr L i) (by omega) (fun w4 H4 hw4 => ?_) qak 0 w H3 (Nat.zero_le _) (by have := qgr L i; rw [qaf]; omega) ?_
   ·unfold qdo
    simp (disch := first | omega | exact ti rfl | (simp only [np, nq]; first | done | omega)) only [go_sem, reduceAdd, reduceMul, reduceSub, reduceLeDiff, reduceEqDiff, reduceShiftRight, reduceAnd]
    refine qpt hC hj hn hv hb hq k (i + 1) w4 H4 (by omega) (by omega) (by omega) ?_
    have : arrL L n neg (i + 1) = arrL L n neg i ++ arK L n neg i := by
     unfold arrL
     rw [qjf hi, List.flatMap_append, List.flatMap_singleton]
    rw [this]
    exact hw3.fin hw4
   ·rw [List.take_zero, List.flatMap_nil, List.append_nil]
    exact hw3.start
  ·have he : rg (n / 4 * 4) i = rg (n / 4 * 4) (min (qaq L) (n / 4 * 4 + 4)) := by
    by_cases h : n / 4 * 4 ≤ min (qaq L) (n / 4 * 4 + 4)
    ·congr 1; omega
    ·unfold rg
     rw [List.drop_eq_nil_of_le (by simp; omega), List.drop_eq_nil_of_le (by simp; omega)]
   unfold arrL at hw2
   rw [he] at hw2
   by_cases h1 : i < qaq L
   ·have h2 : ¬ i < n / 4 * 4 + 4 := fun h => hlt ⟨h1, h⟩
    simp (disch := first | omega | exact ti rfl | (simp only [np, nq]; first | done | omega)) only [go_sem, reduceAdd, reduceMul, reduceSub, reduceLeDiff, reduceEqDiff, reduceShiftRight, reduceAnd, h1, h2]
    exact hq w H2 hw2
   ·simp (disch := first | omega | exact ti rfl | (simp only [np, nq]; first | done | omega)) only [go_sem, reduceAdd, reduceMul, reduceSub, reduceLeDiff, reduceEqDiff, reduceShiftRight, reduceAnd, h1]
    exact hq w H2 hw2
def arrA (L : List (List Nat)) (n : Nat) (neg : Bool) : List ArS := arrL L n neg (min (qaq L) (n / 4 * 4 + 4))
def zlo (neg : Bool) : AV := if neg then ruV 2 (qa8 0) sE .nilsl else ruV 1 sE sE .nilsl
def arrV (L : List (List Nat)) (n c : Nat) (neg : Bool) : AV :=
 if (arrA L n neg).length = 0 then zlo neg else ruV 3 ((arrA L n neg).getD (c % (arrA L n neg).length) ⟨sE, sE⟩).rl ((arrA L n neg).getD (c % (arrA L n neg).length) ⟨sE, sE⟩).to .nilsl
theorem zeq (hC : qav C) {k : Nat} (hk : 6 ≤ k) {v : AV} {L : List (List Nat)} {n c : Nat} {neg : Bool} {H : Hp} (hv : ArgC H v L) (hn : n < 100000) (hc : c < 256) :
  Ok (C k (.f q05) [.agg [v], .int .i64 (.ofNat n), .int .u8 (.ofNat c), .bool neg] H) fun r H' => r = arrV L n c neg ∧ Fm No H H' := by
 obtain ⟨j, rfl⟩ : ∃ j, k = j + 1 := ⟨k - 1, by omega⟩
 rw [(hC j).zBd]
 unfold zBd zgo
 simp (disch := first | omega | exact ti rfl | (simp only [np, nq]; first | done | omega)) only [go_sem, reduceAdd, reduceMul, reduceSub, reduceLeDiff, reduceEqDiff, reduceShiftRight, reduceAnd]
 unfold qvu
 rw [qan]
 have f1 : Fm No H (qal (qal H (qaa 0 [v])) (qaa 0 [.int .u8 (.ofNat 0), .str 0 0, .str 0 0, .nilsl])) := by (repeat (first | exact Fm.refl _ _ | assumption | refine Fm.push ?_ _ | refine Fm.up2 ?_ (by (first | omega | (simp only [np, nq]; omega))) | refine Fm.put_new ?_ _ _ (by (first | omega | (simp only [np, nq]; omega)))))
 have f1' : Fm No (qal H (qaa 0 [v])) (qal (qal H (qaa 0 [v])) (qaa 0 [.int .u8 (.ofNat 0), .str 0 0, .str 0 0, .nilsl])) := by (repeat (first | exact Fm.refl _ _ | assumption | refine Fm.push ?_ _ | refine Fm.up2 ?_ (by (first | omega | (simp only [np, nq]; omega))) | refine Fm.put_new ?_ _ _ (by (first | omega | (simp only [np, nq]; omega)))))
 have hcb : qg4 (qal H (qaa 0 [v])) H.nx v := ⟨by (first | omega | (simp only [np, nq]; omega)), by simp (disch := first | omega | exact ti rfl | (simp only [np, nq]; first | done | omega)) only [go_sem, reduceAdd, reduceMul, reduceSub, reduceLeDiff, reduceEqDiff, reduceShiftRight, reduceAnd]⟩
 refine qpt hC (by omega) hn (hv.fm f1) (hcb.fm f1') (fun w H2 hw => ?_) qak (n / 4 * 4) .nilsl _ (Nat.le_refl _) (by omega) (by rw [qaf]; omega) ?_
 ·unfold qcf
  have hl := hw.lenV
  have f2 := hw.fm
  have ex := f2.nx
  simp only [np] at ex
  have k2 : H2.get (H.nx + 1) = qaa 0 [.int .u8 (.ofNat 0), .str 0 0, .str 0 0, .nilsl] := (f2.keep (by (first | omega | (simp only [np, nq]; omega)))).trans (by simp (disch := first | omega | exact ti rfl | (simp only [np, nq]; first | done | omega)) only [go_sem, reduceAdd, reduceMul, reduceSub, reduceLeDiff, reduceEqDiff, reduceShiftRight, reduceAnd])
  unfold arrV arrA
  by_cases h0 : (arrL L n neg (min (qaq L) (n / 4 * 4 + 4))).length = 0
  ·rw [if_pos h0]
   simp (disch := first | omega | exact ti rfl | (simp only [np, nq]; first | done | omega)) only [go_sem, reduceAdd, reduceMul, reduceSub, reduceLeDiff, reduceEqDiff, reduceShiftRight, reduceAnd, hl, h0]
   refine Ok.ve (qgh hC (k := j) (by omega) neg H2) ?_
   rintro _ H3 ⟨rfl, f3⟩
   have k3 : H3.get (H.nx + 1) = qaa 0 [.int .u8 (.ofNat 0), .str 0 0, .str 0 0, .nilsl] := (f3.keep (by omega)).trans k2
   unfold zlo
   cases neg <;> (unfold ruV; simp (disch := first | omega | exact ti rfl | (simp only [np, nq]; first | done | omega)) only [go_sem, reduceAdd, reduceMul, reduceSub, reduceLeDiff, reduceEqDiff, reduceShiftRight, reduceAnd, k3]; exact Ok.ret ⟨rfl, ((f1.trans f2).trans f3).put_new _ _ (by omega)⟩)
  ·rw [if_neg h0]
   simp (disch := first | omega | exact ti rfl | (simp only [np, nq]; first | done | omega)) only [go_sem, reduceAdd, reduceMul, reduceSub, reduceLeDiff, reduceEqDiff, reduceShiftRight, reduceAnd, hl, h0]
   unfold q5l
   have hmod : c % (arrL L n neg (min (qaq L) (n / 4 * 4 + 4))).length < (arrL L n neg (min (qaq L) (n / 4 * 4 + 4))).length := Nat.mod_lt _ (by omega)
   obtain ⟨b, o, e1, e2, e3⟩ := (hw.rs zjy).atN hmod
   unfold arC at e3
   simp (disch := first | omega | exact ti rfl | (simp only [np, nq]; first | done | omega)) only [go_sem, reduceAdd, reduceMul, reduceSub, reduceLeDiff, reduceEqDiff, reduceShiftRight, reduceAnd, hl, e1, e3, k2]
   refine Ok.ret ⟨?_, (f1.trans f2).put_new _ _ (by omega)⟩
   rw [List.getD_eq_getElem?_getD, List.getElem?_eq_getElem hmod]; rfl
 ·unfold arrL
  rw [qq3]
  exact Ac.nil _ _ (Fm.refl _ _)
end Go.Di
end
