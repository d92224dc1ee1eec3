/-
 For countersignlaw18.StrataKnown: memory as lists, and the operations of functions in direct style. No conditions beyond those that each theorem states.
-/
import Derived.Test.YtiickhlaamgljaaGreatEv4
import Derived.Attr
set_option linter.unusedSimpArgs false
set_option linter.unusedVariables false
noncomputable section
/-
 Reasoning on functions in direct style: memory by blocks that are lists, what a call answers, what stays.
-/
namespace Go.Di
open Go.Ev
theorem qgu (a b : Nat) : Nat.blt a b = decide (a < b) := by
 cases h : Nat.blt a b with
 | true => symm; rw [decide_eq_true_iff]; exact Nat.le_of_ble_eq_true h
 | false => symm; rw [decide_eq_false_iff_not]; intro h'; rw [show Nat.blt a b = Nat.ble (a + 1) b from rfl, Nat.ble_eq_true_of_le h'] at h; cases h
theorem ble_eq (a b : Nat) : Nat.ble a b = decide (a ≤ b) := by
 cases h : Nat.ble a b with
 | true => symm; rw [decide_eq_true_iff]; exact Nat.le_of_ble_eq_true h
 | false => symm; rw [decide_eq_false_iff_not]; intro h'; rw [Nat.ble_eq_true_of_le h'] at h; cases h
theorem beq_eq (a b : Nat) : Nat.beq a b = decide (a = b) := by
 cases h : Nat.beq a b with
 | true => simp [Nat.eq_of_beq_eq_true h]
 | false => symm; rw [decide_eq_false_iff_not]; rintro rfl; rw [Nat.beq_refl] at h; cases h
/- trees are equal where all their cells are -/
theorem Q_ext {α : Type} {t u : Q α} (h : ∀ k, k < 8 → qkz k t = qkz k u) : t = u := by
 cases t; cases u
 have h0 := h 0 (by decide); have h1 := h 1 (by decide); have h2 := h 2 (by decide); have h3 := h 3 (by decide)
 have h4 := h 4 (by decide); have h5 := h 5 (by decide); have h6 := h 6 (by decide); have h7 := h 7 (by decide)
 simp only [qkz] at h0 h1 h2 h3 h4 h5 h6 h7
 subst h0; subst h1; subst h2; subst h3; subst h4; subst h5; subst h6; subst h7
 rfl
theorem q7b {α : Type} : ∀ (d : Nat) {t u : TT α d}, (∀ i, i < 8 ^ d → (qah d i).f t = (qah d i).f u) → t = u
 | 0, t, u, h => h 0 (by decide)
 | d + 1, t, u, h => by
  refine Q_ext fun k hk => q7b d fun i hi => ?_
  have := h (i * 8 + k) (by rw [Nat.pow_succ]; omega)
  rw [qdi, qdi] at this
  rwa [show (i * 8 + k) / 8 = i by omega, show (i * 8 + k) % 8 = k by omega] at this
/- blocks as lists -/
def cellsOf (l : List AV) : TT AV (qaq l.length) := wrL l 0 (same .undef _)
theorem qcl (l : List AV) (i : Nat) (hi : i < 8 ^ qaq l.length) : (qah _ i).f (cellsOf l) = l.getD i .undef := by
 unfold cellsOf
 rw [qgw _ _ _ _ (by simpa using qbo l.length) hi]
 by_cases h : i < l.length
 ·rw [if_pos (by omega)]; rfl
 ·rw [if_neg (by omega), qhw]
  simp [List.getD_eq_getElem?_getD, List.getElem?_eq_none (Nat.le_of_not_lt h)]
theorem qhq (z : Nat) (l : List AV) : qaa z l = .cells (qaq l.length) l.length (cellsOf l) false z := id rfl
def setL (l : List AV) (o : Nat) (v : List AV) : List AV := l.take o ++ v ++ l.drop (o + v.length)
theorem qsr (l : List AV) (o : Nat) (v : List AV) (h : o + v.length ≤ l.length) : (setL l o v).length = l.length := by
 simp [setL]; omega
theorem q4a (l : List AV) (o : Nat) (v : List AV) (h : o + v.length ≤ l.length) (i : Nat) :
  (setL l o v).getD i .undef = if o ≤ i ∧ i < o + v.length then v.getD (i - o) .undef else l.getD i .undef := by
 unfold setL
 simp only [List.getD_eq_getElem?_getD]
 by_cases h1 : i < o
 ·rw [if_neg (by omega), List.append_assoc, List.getElem?_append_left (by simp; omega), List.getElem?_take_of_lt h1]
 ·by_cases h2 : i < o + v.length
  ·rw [if_pos (by omega), List.append_assoc, List.getElem?_append_right (by simp; omega), List.getElem?_append_left (by simp; omega)]
   simp [Nat.min_eq_left (show o ≤ l.length by omega)]
  ·rw [if_neg (by omega), List.getElem?_append_right (by simp; omega), List.getElem?_drop]
   simp only [List.length_append, List.length_take, Nat.min_eq_left (show o ≤ l.length by omega)]
   congr 2; omega
theorem qhc (z : Nat) (l v : List AV) (o : Nat) : qgk (qaa z l) o v = if o + v.length ≤ l.length then some (qaa z (setL l o v)) else none := by
 rw [qhq]
 show (bif Nat.ble (o + v.length) l.length then some (Blk.cells _ _ (wrL v o (cellsOf l)) false z) else none) = _
 by_cases h : o + v.length ≤ l.length
 ·rw [if_pos h, Nat.ble_eq_true_of_le h]
  have hl := qsr l o v h
  rw [qhq]
  have key : ∀ (n : Nat) (e : n = l.length) (c : TT AV (qaq n)), (∀ i, i < 8 ^ qaq n → (qah _ i).f c = (setL l o v).getD i .undef) → Blk.cells (qaq l.length) l.length (wrL v o (cellsOf l)) false z = Blk.cells (qaq n) n c false z := by
   intro n e c hc
   subst e
   congr 1
   refine q7b _ fun i hi => ?_
   have := qbo l.length
   rw [hc i hi, q4a _ _ _ h, qgw _ _ _ _ (by omega) hi, qcl _ _ hi]
  exact congrArg some (key _ hl _ fun i hi => qcl _ _ hi)
 ·rw [if_neg h]
  have : Nat.ble (o + v.length) l.length = false := by
   cases hb : Nat.ble (o + v.length) l.length with
   | false => rfl
   | true => exact absurd (Nat.le_of_ble_eq_true hb) h
  rw [this]; rfl
theorem qb7 (z : Nat) (l : List AV) (o : Nat) : qa9 (qaa z l) o = match l[o]? with | some v => .val v | none => .bad := by
 rw [qhq]
 show (bif Nat.blt o l.length then R0.val ((qah _ o).f (cellsOf l)) else .bad) = _
 by_cases h : o < l.length
 ·have hb : Nat.blt o l.length = true := by rw [qgu]; simpa using h
  rw [hb, qcl _ _ (Nat.lt_of_lt_of_le h (qbo _))]
  simp [h]
 ·have hb : Nat.blt o l.length = false := by rw [qgu]; simpa using h
  rw [hb]
  simp [Nat.le_of_not_lt h]
theorem qvh {d : Nat} (c : TT AV d) (l : List AV) (hc : ∀ i, i < 8 ^ d → (qah d i).f c = l.getD i .undef) : ∀ (k o : Nat), o + k ≤ l.length → l.length ≤ 8 ^ d → rdN c k o = (l.drop o).take k
 | 0, o, _, _ => by simp [q4f]
 | k + 1, o, h, h2 => by
  rw [qoi, hc _ (by omega), qvh c l hc k (o + 1) (by omega) h2]
  rw [List.drop_eq_getElem_cons (show o < l.length by omega), List.take_succ_cons]
  simp [show o < l.length by omega]
theorem qcv (z : Nat) (l : List AV) (o k : Nat) : qbf (qaa z l) o k = if o + k ≤ l.length then some ((l.drop o).take k) else none := by
 rw [qhq]
 show (bif Nat.ble (o + k) l.length then some (rdN (cellsOf l) k o) else none) = _
 by_cases h : o + k ≤ l.length
 ·rw [if_pos h, Nat.ble_eq_true_of_le h, qvh _ l (fun i hi => qcl l i hi) k o h (qbo _)]; rfl
 ·rw [if_neg h]
  have : Nat.ble (o + k) l.length = false := by
   cases hb : Nat.ble (o + k) l.length with
   | false => rfl
   | true => exact absurd (Nat.le_of_ble_eq_true hb) h
  rw [this]; rfl
theorem q18 (z z' : Nat) (l : List AV) (e : Nat) : qgs (qaa z l) e z' = (decide (l.length = e) && decide (z = z')) := by
 rw [qhq]
 show (Nat.beq l.length e && Nat.beq z z') = _
 have hb : ∀ a b, Nat.beq a b = decide (a = b) := fun a b => by
  cases h : Nat.beq a b with
  | true => simp [Nat.eq_of_beq_eq_true h]
  | false => symm; rw [decide_eq_false_iff_not]; rintro rfl; rw [Nat.beq_refl] at h; cases h
 rw [hb, hb]
/- memory -/
theorem get_put (H : Hp) (b c : Nat) (k : Blk) : (H.put b k).get c = if c = b then k else H.get c := Mem.get_put H.t b c k
theorem qac (H : Hp) (b : Nat) (k : Blk) : (H.put b k).get b = k := by rw [get_put, if_pos rfl]
theorem qai (H : Hp) (b c : Nat) (k : Blk) (h : c ≠ b) : (H.put b k).get c = H.get c := by rw [get_put, if_neg h]
theorem nq (H : Hp) (b : Nat) (k : Blk) : (H.put b k).nx = H.nx := id rfl
theorem qj0 (H : Hp) (c : Nat) (k : Blk) : (qan H k).get c = if c = H.nx then k else H.get c := Mem.get_put H.t H.nx c k
theorem qak (H : Hp) (k : Blk) : (qan H k).get H.nx = k := by rw [qj0, if_pos rfl]
theorem qtj (H : Hp) (c : Nat) (k : Blk) (h : H.nx ≤ c ∧ c ≤ H.nx) : (qan H k).get c = k := by rw [qj0, if_pos (by omega)]
theorem qbd (H : Hp) (c : Nat) (k : Blk) (h : c < H.nx) : (qan H k).get c = H.get c := by rw [qj0, if_neg (by omega)]
theorem np (H : Hp) (k : Blk) : (qan H k).nx = H.nx + 1 := id rfl
structure Fm (S : Nat → Prop) (H H' : Hp) : Prop where
 nx : H.nx ≤ H'.nx
 get : ∀ b, b < H.nx → ¬ S b → H'.get b = H.get b
def No : Nat → Prop := fun _ => False
theorem Fm.refl (S : Nat → Prop) (H : Hp) : Fm S H H := ⟨Nat.le_refl _, fun _ _ _ => rfl⟩
theorem Fm.trans {S : Nat → Prop} {H H1 H2 : Hp} (a : Fm S H H1) (b : Fm S H1 H2) : Fm S H H2 := ⟨Nat.le_trans a.nx b.nx, fun c hc hs => (b.get c (Nat.lt_of_lt_of_le hc a.nx) hs).trans (a.get c hc hs)⟩
theorem Fm.mono {S T : Nat → Prop} {H H' : Hp} (a : Fm S H H') (h : ∀ b, b < H.nx → S b → T b) : Fm T H H' := ⟨a.nx, fun b hb ht => a.get b hb fun hs => ht (h b hb hs)⟩
theorem Fm.push {S : Nat → Prop} {H H' : Hp} (a : Fm S H H') (k : Blk) : Fm S H (qan H' k) := ⟨Nat.le_succ_of_le a.nx, fun b hb hs => by rw [qbd _ _ _ (Nat.lt_of_lt_of_le hb a.nx)]; exact a.get b hb hs⟩
theorem Fm.put {S : Nat → Prop} {H H' : Hp} (a : Fm S H H') (b : Nat) (k : Blk) (h : b < H.nx → S b) : Fm S H (H'.put b k) := ⟨a.nx, fun c hc hs => by
 rw [qai _ _ _ _ (fun e => hs (by subst e; exact h hc))]; exact a.get c hc hs⟩
theorem Fm.put_new {S : Nat → Prop} {H H' : Hp} (a : Fm S H H') (b : Nat) (k : Blk) (h : H.nx ≤ b) : Fm S H (H'.put b k) := a.put b k fun hb => by omega
theorem Fm.keep {H H' : Hp} (a : Fm No H H') {b : Nat} (hb : b < H.nx) : H'.get b = H.get b := a.get b hb id
theorem Fm.then {S T : Nat → Prop} {H H1 H2 : Hp} (a : Fm S H H1) (b : Fm T H1 H2) (h : ∀ c, c < H.nx → T c → S c) : Fm S H H2 :=
 ⟨Nat.le_trans a.nx b.nx, fun c hc hs => (b.get c (Nat.lt_of_lt_of_le hc a.nx) fun ht => hs (h c hc ht)).trans (a.get c hc hs)⟩
def Ok (r : R1) (Q : AV → Hp → Prop) : Prop := ∃ v H', r = .ok v H' ∧ Q v H'
theorem Ok.ret {v : AV} {H : Hp} {Q : AV → Hp → Prop} (h : Q v H) : Ok (.ok v H) Q := ⟨v, H, rfl, h⟩
theorem Ok.mono {r : R1} {Q R : AV → Hp → Prop} (h : Ok r Q) (hm : ∀ v H, Q v H → R v H) : Ok r R := by
 obtain ⟨v, H, e, q⟩ := h; exact ⟨v, H, e, hm _ _ q⟩
theorem Ok.ve {r : R1} {k : AV → Hp → R1} {Q R : AV → Hp → Prop} (h : Ok r R) (hk : ∀ v H, R v H → Ok (k v H) Q) : Ok (ve r k) Q := by
 obtain ⟨v, H, e, q⟩ := h; subst e; exact hk v H q
theorem Ok.de {A : Nat} {H : Hp} {p : List Pd} {w : List Wt} {r : R1} {k : AV → Hp → List Pd → List Wt → R1} {Q R : AV → Hp → Prop} (h : Ok r R)
  (hk : ∀ v H', R v H' → qhb (qc9 A p) H' (qc8 A w) = true ∧ Ok (k v H' (qc9 A p) (qc8 A w)) Q) : Ok (de A H p w r (some true) k) Q := by
 obtain ⟨v, H', e, q⟩ := h
 subst e
 obtain ⟨h1, h2⟩ := hk v H' q
 rw [q5v]
 unfold de0
 simp only [h1, cond_true]
 exact h2
/- steps -/
theorem q9q (v : AV) (H : Hp) (k : AV → Hp → R1) : vq (.val v) H k = k v H := id rfl
theorem q9r (v : AV) (b : Blk) (H : Hp) (k : AV → Hp → R1) : vq (.new v b) H k = k v (qan H b) := id rfl
theorem ve_ok (v : AV) (H : Hp) (k : AV → Hp → R1) : ve (.ok v H) k = k v H := id rfl
theorem vg_t (r : R0) (H : Hp) (k : AV → Hp → R1) : vg (some true) r H k = vq r H k := by rw [q7l]; rfl
theorem vg_f (r : R0) (H : Hp) (k : AV → Hp → R1) : vg (some false) r H k = k .undef H := by rw [q7l]; rfl
theorem veg_t (r : R1) (H : Hp) (k : AV → Hp → R1) : veg (some true) r H k = ve r k := by rw [qys]; rfl
theorem veg_f (r : R1) (H : Hp) (k : AV → Hp → R1) : veg (some false) r H k = k .undef H := by rw [qys]; rfl
theorem q9t (v : AV) (k : AV → R1) : vl (.val v) k = k v := id rfl
theorem vlg_t (r : R0) (k : AV → R1) : vlg (some true) r k = vl r k := by rw [quy]; rfl
theorem vlg_f (r : R0) (k : AV → R1) : vlg (some false) r k = k .undef := by rw [quy]; rfl
theorem q7i (a b : Bool) : qau a (.bool b) = some (b == a) := id rfl
theorem q7h (a : Bool) : qau a .undef = some false := id rfl
theorem cd_t (x y : R1) : cd (.bool true) x y = x := id rfl
theorem cd_f (x y : R1) : cd (.bool false) x y = y := id rfl
theorem dz_eq (up : Nat) (H : Hp) (k : Nat → Hp → R1) : dz up H k = k H.nx ⟨H.t, H.nx + up⟩ := id rfl
theorem q78 (c : Bool) (a b : AV) : qg1 (.bool c) a b = .val (if c = true then a else b) := by cases c <;> rfl
@[congr] theorem vq_congr {r r' : R0} {H : Hp} {k : AV → Hp → R1} (h : r = r') : vq r H k = vq r' H k := by rw [h]
@[congr] theorem ve_congr {r r' : R1} {k : AV → Hp → R1} (h : r = r') : ve r k = ve r' k := by rw [h]
@[congr] theorem vg_congr {w w' : Option Bool} {r : R0} {H : Hp} {k : AV → Hp → R1} (h : w = w') : vg w r H k = vg w' r H k := by rw [h]
@[congr] theorem q9u {w w' : Option Bool} {r : R1} {H : Hp} {k : AV → Hp → R1} (h : w = w') : veg w r H k = veg w' r H k := by rw [h]
@[congr] theorem vl_congr {r r' : R0} {k : AV → R1} (h : r = r') : vl r k = vl r' k := by rw [h]
@[congr] theorem q9s {w w' : Option Bool} {r : R0} {k : AV → R1} (h : w = w') : vlg w r k = vlg w' r k := by rw [h]
@[congr] theorem cd_congr {x x' : AV} {a b : R1} (h : x = x') : cd x a b = cd x' a b := by rw [h]
@[congr] theorem dz_congr {u : Nat} {H : Hp} {k : Nat → Hp → R1} : dz u H k = dz u H k := rfl
end Go.Di
end
noncomputable section
/-
 The operations of functions in direct style at values that are known.
-/
namespace Go.Di
open Go.Ev
theorem qge (k : IntKind) : eqK k k = true := by cases k <;> rfl
theorem qfq (a b : Int) : ltI a b = decide (a < b) := by
 cases a <;> cases b <;> simp only [ltI, qgu] <;> rename_i m n <;> apply Bool.eq_iff_iff.2 <;> simp only [decide_eq_true_eq, Int.ofNat_eq_natCast, Int.negSucc_eq] <;> first | omega | (simp; omega)
theorem qfw (a b : Int) : eqI a b = decide (a = b) := by
 cases a <;> cases b <;> simp only [eqI, beq_eq] <;> rename_i m n <;> apply Bool.eq_iff_iff.2 <;> simp only [decide_eq_true_eq, Int.ofNat_eq_natCast, Int.negSucc_eq] <;> first | omega | (simp; omega)
theorem qh3 (n : Nat) (h : n < 9223372036854775808) : qgn .i64 (.ofNat n) = .ofNat n := by
 show (bif Nat.blt n 9223372036854775808 then _ else _) = _
 rw [qgu, decide_eq_true h]; rfl
theorem zcg (a b : Int) : intV (qae .add).f (.int .i64 a) (.int .i64 b) = .val (.int .i64 (qgn .i64 (a + b))) := id rfl
theorem q9y (a b : Int) : intV (qae .sub).f (.int .i64 a) (.int .i64 b) = .val (.int .i64 (qgn .i64 (a - b))) := id rfl
theorem zat (a b : Int) : intV (qae .mul).f (.int .i64 a) (.int .i64 b) = .val (.int .i64 (qgn .i64 (a * b))) := id rfl
theorem zcf (a b : Nat) (h : a + b < 9223372036854775808) : intV (qae .add).f (.int .i64 (.ofNat a)) (.int .i64 (.ofNat b)) = .val (.int .i64 (.ofNat (a + b))) := by
 rw [zcg]; exact congrArg (fun x => R0.val (.int .i64 x)) (qh3 (a + b) h)
theorem q9x (a b : Nat) (h : b ≤ a) (h2 : a < 9223372036854775808) : intV (qae .sub).f (.int .i64 (.ofNat a)) (.int .i64 (.ofNat b)) = .val (.int .i64 (.ofNat (a - b))) := by
 rw [q9y, show (Int.ofNat a - Int.ofNat b) = Int.ofNat (a - b) by simp only [Int.ofNat_eq_natCast]; omega, qh3 _ (by omega)]
theorem zas (a b : Nat) (h : a * b < 9223372036854775808) : intV (qae .mul).f (.int .i64 (.ofNat a)) (.int .i64 (.ofNat b)) = .val (.int .i64 (.ofNat (a * b))) := by
 rw [zat]; exact congrArg (fun x => R0.val (.int .i64 x)) (qh3 (a * b) h)
theorem zad (a b : Nat) (h : 0 < b) (h2 : a < 9223372036854775808) : intV (qae .quo).f (.int .i64 (.ofNat a)) (.int .i64 (.ofNat b)) = .val (.int .i64 (.ofNat (a / b))) := by
 have hz : eqI (.ofNat b) 0 = false := by rw [qfw]; simp; omega
 show (bif eqI (.ofNat b) 0 then R0.bad else .val (.int .i64 (qgn .i64 ((Int.ofNat a).tdiv (Int.ofNat b))))) = _
 rw [hz]
 exact congrArg (fun x => R0.val (.int .i64 x)) (qh3 (a / b) (Nat.lt_of_le_of_lt (Nat.div_le_self _ _) h2))
theorem q98 (a b : Nat) (h : 0 < b) : intV (qae .rem).f (.int .i64 (.ofNat a)) (.int .i64 (.ofNat b)) = .val (.int .i64 (.ofNat (a % b))) := by
 have hz : eqI (.ofNat b) 0 = false := by rw [qfw]; simp; omega
 show (bif eqI (.ofNat b) 0 then R0.bad else .val (.int .i64 ((Int.ofNat a).tmod (Int.ofNat b)))) = _
 rw [hz]; rfl
theorem q97 (a b : Nat) (h : 0 < b) : intV (qae .rem).f (.int .u8 (.ofNat a)) (.int .u8 (.ofNat b)) = .val (.int .u8 (.ofNat (a % b))) := by
 have hz : eqI (.ofNat b) 0 = false := by rw [qfw]; simp; omega
 show (bif eqI (.ofNat b) 0 then R0.bad else .val (.int .u8 ((Int.ofNat a).tmod (Int.ofNat b)))) = _
 rw [hz]; rfl
theorem zaz (k : IntKind) (a b : Int) : intV (qae .lss).f (.int k a) (.int k b) = .val (.bool (decide (a < b))) := by
 show (bif eqK k k then R0.val (.bool (ltI a b)) else .bad) = _
 rw [qge, qfq]; rfl
theorem za2 (k : IntKind) (a b : Int) : intV (qae .leq).f (.int k a) (.int k b) = .val (.bool (decide (a ≤ b))) := by
 show (bif eqK k k then R0.val (.bool (!ltI b a)) else .bad) = _
 rw [qge, qfq, ← decide_not]; simp only [cond_true]; congr 2; simp only [Int.not_lt]
theorem zbc (k : IntKind) (a b : Int) : intV (qae .gtr).f (.int k a) (.int k b) = .val (.bool (decide (b < a))) := by
 show (bif eqK k k then R0.val (.bool (ltI b a)) else .bad) = _
 rw [qge, qfq]; rfl
theorem zbe (k : IntKind) (a b : Int) : intV (qae .geq).f (.int k a) (.int k b) = .val (.bool (decide (b ≤ a))) := by
 show (bif eqK k k then R0.val (.bool (!ltI a b)) else .bad) = _
 rw [qge, qfq, ← decide_not]; simp only [cond_true]; congr 2; simp only [Int.not_lt]
theorem zbj (k : IntKind) (a b : Int) : intV (qae .eql).f (.int k a) (.int k b) = .val (.bool (decide (a = b))) := by
 show (bif eqK k k then R0.val (.bool (eqI a b)) else .bad) = _
 rw [qge, qfw]; rfl
theorem zar (k : IntKind) (a b : Int) : intV (qae .neq).f (.int k a) (.int k b) = .val (.bool (!decide (a = b))) := by
 show (bif eqK k k then R0.val (.bool (!eqI a b)) else .bad) = _
 rw [qge, qfw]; rfl
theorem not_b (b : Bool) : (unS .not).f (.bool b) = .val (.bool !b) := id rfl
/- numbers -/
theorem q4s (a b : Nat) : (Int.ofNat a < Int.ofNat b) = (a < b) := by simp
theorem q4t (a b : Nat) : (Int.ofNat a ≤ Int.ofNat b) = (a ≤ b) := by simp
theorem q4u (a b : Nat) : (Int.ofNat a = Int.ofNat b) = (a = b) := by simp only [Int.ofNat_eq_natCast, eq_iff_iff]; omega
theorem qxe (a b : Nat) : (Int.negSucc a < Int.ofNat b) = True := by simp only [Int.negSucc_eq, Int.ofNat_eq_natCast, eq_iff_iff, iff_true]; omega
theorem qxh (a b : Nat) : (Int.ofNat a < Int.negSucc b) = False := by simp only [Int.negSucc_eq, Int.ofNat_eq_natCast, eq_iff_iff, iff_false]; omega
theorem qxf (a b : Nat) : (Int.negSucc a ≤ Int.ofNat b) = True := by simp only [Int.negSucc_eq, Int.ofNat_eq_natCast, eq_iff_iff, iff_true]; omega
theorem qxi (a b : Nat) : (Int.ofNat a ≤ Int.negSucc b) = False := by simp only [Int.negSucc_eq, Int.ofNat_eq_natCast, eq_iff_iff, iff_false]; omega
theorem qxg (a b : Nat) : (Int.negSucc a = Int.ofNat b) = False := by simp
theorem qxj (a b : Nat) : (Int.ofNat a = Int.negSucc b) = False := by simp
/- memory -/
theorem q8k (H : Hp) (b o : Nat) : qag H (.ptr b o) = qa9 (H.get b) o := id rfl
theorem q8j (k : Nat) (H : Hp) (b o : Nat) : qbi k H (.ptr b o) = aggR (qbf (H.get b) o k) := id rfl
theorem q3m (l : List AV) : aggR (some l) = .val (.agg l) := id rfl
theorem q3n (l : List AV) : aggN (some l) = .val (.agg l) := id rfl
theorem zac (v : AV) : rV (.val v) = some v := id rfl
theorem q1w (v : AV) (H : Hp) : finR (some v) H = .ok v H := id rfl
theorem qcd (H : Hp) (b o : Nat) (v : List AV) (r : AV) (z : Nat) (l : List AV) (hb : H.get b = qaa z l) (h : o + v.length ≤ l.length) : storeAt H b o v r = .ok r (H.put b (qaa z (setL l o v))) := by
 unfold storeAt
 rw [hb, qhc, if_pos h]
theorem qwp (H : Hp) (b o : Nat) (v : List AV) (r : AV) : storeAt H b o v r = (match qgk (H.get b) o v with | some blk => .ok r (H.put b blk) | none => .bad) := id rfl
theorem qwq (H : Hp) (b o : Nat) (k : IntKind) (n : Int) : qa3 H (.ptr b o) (.int k n) = storeAt H b o [.int k n] .undef := id rfl
theorem qsh (H : Hp) (b o : Nat) (n : Bool) : qa3 H (.ptr b o) (.bool n) = storeAt H b o [.bool n] .undef := id rfl
theorem qyw (H : Hp) (b o : Nat) (b' o' l c : Nat) (e : Bool) : qa3 H (.ptr b o) (.sl b' o' l c e) = storeAt H b o [.sl b' o' l c e] .undef := id rfl
theorem qql (H : Hp) (b o : Nat) : qa3 H (.ptr b o) .nilsl = storeAt H b o [.nilsl] .undef := id rfl
theorem q33 (k : Nat) (H : Hp) (b o : Nat) (l : List AV) : qb3 k H (.ptr b o) (.agg l) = bif Nat.beq l.length k then storeAt H b o l .undef else .bad := id rfl
theorem zb9 (k nm : Nat) (l : List AV) : boxA k nm (.agg l) = bif Nat.beq l.length k then .new (.ptr nm 0) (qaa 0 l) else .bad := id rfl
theorem q54 (nm : Nat) (k : IntKind) (n : Int) : box1 nm (.int k n) = .new (.ptr nm 0) (qaa 0 [.int k n]) := id rfl
theorem q9d (nm : Nat) (b' o' l c : Nat) (e : Bool) : box1 nm (.sl b' o' l c e) = .new (.ptr nm 0) (qaa 0 [.sl b' o' l c e]) := id rfl
theorem qya (nm : Nat) : box1 nm .nilsl = .new (.ptr nm 0) (qaa 0 [.nilsl]) := id rfl
theorem q5c (off b o : Nat) : qaf off (.ptr b o) = .val (.ptr b (o + off)) := id rfl
theorem zaq (b o : Nat) : nilC (.ptr b o) = .val (.ptr b o) := id rfl
theorem qfc (z b o n c : Nat) (e : Bool) (k : IntKind) (i : Nat) (h : i < n) : idxS z (.sl b o n c e) (.int k (.ofNat i)) = .val (.ptr b (o + i * z)) := by
 show (bif Nat.blt i n then _ else _) = _
 rw [qgu, decide_eq_true h]; rfl
theorem zbb (n z b o : Nat) (k : IntKind) (i : Nat) (h : i < n) : idxA n z (.ptr b o) (.int k (.ofNat i)) = .val (.ptr b (o + i * z)) := by
 show (bif Nat.blt i n then _ else _) = _
 rw [qgu, decide_eq_true h]; rfl
theorem q4x (b o n c : Nat) (e : Bool) : lenSl (.sl b o n c e) = .val (.int .i64 (.ofNat n)) := id rfl
theorem q0v : lenSl .nilsl = .val (.int .i64 (.ofNat 0)) := id rfl
theorem q8l : lenSl .sle = .val (.int .i64 (.ofNat 0)) := id rfl
theorem q89 (b o n c : Nat) : capV (.sl b o n c true) = .val (.int .i64 (.ofNat c)) := id rfl
theorem q5y : capV .nilsl = .val (.int .i64 (.ofNat 0)) := id rfl
theorem zbh (i : Nat) (l : List AV) : extr i (.tup l) = (match l[i]? with | some v => .val v | none => .bad) := id rfl
theorem qxd (n nm : Nat) (l : List AV) : qe1 n nm (some l) = .new (.sl nm 0 n n true) (qaa 0 l) := id rfl
attribute [go_sem] q9q q9r ve_ok vg_t vg_f veg_t veg_f q9t vlg_t vlg_f q7i q7h cd_t cd_f dz_eq q78
 zcf q9x zas zad q98 q97 zaz za2 zbc zbe zbj zar not_b
 q4s q4t q4u qxe qxh qxf qxi qxg qxj
 q8k q8j q3m q3n zac q1w qwq qsh qyw qql q33 zb9 q54 q9d qya q5c zaq qfc zbb
 q4x q0v q8l q89 q5y zbh qxd qb7 qcv qhc qwp
 qac qtj qbd qai nq np
 beq_self_eq_true Bool.true_beq Bool.false_beq beq_true beq_false Bool.not_true Bool.not_false Bool.not_eq_true' Bool.not_eq_false' decide_true decide_false decide_eq_true_eq decide_eq_false_iff_not Bool.false_eq_true
 if_true if_false ite_self Nat.zero_add Nat.add_zero Nat.mul_one Nat.zero_mul cond_true cond_false reduceCtorEq not_false_eq_true not_true_eq_false
 List.take_succ_cons List.take_zero List.drop_zero List.drop_succ_cons List.getElem?_cons_zero List.getElem?_cons_succ List.length_cons List.length_nil List.length_map List.getElem?_map
end Go.Di
end
