/-
 For countersignlaw18.StrataNumbers: memory as lists, and the operations of functions in direct style. No conditions beyond those that each theorem states.
-/
import Derived.Test.YtiickhlaamgljaaGreatEv4
import Derived.Attr
set_option linter.unusedSimpArgs false
set_option linter.unusedVariables false
noncomputable section
/-
 Reasoning on functions in direct style: memory by blocks that are lists, what a call answers, what stays.
-/
namespace Go.Di
open Go.Ev
theorem qgh (a b : Nat) : Nat.blt a b = decide (a < b) := by
 cases h : Nat.blt a b with
 | true => symm; rw [decide_eq_true_iff]; exact Nat.le_of_ble_eq_true h
 | false => symm; rw [decide_eq_false_iff_not]; intro h'; rw [show Nat.blt a b = Nat.ble (a + 1) b from rfl, Nat.ble_eq_true_of_le h'] at h; cases h
theorem ble_eq (a b : Nat) : Nat.ble a b = decide (a ≤ b) := by
 cases h : Nat.ble a b with
 | true => symm; rw [decide_eq_true_iff]; exact Nat.le_of_ble_eq_true h
 | false => symm; rw [decide_eq_false_iff_not]; intro h'; rw [Nat.ble_eq_true_of_le h'] at h; cases h
theorem beq_eq (a b : Nat) : Nat.beq a b = decide (a = b) := by
 cases h : Nat.beq a b with
 | true => simp [Nat.eq_of_beq_eq_true h]
 | false => symm; rw [decide_eq_false_iff_not]; rintro rfl; rw [Nat.beq_refl] at h; cases h
/- trees are equal where all their cells are -/
theorem Q_ext {α : Type} {t u : Q α} (h : ∀ k, k < 8 → qnb k t = qnb k u) : t = u := by
 cases t; cases u
 have h0 := h 0 (by decide); have h1 := h 1 (by decide); have h2 := h 2 (by decide); have h3 := h 3 (by decide)
 have h4 := h 4 (by decide); have h5 := h 5 (by decide); have h6 := h 6 (by decide); have h7 := h 7 (by decide)
 simp only [qnb] at h0 h1 h2 h3 h4 h5 h6 h7
 subst h0; subst h1; subst h2; subst h3; subst h4; subst h5; subst h6; subst h7
 rfl
theorem zdo {α : Type} : ∀ (d : Nat) {t u : TT α d}, (∀ i, i < 8 ^ d → (qap d i).f t = (qap d i).f u) → t = u
 | 0, t, u, h => h 0 (by decide)
 | d + 1, t, u, h => by
  refine Q_ext fun k hk => zdo d fun i hi => ?_
  have := h (i * 8 + k) (by rw [Nat.pow_succ]; omega)
  rw [qec, qec] at this
  rwa [show (i * 8 + k) / 8 = i by omega, show (i * 8 + k) % 8 = k by omega] at this
/- blocks as lists -/
def cellsOf (l : List AV) : TT AV (qau l.length) := wrL l 0 (same .undef _)
theorem qcz (l : List AV) (i : Nat) (hi : i < 8 ^ qau l.length) : (qap _ i).f (cellsOf l) = l.getD i .undef := by
 unfold cellsOf
 rw [qif _ _ _ _ (by simpa using qbt l.length) hi]
 by_cases h : i < l.length
 ·rw [if_pos (by omega)]; rfl
 ·rw [if_neg (by omega), qhq]
  simp [List.getD_eq_getElem?_getD, List.getElem?_eq_none (Nat.le_of_not_lt h)]
theorem qji (z : Nat) (l : List AV) : qaa z l = .cells (qau l.length) l.length (cellsOf l) false z := id rfl
def setL (l : List AV) (o : Nat) (v : List AV) : List AV := l.take o ++ v ++ l.drop (o + v.length)
theorem qwx (l : List AV) (o : Nat) (v : List AV) (h : o + v.length ≤ l.length) : (setL l o v).length = l.length := by
 simp [setL]; omega
theorem zao (l : List AV) (o : Nat) (v : List AV) (h : o + v.length ≤ l.length) (i : Nat) :
  (setL l o v).getD i .undef = if o ≤ i ∧ i < o + v.length then v.getD (i - o) .undef else l.getD i .undef := by
 unfold setL
 simp only [List.getD_eq_getElem?_getD]
 by_cases h1 : i < o
 ·rw [if_neg (by omega), List.append_assoc, List.getElem?_append_left (by simp; omega), List.getElem?_take_of_lt h1]
 ·by_cases h2 : i < o + v.length
  ·rw [if_pos (by omega), List.append_assoc, List.getElem?_append_right (by simp; omega), List.getElem?_append_left (by simp; omega)]
   simp [Nat.min_eq_left (show o ≤ l.length by omega)]
  ·rw [if_neg (by omega), List.getElem?_append_right (by simp; omega), List.getElem?_drop]
   simp only [List.length_append, List.length_take, Nat.min_eq_left (show o ≤ l.length by omega)]
   congr 2; omega
theorem qi1 (z : Nat) (l v : List AV) (o : Nat) : qh3 (qaa z l) o v = if o + v.length ≤ l.length then some (qaa z (setL l o v)) else none := by
 rw [qji]
 show (bif Nat.ble (o + v.length) l.length then some (Blk.cells _ _ (wrL v o (cellsOf l)) false z) else none) = _
 by_cases h : o + v.length ≤ l.length
 ·rw [if_pos h, Nat.ble_eq_true_of_le h]
  have hl := qwx l o v h
  rw [qji]
  have key : ∀ (n : Nat) (e : n = l.length) (c : TT AV (qau n)), (∀ i, i < 8 ^ qau n → (qap _ i).f c = (setL l o v).getD i .undef) → Blk.cells (qau l.length) l.length (wrL v o (cellsOf l)) false z = Blk.cells (qau n) n c false z := by
   intro n e c hc
   subst e
   congr 1
   refine zdo _ fun i hi => ?_
   have := qbt l.length
   rw [hc i hi, zao _ _ _ h, qif _ _ _ _ (by omega) hi, qcz _ _ hi]
  exact congrArg some (key _ hl _ fun i hi => qcz _ _ hi)
 ·rw [if_neg h]
  have : Nat.ble (o + v.length) l.length = false := by
   cases hb : Nat.ble (o + v.length) l.length with
   | false => rfl
   | true => exact absurd (Nat.le_of_ble_eq_true hb) h
  rw [this]; rfl
theorem qci (z : Nat) (l : List AV) (o : Nat) : qa6 (qaa z l) o = match l[o]? with | some v => .val v | none => .bad := by
 rw [qji]
 show (bif Nat.blt o l.length then R0.val ((qap _ o).f (cellsOf l)) else .bad) = _
 by_cases h : o < l.length
 ·have hb : Nat.blt o l.length = true := by rw [qgh]; simpa using h
  rw [hb, qcz _ _ (Nat.lt_of_lt_of_le h (qbt _))]
  simp [h]
 ·have hb : Nat.blt o l.length = false := by rw [qgh]; simpa using h
  rw [hb]
  simp [Nat.le_of_not_lt h]
theorem q0b {d : Nat} (c : TT AV d) (l : List AV) (hc : ∀ i, i < 8 ^ d → (qap d i).f c = l.getD i .undef) : ∀ (k o : Nat), o + k ≤ l.length → l.length ≤ 8 ^ d → rdN c k o = (l.drop o).take k
 | 0, o, _, _ => by simp [zav]
 | k + 1, o, h, h2 => by
  rw [qrk, hc _ (by omega), q0b c l hc k (o + 1) (by omega) h2]
  rw [List.drop_eq_getElem_cons (show o < l.length by omega), List.take_succ_cons]
  simp [show o < l.length by omega]
theorem qd1 (z : Nat) (l : List AV) (o k : Nat) : qbi (qaa z l) o k = if o + k ≤ l.length then some ((l.drop o).take k) else none := by
 rw [qji]
 show (bif Nat.ble (o + k) l.length then some (rdN (cellsOf l) k o) else none) = _
 by_cases h : o + k ≤ l.length
 ·rw [if_pos h, Nat.ble_eq_true_of_le h, q0b _ l (fun i hi => qcz l i hi) k o h (qbt _)]; rfl
 ·rw [if_neg h]
  have : Nat.ble (o + k) l.length = false := by
   cases hb : Nat.ble (o + k) l.length with
   | false => rfl
   | true => exact absurd (Nat.le_of_ble_eq_true hb) h
  rw [this]; rfl
theorem q8r (z z' : Nat) (l : List AV) (e : Nat) : qia (qaa z l) e z' = (decide (l.length = e) && decide (z = z')) := by
 rw [qji]
 show (Nat.beq l.length e && Nat.beq z z') = _
 have hb : ∀ a b, Nat.beq a b = decide (a = b) := fun a b => by
  cases h : Nat.beq a b with
  | true => simp [Nat.eq_of_beq_eq_true h]
  | false => symm; rw [decide_eq_false_iff_not]; rintro rfl; rw [Nat.beq_refl] at h; cases h
 rw [hb, hb]
/- memory -/
theorem get_put (H : Hp) (b c : Nat) (k : Blk) : (H.put b k).get c = if c = b then k else H.get c := Mem.get_put H.t b c k
theorem qac (H : Hp) (b : Nat) (k : Blk) : (H.put b k).get b = k := by rw [get_put, if_pos rfl]
theorem qam (H : Hp) (b c : Nat) (k : Blk) (h : c ≠ b) : (H.put b k).get c = H.get c := by rw [get_put, if_neg h]
theorem nq (H : Hp) (b : Nat) (k : Blk) : (H.put b k).nx = H.nx := id rfl
theorem qhr (H : Hp) (c : Nat) (k : Blk) : (qak H k).get c = if c = H.nx then k else H.get c := Mem.get_put H.t H.nx c k
theorem qaj (H : Hp) (k : Blk) : (qak H k).get H.nx = k := by rw [qhr, if_pos rfl]
theorem qye (H : Hp) (c : Nat) (k : Blk) (h : H.nx ≤ c ∧ c ≤ H.nx) : (qak H k).get c = k := by rw [qhr, if_pos (by omega)]
theorem qbb (H : Hp) (c : Nat) (k : Blk) (h : c < H.nx) : (qak H k).get c = H.get c := by rw [qhr, if_neg (by omega)]
theorem np (H : Hp) (k : Blk) : (qak H k).nx = H.nx + 1 := id rfl
structure Fm (S : Nat → Prop) (H H' : Hp) : Prop where
 nx : H.nx ≤ H'.nx
 get : ∀ b, b < H.nx → ¬ S b → H'.get b = H.get b
def No : Nat → Prop := fun _ => False
theorem Fm.refl (S : Nat → Prop) (H : Hp) : Fm S H H := ⟨Nat.le_refl _, fun _ _ _ => rfl⟩
theorem Fm.trans {S : Nat → Prop} {H H1 H2 : Hp} (a : Fm S H H1) (b : Fm S H1 H2) : Fm S H H2 := ⟨Nat.le_trans a.nx b.nx, fun c hc hs => (b.get c (Nat.lt_of_lt_of_le hc a.nx) hs).trans (a.get c hc hs)⟩
theorem Fm.mono {S T : Nat → Prop} {H H' : Hp} (a : Fm S H H') (h : ∀ b, b < H.nx → S b → T b) : Fm T H H' := ⟨a.nx, fun b hb ht => a.get b hb fun hs => ht (h b hb hs)⟩
theorem Fm.push {S : Nat → Prop} {H H' : Hp} (a : Fm S H H') (k : Blk) : Fm S H (qak H' k) := ⟨Nat.le_succ_of_le a.nx, fun b hb hs => by rw [qbb _ _ _ (Nat.lt_of_lt_of_le hb a.nx)]; exact a.get b hb hs⟩
theorem Fm.put {S : Nat → Prop} {H H' : Hp} (a : Fm S H H') (b : Nat) (k : Blk) (h : b < H.nx → S b) : Fm S H (H'.put b k) := ⟨a.nx, fun c hc hs => by
 rw [qam _ _ _ _ (fun e => hs (by subst e; exact h hc))]; exact a.get c hc hs⟩
theorem Fm.put_new {S : Nat → Prop} {H H' : Hp} (a : Fm S H H') (b : Nat) (k : Blk) (h : H.nx ≤ b) : Fm S H (H'.put b k) := a.put b k fun hb => by omega
theorem Fm.keep {H H' : Hp} (a : Fm No H H') {b : Nat} (hb : b < H.nx) : H'.get b = H.get b := a.get b hb id
theorem Fm.then {S T : Nat → Prop} {H H1 H2 : Hp} (a : Fm S H H1) (b : Fm T H1 H2) (h : ∀ c, c < H.nx → T c → S c) : Fm S H H2 :=
 ⟨Nat.le_trans a.nx b.nx, fun c hc hs => (b.get c (Nat.lt_of_lt_of_le hc a.nx) fun ht => hs (h c hc ht)).trans (a.get c hc hs)⟩
def Ok (r : R1) (Q : AV → Hp → Prop) : Prop := ∃ v H', r = .ok v H' ∧ Q v H'
theorem Ok.ret {v : AV} {H : Hp} {Q : AV → Hp → Prop} (h : Q v H) : Ok (.ok v H) Q := ⟨v, H, rfl, h⟩
theorem Ok.mono {r : R1} {Q R : AV → Hp → Prop} (h : Ok r Q) (hm : ∀ v H, Q v H → R v H) : Ok r R := by
 obtain ⟨v, H, e, q⟩ := h; exact ⟨v, H, e, hm _ _ q⟩
theorem Ok.ve {r : R1} {k : AV → Hp → R1} {Q R : AV → Hp → Prop} (h : Ok r R) (hk : ∀ v H, R v H → Ok (k v H) Q) : Ok (ve r k) Q := by
 obtain ⟨v, H, e, q⟩ := h; subst e; exact hk v H q
theorem Ok.de {A : Nat} {H : Hp} {p : List Pd} {w : List Wt} {r : R1} {k : AV → Hp → List Pd → List Wt → R1} {Q R : AV → Hp → Prop} (h : Ok r R)
  (hk : ∀ v H', R v H' → qi0 (qdt A p) H' (qds A w) = true ∧ Ok (k v H' (qdt A p) (qds A w)) Q) : Ok (de A H p w r (some true) k) Q := by
 obtain ⟨v, H', e, q⟩ := h
 subst e
 obtain ⟨h1, h2⟩ := hk v H' q
 rw [zb8]
 unfold de0
 simp only [h1, cond_true]
 exact h2
/- steps -/
theorem zgd (v : AV) (H : Hp) (k : AV → Hp → R1) : vq (.val v) H k = k v H := id rfl
theorem zge (v : AV) (b : Blk) (H : Hp) (k : AV → Hp → R1) : vq (.new v b) H k = k v (qak H b) := id rfl
theorem ve_ok (v : AV) (H : Hp) (k : AV → Hp → R1) : ve (.ok v H) k = k v H := id rfl
theorem vg_t (r : R0) (H : Hp) (k : AV → Hp → R1) : vg (some true) r H k = vq r H k := by rw [zdz]; rfl
theorem vg_f (r : R0) (H : Hp) (k : AV → Hp → R1) : vg (some false) r H k = k .undef H := by rw [zdz]; rfl
theorem veg_t (r : R1) (H : Hp) (k : AV → Hp → R1) : veg (some true) r H k = ve r k := by rw [q4j]; rfl
theorem veg_f (r : R1) (H : Hp) (k : AV → Hp → R1) : veg (some false) r H k = k .undef H := by rw [q4j]; rfl
theorem zgg (v : AV) (k : AV → R1) : vl (.val v) k = k v := id rfl
theorem vlg_t (r : R0) (k : AV → R1) : vlg (some true) r k = vl r k := by rw [qzs]; rfl
theorem vlg_f (r : R0) (k : AV → R1) : vlg (some false) r k = k .undef := by rw [qzs]; rfl
theorem zdw (a b : Bool) : qai a (.bool b) = some (b == a) := id rfl
theorem zdv (a : Bool) : qai a .undef = some false := id rfl
theorem cd_t (x y : R1) : cd (.bool true) x y = x := id rfl
theorem cd_f (x y : R1) : cd (.bool false) x y = y := id rfl
theorem dz_eq (up : Nat) (H : Hp) (k : Nat → Hp → R1) : dz up H k = k H.nx ⟨H.t, H.nx + up⟩ := id rfl
theorem zen (c : Bool) (a b : AV) : qb7 (.bool c) a b = .val (if c = true then a else b) := by cases c <;> rfl
@[congr] theorem vq_congr {r r' : R0} {H : Hp} {k : AV → Hp → R1} (h : r = r') : vq r H k = vq r' H k := by rw [h]
@[congr] theorem ve_congr {r r' : R1} {k : AV → Hp → R1} (h : r = r') : ve r k = ve r' k := by rw [h]
@[congr] theorem vg_congr {w w' : Option Bool} {r : R0} {H : Hp} {k : AV → Hp → R1} (h : w = w') : vg w r H k = vg w' r H k := by rw [h]
@[congr] theorem zgh {w w' : Option Bool} {r : R1} {H : Hp} {k : AV → Hp → R1} (h : w = w') : veg w r H k = veg w' r H k := by rw [h]
@[congr] theorem vl_congr {r r' : R0} {k : AV → R1} (h : r = r') : vl r k = vl r' k := by rw [h]
@[congr] theorem zgf {w w' : Option Bool} {r : R0} {k : AV → R1} (h : w = w') : vlg w r k = vlg w' r k := by rw [h]
@[congr] theorem cd_congr {x x' : AV} {a b : R1} (h : x = x') : cd x a b = cd x' a b := by rw [h]
@[congr] theorem dz_congr {u : Nat} {H : Hp} {k : Nat → Hp → R1} : dz u H k = dz u H k := rfl
end Go.Di
end
noncomputable section
/-
 The operations of functions in direct style at values that are known.
-/
namespace Go.Di
open Go.Ev
theorem qhw (k : IntKind) : eqK k k = true := by cases k <;> rfl
theorem qg2 (a b : Int) : ltI a b = decide (a < b) := by
 cases a <;> cases b <;> simp only [ltI, qgh] <;> rename_i m n <;> apply Bool.eq_iff_iff.2 <;> simp only [decide_eq_true_eq, Int.ofNat_eq_natCast, Int.negSucc_eq] <;> first | omega | (simp; omega)
theorem qg9 (a b : Int) : eqI a b = decide (a = b) := by
 cases a <;> cases b <;> simp only [eqI, beq_eq] <;> rename_i m n <;> apply Bool.eq_iff_iff.2 <;> simp only [decide_eq_true_eq, Int.ofNat_eq_natCast, Int.negSucc_eq] <;> first | omega | (simp; omega)
theorem qfp (n : Nat) (h : n < 9223372036854775808) : qgj .i64 (.ofNat n) = .ofNat n := by
 show (bif Nat.blt n 9223372036854775808 then _ else _) = _
 rw [qgh, decide_eq_true h]; rfl
theorem qwe (n : Int) (h1 : -9223372036854775808 ≤ n) (h2 : n < 9223372036854775808) : qgj .i64 n = n := by
 cases n with
 | ofNat n => exact qfp n (by simp at h2; omega)
 | negSucc m =>
  show (bif Nat.blt m 9223372036854775808 then _ else _) = _
  rw [qgh, decide_eq_true (by rw [Int.negSucc_eq] at h1; omega)]; rfl
theorem zdn (a b : Int) : intV (qab .add).f (.int .i64 a) (.int .i64 b) = .val (.int .i64 (qgj .i64 (a + b))) := id rfl
theorem zcz (a b : Int) : intV (qab .sub).f (.int .i64 a) (.int .i64 b) = .val (.int .i64 (qgj .i64 (a - b))) := id rfl
theorem zhb (a b : Int) : intV (qab .mul).f (.int .i64 a) (.int .i64 b) = .val (.int .i64 (qgj .i64 (a * b))) := id rfl
theorem ziw (a b : Nat) (h : a + b < 9223372036854775808) : intV (qab .add).f (.int .i64 (.ofNat a)) (.int .i64 (.ofNat b)) = .val (.int .i64 (.ofNat (a + b))) := by
 rw [zdn]; exact congrArg (fun x => R0.val (.int .i64 x)) (qfp (a + b) h)
theorem zgk (a b : Nat) (h : b ≤ a) (h2 : a < 9223372036854775808) : intV (qab .sub).f (.int .i64 (.ofNat a)) (.int .i64 (.ofNat b)) = .val (.int .i64 (.ofNat (a - b))) := by
 rw [zcz, show (Int.ofNat a - Int.ofNat b) = Int.ofNat (a - b) by simp only [Int.ofNat_eq_natCast]; omega, qfp _ (by omega)]
theorem zha (a b : Nat) (h : a * b < 9223372036854775808) : intV (qab .mul).f (.int .i64 (.ofNat a)) (.int .i64 (.ofNat b)) = .val (.int .i64 (.ofNat (a * b))) := by
 rw [zhb]; exact congrArg (fun x => R0.val (.int .i64 x)) (qfp (a * b) h)
theorem zgx (a b : Nat) (h : 0 < b) (h2 : a < 9223372036854775808) : intV (qab .quo).f (.int .i64 (.ofNat a)) (.int .i64 (.ofNat b)) = .val (.int .i64 (.ofNat (a / b))) := by
 have hz : eqI (.ofNat b) 0 = false := by rw [qg9]; simp; omega
 show (bif eqI (.ofNat b) 0 then R0.bad else .val (.int .i64 (qgj .i64 ((Int.ofNat a).tdiv (Int.ofNat b))))) = _
 rw [hz]
 exact congrArg (fun x => R0.val (.int .i64 x)) (qfp (a / b) (Nat.lt_of_le_of_lt (Nat.div_le_self _ _) h2))
theorem zc0 (a b : Nat) (h : 0 < b) : intV (qab .rem).f (.int .i64 (.ofNat a)) (.int .i64 (.ofNat b)) = .val (.int .i64 (.ofNat (a % b))) := by
 have hz : eqI (.ofNat b) 0 = false := by rw [qg9]; simp; omega
 show (bif eqI (.ofNat b) 0 then R0.bad else .val (.int .i64 ((Int.ofNat a).tmod (Int.ofNat b)))) = _
 rw [hz]; rfl
theorem zgt (a b : Nat) (h : 0 < b) : intV (qab .rem).f (.int .u8 (.ofNat a)) (.int .u8 (.ofNat b)) = .val (.int .u8 (.ofNat (a % b))) := by
 have hz : eqI (.ofNat b) 0 = false := by rw [qg9]; simp; omega
 show (bif eqI (.ofNat b) 0 then R0.bad else .val (.int .u8 ((Int.ofNat a).tmod (Int.ofNat b)))) = _
 rw [hz]; rfl
theorem zhh (k : IntKind) (a b : Int) : intV (qab .lss).f (.int k a) (.int k b) = .val (.bool (decide (a < b))) := by
 show (bif eqK k k then R0.val (.bool (ltI a b)) else .bad) = _
 rw [qhw, qg2]; rfl
theorem zhm (k : IntKind) (a b : Int) : intV (qab .leq).f (.int k a) (.int k b) = .val (.bool (decide (a ≤ b))) := by
 show (bif eqK k k then R0.val (.bool (!ltI b a)) else .bad) = _
 rw [qhw, qg2, ← decide_not]; simp only [cond_true]; congr 2; simp only [Int.not_lt]
theorem zhw (k : IntKind) (a b : Int) : intV (qab .gtr).f (.int k a) (.int k b) = .val (.bool (decide (b < a))) := by
 show (bif eqK k k then R0.val (.bool (ltI b a)) else .bad) = _
 rw [qhw, qg2]; rfl
theorem zhx (k : IntKind) (a b : Int) : intV (qab .geq).f (.int k a) (.int k b) = .val (.bool (decide (b ≤ a))) := by
 show (bif eqK k k then R0.val (.bool (!ltI a b)) else .bad) = _
 rw [qhw, qg2, ← decide_not]; simp only [cond_true]; congr 2; simp only [Int.not_lt]
theorem zh1 (k : IntKind) (a b : Int) : intV (qab .eql).f (.int k a) (.int k b) = .val (.bool (decide (a = b))) := by
 show (bif eqK k k then R0.val (.bool (eqI a b)) else .bad) = _
 rw [qhw, qg9]; rfl
theorem zg9 (k : IntKind) (a b : Int) : intV (qab .neq).f (.int k a) (.int k b) = .val (.bool (!decide (a = b))) := by
 show (bif eqK k k then R0.val (.bool (!eqI a b)) else .bad) = _
 rw [qhw, qg9]; rfl
theorem not_b (b : Bool) : (unS .not).f (.bool b) = .val (.bool !b) := id rfl
/- numbers -/
theorem za9 (a b : Nat) : (Int.ofNat a < Int.ofNat b) = (a < b) := by simp
theorem zba (a b : Nat) : (Int.ofNat a ≤ Int.ofNat b) = (a ≤ b) := by simp
theorem zbb (a b : Nat) : (Int.ofNat a = Int.ofNat b) = (a = b) := by simp only [Int.ofNat_eq_natCast, eq_iff_iff]; omega
theorem q2s (a b : Nat) : (Int.negSucc a < Int.ofNat b) = True := by simp only [Int.negSucc_eq, Int.ofNat_eq_natCast, eq_iff_iff, iff_true]; omega
theorem q2v (a b : Nat) : (Int.ofNat a < Int.negSucc b) = False := by simp only [Int.negSucc_eq, Int.ofNat_eq_natCast, eq_iff_iff, iff_false]; omega
theorem q2t (a b : Nat) : (Int.negSucc a ≤ Int.ofNat b) = True := by simp only [Int.negSucc_eq, Int.ofNat_eq_natCast, eq_iff_iff, iff_true]; omega
theorem q2w (a b : Nat) : (Int.ofNat a ≤ Int.negSucc b) = False := by simp only [Int.negSucc_eq, Int.ofNat_eq_natCast, eq_iff_iff, iff_false]; omega
theorem q2u (a b : Nat) : (Int.negSucc a = Int.ofNat b) = False := by simp
theorem q2x (a b : Nat) : (Int.ofNat a = Int.negSucc b) = False := by simp
/- memory -/
theorem ze2 (H : Hp) (b o : Nat) : qae H (.ptr b o) = qa6 (H.get b) o := id rfl
theorem ze1 (k : Nat) (H : Hp) (b o : Nat) : qa4 k H (.ptr b o) = aggR (qbi (H.get b) o k) := id rfl
theorem q9y (l : List AV) : aggR (some l) = .val (.agg l) := id rfl
theorem q9z (l : List AV) : aggN (some l) = .val (.agg l) := id rfl
theorem zgw (v : AV) : rV (.val v) = some v := id rfl
theorem q8h (v : AV) (H : Hp) : finR (some v) H = .ok v H := id rfl
theorem qcr (H : Hp) (b o : Nat) (v : List AV) (r : AV) (z : Nat) (l : List AV) (hb : H.get b = qaa z l) (h : o + v.length ≤ l.length) : storeAt H b o v r = .ok r (H.put b (qaa z (setL l o v))) := by
 unfold storeAt
 rw [hb, qi1, if_pos h]
theorem q1s (H : Hp) (b o : Nat) (v : List AV) (r : AV) : storeAt H b o v r = (match qh3 (H.get b) o v with | some blk => .ok r (H.put b blk) | none => .bad) := id rfl
theorem q1t (H : Hp) (b o : Nat) (k : IntKind) (n : Int) : qaz H (.ptr b o) (.int k n) = storeAt H b o [.int k n] .undef := id rfl
theorem qwn (H : Hp) (b o : Nat) (n : Bool) : qaz H (.ptr b o) (.bool n) = storeAt H b o [.bool n] .undef := id rfl
theorem q4o (H : Hp) (b o : Nat) (b' o' l c : Nat) (e : Bool) : qaz H (.ptr b o) (.sl b' o' l c e) = storeAt H b o [.sl b' o' l c e] .undef := id rfl
theorem qud (H : Hp) (b o : Nat) : qaz H (.ptr b o) .nilsl = storeAt H b o [.nilsl] .undef := id rfl
theorem zah (k : Nat) (H : Hp) (b o : Nat) (l : List AV) : qbh k H (.ptr b o) (.agg l) = bif Nat.beq l.length k then storeAt H b o l .undef else .bad := id rfl
theorem ziq (k nm : Nat) (l : List AV) : boxA k nm (.agg l) = bif Nat.beq l.length k then .new (.ptr nm 0) (qaa 0 l) else .bad := id rfl
theorem zch (nm : Nat) (k : IntKind) (n : Int) : box1 nm (.int k n) = .new (.ptr nm 0) (qaa 0 [.int k n]) := id rfl
theorem zf0 (nm : Nat) (b' o' l c : Nat) (e : Bool) : box1 nm (.sl b' o' l c e) = .new (.ptr nm 0) (qaa 0 [.sl b' o' l c e]) := id rfl
theorem q3y (nm : Nat) : box1 nm .nilsl = .new (.ptr nm 0) (qaa 0 [.nilsl]) := id rfl
theorem zbu (off b o : Nat) : qad off (.ptr b o) = .val (.ptr b (o + off)) := id rfl
theorem zg8 (b o : Nat) : nilC (.ptr b o) = .val (.ptr b o) := id rfl
theorem qgg (z b o n c : Nat) (e : Bool) (k : IntKind) (i : Nat) (h : i < n) : idxS z (.sl b o n c e) (.int k (.ofNat i)) = .val (.ptr b (o + i * z)) := by
 show (bif Nat.blt i n then _ else _) = _
 rw [qgh, decide_eq_true h]; rfl
theorem zhv (n z b o : Nat) (k : IntKind) (i : Nat) (h : i < n) : idxA n z (.ptr b o) (.int k (.ofNat i)) = .val (.ptr b (o + i * z)) := by
 show (bif Nat.blt i n then _ else _) = _
 rw [qgh, decide_eq_true h]; rfl
theorem zbg (b o n c : Nat) (e : Bool) : lenSl (.sl b o n c e) = .val (.int .i64 (.ofNat n)) := id rfl
theorem q7k : lenSl .nilsl = .val (.int .i64 (.ofNat 0)) := id rfl
theorem ze3 : lenSl .sle = .val (.int .i64 (.ofNat 0)) := id rfl
theorem zfw (b o n c : Nat) : capV (.sl b o n c true) = .val (.int .i64 (.ofNat c)) := id rfl
theorem zcc : capV .nilsl = .val (.int .i64 (.ofNat 0)) := id rfl
theorem zhz (i : Nat) (l : List AV) : extr i (.tup l) = (match l[i]? with | some v => .val v | none => .bad) := id rfl
theorem q2q (n nm : Nat) (l : List AV) : qdg n nm (some l) = .new (.sl nm 0 n n true) (qaa 0 l) := id rfl
attribute [go_sem] zgd zge ve_ok vg_t vg_f veg_t veg_f zgg vlg_t vlg_f zdw zdv cd_t cd_f dz_eq zen
 ziw zgk zha zgx zc0 zgt zhh zhm zhw zhx zh1 zg9 not_b
 za9 zba zbb q2s q2v q2t q2w q2u q2x
 ze2 ze1 q9y q9z zgw q8h q1t qwn q4o qud zah ziq zch zf0 q3y zbu zg8 qgg zhv
 zbg q7k ze3 zfw zcc zhz q2q qci qd1 qi1 q1s
 qac qye qbb qam nq np
 beq_self_eq_true Bool.true_beq Bool.false_beq beq_true beq_false Bool.not_true Bool.not_false Bool.not_eq_true' Bool.not_eq_false' decide_true decide_false decide_eq_true_eq decide_eq_false_iff_not Bool.false_eq_true
 if_true if_false ite_self Nat.zero_add Nat.add_zero Nat.mul_one Nat.zero_mul cond_true cond_false reduceCtorEq not_false_eq_true not_true_eq_false
 List.take_succ_cons List.take_zero List.drop_zero List.drop_succ_cons List.getElem?_cons_zero List.getElem?_cons_succ List.length_cons List.length_nil List.length_map List.getElem?_map
end Go.Di
end
