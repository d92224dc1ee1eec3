/-
 For TablesEval: functions in direct style, their contracts, and the plain mathematics, part 2 of 5. No conditions beyond those that each theorem states.
-/
import Derived.Test.YtoknlffemngkbaaGreatConA
import Derived.Attr
import Derived.Test.YtoknlffemngkbaaGreatEv4
set_option linter.unusedSimpArgs false
set_option linter.unusedVariables false
noncomputable section
namespace Go.Di
open Go.Ev
theorem qoi (k : IntKind) : eqK k k = true := by cases k <;> rfl
theorem qnb (a b : Int) : ltI a b = decide (a < b) := by
 cases a <;> cases b <;> simp only [ltI, qor] <;> rename_i m n <;> apply Bool.eq_iff_iff.2 <;> simp only [decide_eq_true_eq, Int.ofNat_eq_natCast, Int.negSucc_eq] <;> first | omega | (simp; omega)
theorem qnc (a b : Int) : eqI a b = decide (a = b) := by
 cases a <;> cases b <;> simp only [eqI, beq_eq] <;> rename_i m n <;> apply Bool.eq_iff_iff.2 <;> simp only [decide_eq_true_eq, Int.ofNat_eq_natCast, Int.negSucc_eq] <;> first | omega | (simp; omega)
theorem qn9 (n : Nat) (h : n < 9223372036854775808) : qmo .i64 (.ofNat n) = .ofNat n := by
 show (bif Nat.blt n 9223372036854775808 then _ else _) = _
 rw [qor, decide_eq_true h]; rfl
theorem zbd (a b : Int) : intV (qad .add).f (.int .i64 a) (.int .i64 b) = .val (.int .i64 (qmo .i64 (a + b))) := id rfl
theorem q80 (a b : Int) : intV (qad .sub).f (.int .i64 a) (.int .i64 b) = .val (.int .i64 (qmo .i64 (a - b))) := id rfl
theorem q92 (a b : Int) : intV (qad .mul).f (.int .i64 a) (.int .i64 b) = .val (.int .i64 (qmo .i64 (a * b))) := id rfl
theorem zbc (a b : Nat) (h : a + b < 9223372036854775808) : intV (qad .add).f (.int .i64 (.ofNat a)) (.int .i64 (.ofNat b)) = .val (.int .i64 (.ofNat (a + b))) := by
 rw [zbd]; exact congrArg (fun x => R0.val (.int .i64 x)) (qn9 (a + b) h)
theorem q8z (a b : Nat) (h : b ≤ a) (h2 : a < 9223372036854775808) : intV (qad .sub).f (.int .i64 (.ofNat a)) (.int .i64 (.ofNat b)) = .val (.int .i64 (.ofNat (a - b))) := by
 rw [q80, show (Int.ofNat a - Int.ofNat b) = Int.ofNat (a - b) by simp only [Int.ofNat_eq_natCast]; omega, qn9 _ (by omega)]
theorem q91 (a b : Nat) (h : a * b < 9223372036854775808) : intV (qad .mul).f (.int .i64 (.ofNat a)) (.int .i64 (.ofNat b)) = .val (.int .i64 (.ofNat (a * b))) := by
 rw [q92]; exact congrArg (fun x => R0.val (.int .i64 x)) (qn9 (a * b) h)
theorem q9i (a b : Nat) (h : 0 < b) (h2 : a < 9223372036854775808) : intV (qad .quo).f (.int .i64 (.ofNat a)) (.int .i64 (.ofNat b)) = .val (.int .i64 (.ofNat (a / b))) := by
 have hz : eqI (.ofNat b) 0 = false := by rw [qnc]; simp; omega
 show (bif eqI (.ofNat b) 0 then R0.bad else .val (.int .i64 (qmo .i64 ((Int.ofNat a).tdiv (Int.ofNat b))))) = _
 rw [hz]
 exact congrArg (fun x => R0.val (.int .i64 x)) (qn9 (a / b) (Nat.lt_of_le_of_lt (Nat.div_le_self _ _) h2))
theorem q9e (a b : Nat) (h : 0 < b) : intV (qad .rem).f (.int .i64 (.ofNat a)) (.int .i64 (.ofNat b)) = .val (.int .i64 (.ofNat (a % b))) := by
 have hz : eqI (.ofNat b) 0 = false := by rw [qnc]; simp; omega
 show (bif eqI (.ofNat b) 0 then R0.bad else .val (.int .i64 ((Int.ofNat a).tmod (Int.ofNat b)))) = _
 rw [hz]; rfl
theorem q9d (a b : Nat) (h : 0 < b) : intV (qad .rem).f (.int .u8 (.ofNat a)) (.int .u8 (.ofNat b)) = .val (.int .u8 (.ofNat (a % b))) := by
 have hz : eqI (.ofNat b) 0 = false := by rw [qnc]; simp; omega
 show (bif eqI (.ofNat b) 0 then R0.bad else .val (.int .u8 ((Int.ofNat a).tmod (Int.ofNat b)))) = _
 rw [hz]; rfl
theorem q98 (k : IntKind) (a b : Int) : intV (qad .lss).f (.int k a) (.int k b) = .val (.bool (decide (a < b))) := by
 show (bif eqK k k then R0.val (.bool (ltI a b)) else .bad) = _
 rw [qoi, qnb]; rfl
theorem zaa (k : IntKind) (a b : Int) : intV (qad .leq).f (.int k a) (.int k b) = .val (.bool (decide (a ≤ b))) := by
 show (bif eqK k k then R0.val (.bool (!ltI b a)) else .bad) = _
 rw [qoi, qnb, ← decide_not]; simp only [cond_true]; congr 2; simp only [Int.not_lt]
theorem zak (k : IntKind) (a b : Int) : intV (qad .gtr).f (.int k a) (.int k b) = .val (.bool (decide (b < a))) := by
 show (bif eqK k k then R0.val (.bool (ltI b a)) else .bad) = _
 rw [qoi, qnb]; rfl
theorem zam (k : IntKind) (a b : Int) : intV (qad .geq).f (.int k a) (.int k b) = .val (.bool (decide (b ≤ a))) := by
 show (bif eqK k k then R0.val (.bool (!ltI a b)) else .bad) = _
 rw [qoi, qnb, ← decide_not]; simp only [cond_true]; congr 2; simp only [Int.not_lt]
theorem zaq (k : IntKind) (a b : Int) : intV (qad .eql).f (.int k a) (.int k b) = .val (.bool (decide (a = b))) := by
 show (bif eqK k k then R0.val (.bool (eqI a b)) else .bad) = _
 rw [qoi, qnc]; rfl
theorem q9z (k : IntKind) (a b : Int) : intV (qad .neq).f (.int k a) (.int k b) = .val (.bool (!decide (a = b))) := by
 show (bif eqK k k then R0.val (.bool (!eqI a b)) else .bad) = _
 rw [qoi, qnc]; rfl
theorem not_b (b : Bool) : (unS .not).f (.bool b) = .val (.bool !b) := id rfl
/- numbers -/
theorem q3v (a b : Nat) : (Int.ofNat a < Int.ofNat b) = (a < b) := by simp
theorem q3w (a b : Nat) : (Int.ofNat a ≤ Int.ofNat b) = (a ≤ b) := by simp
theorem q3x (a b : Nat) : (Int.ofNat a = Int.ofNat b) = (a = b) := by simp only [Int.ofNat_eq_natCast, eq_iff_iff]; omega
theorem qyt (a b : Nat) : (Int.negSucc a < Int.ofNat b) = True := by simp only [Int.negSucc_eq, Int.ofNat_eq_natCast, eq_iff_iff, iff_true]; omega
theorem qyw (a b : Nat) : (Int.ofNat a < Int.negSucc b) = False := by simp only [Int.negSucc_eq, Int.ofNat_eq_natCast, eq_iff_iff, iff_false]; omega
theorem qyu (a b : Nat) : (Int.negSucc a ≤ Int.ofNat b) = True := by simp only [Int.negSucc_eq, Int.ofNat_eq_natCast, eq_iff_iff, iff_true]; omega
theorem qyx (a b : Nat) : (Int.ofNat a ≤ Int.negSucc b) = False := by simp only [Int.negSucc_eq, Int.ofNat_eq_natCast, eq_iff_iff, iff_false]; omega
theorem qyv (a b : Nat) : (Int.negSucc a = Int.ofNat b) = False := by simp
theorem qyy (a b : Nat) : (Int.ofNat a = Int.negSucc b) = False := by simp
/- memory -/
theorem q7d (H : Hp) (b o : Nat) : qao H (.ptr b o) = qbt (H.get b) o := id rfl
theorem q7c (k : Nat) (H : Hp) (b o : Nat) : qa7 k H (.ptr b o) = aggR (qd6 (H.get b) o k) := id rfl
theorem q2v (l : List AV) : aggR (some l) = .val (.agg l) := id rfl
theorem q2w (l : List AV) : aggN (some l) = .val (.agg l) := id rfl
theorem q9g (v : AV) : rV (.val v) = some v := id rfl
theorem q1u (v : AV) (H : Hp) : finR (some v) H = .ok v H := id rfl
theorem qp1 (H : Hp) (b o : Nat) (v : List AV) (r : AV) (z : Nat) (l : List AV) (hb : H.get b = qac z l) (h : o + v.length ≤ l.length) : storeAt H b o v r = .ok r (H.put b (qac z (setL l o v))) := by
 unfold storeAt
 rw [hb, qws, if_pos h]
theorem qyb (H : Hp) (b o : Nat) (v : List AV) (r : AV) : storeAt H b o v r = (match qzs (H.get b) o v with | some blk => .ok r (H.put b blk) | none => .bad) := id rfl
theorem qyd (H : Hp) (b o : Nat) (k : IntKind) (n : Int) : qcr H (.ptr b o) (.int k n) = storeAt H b o [.int k n] .undef := id rfl
theorem qvy (H : Hp) (b o : Nat) (n : Bool) : qcr H (.ptr b o) (.bool n) = storeAt H b o [.bool n] .undef := id rfl
theorem qz1 (H : Hp) (b o : Nat) (b' o' l c : Nat) (e : Bool) : qcr H (.ptr b o) (.sl b' o' l c e) = storeAt H b o [.sl b' o' l c e] .undef := id rfl
theorem qt8 (H : Hp) (b o : Nat) : qcr H (.ptr b o) .nilsl = storeAt H b o [.nilsl] .undef := id rfl
theorem q27 (k : Nat) (H : Hp) (b o : Nat) (l : List AV) : qb5 k H (.ptr b o) (.agg l) = bif Nat.beq l.length k then storeAt H b o l .undef else .bad := id rfl
theorem za7 (k nm : Nat) (l : List AV) : boxA k nm (.agg l) = bif Nat.beq l.length k then .new (.ptr nm 0) (qac 0 l) else .bad := id rfl
theorem q42 (nm : Nat) (k : IntKind) (n : Int) : box1 nm (.int k n) = .new (.ptr nm 0) (qac 0 [.int k n]) := id rfl
theorem q8d (nm : Nat) (b' o' l c : Nat) (e : Bool) : box1 nm (.sl b' o' l c e) = .new (.ptr nm 0) (qac 0 [.sl b' o' l c e]) := id rfl
theorem qzi (nm : Nat) : box1 nm .nilsl = .new (.ptr nm 0) (qac 0 [.nilsl]) := id rfl
theorem q4g (off b o : Nat) : qaj off (.ptr b o) = .val (.ptr b (o + off)) := id rfl
theorem q9w (b o : Nat) : nilC (.ptr b o) = .val (.ptr b o) := id rfl
theorem qqk (z b o n c : Nat) (e : Bool) (k : IntKind) (i : Nat) (h : i < n) : idxS z (.sl b o n c e) (.int k (.ofNat i)) = .val (.ptr b (o + i * z)) := by
 show (bif Nat.blt i n then _ else _) = _
 rw [qor, decide_eq_true h]; rfl
theorem zaj (n z b o : Nat) (k : IntKind) (i : Nat) (h : i < n) : idxA n z (.ptr b o) (.int k (.ofNat i)) = .val (.ptr b (o + i * z)) := by
 show (bif Nat.blt i n then _ else _) = _
 rw [qor, decide_eq_true h]; rfl
theorem q35 (b o n c : Nat) (e : Bool) : lenSl (.sl b o n c e) = .val (.int .i64 (.ofNat n)) := id rfl
theorem q1i : lenSl .nilsl = .val (.int .i64 (.ofNat 0)) := id rfl
theorem q7e : lenSl .sle = .val (.int .i64 (.ofNat 0)) := id rfl
theorem q8c (b o n c : Nat) : capV (.sl b o n c true) = .val (.int .i64 (.ofNat c)) := id rfl
theorem q40 : capV .nilsl = .val (.int .i64 (.ofNat 0)) := id rfl
theorem zan (i : Nat) (l : List AV) : extr i (.tup l) = (match l[i]? with | some v => .val v | none => .bad) := id rfl
theorem qys (n nm : Nat) (l : List AV) : qis n nm (some l) = .new (.sl nm 0 n n true) (qac 0 l) := id rfl
attribute [go_sem] q8r q8s ve_ok vg_t vg_f veg_t veg_f q8u vlg_t vlg_f q57 q56 cd_t cd_f dz_eq q6x
 zbc q8z q91 q9i q9e q9d q98 zaa zak zam zaq q9z not_b
 q3v q3w q3x qyt qyw qyu qyx qyv qyy
 q7d q7c q2v q2w q9g q1u qyd qvy qz1 qt8 q27 za7 q42 q8d qzi q4g q9w qqk zaj
 q35 q1i q7e q8c q40 zan qys qiq qmj qws qyb
 qar qwb qhi qbz qab qaa
 beq_self_eq_true Bool.true_beq Bool.false_beq beq_true beq_false Bool.not_true Bool.not_false Bool.not_eq_true' Bool.not_eq_false' decide_true decide_false decide_eq_true_eq decide_eq_false_iff_not Bool.false_eq_true
 if_true if_false ite_self Nat.zero_add Nat.add_zero Nat.mul_one Nat.zero_mul cond_true cond_false reduceCtorEq not_false_eq_true not_true_eq_false
 List.take_succ_cons List.take_zero List.drop_zero List.drop_succ_cons List.getElem?_cons_zero List.getElem?_cons_succ List.length_cons List.length_nil List.length_map List.getElem?_map
end Go.Di
end
noncomputable section
namespace Go.Di
open Go.Ev
def vD (r : R0) (lk al : Bool) (i A nm : Nat) (H : Hp) (p : List Pd) (w : List Wt) (f : Hp → R0) (k : AV → Hp → List Pd → List Wt → R1) : R1 :=
 match r with
  | .bad => .bad
  | .val v => k v H p (bif lk then ⟨i, A, f, v⟩ :: w else w)
  | .new v b => bif al && b.wr then k v H (⟨i, nm, b⟩ :: p) w else .bad
theorem dq_t (lk al : Bool) (i A nm : Nat) (H : Hp) (p : List Pd) (w : List Wt) (f : Hp → R0) (k : AV → Hp → List Pd → List Wt → R1) : dq lk al i A nm H p w f (some true) k = vD (f (qck A p H)) lk al i A nm H p w f k := by rw [q4u]; rfl
theorem dq_f (lk al : Bool) (i A nm : Nat) (H : Hp) (p : List Pd) (w : List Wt) (f : Hp → R0) (k : AV → Hp → List Pd → List Wt → R1) : dq lk al i A nm H p w f (some false) k = k .undef H p w := by rw [q4u]; rfl
@[congr] theorem dq_congr {lk al : Bool} {i A nm : Nat} {H : Hp} {p : List Pd} {w : List Wt} {f : Hp → R0} {g g' : Option Bool} {k : AV → Hp → List Pd → List Wt → R1} (h : g = g') : dq lk al i A nm H p w f g k = dq lk al i A nm H p w f g' k := by rw [h]
@[congr] theorem vD_congr {r r' : R0} {lk al : Bool} {i A nm : Nat} {H : Hp} {p : List Pd} {w : List Wt} {f : Hp → R0} {k : AV → Hp → List Pd → List Wt → R1} (h : r = r') : vD r lk al i A nm H p w f k = vD r' lk al i A nm H p w f k := by rw [h]
@[congr] theorem de_congr {A : Nat} {H : Hp} {p : List Pd} {w : List Wt} {r r' : R1} {g g' : Option Bool} {k : AV → Hp → List Pd → List Wt → R1} (h : g = g') (hr : r = r') : de A H p w r g k = de A H p w r' g' k := by rw [h, hr]
theorem vD_q (v : AV) (al : Bool) (i A nm : Nat) (H : Hp) (p : List Pd) (w : List Wt) (f : Hp → R0) (k : AV → Hp → List Pd → List Wt → R1) : vD (.val v) false al i A nm H p w f k = k v H p w := id rfl
theorem vD_l (v : AV) (al : Bool) (i A nm : Nat) (H : Hp) (p : List Pd) (w : List Wt) (f : Hp → R0) (k : AV → Hp → List Pd → List Wt → R1) : vD (.val v) true al i A nm H p w f k = k v H p (⟨i, A, f, v⟩ :: w) := id rfl
theorem q8w (v : AV) (z : Nat) (l : List AV) (lk : Bool) (i A nm : Nat) (H : Hp) (p : List Pd) (w : List Wt) (f : Hp → R0) (k : AV → Hp → List Pd → List Wt → R1) : vD (.new v (qac z l)) lk true i A nm H p w f k = k v H (⟨i, nm, qac z l⟩ :: p) w := id rfl
theorem de_f (A : Nat) (H : Hp) (p : List Pd) (w : List Wt) (r : R1) (k : AV → Hp → List Pd → List Wt → R1) : de A H p w r (some false) k = k .undef H p w := by rw [q4v]; rfl
def vE (c : Bool) (r : R1) : R1 := bif c then r else .bad
@[congr] theorem vE_congr {c c' : Bool} {r : R1} (h : c = c') : vE c r = vE c' r := by rw [h]
theorem vE_t (r : R1) : vE true r = r := id rfl
theorem q75 (A : Nat) (H : Hp) (p : List Pd) (w : List Wt) (v : AV) (H' : Hp) (k : AV → Hp → List Pd → List Wt → R1) : de A H p w (.ok v H') (some true) k = vE (qo2 (qj0 A p) H' (qjz A w)) (k v H' (qj0 A p) (qjz A w)) := by rw [q4v]; rfl
theorem q7g (m i : Nat) : hasB m i = decide ((m >>> i) &&& 1 = 1) := beq_eq _ _
theorem zay (p : List Pd) (H : Hp) (k : Hp → R1) : dz2 p H k = k (allH p H) := id rfl
theorem dz_0 (H : Hp) (k : Nat → Hp → R1) : dz 0 H k = k H.nx H := id rfl
attribute [go_sem] dz_0
theorem qzw (A : Nat) (H : Hp) : qck A [] H = H := id rfl
theorem qya (A : Nat) (x : Pd) (p : List Pd) (H : Hp) : qck A (x :: p) H = bif hasB A x.i then (qck A p H).put x.nm x.b else qck A p H := by
 rfl
theorem q47 (H : Hp) : allH [] H = H := id rfl
theorem q2u (x : Pd) (p : List Pd) (H : Hp) : allH (x :: p) H = (allH p H).put x.nm x.b := id rfl
theorem q2d (A : Nat) : qj0 A [] = [] := id rfl
theorem qy5 (A : Nat) (x : Pd) (p : List Pd) : qj0 A (x :: p) = bif hasB A x.i then qj0 A p else x :: qj0 A p := id rfl
theorem q2c (A : Nat) : qjz A [] = [] := id rfl
theorem qy4 (A : Nat) (x : Wt) (p : List Wt) : qjz A (x :: p) = bif hasB A x.i then qjz A p else x :: qjz A p := id rfl
theorem qzr (p : List Pd) (H : Hp) : qo2 p H [] = true := id rfl
theorem qx8 (p : List Pd) (H : Hp) (x : Wt) (w : List Wt) : qo2 p H (x :: w) = (q0h (x.f (qck x.A p H)) x.v && qo2 p H w) := id rfl
theorem q0g (u v : AV) : q0h (.val u) v = eqF 64 u v := id rfl
def qt1 : AV → Bool
 | .undef | .nilptr | .nilsl | .sle | .nilmap | .nilfn | .nilif => true
 | .bool _ | .int _ _ | .str _ _ | .ptr _ _ | .sl .. | .map _ | .yield _ => true
 | _ => false
theorem qhf {v : AV} (h : qt1 v = true) (k : Nat) : eqF (k + 1) v v = true := by
 cases v <;> first | (cases h; done) | (simp [eqF, beq_eq]; done)
theorem qvd : ∀ (l : List AV) (k : Nat), l.all qt1 = true → l.length < k → eqFL (k + 1) l l = true
 | [], k, _, _ => by simp [eqFL]
 | x :: l, 0, _, h => by simp at h
 | x :: l, k + 1, ha, h => by
  rw [List.all_cons, Bool.and_eq_true] at ha
  rw [eqFL, qhf ha.1, qvd l k ha.2 (by simpa using h)]; rfl
theorem q7w (k : IntKind) (n : Int) : eqF 64 (.int k n) (.int k n) = true := qhf (v := .int k n) rfl 63
theorem q4m (b : Bool) : eqF 64 (.bool b) (.bool b) = true := qhf (v := .bool b) rfl 63
theorem zas (a b c d : Nat) (e : Bool) : eqF 64 (.sl a b c d e) (.sl a b c d e) = true := qhf (v := .sl a b c d e) rfl 63
theorem q14 : eqF 64 .nilsl .nilsl = true := qhf (v := .nilsl) rfl 63
theorem q7v (a b : Nat) : eqF 64 (.ptr a b) (.ptr a b) = true := qhf (v := .ptr a b) rfl 63
def Tr (b : Bool) : Prop := b = true
theorem tr_i {b : Bool} (h : b = true) : Tr b := h
theorem q15 (l : List AV) (h : Tr (l.all qt1 && Nat.blt l.length 62)) : eqF 64 (.agg l) (.agg l) = true := by
 unfold Tr at h
 rw [Bool.and_eq_true, qor, decide_eq_true_iff] at h
 show eqFL 63 l l = true
 exact qvd l 62 h.1 h.2
theorem zal (H : Hp) (n c : Nat) : (Hp.mk H.t n).get c = H.get c := id rfl
theorem Fm.up {S : Nat → Prop} {H H' : Hp} (a : Fm S H H') (k : Nat) : Fm S H ⟨H'.t, H'.nx + k⟩ := ⟨by have := a.nx; show H.nx ≤ H'.nx + k; omega, fun b hb hs => a.get b hb hs⟩
theorem Fm.up2 {S : Nat → Prop} {H H' : Hp} (a : Fm S H H') {n : Nat} (h : H.nx ≤ n) : Fm S H ⟨H'.t, n⟩ := ⟨h, fun b hb hs => a.get b hb hs⟩
theorem Ok.deE {A : Nat} {H : Hp} {p : List Pd} {w : List Wt} {r : R1} {k : AV → Hp → List Pd → List Wt → R1} {Q : AV → Hp → Prop} {v : AV} {H' : Hp} (h : r = .ok v H')
  (hk : Ok (vE (qo2 (qj0 A p) H' (qjz A w)) (k v H' (qj0 A p) (qjz A w))) Q) : Ok (Di.de A H p w r (some true) k) Q := by rw [h, q75]; exact hk
theorem Ok.veE {r : R1} {k : AV → Hp → R1} {Q : AV → Hp → Prop} {v : AV} {H' : Hp} (h : r = .ok v H') (hk : Ok (k v H') Q) : Ok (Di.ve r k) Q := by rw [h]; exact hk
theorem Ok.deO {A : Nat} {H : Hp} {p : List Pd} {w : List Wt} {r : R1} {k : AV → Hp → List Pd → List Wt → R1} {Q R : AV → Hp → Prop} (h : Ok r R)
  (hk : ∀ v H', R v H' → Ok (vE (qo2 (qj0 A p) H' (qjz A w)) (k v H' (qj0 A p) (qjz A w))) Q) : Ok (Di.de A H p w r (some true) k) Q := by
 obtain ⟨v, H', e, q⟩ := h; rw [e, q75]; exact hk v H' q
def In (v : AV) (b : Nat) : Prop := ∃ o n m e, v = .sl b o n m e
structure Gl (z : Nat) (H : Hp) (v : AV) (n : Nat) (l : List AV) : Prop where
 len : l.length = n * z
 is : (v = .nilsl ∧ n = 0) ∨ ∃ b o e q L, v = .sl b o n n e ∧ H.get b = qac q L ∧ o ≤ L.length ∧ L.drop o = l ∧ (e = true ∨ q = z) ∧ b < H.nx
theorem Gl.nil (z : Nat) (H : Hp) : Gl z H .nilsl 0 [] := ⟨by simp, .inl ⟨rfl, rfl⟩⟩
theorem Gl.lenV {z n : Nat} {H : Hp} {v : AV} {l : List AV} (h : Gl z H v n l) : lenSl v = .val (.int .i64 (.ofNat n)) := by
 rcases h.is with ⟨rfl, rfl⟩ | ⟨b, o, e, q, L, rfl, _⟩ <;> rfl
theorem Gl.keep {z n : Nat} {H H' : Hp} {v : AV} {l : List AV} (h : Gl z H v n l) (hn : H.nx ≤ H'.nx) (hk : ∀ b, In v b → b < H.nx → H'.get b = H.get b) : Gl z H' v n l := by
 refine ⟨h.len, ?_⟩
 rcases h.is with ⟨rfl, rfl⟩ | ⟨b, o, e, q, L, rfl, h1, h2, h3, h4, h5⟩
 ·exact .inl ⟨rfl, rfl⟩
 ·exact .inr ⟨b, o, e, q, L, rfl, (hk b ⟨_, _, _, _, rfl⟩ h5).trans h1, h2, h3, h4, Nat.lt_of_lt_of_le h5 hn⟩
theorem Gl.fm {z n : Nat} {H H' : Hp} {v : AV} {l : List AV} (h : Gl z H v n l) {S : Nat → Prop} (a : Fm S H H') (hs : ∀ b, In v b → ¬ S b) : Gl z H' v n l :=
 h.keep a.nx fun b hb hl => a.get b hl (hs b hb)
theorem Gl.no {z n : Nat} {H H' : Hp} {v : AV} {l : List AV} (h : Gl z H v n l) (a : Fm No H H') : Gl z H' v n l := h.fm a fun _ _ h => h
theorem Gl.append {z w n k : Nat} {H : Hp} {v : AV} {l x : List AV} (h : Gl z H v n l) (hk : 0 < k) (hx : x.length = k * z) (hb : (n + k) * w ≤ 1099511627776) (hb2 : n + k ≤ 1099511627776) :
  ∃ H', qbb z w H v (some ⟨k, x⟩) = .ok (.sl H.nx 0 (n + k) (n + k) false) H' ∧ Gl z H' (.sl H.nx 0 (n + k) (n + k) false) (n + k) (l ++ x) ∧ H'.get H.nx = qac z (l ++ x) ∧ Fm (In v) H H' ∧ H'.nx = H.nx + 1 := by
 have hlen : (l ++ x).length = (n + k) * z := by rw [List.length_append, h.len, hx, Nat.add_mul]
 have fin : ∀ H1 : Hp, H1.nx = H.nx → Fm (In v) H H1 → qbb z w H v (some ⟨k, x⟩) = .ok (.sl H1.nx 0 (n + k) (n + k) false) (qaq H1 (qac z (l ++ x))) →
   ∃ H', qbb z w H v (some ⟨k, x⟩) = .ok (.sl H.nx 0 (n + k) (n + k) false) H' ∧ Gl z H' (.sl H.nx 0 (n + k) (n + k) false) (n + k) (l ++ x) ∧ H'.get H.nx = qac z (l ++ x) ∧ Fm (In v) H H' ∧ H'.nx = H.nx + 1 := by
  intro H1 e1 f1 e2
  refine ⟨_, by rw [e2, e1], ⟨hlen, .inr ⟨_, _, _, z, l ++ x, rfl, by rw [← e1, qby], Nat.zero_le _, List.drop_zero, .inr rfl, by rw [qaa, e1]; omega⟩⟩, by rw [← e1, qby], f1.push _, by rw [qaa, e1]⟩
 have bk : Nat.ble ((n + k) * w) bigB = true := Nat.ble_eq_true_of_le hb
 have bk2 : Nat.ble (n + k) bigB = true := Nat.ble_eq_true_of_le hb2
 rcases h.is with ⟨rfl, rfl⟩ | ⟨b, o, e, q, L, rfl, h1, h2, h3, h4, h5⟩
 ·have : l = [] := List.length_eq_zero_iff.1 (by rw [h.len]; simp)
  subst this
  refine fin H rfl (Fm.refl _ _) ?_
  show (bif Nat.beq k 0 then _ else bif Nat.ble (Nat.mul k w) bigB && Nat.ble k bigB then _ else _) = _
  rw [beq_eq, decide_eq_false (by omega)]
  rw [Nat.zero_add] at bk bk2
  show (bif Nat.ble (k * w) bigB && Nat.ble k bigB then _ else _) = _
  rw [bk, bk2, Nat.zero_add]; rfl
 ·have e0 : Nat.ble (n + k) n = false := by rw [ble_eq, decide_eq_false (by omega)]
  have hd : o + n * z = L.length := by have := h.len; rw [← h3, List.length_drop] at this; omega
  have rd : qd6 (H.get b) o (Nat.mul n z) = some l := by
   rw [h1, qmj, if_pos (by show o + n * z ≤ _; omega), h3, List.take_of_length_le (by rw [h.len]; exact Nat.le_refl _)]
  have main : ∀ (e : Bool) (H1 : Hp), H1 = (bif e then H else H.put b .dead) → (e = true ∨ q = z) → qbb z w H (.sl b o n n e) (some ⟨k, x⟩) = .ok (.sl H1.nx 0 (n + k) (n + k) false) (qaq H1 (qac z (l ++ x))) := by
   intro e H1 eH h4
   show (bif Nat.ble (n + k) n then _ else bif Nat.ble (Nat.mul (n + k) w) bigB && Nat.ble (n + k) bigB then (match qd6 (H.get b) o (Nat.mul n z) with | none => R1.bad | some old => bif e then _ else bif qoq (H.get b) (o + n * z) z then _ else _) else R1.bad) = _
   rw [e0, show Nat.mul (n + k) w = (n + k) * w from rfl, bk, bk2, rd]
   subst eH
   cases e with
   | true => rfl
   | false =>
    rcases h4 with h4 | h4
    ·cases h4
    ·have : qoq (H.get b) (o + n * z) z = true := by rw [h1, q18]; simp [hd, h4]
     simp only [cond_false, cond_true, Bool.and_self, this]; rfl
  refine fin (bif e then H else H.put b .dead) (by cases e <;> rfl) ?_ (main e _ rfl h4)
  cases e with
  | true => exact Fm.refl _ _
  | false => exact (Fm.refl _ _).put b _ fun _ => ⟨_, _, _, _, rfl⟩
theorem q0a (z : Nat) (H : Hp) (b o n m : Nat) (e : Bool) (q : Nat) (L : List AV) (h : H.get b = qac q L) (hl : o + n * z ≤ L.length) : qd3 z H (.sl b o n m e) = some ⟨n, (L.drop o).take (n * z)⟩ := by
 show (match qd6 (H.get b) o (Nat.mul n z) with | some l => some (Src.mk n l) | none => none) = _
 rw [h, qmj, if_pos (show o + Nat.mul n z ≤ L.length from hl)]; rfl
theorem qz9 (z : Nat) (H : Hp) (b o n m : Nat) (e : Bool) : qd3 z H (.sl b o n m e) = (match qd6 (H.get b) o (n * z) with | some l => some ⟨n, l⟩ | none => none) := id rfl
theorem Gl.head {n : Nat} {H : Hp} {v : AV} {x : AV} {l : List AV} (h : Gl 1 H v n (x :: l)) : ∃ b o, idxS 1 v (.int .i64 (.ofNat 0)) = .val (.ptr b o) ∧ b < H.nx ∧ In v b ∧ qbt (H.get b) o = .val x := by
 have hl := h.len
 rcases h.is with ⟨rfl, rfl⟩ | ⟨b, o, e, q, L, rfl, h1, h2, h3, h4, h5⟩
 ·simp at hl
 ·refine ⟨b, o, ?_, h5, ⟨_, _, _, _, rfl⟩, ?_⟩
  ·rw [qqk _ _ _ _ _ _ _ _ (by simp at hl; omega), Nat.zero_mul, Nat.add_zero]
  ·have : L[o]? = some x := by rw [← Nat.add_zero o, ← List.getElem?_drop, h3]; rfl
   rw [h1, qiq, this]
theorem Gl.tail {n : Nat} {H : Hp} {v : AV} {x : AV} {l : List AV} (h : Gl 1 H v (n + 1) (x :: l)) :
  ∃ w, qfc 1 v (some (.int .i64 (.ofNat 1))) none none = .val w ∧ Ev.lenSl w = .val (.int .i64 (.ofNat n)) ∧ (0 < n → Gl 1 H w n l) ∧ (∀ b, In w b → In v b) := by
 have hl := h.len
 rcases h.is with ⟨rfl, h0⟩ | ⟨b, o, e, q, L, rfl, h1, h2, h3, h4, h5⟩
 ·simp at h0
 ·have e1 : qfc 1 (.sl b o (n + 1) (n + 1) e) (some (.int .i64 (.ofNat 1))) none none = mkSl b o 1 ⟨1, n + 1, n + 1⟩ e := by
   show (match bounds (n + 1) (n + 1) (some (.int .i64 (.ofNat 1))) none none with | some bd => mkSl b o 1 bd e | none => R0.bad) = _
   have : bounds (n + 1) (n + 1) (some (.int .i64 (.ofNat 1))) none none = some ⟨1, n + 1, n + 1⟩ := by
    show (match (bif Nat.ble 1 (n + 1) then some 1 else none) with | none => none | some l => some (Bd.mk l (n + 1) (n + 1))) = _
    rw [ble_eq, decide_eq_true (by omega)]; rfl
   rw [this]
  rw [e1]
  unfold mkSl
  simp only [beq_eq]
  by_cases hn : n = 0
  ·subst hn
   cases e with
   | true => exact ⟨_, rfl, rfl, fun h => absurd h (Nat.lt_irrefl 0), fun c hc => by obtain ⟨o', n', m', e', h'⟩ := hc; cases h'; exact ⟨_, _, _, _, rfl⟩⟩
   | false => exact ⟨_, rfl, rfl, fun h => absurd h (Nat.lt_irrefl 0), fun c hc => by obtain ⟨o', n', m', e', h'⟩ := hc; cases h'⟩
  ·have hd : decide (n + 1 = 1) = false := by simp; exact hn
   rw [hd]
   refine ⟨.sl b (o + 1) n n e, by show R0.val (.sl b (o + 1 * 1) (n + 1 - 1) (n + 1 - 1) e) = _; rw [Nat.add_sub_cancel, Nat.one_mul], rfl, fun _ => ⟨?_, .inr ⟨b, o + 1, e, q, L, rfl, h1, ?_, ?_, h4, h5⟩⟩, fun c hc => by obtain ⟨o', n', m', e', h'⟩ := hc; cases h'; exact ⟨_, _, _, _, rfl⟩⟩
   ·simp at hl; omega
   ·have : (L.drop o).length = (x :: l).length := by rw [h3]
    rw [List.length_drop] at this; simp at this; omega
   ·rw [← List.drop_drop, h3]; rfl
theorem q3e (l v : List AV) (h : Tr (Nat.beq v.length l.length)) : setL l 0 v = v := by
 unfold Tr at h
 rw [beq_eq, decide_eq_true_iff] at h
 unfold setL
 simp [h]
theorem qrx (z : List AV) (w nm n : Nat) (h : n * w ≤ 1099511627776) (h2 : n ≤ 1099511627776) : qry z w nm (.int .i64 (.ofNat n)) (.int .i64 (.ofNat n)) = .new (.sl nm 0 n n true) (qac 0 (reps z n)) := by
 show (bif Nat.ble n n && Nat.ble (Nat.mul n w) bigB && Nat.ble n bigB then _ else _) = _
 rw [Nat.ble_eq_true_of_le (Nat.le_refl n), show Nat.mul n w = n * w from rfl, Nat.ble_eq_true_of_le (show n * w ≤ bigB from h), Nat.ble_eq_true_of_le (show n ≤ bigB from h2)]; rfl
theorem que (c : List AV) : qal c [] = some c := id rfl
theorem qth (c : List AV) (off size : Nat) (v : AV) (r : List (Nat × Nat × AV)) : qal c ((off, size, v) :: r) = match qh2 v with | some l => (match qq5 c off size l with | some c' => qal c' r | none => none) | none => none := id rfl
theorem qzd (k : IntKind) (n : Int) : qh2 (.int k n) = some [.int k n] := id rfl
theorem qwl (n : Bool) : qh2 (.bool n) = some [.bool n] := id rfl
theorem q2k (a b c d : Nat) (e : Bool) : qh2 (.sl a b c d e) = some [.sl a b c d e] := id rfl
theorem qvg : qh2 .nilsl = some [.nilsl] := id rfl
theorem qze (l : List AV) : qh2 (.agg l) = some l := id rfl
theorem qyg (c : List AV) (off size : Nat) (v : List AV) : qq5 c off size v = bif Nat.beq v.length size && Nat.ble (off + size) c.length then some (c.take off ++ v ++ c.drop (off + size)) else none := id rfl
theorem q9c (l : List AV) : reps l 1 = l ++ [] := id rfl
theorem q9b (l : List AV) : reps l 2 = l ++ (l ++ []) := id rfl
theorem q9a (l : List AV) : reps l 3 = l ++ (l ++ (l ++ [])) := id rfl
attribute [go_sem] que qth qzd qwl q2k qvg qze qyg q9c q9b q9a ble_eq qor beq_eq List.append_nil List.nil_append List.cons_append q15
attribute [go_sem] q3e qz9 vE_t q75 q7g dq_t dq_f vD_q vD_l q8w de_f zay qzw qya q47 q2u q2d qy5 q2c qy4 qzr qx8 q0g q7w q4m zas q14 q7v zal Bool.and_true Bool.true_and Bool.and_self
end Go.Di
end
noncomputable section
namespace Go.Di
open Go.Ev
structure Lnk (c d : Ev.Call) : Prop where
 law13_R_Of : ∀ (x0 : AV) (H : Hp), c (.f qjw) [x0] H = Di.law13_R_Of d x0 H
 law19_Nodes : ∀ (x0 : AV) (H : Hp), c (.f qil) [x0] H = Di.law19_Nodes d x0 H
 ref19_Leaves : ∀ (x0 : AV) (H : Hp), c (.f qh0) [x0] H = Di.ref19_Leaves d x0 H
 law19_Objects : ∀ (x0 : AV) (H : Hp), c (.f qfq) [x0] H = Di.law19_Objects d x0 H
 tables_Sets : ∀ (x0 x1 : AV) (H : Hp), c (.f qd7) [x0, x1] H = Di.tables_Sets d x0 x1 H
 ref19_Sets : ∀ (x0 x1 : AV) (H : Hp), c (.f qju) [x0, x1] H = Di.ref19_Sets d x0 x1 H
 law19_objects : ∀ (x0 x1 : AV) (H : Hp), c (.f qhe) [x0, x1] H = Di.law19_objects d x0 x1 H
 ref19_Has : ∀ (x0 x1 : AV) (H : Hp), c (.f qgg) [x0, x1] H = Di.ref19_Has d x0 x1 H
 tables_Eval : ∀ (x0 x1 : AV) (H : Hp), c (.f qft) [x0, x1] H = Di.tables_Eval d x0 x1 H
 ref13_Eval : ∀ (x0 x1 x2 : AV) (H : Hp), c (.f qff) [x0, x1, x2] H = Di.ref13_Eval d x0 x1 x2 H
 law13_build : ∀ (x0 x1 x2 : AV) (H : Hp), c (.f qg7) [x0, x1, x2] H = Di.law13_build d x0 x1 x2 H
 ref19_Flat : ∀ (x0 : AV) (H : Hp), c (.f qh1) [x0] H = Di.ref19_Flat d x0 H
 ref13_Nodes : ∀ (x0 x1 x2 : AV) (H : Hp), c (.f qd8) [x0, x1, x2] H = Di.ref13_Nodes d x0 x1 x2 H
 tables_Check : ∀ (x0 : AV) (H : Hp), c (.f qgf) [x0] H = Di.tables_Check d x0 H
 tables_leaves : ∀ (x0 : AV) (H : Hp), c (.f qfp) [x0] H = Di.tables_leaves d x0 H
 tables_compare : ∀ (x0 x1 : AV) (H : Hp), c (.f qd9) [x0, x1] H = Di.tables_compare d x0 x1 H
 tables_chosen : ∀ (x0 : AV) (H : Hp), c (.f qer) [x0] H = Di.tables_chosen d x0 H
 tables_Sets_1 : ∀ (x0 x1 : AV) (H : Hp), c (.f qcu) [x0, x1] H = Di.tables_Sets_1 d x0 x1 H
 tables_Sets_2 : ∀ (x0 x1 : AV) (H : Hp), c (.f qct) [x0, x1] H = Di.tables_Sets_2 d x0 x1 H
 tables_Sets_3 : ∀ (x0 x1 : AV) (H : Hp), c (.f qdt) [x0, x1] H = Di.tables_Sets_3 d x0 x1 H
 tables_fold_api_Object : ∀ (x0 x1 x2 x3 : AV) (H : Hp), c (.f qbo) [x0, x1, x2, x3] H = Di.tables_fold_api_Object d x0 x1 x2 x3 H
 slices_Clone_api_Object_api_Object : ∀ (x0 : AV) (H : Hp), c (.f qbe) [x0] H = Di.slices_Clone_api_Object_api_Object d x0 H
 slices_Clip_api_Object_api_Object : ∀ (x0 : AV) (H : Hp), c (.f qbh) [x0] H = Di.slices_Clip_api_Object_api_Object d x0 H
 ref19_Put : ∀ (x0 x1 : AV) (H : Hp), c (.f qlb) [x0, x1] H = Di.ref19_Put d x0 x1 H
 tables_Eval_1 : ∀ (x0 x1 : AV) (H : Hp), c (.f qdw) [x0, x1] H = Di.tables_Eval_1 d x0 x1 H
 tables_Eval_2 : ∀ (x0 x1 : AV) (H : Hp), c (.f qdv) [x0, x1] H = Di.tables_Eval_2 d x0 x1 H
 tables_Eval_3 : ∀ (x0 x1 : AV) (H : Hp), c (.f qdu) [x0, x1] H = Di.tables_Eval_3 d x0 x1 H
 tables_fold_bool : ∀ (x0 x1 x2 x3 : AV) (H : Hp), c (.f qde) [x0, x1, x2, x3] H = Di.tables_fold_bool d x0 x1 x2 x3 H
 law13_name : ∀ (x0 : AV) (H : Hp), c (.f qgm) [x0] H = Di.law13_name d x0 H
 tables_build : ∀ (x0 x1 : AV) (H : Hp), c (.f qge) [x0, x1] H = Di.tables_build d x0 x1 H
 rules_Check : ∀ (x0 : AV) (H : Hp), c (.f qfu) [x0] H = Di.rules_Check d x0 H
 rules_Flat : ∀ (x0 : AV) (H : Hp), c (.f qjt) [x0] H = Di.rules_Flat d x0 H
 rules_Same : ∀ (x0 x1 : AV) (H : Hp), c (.f qjs) [x0, x1] H = Di.rules_Same d x0 x1 H
 tables_spaces : ∀ (x0 : AV) (H : Hp), c (.f qhd) [x0] H = Di.tables_spaces d x0 H
 cmp_Compare_string : ∀ (x0 x1 : AV) (H : Hp), c (.f qci) [x0, x1] H = Di.cmp_Compare_string d x0 x1 H
 cmp_Or_int : ∀ (x0 : AV) (H : Hp), c (.f qjx) [x0] H = Di.cmp_Or_int d x0 H
 tables_chosen_1 : ∀ (x0 x1 x2 : AV) (H : Hp), c (.f qb6) [x0, x1, x2] H = Di.tables_chosen_1 d x0 x1 x2 H
 ref19_Less : ∀ (x0 x1 : AV) (H : Hp), c (.f qjv) [x0, x1] H = Di.ref19_Less d x0 x1 H
 slices_Clip_api_Rule_api_Rule : ∀ (x0 : AV) (H : Hp), c (.f qbd) [x0] H = Di.slices_Clip_api_Rule_api_Rule d x0 H
 rules_walk : ∀ (x0 : AV) (H : Hp), c (.f qgl) [x0] H = Di.rules_walk d x0 H
 rules_flat : ∀ (x0 : AV) (H : Hp), c (.f qhz) [x0] H = Di.rules_flat d x0 H
 slices_EqualFunc_rules_Node_rules_Node_rules_Node_rules_Node : ∀ (x0 x1 x2 : AV) (H : Hp), c (.f qam) [x0, x1, x2] H = Di.slices_EqualFunc_rules_Node_rules_Node_rules_Node_rules_Node d x0 x1 x2 H
 rules_Same_1 : ∀ (x0 x1 : AV) (H : Hp), c (.f qe8) [x0, x1] H = Di.rules_Same_1 d x0 x1 H
 slices_Contains_string_string : ∀ (x0 x1 : AV) (H : Hp), c (.f qbu) [x0, x1] H = Di.slices_Contains_string_string d x0 x1 H
 cmp_isNaN_string : ∀ (x0 : AV) (H : Hp), c (.f qbx) [x0] H = Di.cmp_isNaN_string d x0 H
 rules_walk_1 : ∀ (x0 x1 x2 x3 x4 x5 x6 : AV) (H : Hp), c (.f qdj) [x0, x1, x2, x3, x4, x5, x6] H = Di.rules_walk_1 d x0 x1 x2 x3 x4 x5 x6 H
 slices_Clip_rules_Node_rules_Node : ∀ (x0 : AV) (H : Hp), c (.f qbg) [x0] H = Di.slices_Clip_rules_Node_rules_Node d x0 H
 slices_Index_string_string : ∀ (x0 x1 : AV) (H : Hp), c (.f qdx) [x0, x1] H = Di.slices_Index_string_string d x0 x1 H
 rules_alone : ∀ (x0 : AV) (H : Hp), c (.f qik) [x0] H = Di.rules_alone d x0 H
 slices_Clip_int_int : ∀ (x0 : AV) (H : Hp), c (.f qej) [x0] H = Di.slices_Clip_int_int d x0 H
abbrev qbi (C : Nat → Ev.Call) : Prop := ∀ k, Lnk (C (k + 1)) (C k)
theorem qas : qaz = 1000000 := rfl
attribute [go_sem] qla qdo qk9 qdn qk8 qdm qkn qdb qkm qda qkl qc9 qkk qc8 qkj qc7 qki qc0 qkg qcz qkf qcy qkd qcx
end Go.Di
end
noncomputable section
namespace Go.Di
open Go.Ev
theorem Gl.atN {z n : Nat} {H : Hp} {v : AV} {l : List AV} (h : Gl z H v n l) {i : Nat} (hi : i < n) : ∃ b o, idxS z v (.int .i64 (.ofNat i)) = .val (.ptr b o) ∧ b < H.nx ∧ In v b ∧ qd6 (H.get b) o z = some ((l.drop (i * z)).take z) ∧ ∀ (j : Nat), j < z → qbt (H.get b) (o + j) = .val (l.getD (i * z + j) .undef) := by
 have hl := h.len
 rcases h.is with ⟨rfl, rfl⟩ | ⟨b, o, e, q, L, rfl, h1, h2, h3, h4, h5⟩
 ·omega
 ·have hm : i * z + z ≤ n * z := by
   have : (i + 1) * z ≤ n * z := Nat.mul_le_mul_right z hi
   rw [Nat.add_mul, Nat.one_mul] at this; exact this
  have hL : o + n * z = L.length := by rw [← h3, List.length_drop] at hl; omega
  refine ⟨b, o + i * z, qqk _ _ _ _ _ _ _ _ hi, h5, ⟨_, _, _, _, rfl⟩, ?_, fun j hj => ?_⟩
  ·rw [h1, qmj, if_pos (by omega), ← List.drop_drop, h3]
  ·rw [h1, qiq]
   have : L[o + i * z + j]? = l[i * z + j]? := by rw [← h3, List.getElem?_drop]; congr 1; omega
   rw [this, List.getElem?_eq_getElem (by omega)]
   simp [List.getD_eq_getElem?_getD, show i * z + j < l.length by omega]
structure Rs {α : Type} (z : Nat) (f : α → List AV) (H : Hp) (v : AV) (l : List α) : Prop where
 len : lenSl v = .val (.int .i64 (.ofNat l.length))
 at' : ∀ i (h : i < l.length), ∃ b o, idxS z v (.int .i64 (.ofNat i)) = .val (.ptr b o) ∧ b < H.nx ∧ In v b ∧ qd6 (H.get b) o z = some (f l[i]) ∧ ∀ j (h : j < (f l[i]).length), qbt (H.get b) (o + j) = .val (f l[i])[j]
theorem Rs.fmS {α : Type} {z : Nat} {f : α → List AV} {S : Nat → Prop} {H H' : Hp} {v : AV} {l : List α} (h : Rs z f H v l) (a : Fm S H H') (hs : ∀ b, In v b → ¬ S b) : Rs z f H' v l := ⟨h.len, fun i hi => by
 obtain ⟨b, o, h1, h2, h5, h3, h4⟩ := h.at' i hi
 have e := a.get b h2 (hs b h5)
 exact ⟨b, o, h1, Nat.lt_of_lt_of_le h2 a.nx, h5, by rw [e]; exact h3, fun j hj => by rw [e]; exact h4 j hj⟩⟩
theorem Rs.fm {α : Type} {z : Nat} {f : α → List AV} {H H' : Hp} {v : AV} {l : List α} (h : Rs z f H v l) (a : Fm No H H') : Rs z f H' v l := h.fmS a fun _ _ h => h
structure Ac {α : Type} (z : Nat) (f : α → List AV) (H0 H : Hp) (v : AV) (l : List α) : Prop where
 gl : Gl z H v l.length (l.flatMap f)
 fm : Fm No H0 H
 nw : ∀ b, In v b → H0.nx ≤ b
theorem Ac.nil {α : Type} (z : Nat) (f : α → List AV) {H0 H : Hp} (h : Fm No H0 H) : Ac z f H0 H .nilsl ([] : List α) := ⟨Gl.nil z H, h, fun b hb => by obtain ⟨_, _, _, _, h⟩ := hb; cases h⟩
theorem Ac.no {α : Type} {z : Nat} {f : α → List AV} {H0 H H' : Hp} {v : AV} {l : List α} (h : Ac z f H0 H v l) (a : Fm No H H') : Ac z f H0 H' v l := ⟨h.gl.no a, h.fm.trans a, h.nw⟩
theorem Ac.lenV {α : Type} {z : Nat} {f : α → List AV} {H0 H : Hp} {v : AV} {l : List α} (h : Ac z f H0 H v l) : lenSl v = .val (.int .i64 (.ofNat l.length)) := h.gl.lenV
theorem Ac.add {α : Type} {z : Nat} {f : α → List AV} {H0 H : Hp} {v : AV} {l : List α} (h : Ac z f H0 H v l) (x : α) (w : Nat) (hx : (f x).length = z) (hb : (l.length + 1) * w ≤ 1099511627776) (hb2 : l.length + 1 ≤ 1099511627776) :
  Ok (qbb z w H v (some ⟨1, f x⟩)) fun v' H' => Ac z f H0 H' v' (l ++ [x]) := by
 obtain ⟨H', e, gl', _, fm', nx'⟩ := h.gl.append (k := 1) (w := w) (x := f x) (by omega) (by omega) hb hb2
 refine ⟨_, H', e, ?_, h.fm.then fm' fun c hc hi => by have := h.nw c hi; omega, fun b hb => ?_⟩
 ·rw [List.length_append, List.flatMap_append, List.flatMap_singleton]; exact gl'
 ·obtain ⟨_, _, _, _, h'⟩ := hb
  cases h'
  exact h.fm.nx
theorem qwd {α : Type} {z : Nat} {f : α → List AV} (hf : ∀ x, (f x).length = z) : ∀ (l : List α) (i : Nat) (h : i < l.length), ((l.flatMap f).drop (i * z)).take z = f l[i]
 | [], _, h => by simp at h
 | a :: l, 0, _ => by
  rw [Nat.zero_mul, List.drop_zero, List.flatMap_cons, List.take_left' (hf a)]; rfl
 | a :: l, i + 1, h => by
  rw [List.flatMap_cons, Nat.add_mul, Nat.one_mul, Nat.add_comm, ← List.drop_drop, List.drop_left' (hf a)]
  exact qwd hf l i (by simpa using h)
theorem Gl.rs {α : Type} {z : Nat} {f : α → List AV} (hf : ∀ x, (f x).length = z) {H : Hp} {v : AV} {l : List α} (h : Gl z H v l.length (l.flatMap f)) : Rs z f H v l := ⟨h.lenV, fun i hi => by
 obtain ⟨b, o, e1, e2, e3, e4, e5⟩ := h.atN hi
 rw [qwd hf l i hi] at e4
 refine ⟨b, o, e1, e2, e3, e4, fun j hj => ?_⟩
 rw [e5 j (by rw [hf] at hj; exact hj)]
 have : (f l[i])[j]? = (l.flatMap f)[i * z + j]? := by
  rw [← qwd hf l i hi, List.getElem?_take, if_pos (by rw [hf] at hj; exact hj), List.getElem?_drop]
 rw [List.getElem?_eq_getElem hj] at this
 rw [List.getD_eq_getElem?_getD, ← this]; rfl⟩
theorem Ac.rs {α : Type} {z : Nat} {f : α → List AV} (hf : ∀ x, (f x).length = z) {H0 H : Hp} {v : AV} {l : List α} (h : Ac z f H0 H v l) : Rs z f H v l := h.gl.rs hf
theorem Gl.lt {z n : Nat} {H : Hp} {v : AV} {l : List AV} (h : Gl z H v n l) {b : Nat} (hb : In v b) : b < H.nx := by
 obtain ⟨o, n', m, e, rfl⟩ := hb
 rcases h.is with ⟨h1, _⟩ | ⟨b', o', e', q, L, h1, _, _, _, _, h5⟩
 ·cases h1
 ·cases h1; exact h5
structure AcS {α : Type} (z : Nat) (f : α → List AV) (S : Nat → Prop) (H0 H : Hp) (v : AV) (l : List α) : Prop where
 gl : Gl z H v l.length (l.flatMap f)
 fm : Fm S H0 H
 nw : ∀ b, In v b → S b ∨ H0.nx ≤ b
theorem AcS.no {α : Type} {z : Nat} {f : α → List AV} {S : Nat → Prop} {H0 H H' : Hp} {v : AV} {l : List α} (h : AcS z f S H0 H v l) (a : Fm No H H') : AcS z f S H0 H' v l := ⟨h.gl.no a, h.fm.then a fun _ _ h => absurd h id, h.nw⟩
theorem AcS.lenV {α : Type} {z : Nat} {f : α → List AV} {S : Nat → Prop} {H0 H : Hp} {v : AV} {l : List α} (h : AcS z f S H0 H v l) : lenSl v = .val (.int .i64 (.ofNat l.length)) := h.gl.lenV
theorem AcS.add {α : Type} {z : Nat} {f : α → List AV} {S : Nat → Prop} {H0 H : Hp} {v : AV} {l : List α} (h : AcS z f S H0 H v l) (x : α) (w : Nat) (hx : (f x).length = z) (hb : (l.length + 1) * w ≤ 1099511627776) (hb2 : l.length + 1 ≤ 1099511627776) :
  Ok (qbb z w H v (some ⟨1, f x⟩)) fun v' H' => AcS z f S H0 H' v' (l ++ [x]) := by
 obtain ⟨H', e, gl', _, fm', nx'⟩ := h.gl.append (k := 1) (w := w) (x := f x) (by omega) (by omega) hb hb2
 refine ⟨_, H', e, ?_, h.fm.then fm' fun c hc hi => ?_, fun b hb => ?_⟩
 ·rw [List.length_append, List.flatMap_append, List.flatMap_singleton]; exact gl'
 ·rcases h.nw c hi with h | h
  ·exact h
  ·omega
 ·obtain ⟨_, _, _, _, h'⟩ := hb
  cases h'
  exact .inr h.fm.nx
theorem Ac.start {α : Type} {z : Nat} {f : α → List AV} {H0 H : Hp} {v : AV} {l : List α} (h : Ac z f H0 H v l) : AcS z f (In v) H H v l := ⟨h.gl, Fm.refl _ _, fun _ h => .inl h⟩
theorem Ac.old {α : Type} {z : Nat} {f : α → List AV} {H0 H H' : Hp} {v : AV} {l : List α} (h : Ac z f H0 H v l) (a : Fm (In v) H H') : Fm No H0 H' := h.fm.then a fun c hc hi => by have := h.nw c hi; omega
theorem Ac.fin {α : Type} {z : Nat} {f : α → List AV} {H0 H H' : Hp} {v v' : AV} {l l' : List α} (h : Ac z f H0 H v l) (h' : AcS z f (In v) H H' v' l') : Ac z f H0 H' v' l' := ⟨h'.gl, h.old h'.fm, fun b hb => by
 rcases h'.nw b hb with h1 | h1
 ·exact h.nw b h1
 ·exact Nat.le_trans h.fm.nx h1⟩
end Go.Di
end
noncomputable section
namespace Go.Di
open Go.Ev
structure SS where
 n : Nat
 a : Nat
 deriving DecidableEq
def SS.v (s : SS) : AV := .str s.n s.a
def sE : SS := ⟨0, 0⟩
theorem ss_eq (x y : SS) : x = y ↔ x.n = y.n ∧ x.a = y.a := by
 cases x; cases y; simp
end Go.Di
end
noncomputable section
namespace Go.Di
open Go.Ev
inductive Fo where
 | nil
 | cons (k : Nat) (rl to : SS) (a r : Fo)
namespace Fo
def len : Fo → Nat
 | nil => 0
 | cons _ _ _ _ r => r.len + 1
def size : Fo → Nat
 | nil => 0
 | cons _ _ _ a r => a.size + 1 + r.size
def depth : Fo → Nat
 | nil => 0
 | cons _ _ _ a r => max (a.depth + 1) r.depth
def lv : Fo → Nat
 | nil => 0
 | cons k _ _ a r => (if k < 4 then 1 else a.lv) + r.lv
def app : Fo → Fo → Fo
 | nil, g => g
 | cons k rl to a r, g => cons k rl to a (r.app g)
def spl (k : Nat) : Fo → Fo
 | nil => nil
 | cons k' rl to a r => if k' = k ∧ (k = 4 ∨ k = 5) then a.app (spl k r) else cons k' rl to a (spl k r)
def flat : Fo → Fo
 | nil => nil
 | cons k rl to a r => cons k rl to (spl k a.flat) r.flat
def no (k : Nat) : Fo → Prop
 | nil => True
 | cons k' _ _ _ r => ¬ (k' = k ∧ (k = 4 ∨ k = 5)) ∧ r.no k
def isFl : Fo → Prop
 | nil => True
 | cons k _ _ a r => a.no k ∧ a.isFl ∧ r.isFl
def Rt (N : SS → Prop) : Fo → Prop
 | nil => True
 | cons k rl to a r => ((k = 1 ∧ rl = sE ∧ to = sE ∧ a = nil) ∨ (k = 2 ∧ N rl ∧ to = sE ∧ a = nil) ∨ (k = 3 ∧ N rl ∧ N to ∧ a = nil) ∨ (k = 4 ∧ rl = sE ∧ to = sE ∧ 2 ≤ a.len) ∨ (k = 5 ∧ rl = sE ∧ to = sE ∧ 2 ≤ a.len) ∨ (k = 6 ∧ rl = sE ∧ to = sE ∧ a.len = 2)) ∧ a.Rt N ∧ r.Rt N
theorem app_nil : ∀ f : Fo, f.app nil = f
 | nil => rfl
 | cons k rl to a r => by rw [app, app_nil r]
theorem app_len : ∀ f g : Fo, (f.app g).len = f.len + g.len
 | nil, g => by simp [app, len]
 | cons k rl to a r, g => by simp only [app, len, app_len r g]; omega
theorem app_size : ∀ f g : Fo, (f.app g).size = f.size + g.size
 | nil, g => by simp [app, size]
 | cons k rl to a r, g => by simp only [app, size, app_size r g]; omega
theorem app_depth : ∀ f g : Fo, (f.app g).depth = max f.depth g.depth
 | nil, g => by simp [app, depth]
 | cons k rl to a r, g => by simp only [app, depth, app_depth r g]; omega
theorem q52 : ∀ f g : Fo, (f.app g).lv = f.lv + g.lv
 | nil, g => by simp [app, lv]
 | cons k rl to a r, g => by simp only [app, lv, q52 r g]; omega
theorem q51 (k : Nat) : ∀ f g : Fo, (f.app g).no k ↔ f.no k ∧ g.no k
 | nil, g => by simp [app, no]
 | cons k' rl to a r, g => by simp only [app, no, q51 k r g]; exact ⟨fun ⟨a, b, c⟩ => ⟨⟨a, b⟩, c⟩, fun ⟨⟨a, b⟩, c⟩ => ⟨a, b, c⟩⟩
theorem q53 : ∀ f g : Fo, (f.app g).isFl ↔ f.isFl ∧ g.isFl
 | nil, g => by simp [app, isFl]
 | cons k rl to a r, g => by simp only [app, isFl, q53 r g]; exact ⟨fun ⟨a, b, c, d⟩ => ⟨⟨a, b, c⟩, d⟩, fun ⟨⟨a, b, c⟩, d⟩ => ⟨a, b, c, d⟩⟩
theorem app_rt (N : SS → Prop) : ∀ f g : Fo, (f.app g).Rt N ↔ f.Rt N ∧ g.Rt N
 | nil, g => by simp [app, Rt]
 | cons k rl to a r, g => by simp only [app, Rt, app_rt N r g]; exact ⟨fun ⟨a, b, c, d⟩ => ⟨⟨a, b, c⟩, d⟩, fun ⟨⟨a, b, c⟩, d⟩ => ⟨a, b, c, d⟩⟩
theorem spl_size (k : Nat) : ∀ f : Fo, (spl k f).size ≤ f.size
 | nil => Nat.le_refl _
 | cons k' rl to a r => by
  have := spl_size k r
  unfold spl
  split
  ·rw [app_size]; simp only [size]; omega
  ·simp only [size]; omega
theorem quc (k : Nat) : ∀ f : Fo, (spl k f).depth ≤ f.depth
 | nil => Nat.le_refl _
 | cons k' rl to a r => by
  have := quc k r
  unfold spl
  split
  ·rw [app_depth]; simp only [depth]; omega
  ·simp only [depth]; omega
theorem flat_size : ∀ f : Fo, f.flat.size ≤ f.size
 | nil => Nat.le_refl _
 | cons k rl to a r => by
  have := flat_size a; have := flat_size r; have := spl_size k a.flat
  simp only [flat, size]; omega
theorem flat_depth : ∀ f : Fo, f.flat.depth ≤ f.depth
 | nil => Nat.le_refl _
 | cons k rl to a r => by
  have := flat_depth a; have := flat_depth r; have := quc k a.flat
  simp only [flat, depth]; omega
theorem flat_len : ∀ f : Fo, f.flat.len = f.len
 | nil => rfl
 | cons k rl to a r => by simp only [flat, len, flat_len r]
theorem q5i (k : Nat) : ∀ f : Fo, f.isFl → (spl k f).isFl ∧ (spl k f).no k
 | nil, _ => ⟨trivial, trivial⟩
 | cons k' rl to a r, ⟨h1, h2, h3⟩ => by
  obtain ⟨i1, i2⟩ := q5i k r h3
  unfold spl
  split
  ·next h => exact ⟨(q53 _ _).2 ⟨h2, i1⟩, (q51 _ _ _).2 ⟨h.1 ▸ h1, i2⟩⟩
  ·next h => exact ⟨⟨h1, h2, i1⟩, h, i2⟩
theorem flat_fl : ∀ f : Fo, f.flat.isFl
 | nil => trivial
 | cons k rl to a r => by
  obtain ⟨h1, h2⟩ := q5i k _ (flat_fl a)
  exact ⟨h2, h1, flat_fl r⟩
theorem qwy (k : Nat) : ∀ f : Fo, f.no k → spl k f = f
 | nil, _ => rfl
 | cons k' rl to a r, ⟨h1, h2⟩ => by unfold spl; rw [if_neg h1, qwy k r h2]
theorem flat_flat : ∀ f : Fo, f.isFl → f.flat = f
 | nil, _ => rfl
 | cons k rl to a r, ⟨h1, h2, h3⟩ => by rw [flat, flat_flat a h2, flat_flat r h3, qwy k a h1]
theorem spl_rt (N : SS → Prop) (k : Nat) : ∀ f : Fo, f.Rt N → (spl k f).Rt N ∧ f.len ≤ (spl k f).len
 | nil, _ => ⟨trivial, Nat.le_refl _⟩
 | cons k' rl to a r, ⟨h1, h2, h3⟩ => by
  obtain ⟨i1, i2⟩ := spl_rt N k r h3
  unfold spl
  split
  ·next h =>
   refine ⟨(app_rt _ _ _).2 ⟨h2, i1⟩, ?_⟩
   rw [app_len]; simp only [len]
   rcases h1 with h1 | h1 | h1 | h1 | h1 | h1 <;> omega
  ·exact ⟨⟨h1, h2, i1⟩, by simp only [len]; omega⟩
theorem flat_rt (N : SS → Prop) : ∀ f : Fo, f.Rt N → f.flat.Rt N
 | nil, _ => trivial
 | cons k rl to a r, ⟨h1, h2, h3⟩ => by
  have i1 := flat_rt N a h2
  have i2 := flat_rt N r h3
  obtain ⟨j1, j2⟩ := spl_rt N k _ i1
  rw [flat_len] at j2
  refine ⟨?_, j1, i2⟩
  have h6 : k = 6 → spl k a.flat = a.flat := fun h => qwy k _ (by
   subst h
   generalize a.flat = g
   induction g with
   | nil => trivial
   | cons _ _ _ _ _ _ ih => exact ⟨by omega, ih⟩)
  rcases h1 with ⟨rfl, h1, h4, rfl⟩ | ⟨rfl, h1, h4, rfl⟩ | ⟨rfl, h1, h4, rfl⟩ | ⟨rfl, h1, h4, h5⟩ | ⟨rfl, h1, h4, h5⟩ | ⟨rfl, h1, h4, h5⟩
  ·exact .inl ⟨rfl, h1, h4, rfl⟩
  ·exact .inr (.inl ⟨rfl, h1, h4, rfl⟩)
  ·exact .inr (.inr (.inl ⟨rfl, h1, h4, rfl⟩))
  ·exact .inr (.inr (.inr (.inl ⟨rfl, h1, h4, by omega⟩)))
  ·exact .inr (.inr (.inr (.inr (.inl ⟨rfl, h1, h4, by omega⟩))))
  ·exact .inr (.inr (.inr (.inr (.inr ⟨rfl, h1, h4, by rw [h6 rfl, flat_len]; exact h5⟩))))
def cmb (k : Nat) : List Bool → Bool
 | [] => false
 | x :: l => if k = 4 then x || l.any id else if k = 5 then x && l.all id else x && !l.any id
def vals (v : Nat → Bool) : Fo → Nat → List Bool
 | nil, _ => []
 | cons k _ _ a r, c => (if k < 4 then v c else cmb k (vals v a c)) :: vals v r (c + if k < 4 then 1 else a.lv)
theorem vals_len (v : Nat → Bool) : ∀ (f : Fo) (c : Nat), (vals v f c).length = f.len
 | nil, _ => rfl
 | cons k rl to a r, c => by rw [vals, List.length_cons, vals_len v r, len]
theorem qte (v : Nat → Bool) : ∀ (f g : Fo) (c : Nat), vals v (f.app g) c = vals v f c ++ vals v g (c + f.lv)
 | nil, g, c => rfl
 | cons k rl to a r, g, c => by rw [app, vals, qte v r g, vals, lv, List.cons_append, Nat.add_assoc]
theorem cmb4 : ∀ l : List Bool, cmb 4 l = l.any id
 | [] => rfl
 | x :: l => rfl
theorem cmb5 : ∀ l : List Bool, l ≠ [] → cmb 5 l = l.all id
 | [], h => absurd rfl h
 | x :: l, _ => rfl
theorem q0b (N : SS → Prop) (k : Nat) : ∀ f : Fo, f.Rt N → (spl k f).lv = f.lv
 | nil, _ => rfl
 | cons k' rl to a r, ⟨_, h2, h3⟩ => by
  have := q0b N k r h3
  unfold spl
  split
  ·next h => rw [q52, this, lv, if_neg (by omega)]
  ·rw [lv, this, lv]
theorem q0c (N : SS → Prop) (v : Nat → Bool) : ∀ (f : Fo) (c : Nat), f.Rt N → (vals v (spl 4 f) c).any id = (vals v f c).any id
 | nil, _, _ => rfl
 | cons k' rl to a r, c, ⟨_, h2, h3⟩ => by
  have ih := fun c => q0c N v r c h3
  unfold spl
  split
  ·next h => rw [qte, List.any_append, ih, vals, if_neg (by omega), if_neg (by omega), h.1, cmb4]; rfl
  ·rw [vals, List.any_cons, ih, vals, List.any_cons]
theorem q0d (N : SS → Prop) (v : Nat → Bool) : ∀ (f : Fo) (c : Nat), f.Rt N → (vals v (spl 5 f) c).all id = (vals v f c).all id
 | nil, _, _ => rfl
 | cons k' rl to a r, c, ⟨h1, h2, h3⟩ => by
  have ih := fun c => q0d N v r c h3
  unfold spl
  split
  ·next h =>
   have hl : vals v a c ≠ [] := fun e => by
    have := congrArg List.length e
    rw [vals_len] at this
    simp only [List.length_nil] at this
    rcases h1 with h1 | h1 | h1 | h1 | h1 | h1 <;> omega
   rw [qte, List.all_append, ih, vals, if_neg (by omega), if_neg (by omega), h.1, cmb5 _ hl]; rfl
  ·rw [vals, List.all_cons, ih, vals, List.all_cons]
theorem flat_lv (N : SS → Prop) : ∀ f : Fo, f.Rt N → f.flat.lv = f.lv
 | nil, _ => rfl
 | cons k rl to a r, ⟨_, h2, h3⟩ => by rw [flat, lv, q0b N k _ (flat_rt N a h2), flat_lv N a h2, flat_lv N r h3, lv]
theorem flat_vals (N : SS → Prop) (v : Nat → Bool) : ∀ (f : Fo) (c : Nat), f.Rt N → vals v f.flat c = vals v f c
 | nil, _, _ => rfl
 | cons k rl to a r, c, ⟨h1, h2, h3⟩ => by
  have ia := flat_vals N v a c h2
  have ra := flat_rt N a h2
  rw [flat, vals, vals, q0b N k _ ra, flat_lv N a h2, flat_vals N v r _ h3]
  congr 1
  by_cases hk : k < 4
  ·rw [if_pos hk, if_pos hk]
  ·rw [if_neg hk, if_neg hk]
   by_cases h4 : k = 4
   ·subst h4
    rw [cmb4, cmb4, q0c N v _ _ ra, ia]
   by_cases h5 : k = 5
   ·subst h5
    obtain ⟨j1, j2⟩ := spl_rt N 5 _ ra
    rw [flat_len] at j2
    have hl : 2 ≤ a.len := by rcases h1 with h1 | h1 | h1 | h1 | h1 | h1 <;> omega
    have e1 : vals v (spl 5 a.flat) c ≠ [] := fun e => by
     have := congrArg List.length e
     rw [vals_len] at this
     simp only [List.length_nil] at this
     omega
    have e2 : vals v a c ≠ [] := fun e => by
     have := congrArg List.length e
     rw [vals_len] at this
     simp only [List.length_nil] at this
     omega
    rw [cmb5 _ e1, cmb5 _ e2, q0d N v _ _ ra, ia]
   ·have : ∀ f : Fo, spl k f = f := fun f => qwy k f (by
     induction f with
     | nil => trivial
     | cons _ _ _ _ _ _ ih => exact ⟨by omega, ih⟩)
    rw [this, ia]
def ixs : Fo → Nat → List Nat
 | nil, _ => []
 | cons _ _ _ a r, p => p :: ixs r (p + 1 + a.size)
theorem ixs_len : ∀ (f : Fo) (p : Nat), (ixs f p).length = f.len
 | nil, _ => rfl
 | cons _ _ _ a r, p => by rw [ixs, List.length_cons, ixs_len r, len]
end Fo
structure TN where
 k : Nat
 rl : SS
 to : SS
 args : List Nat
 leaf : Option Nat
namespace Fo
def nds : Fo → Nat → Nat → List TN
 | nil, _, _ => []
 | cons k rl to a r, p, c => ⟨k, rl, to, ixs a (p + 1), if k < 4 then some c else none⟩ :: (nds a (p + 1) c ++ nds r (p + 1 + a.size) (c + if k < 4 then 1 else a.lv))
theorem nds_len : ∀ (f : Fo) (p c : Nat), (nds f p c).length = f.size
 | nil, _, _ => rfl
 | cons k rl to a r, p, c => by rw [nds, List.length_cons, List.length_append, nds_len a, nds_len r, size]; omega
end Fo
end Go.Di
end
noncomputable section
namespace Go.Di
def mrg (f : Bool → Bool → Bool) : List Nat → List Nat → List Nat
 | [], [] => []
 | [], y :: b => (if f false true then [y] else []) ++ mrg f [] b
 | x :: a, [] => (if f true false then [x] else []) ++ mrg f a []
 | x :: a, y :: b => if x < y then (if f true false then [x] else []) ++ mrg f a (y :: b) else if y < x then (if f false true then [y] else []) ++ mrg f (x :: a) b else (if f true true then [x] else []) ++ mrg f a b
termination_by a b => a.length + b.length
theorem q5o (f : Bool → Bool → Bool) (h0 : f false false = false) (p q : Nat → Bool) : ∀ (n i : Nat), mrg f ((List.range' i n).filter p) ((List.range' i n).filter q) = (List.range' i n).filter fun x => f (p x) (q x)
 | 0, i => by simp [mrg]
 | n + 1, i => by
  have ih := q5o f h0 p q n (i + 1)
  have gt : ∀ (r : Nat → Bool) (y : Nat) (l : List Nat), (List.range' (i + 1) n).filter r = y :: l → i < y := fun r y l h => by
   have : y ∈ (List.range' (i + 1) n).filter r := by rw [h]; exact List.mem_cons_self
   have := (List.mem_filter.1 this).1
   rw [List.mem_range'] at this
   omega
  rw [List.range'_succ, List.filter_cons, List.filter_cons, List.filter_cons]
  cases hp : p i <;> cases hq : q i
  ·simp [h0, ih]
  ·simp only [Bool.false_eq_true, if_false, if_true]
   cases ha : (List.range' (i + 1) n).filter p with
   | nil => rw [ha] at ih; rw [mrg, ih]; cases f false true <;> simp
   | cons y l =>
    have := gt _ _ _ ha
    rw [ha] at ih
    rw [mrg, if_neg (by omega), if_pos this, ih]; cases f false true <;> simp
  ·simp only [Bool.false_eq_true, if_false, if_true]
   cases ha : (List.range' (i + 1) n).filter q with
   | nil => rw [ha] at ih; rw [mrg, ih]; cases f true false <;> simp
   | cons y l =>
    have := gt _ _ _ ha
    rw [ha] at ih
    rw [mrg, if_pos this, ih]; cases f true false <;> simp
  ·simp only [if_true]
   rw [mrg, if_neg (by omega), if_neg (by omega), ih]; cases f true true <;> simp
def dom (p : Nat → Bool) : List Nat := (List.range' 0 8).filter p
theorem q69 (f : Bool → Bool → Bool) (h0 : f false false = false) (p q : Nat → Bool) : mrg f (dom p) (dom q) = dom fun x => f (p x) (q x) := q5o f h0 p q 8 0
theorem qia {p : Nat → Bool} {x : Nat} : x ∈ dom p ↔ x < 8 ∧ p x = true := by
 unfold dom
 rw [List.mem_filter, List.mem_range']
 constructor
 ·rintro ⟨⟨i, h, rfl⟩, h2⟩; exact ⟨by omega, h2⟩
 ·rintro ⟨h, h2⟩; exact ⟨⟨x, h, by omega⟩, h2⟩
theorem qit {p q : Nat → Bool} (h : ∀ x, x < 8 → p x = q x) : dom p = dom q := by
 unfold dom
 refine List.filter_congr fun x hx => h x ?_
 rw [List.mem_range'] at hx
 omega
theorem qie (p : Nat → Bool) : (dom p).length ≤ 8 := by
 unfold dom
 exact Nat.le_trans (List.length_filter_le _ _) (by simp)
theorem zaz (p : Nat → Bool) : (dom p).Pairwise (· < ·) := by
 unfold dom
 exact List.Pairwise.filter _ List.pairwise_lt_range'
def insL (x : Nat) : List Nat → List Nat
 | [] => [x]
 | y :: l => if x < y then x :: y :: l else y :: insL x l
theorem q1n (p : Nat → Bool) (x : Nat) (hx : p x = false) : ∀ (n i : Nat), i ≤ x → x < i + n → insL x ((List.range' i n).filter p) = (List.range' i n).filter fun y => p y || decide (y = x)
 | 0, i, h1, h2 => by omega
 | n + 1, i, h1, h2 => by
  rw [List.range'_succ, List.filter_cons, List.filter_cons]
  by_cases he : i = x
  ·subst he
   rw [hx]
   simp only [Bool.false_eq_true, if_false, decide_true, Bool.or_true, if_true]
   have : ((List.range' (i + 1) n).filter fun y => p y || decide (y = i)) = (List.range' (i + 1) n).filter p := List.filter_congr fun y hy => by
    rw [List.mem_range'] at hy
    rw [decide_eq_false (by omega), Bool.or_false]
   rw [this]
   cases ha : (List.range' (i + 1) n).filter p with
   | nil => rfl
   | cons y l =>
    have : y ∈ (List.range' (i + 1) n).filter p := by rw [ha]; exact List.mem_cons_self
    have := (List.mem_filter.1 this).1
    rw [List.mem_range'] at this
    rw [insL, if_pos (by omega)]
  ·have ih := q1n p x hx n (i + 1) (by omega) (by omega)
   rw [decide_eq_false he, Bool.or_false]
   cases hp : p i
   ·simp only [Bool.false_eq_true, if_false]; exact ih
   ·simp only [if_true]
    rw [insL, if_neg (by omega), ih]
theorem q4a {p : Nat → Bool} {x : Nat} (hx : p x = false) (h : x < 8) : insL x (dom p) = dom fun y => p y || decide (y = x) := q1n p x hx 8 0 (Nat.zero_le _) (by omega)
def qqp (ps : List (Nat → Bool)) (x : Nat) : Bool := ps.any fun p => p x
def putL (l : List Nat) (x : Nat) : List Nat := if x ∈ l then l else insL x l
theorem q3r (p : Nat → Bool) (x : Nat) (h : x < 8) : putL (dom p) x = dom fun y => p y || decide (y = x) := by
 unfold putL
 cases hp : p x
 ·rw [if_neg (fun hh => by rw [(qia.1 hh).2] at hp; cases hp), q4a hp h]
 ·rw [if_pos (qia.2 ⟨h, hp⟩)]
  refine qit fun y hy => ?_
  by_cases he : y = x
  ·rw [he, hp]; rfl
  ·rw [decide_eq_false he, Bool.or_false]
theorem q2i (k : Nat) : ∀ l : List Bool, (∀ x ∈ l, x = false) → Fo.cmb k l = false
 | [], _ => rfl
 | x :: l, h => by
  have h1 := h x List.mem_cons_self
  subst h1
  have : l.any id = false := by
   rw [List.any_eq_false]
   intro y hy
   rw [h y (List.mem_cons_of_mem _ hy)]; simp
  show (if k = 4 then false || l.any id else if k = 5 then false && l.all id else false && !l.any id) = false
  rw [this]
  simp
theorem qpy (v : Nat → Bool) (N : SS → Prop) : ∀ (f : Fo) (c : Nat), f.Rt N → (∀ i, c ≤ i → i < c + f.lv → v i = false) → ∀ x ∈ f.vals v c, x = false
 | .nil, _, _, _, _, hx => by cases hx
 | .cons k rl to a r, c, ⟨h1, h2, h3⟩, h, x, hx => by
  rw [Fo.vals] at hx
  rw [Fo.lv] at h
  rcases List.mem_cons.1 hx with rfl | hx
  ·by_cases hk : k < 4
   ·rw [if_pos hk] at h ⊢
    exact h c (Nat.le_refl _) (by omega)
   ·rw [if_neg hk] at h ⊢
    exact q2i k _ (qpy v N a c h2 fun i i1 i2 => h i i1 (by omega))
  ·exact qpy v N r _ h3 (fun i i1 i2 => h i (by omega) (by omega)) x hx
def evB (v : Nat → Bool) (f : Fo) : Bool := (f.vals v 0).headD false
theorem q13 {v : Nat → Bool} {N : SS → Prop} {f : Fo} (hf : f.Rt N) (h : ∀ i, i < f.lv → v i = false) : evB v f = false := by
 unfold evB
 have := qpy v N f 0 hf fun i _ i2 => h i (by omega)
 cases hv : f.vals v 0 with
 | nil => rfl
 | cons x l => rw [hv] at this; exact this x List.mem_cons_self
theorem q8h {N : SS → Prop} {f : Fo} (hf : f.Rt N) (ps : List (Nat → Bool)) (hl : ps.length = f.lv) :
  (dom (qqp ps)).filter (fun x => evB (fun i => (ps.getD i fun _ => false) x) f) = dom fun x => evB (fun i => (ps.getD i fun _ => false) x) f := by
 unfold dom
 rw [List.filter_filter]
 refine List.filter_congr fun x _ => ?_
 cases h : qqp ps x
 ·unfold qqp at h
  rw [List.any_eq_false] at h
  rw [Bool.and_false]
  refine (q13 hf fun i hi => ?_).symm
  rw [List.getD_eq_getElem?_getD, List.getElem?_eq_getElem (by omega)]
  have := h _ (List.getElem_mem (show i < ps.length by omega))
  simpa using this
 ·rw [Bool.and_true]
end Go.Di
end
noncomputable section
namespace Go.Di
open Go.Ev
variable {C : Nat → Ev.Call}
theorem qzb (n a : Nat) : qh2 (.str n a) = some [.str n a] := id rfl
theorem q44 (n : Nat) (h : n < 256) : qmo .u8 (.ofNat n) = .ofNat n := by
 show (bif Nat.blt n 256 then _ else _) = _
 rw [qor, decide_eq_true h]; rfl
theorem q4x (x : Nat) (h : x < 256) : qy7 .i64 (.int .u8 (.ofNat x)) = .val (.int .i64 (.ofNat x)) := by
 show R0.val (.int .i64 (qmo .i64 (.ofNat x))) = _
 rw [qn9 _ (by omega)]
theorem q9h (a b : Nat) (h : 0 < b) (h2 : a < 256) : intV (qad .quo).f (.int .u8 (.ofNat a)) (.int .u8 (.ofNat b)) = .val (.int .u8 (.ofNat (a / b))) := by
 show (bif eqI (.ofNat b) 0 then R0.bad else .val (.int .u8 (qmo .u8 (Int.tdiv (.ofNat a) (.ofNat b))))) = _
 rw [qnc, decide_eq_false (by simp only [Int.ofNat_eq_natCast]; omega)]
 show R0.val (.int .u8 (qmo .u8 (.ofNat (a / b)))) = _
 rw [q44 _ (Nat.lt_of_le_of_lt (Nat.div_le_self _ _) h2)]
theorem qyc (H : Hp) (b o n a : Nat) : qcr H (.ptr b o) (.str n a) = storeAt H b o [.str n a] .undef := id rfl
theorem qz2 (H : Hp) (b o : Nat) (f : FuncId) (x y : List AV) : qcr H (.ptr b o) (.fn f x y) = storeAt H b o [.fn f x y] .undef := id rfl
theorem qn8 (call : Ev.Call) (f : FuncId) (c args : List AV) (H : Hp) : qom call (.fn f [] c) args H = call (.f f) (args ++ c) H := id rfl
theorem maxI (a b : Nat) : qo0 maxV (.int .i64 (.ofNat a)) [.int .i64 (.ofNat b)] = .val (.int .i64 (.ofNat (max a b))) := by
 show R0.val (.int .i64 (bif ltI (.ofNat a) (.ofNat b) then .ofNat b else .ofNat a)) = _
 rw [qnb]
 by_cases h : a < b
 ·rw [decide_eq_true (by simp only [Int.ofNat_eq_natCast]; omega), Nat.max_eq_right (by omega)]; rfl
 ·rw [decide_eq_false (by simp only [Int.ofNat_eq_natCast]; omega), Nat.max_eq_left (by omega)]; rfl
attribute [go_sem] qzb q4x q9h qyc qz2 qn8 maxI
structure Rl (H : Hp) (v : AV) (l : List AV) : Prop where
 len : lenSl v = .val (.int .i64 (.ofNat l.length))
 at' : ∀ i (h : i < l.length), ∃ b o, idxS 1 v (.int .i64 (.ofNat i)) = .val (.ptr b o) ∧ b < H.nx ∧ qbt (H.get b) o = .val l[i]
theorem Rl.fm {H H' : Hp} {v : AV} {l : List AV} (h : Rl H v l) (f : Fm No H H') : Rl H' v l := ⟨h.len, fun i hi => by
 obtain ⟨b, o, h1, h2, h3⟩ := h.at' i hi
 exact ⟨b, o, h1, Nat.lt_of_lt_of_le h2 f.nx, by rw [f.keep h2]; exact h3⟩⟩
def u8s (l : List Nat) : List AV := l.map fun x => .int .u8 (.ofNat x)
def FoC (P : Nat → Prop) (H : Hp) : Fo → List AV → Prop
 | .nil, cs => cs = []
 | .cons k rl to a r, cs => ∃ av ca cr, cs = .int .u8 (.ofNat k) :: rl.v :: to.v :: av :: cr ∧ Gl 4 H av a.len ca ∧ (∀ b, In av b → P b) ∧ FoC P H a ca ∧ FoC P H r cr
theorem FoC.fmS {P S : Nat → Prop} {H H' : Hp} (f : Fm S H H') (hs : ∀ b, P b → ¬ S b) : ∀ {g : Fo} {cs : List AV}, FoC P H g cs → FoC P H' g cs
 | .nil, _, h => h
 | .cons _ _ _ _ _, _, ⟨av, ca, cr, h1, h2, h3, h4, h5⟩ => ⟨av, ca, cr, h1, h2.fm f fun b hb => hs b (h3 b hb), h3, FoC.fmS f hs h4, FoC.fmS f hs h5⟩
theorem FoC.fm {P : Nat → Prop} {H H' : Hp} (f : Fm No H H') {g : Fo} {cs : List AV} (h : FoC P H g cs) : FoC P H' g cs := h.fmS f fun _ _ h => h
theorem FoC.mono {P Q : Nat → Prop} {H : Hp} (hq : ∀ b, b < H.nx → P b → Q b) : ∀ {g : Fo} {cs : List AV}, FoC P H g cs → FoC Q H g cs
 | .nil, _, h => h
 | .cons _ _ _ _ _, _, ⟨av, ca, cr, h1, h2, h3, h4, h5⟩ => ⟨av, ca, cr, h1, h2, fun b hb => hq b (h2.lt hb) (h3 b hb), FoC.mono hq h4, FoC.mono hq h5⟩
theorem FoC.len {P : Nat → Prop} {H : Hp} : ∀ {g : Fo} {cs : List AV}, FoC P H g cs → cs.length = g.len * 4
 | .nil, _, h => by rw [show _ = _ from h]; rfl
 | .cons _ _ _ _ _, _, ⟨av, ca, cr, h1, _, _, _, h5⟩ => by rw [h1]; have := FoC.len h5; simp [Fo.len, this]; omega
theorem FoC.app {P : Nat → Prop} {H : Hp} : ∀ {f g : Fo} {cs ds : List AV}, FoC P H f cs → FoC P H g ds → FoC P H (f.app g) (cs ++ ds)
 | .nil, _, _, _, h, h' => by rw [show _ = _ from h]; exact h'
 | .cons _ _ _ _ _, _, _, _, ⟨av, ca, cr, h1, h2, h3, h4, h5⟩, h' => ⟨av, ca, _, by rw [h1]; rfl, h2, h3, h4, FoC.app h5 h'⟩
structure GrF (X : Nat → Prop) (H0 H : Hp) (w : AV) (g : Fo) : Prop where
 ex : ∃ cs, Gl 4 H w g.len cs ∧ FoC (fun b => H0.nx ≤ b ∧ ¬ In w b ∧ ¬ X b) H g cs
 nw : ∀ b, In w b → H0.nx ≤ b ∧ ¬ X b
theorem notNil (b : Nat) : ¬ In .nilsl b := fun h => by obtain ⟨_, _, _, _, h⟩ := h; cases h
theorem GrF.nil (X : Nat → Prop) (H0 H : Hp) : GrF X H0 H .nilsl .nil := ⟨⟨[], Gl.nil 4 H, rfl⟩, fun b h => absurd h (notNil b)⟩
theorem GrF.fmS {X S : Nat → Prop} {H0 H H' : Hp} {w : AV} {g : Fo} (h : GrF X H0 H w g) (f : Fm S H H') (hs : ∀ b, S b → X b ∨ b < H0.nx) : GrF X H0 H' w g := by
 obtain ⟨cs, h1, h2⟩ := h.ex
 have hn : ∀ b, H0.nx ≤ b → ¬ X b → ¬ S b := fun b h1 h2 h3 => by
  rcases hs b h3 with h | h
  ·exact h2 h
  ·omega
 exact ⟨⟨cs, h1.fm f fun b hb => hn b (h.nw b hb).1 (h.nw b hb).2, h2.fmS f fun b hb => hn b hb.1 hb.2.2⟩, h.nw⟩
theorem GrF.no {X : Nat → Prop} {H0 H H' : Hp} {w : AV} {g : Fo} (h : GrF X H0 H w g) (f : Fm No H H') : GrF X H0 H' w g := h.fmS f fun _ h => h.elim
theorem GrF.add {X : Nat → Prop} {H0 H : Hp} {w : AV} {g f : Fo} {cf : List AV} (h : GrF X H0 H w g) (hf : FoC (fun b => H0.nx ≤ b ∧ ¬ In w b ∧ ¬ X b) H f cf) (hX : ∀ b, X b → b < H.nx) (h0 : H0.nx ≤ H.nx) (hl : 0 < f.len) (hg : g.len + f.len ≤ 100000) :
  Ok (qbb 4 64 H w (some ⟨f.len, cf⟩)) fun v H' => GrF X H0 H' v (g.app f) ∧ Fm (In w) H H' ∧ H'.nx = H.nx + 1 ∧ v = .sl H.nx 0 (g.len + f.len) (g.len + f.len) false := by
 obtain ⟨cs, h1, h2⟩ := h.ex
 obtain ⟨H', e, g', _, fm', nx'⟩ := h1.append (k := f.len) (w := 64) (x := cf) hl hf.len (by omega) (by omega)
 refine ⟨_, H', e, ⟨⟨cs ++ cf, by rw [Fo.app_len]; exact g', ?_⟩, fun b hb => ?_⟩, fm', nx', rfl⟩
 ·have i : FoC (fun b => H0.nx ≤ b ∧ ¬ In w b ∧ ¬ X b) H (g.app f) (cs ++ cf) := h2.app hf
  refine (i.mono (Q := fun b => H0.nx ≤ b ∧ ¬ In w b ∧ ¬ X b ∧ b < H.nx) fun b hb hp => ⟨hp.1, hp.2.1, hp.2.2, hb⟩).fmS fm' (fun b hp => hp.2.1) |>.mono fun b _ hp => ⟨hp.1, fun hi => ?_, hp.2.2.1⟩
  obtain ⟨_, _, _, _, hi⟩ := hi
  injection hi with hi
  have := hp.2.2.2
  omega
 ·obtain ⟨_, _, _, _, hi⟩ := hb
  injection hi with hi
  subst hi
  exact ⟨h0, fun hx => by have := hX _ hx; omega⟩
end Go.Di
end
noncomputable section
namespace Go.Di
open Go.Ev
variable {C : Nat → Ev.Call}
def nmL : List SS := [⟨1, 97⟩, ⟨1, 98⟩, ⟨1, 112⟩, ⟨2, 12920⟩, ⟨16, 136107713667768957684761770045455085872⟩]
def Nm (s : SS) : Prop := s ∈ nmL
theorem at5 {α : Type} (a b c d e : α) (n : Nat) : [a, b, c, d, e][n % 5]? = some ([a, b, c, d, e].getD (n % 5) a) := by
 have h5 : n % 5 < 5 := Nat.mod_lt _ (by omega)
 match n % 5, h5 with
 | 0, _ | 1, _ | 2, _ | 3, _ | 4, _ => rfl
theorem q88 (x : List AV) : reps x 5 = x ++ (x ++ (x ++ (x ++ x))) := id (by show x ++ (x ++ (x ++ (x ++ (x ++ [])))) = _; rw [List.append_nil])
theorem qtt (hC : qbi C) {k : Nat} (hk : 1 ≤ k) (n : Nat) (hn : n < 256) (H : Hp) :
  Ok (C k (.f qgm) [.int .u8 (.ofNat n)] H) fun r H' => (∃ s, r = SS.v s ∧ Nm s) ∧ Fm No H H' := by
 obtain ⟨j, rfl⟩ : ∃ j, k = j + 1 := ⟨k - 1, by omega⟩
 rw [(hC j).law13_name]
 unfold law13_name qn2
 have h5 : n % 5 < 5 := Nat.mod_lt _ (by omega)
 simp (disch := first | omega | exact tr_i rfl | (simp only [qaa, qab]; done) | (simp only [qaa, qab]; omega)) only [go_sem, Nat.reduceAdd, Nat.reduceMul, Nat.reduceSub, Nat.reduceLeDiff, Nat.reduceEqDiff, Nat.reduceShiftRight, Nat.reduceAnd, at5, q88]
 refine Ok.ret ⟨?_, by (repeat (first | exact Fm.refl _ _ | assumption | refine Fm.push ?_ _ | refine Fm.up2 ?_ (by (first | omega | (simp only [qaa, qab]; omega))) | refine Fm.put_new ?_ _ _ (by (first | omega | (simp only [qaa, qab]; omega)))))⟩
 match n % 5, h5 with
 | 0, _ => exact ⟨⟨1, 97⟩, rfl, by simp [Nm, nmL]⟩
 | 1, _ => exact ⟨⟨1, 98⟩, rfl, by simp [Nm, nmL]⟩
 | 2, _ => exact ⟨⟨1, 112⟩, rfl, by simp [Nm, nmL]⟩
 | 3, _ => exact ⟨⟨2, 12920⟩, rfl, by simp [Nm, nmL]⟩
 | 4, _ => exact ⟨⟨16, 136107713667768957684761770045455085872⟩, rfl, by simp [Nm, nmL]⟩
def zbm (C : Nat → Ev.Call) (L : List Nat) (xv : AV) (k d : Nat) : Prop :=
 ∀ (i : Nat) (H : Hp), i ≤ 9 → Rl H xv (u8s L) → Ok (C k (.f qg7) [xv, .int .i64 (.ofNat i), .int .i64 (.ofNat (7 - d))] H) fun r H' => ∃ f cs i', r = .tup [.agg cs, .int .i64 (.ofNat i')] ∧ FoC (fun b => H.nx ≤ b) H' f cs ∧ Fm No H H' ∧
  f.len = 1 ∧ f.Rt Nm ∧ f.depth ≤ d + 1 ∧ i ≤ i' ∧ i' ≤ 9 ∧ f.size + 3 * i ≤ 1 + 3 * i'
theorem qx1 (hC : qbi C) {L : List Nat} {xv : AV} {j d : Nat} (hR : zbm C L xv j d) {H0 : Hp} (hx : Rl H0 xv (u8s L)) {ob rb m k0 i0 : Nat} {rl to : SS} (hd : d < 7) (hm : m ≤ 3) (hob : H0.nx ≤ ob) (hrb : H0.nx ≤ rb) (hne : ob ≠ rb) {q : AV → Hp → R1} {Q : AV → Hp → Prop}
  (hq : ∀ (i : Nat) (w : AV) (g : Fo) (H : Hp), g.len = m → g.Rt Nm → g.depth ≤ d + 1 → i0 ≤ i → i ≤ 9 → g.size + 3 * i0 ≤ m + 3 * i → GrF (fun b => b = ob ∨ b = rb) H0 H w g → H.get ob = qac 0 [.int .u8 (.ofNat k0), rl.v, to.v, w] → H.get rb = qac 0 [.int .u8 (.ofNat 0), .str 0 0, .str 0 0, .nilsl] →
   ob < H.nx → rb < H.nx → Fm No H0 H → Ok (q (.int .i64 (.ofNat i)) H) Q) :
  ∀ (k t i : Nat) (w : AV) (g : Fo) (H : Hp), t ≤ m → m - t < k → g.len = t → g.Rt Nm → g.depth ≤ d + 1 → i0 ≤ i → i ≤ 9 → g.size + 3 * i0 ≤ t + 3 * i → GrF (fun b => b = ob ∨ b = rb) H0 H w g → H.get ob = qac 0 [.int .u8 (.ofNat k0), rl.v, to.v, w] →
   H.get rb = qac 0 [.int .u8 (.ofNat 0), .str 0 0, .str 0 0, .nilsl] → ob < H.nx → rb < H.nx → Fm No H0 H →
   Ok (qe7 (C j) q xv (.int .i64 (.ofNat (7 - (d + 1)))) (.int .i64 (.ofNat m)) (.ptr ob 0) k (.int .i64 (.ofNat i)) (.int .i64 (.ofNat t)) H) Q
 | 0, t, i, w, g, H, ht, hk, _, _, _, _, _, _, _, _, _, _, _, _ => by omega
 | k + 1, t, i, w, g, H, ht, hk, hgl, hgr, hgd, hi0, hi9, hsz, hw, h1, h2, h3, h4, hf => by
  show Ok (qk2 (C j) _ _ _ _ _ (qe7 (C j) _ _ _ _ _ k) _ _ H) Q
  unfold qk2
  by_cases hlt : t < m
  ·simp (disch := first | omega | exact tr_i rfl | (simp only [qaa, qab]; done) | (simp only [qaa, qab]; omega)) only [go_sem, Nat.reduceAdd, Nat.reduceMul, Nat.reduceSub, Nat.reduceLeDiff, Nat.reduceEqDiff, Nat.reduceShiftRight, Nat.reduceAnd, hlt]
   unfold qk0
   have e7 : 7 - (d + 1) + 1 = 7 - d := by omega
   simp (disch := first | omega | exact tr_i rfl | (simp only [qaa, qab]; done) | (simp only [qaa, qab]; omega)) only [go_sem, Nat.reduceAdd, Nat.reduceMul, Nat.reduceSub, Nat.reduceLeDiff, Nat.reduceEqDiff, Nat.reduceShiftRight, Nat.reduceAnd, e7]
   have f1 : Fm No H (qaq H (qac 0 [.int .u8 (.ofNat 0), .str 0 0, .str 0 0, .nilsl])) := by (repeat (first | exact Fm.refl _ _ | assumption | refine Fm.push ?_ _ | refine Fm.up2 ?_ (by (first | omega | (simp only [qaa, qab]; omega))) | refine Fm.put_new ?_ _ _ (by (first | omega | (simp only [qaa, qab]; omega)))))
   refine Ok.ve (hR i _ hi9 (hx.fm (hf.trans f1))) ?_
   rintro _ H2 ⟨f, cs, i', rfl, hc, f2, fl, fr, fd, i1, i2, i3⟩
   obtain ⟨ka, ra, ta, aa, rfl⟩ : ∃ ka ra ta aa, f = .cons ka ra ta aa .nil := by
    cases f with
    | nil => cases fl
    | cons k rl to a r =>
     cases r with
     | nil => exact ⟨_, _, _, _, rfl⟩
     | cons _ _ _ _ _ => simp [Fo.len] at fl
   obtain ⟨av, ca, cr, rfl, g1, g2, g3, g4⟩ := hc
   obtain rfl : cr = [] := g4
   have n2 := f2.nx
   simp only [qaa] at n2
   have k2 : H2.get H.nx = qac 0 [.int .u8 (.ofNat 0), .str 0 0, .str 0 0, .nilsl] := (f2.keep (by (first | omega | (simp only [qaa, qab]; omega)))).trans (by simp (disch := first | omega | exact tr_i rfl | (simp only [qaa, qab]; done) | (simp only [qaa, qab]; omega)) only [go_sem, Nat.reduceAdd, Nat.reduceMul, Nat.reduceSub, Nat.reduceLeDiff, Nat.reduceEqDiff, Nat.reduceShiftRight, Nat.reduceAnd])
   have o2 : H2.get ob = qac 0 [.int .u8 (.ofNat k0), rl.v, to.v, w] := ((f1.trans f2).keep h3).trans h1
   have r2 : H2.get rb = qac 0 [.int .u8 (.ofNat 0), .str 0 0, .str 0 0, .nilsl] := ((f1.trans f2).keep h4).trans h2
   have w2 := hw.no (f1.trans f2)
   unfold SS.v at o2 ⊢
   simp (disch := first | omega | exact tr_i rfl | (simp only [qaa, qab]; done) | (simp only [qaa, qab]; omega)) only [go_sem, Nat.reduceAdd, Nat.reduceMul, Nat.reduceSub, Nat.reduceLeDiff, Nat.reduceEqDiff, Nat.reduceShiftRight, Nat.reduceAnd, k2, o2]
   have n0 := hf.nx
   obtain ⟨H3, hH3⟩ : ∃ H3, H3 = qaq (H2.put H.nx (qac 0 [.int .u8 (.ofNat ka), .str ra.n ra.a, .str ta.n ta.a, av])) (qac 0 [.int .u8 (.ofNat ka), .str ra.n ra.a, .str ta.n ta.a, av]) := ⟨_, rfl⟩
   rw [← hH3]
   have f23 : Fm (fun b => b = H.nx) H2 H3 := by rw [hH3]; exact ((Fm.refl (fun b => b = H.nx) H2).put _ _ fun _ => rfl).push _
   have fA : Fm No H H3 := by rw [hH3]; exact ((f1.trans f2).put_new _ _ (Nat.le_refl _)).push _
   have n3 : H3.nx = H2.nx + 1 := by rw [hH3]; simp only [qaa, qab]
   have hnw : ∀ b, In w b → b < H.nx := fun b hb => by
    obtain ⟨cs, c1, _⟩ := hw.ex
    exact c1.lt hb
   have hel : FoC (fun b => H0.nx ≤ b ∧ ¬ In w b ∧ ¬ (b = ob ∨ b = rb)) H3 (.cons ka ra ta aa .nil) [.int .u8 (.ofNat ka), .str ra.n ra.a, .str ta.n ta.a, av] := by
    have : FoC (fun b => H.nx + 1 ≤ b) H2 (.cons ka ra ta aa .nil) [.int .u8 (.ofNat ka), .str ra.n ra.a, .str ta.n ta.a, av] := ⟨av, ca, [], rfl, g1, g2, g3, rfl⟩
    exact (this.fmS f23 fun b hb => by omega).mono fun b _ hb => ⟨by omega, fun hi => by have := hnw b hi; omega, by omega⟩
   refine Ok.ve ((hw.no fA).add hel (fun b hb => by omega) (by omega) (by simp [Fo.len]) (by simp only [Fo.len]; omega)) ?_
   rintro w' H4 ⟨w4, f4, n4, hw4⟩
   have o4 : H4.get ob = qac 0 [.int .u8 (.ofNat k0), .str rl.n rl.a, .str to.n to.a, w] := by
    rw [f4.get ob (by omega) (fun hi => (hw.nw ob hi).2 (.inl rfl)), fA.keep h3]; exact h1
   have r4 : H4.get rb = qac 0 [.int .u8 (.ofNat 0), .str 0 0, .str 0 0, .nilsl] := by
    rw [f4.get rb (by omega) (fun hi => (hw.nw rb hi).2 (.inr rfl)), fA.keep h4]; exact h2
   subst hw4
   simp (disch := first | omega | exact tr_i rfl | (simp only [qaa, qab]; done) | (simp only [qaa, qab]; omega)) only [go_sem, Nat.reduceAdd, Nat.reduceMul, Nat.reduceSub, Nat.reduceLeDiff, Nat.reduceEqDiff, Nat.reduceShiftRight, Nat.reduceAnd, o4]
   unfold qk1
   simp (disch := first | omega | exact tr_i rfl | (simp only [qaa, qab]; done) | (simp only [qaa, qab]; omega)) only [go_sem, Nat.reduceAdd, Nat.reduceMul, Nat.reduceSub, Nat.reduceLeDiff, Nat.reduceEqDiff, Nat.reduceShiftRight, Nat.reduceAnd]
   have f5 : Fm No H0 (H4.put ob (qac 0 [.int .u8 (.ofNat k0), .str rl.n rl.a, .str to.n to.a, .sl H3.nx 0 (g.len + (Fo.cons ka ra ta aa .nil).len) (g.len + (Fo.cons ka ra ta aa .nil).len) false])) :=
    ((hf.trans fA).then f4 fun c hc hi => by have := (hw.nw c hi).1; omega).put_new _ _ hob
   refine qx1 hC hR hx hd hm hob hrb hne hq k (t + 1) i' _ (g.app (.cons ka ra ta aa .nil)) _ (by omega) (by omega) ?_ ((Fo.app_rt _ _ _).2 ⟨hgr, fr⟩) ?_ (by omega) i2 ?_ (w4.fmS ((Fm.refl (fun b => b = ob) H4).put ob _ (fun _ => rfl)) fun b hb => .inl (.inl hb)) (qar _ _ _) ?_ (by simp only [qab]; omega) (by simp only [qab]; omega) f5
   ·rw [Fo.app_len, hgl]; rfl
   ·rw [Fo.app_depth]; omega
   ·rw [Fo.app_size]; omega
   ·rw [qbz _ _ _ _ (fun h => hne h.symm)]; exact r4
  ·have he : t = m := by omega
   subst he
   simp (disch := first | omega | exact tr_i rfl | (simp only [qaa, qab]; done) | (simp only [qaa, qab]; omega)) only [go_sem, Nat.reduceAdd, Nat.reduceMul, Nat.reduceSub, Nat.reduceLeDiff, Nat.reduceEqDiff, Nat.reduceShiftRight, Nat.reduceAnd, hlt]
   exact hq i w g H hgl hgr hgd hi0 hi9 hsz hw h1 h2 h3 h4 hf
theorem q41 (hC : qbi C) {L : List Nat} {xv : AV} (hL : ∀ x ∈ L, x < 256) : ∀ (d k : Nat), d ≤ 7 → d + 2 ≤ k → zbm C L xv k d := by
 intro d
 induction d with
 | zero =>
  intro k _ hk i H hi hx
  obtain ⟨j, rfl⟩ : ∃ j, k = j + 1 := ⟨k - 1, by omega⟩
  rw [(hC j).law13_build]
  unfold law13_build qjr
  have fX : Fm No H (qaq H (qac 0 [.int .u8 (.ofNat 0), .str 0 0, .str 0 0, .nilsl])) := by (repeat (first | exact Fm.refl _ _ | assumption | refine Fm.push ?_ _ | refine Fm.up2 ?_ (by (first | omega | (simp only [qaa, qab]; omega))) | refine Fm.put_new ?_ _ _ (by (first | omega | (simp only [qaa, qab]; omega)))))
  have el := (hx.fm fX).len
  rw [show (u8s L).length = L.length by simp [u8s]] at el
  have fin : ∃ f cs i', AV.tup [.agg [.int .u8 (.ofNat 1), .str 0 0, .str 0 0, .nilsl], .int .i64 (.ofNat i)] = .tup [.agg cs, .int .i64 (.ofNat i')] ∧ FoC (fun b => H.nx ≤ b) ((qaq H (qac 0 [.int .u8 (.ofNat 0), .str 0 0, .str 0 0, .nilsl])).put H.nx (qac 0 [.int .u8 (.ofNat 1), .str 0 0, .str 0 0, .nilsl])) f cs ∧ Fm No H ((qaq H (qac 0 [.int .u8 (.ofNat 0), .str 0 0, .str 0 0, .nilsl])).put H.nx (qac 0 [.int .u8 (.ofNat 1), .str 0 0, .str 0 0, .nilsl])) ∧
    f.len = 1 ∧ f.Rt Nm ∧ f.depth ≤ 0 + 1 ∧ i ≤ i' ∧ i' ≤ 9 ∧ f.size + 3 * i ≤ 1 + 3 * i' :=
   ⟨.cons 1 sE sE .nil .nil, _, i, rfl, ⟨.nilsl, [], [], rfl, Gl.nil 4 _, fun b h => absurd h (notNil b), rfl, rfl⟩, by (repeat (first | exact Fm.refl _ _ | assumption | refine Fm.push ?_ _ | refine Fm.up2 ?_ (by (first | omega | (simp only [qaa, qab]; omega))) | refine Fm.put_new ?_ _ _ (by (first | omega | (simp only [qaa, qab]; omega))))), rfl, ⟨.inl ⟨rfl, rfl, rfl, rfl⟩, trivial, trivial⟩, by simp only [Fo.depth]; omega, Nat.le_refl _, hi, by simp only [Fo.size]; omega⟩
  by_cases h1 : L.length ≤ i
  ·simp (disch := first | omega | exact tr_i rfl | (simp only [qaa, qab]; done) | (simp only [qaa, qab]; omega)) only [go_sem, Nat.reduceAdd, Nat.reduceMul, Nat.reduceSub, Nat.reduceLeDiff, Nat.reduceEqDiff, Nat.reduceShiftRight, Nat.reduceAnd, el, h1]
   exact Ok.ret fin
  ·by_cases h2 : 9 ≤ i
   ·simp (disch := first | omega | exact tr_i rfl | (simp only [qaa, qab]; done) | (simp only [qaa, qab]; omega)) only [go_sem, Nat.reduceAdd, Nat.reduceMul, Nat.reduceSub, Nat.reduceLeDiff, Nat.reduceEqDiff, Nat.reduceShiftRight, Nat.reduceAnd, el, h1, h2]
    exact Ok.ret fin
   ·simp (disch := first | omega | exact tr_i rfl | (simp only [qaa, qab]; done) | (simp only [qaa, qab]; omega)) only [go_sem, Nat.reduceAdd, Nat.reduceMul, Nat.reduceSub, Nat.reduceLeDiff, Nat.reduceEqDiff, Nat.reduceShiftRight, Nat.reduceAnd, el, h1, h2]
    exact Ok.ret fin
 | succ d ih =>
  intro k hd hk i H hi hx
  obtain ⟨j, rfl⟩ : ∃ j, k = j + 1 := ⟨k - 1, by omega⟩
  rw [(hC j).law13_build]
  unfold law13_build qjr
  have fX : Fm No H (qaq H (qac 0 [.int .u8 (.ofNat 0), .str 0 0, .str 0 0, .nilsl])) := by (repeat (first | exact Fm.refl _ _ | assumption | refine Fm.push ?_ _ | refine Fm.up2 ?_ (by (first | omega | (simp only [qaa, qab]; omega))) | refine Fm.put_new ?_ _ _ (by (first | omega | (simp only [qaa, qab]; omega)))))
  have el := (hx.fm fX).len
  rw [show (u8s L).length = L.length by simp [u8s]] at el
  have fin : ∃ f cs i', AV.tup [.agg [.int .u8 (.ofNat 1), .str 0 0, .str 0 0, .nilsl], .int .i64 (.ofNat i)] = .tup [.agg cs, .int .i64 (.ofNat i')] ∧ FoC (fun b => H.nx ≤ b) ((qaq H (qac 0 [.int .u8 (.ofNat 0), .str 0 0, .str 0 0, .nilsl])).put H.nx (qac 0 [.int .u8 (.ofNat 1), .str 0 0, .str 0 0, .nilsl])) f cs ∧ Fm No H ((qaq H (qac 0 [.int .u8 (.ofNat 0), .str 0 0, .str 0 0, .nilsl])).put H.nx (qac 0 [.int .u8 (.ofNat 1), .str 0 0, .str 0 0, .nilsl])) ∧
    f.len = 1 ∧ f.Rt Nm ∧ f.depth ≤ d + 1 + 1 ∧ i ≤ i' ∧ i' ≤ 9 ∧ f.size + 3 * i ≤ 1 + 3 * i' :=
   ⟨.cons 1 sE sE .nil .nil, _, i, rfl, ⟨.nilsl, [], [], rfl, Gl.nil 4 _, fun b h => absurd h (notNil b), rfl, rfl⟩, by (repeat (first | exact Fm.refl _ _ | assumption | refine Fm.push ?_ _ | refine Fm.up2 ?_ (by (first | omega | (simp only [qaa, qab]; omega))) | refine Fm.put_new ?_ _ _ (by (first | omega | (simp only [qaa, qab]; omega))))), rfl, ⟨.inl ⟨rfl, rfl, rfl, rfl⟩, trivial, trivial⟩, by simp only [Fo.depth]; omega, Nat.le_refl _, hi, by simp only [Fo.size]; omega⟩
  by_cases h1 : L.length ≤ i
  ·simp (disch := first | omega | exact tr_i rfl | (simp only [qaa, qab]; done) | (simp only [qaa, qab]; omega)) only [go_sem, Nat.reduceAdd, Nat.reduceMul, Nat.reduceSub, Nat.reduceLeDiff, Nat.reduceEqDiff, Nat.reduceShiftRight, Nat.reduceAnd, el, h1]
   exact Ok.ret fin
  ·by_cases h2 : 9 ≤ i
   ·simp (disch := first | omega | exact tr_i rfl | (simp only [qaa, qab]; done) | (simp only [qaa, qab]; omega)) only [go_sem, Nat.reduceAdd, Nat.reduceMul, Nat.reduceSub, Nat.reduceLeDiff, Nat.reduceEqDiff, Nat.reduceShiftRight, Nat.reduceAnd, el, h1, h2]
    exact Ok.ret fin
   ·have h3 : ¬ 6 < 7 - (d + 1) := by omega
    simp (disch := first | omega | exact tr_i rfl | (simp only [qaa, qab]; done) | (simp only [qaa, qab]; omega)) only [go_sem, Nat.reduceAdd, Nat.reduceMul, Nat.reduceSub, Nat.reduceLeDiff, Nat.reduceEqDiff, Nat.reduceShiftRight, Nat.reduceAnd, el, h1, h2, h3]
    unfold qkz
    obtain ⟨b1, o1, g1, g2, g3⟩ := (hx.fm fX).at' i (by simp [u8s]; omega)
    obtain ⟨c, hc, hcv⟩ : ∃ c, c < 256 ∧ (u8s L)[i]'(by simp [u8s]; omega) = .int .u8 (.ofNat c) := ⟨L[i]'(by omega), hL _ (List.getElem_mem _), by simp [u8s]⟩
    rw [hcv] at g3
    have main : ∀ (kd m : Nat) (rl to : SS) (H1 : Hp), m ≤ 3 → ((m = 0 ∧ ((kd = 1 ∧ rl = sE ∧ to = sE) ∨ (kd = 2 ∧ Nm rl ∧ to = sE) ∨ (kd = 3 ∧ Nm rl ∧ Nm to))) ∨ (2 ≤ m ∧ (kd = 4 ∨ kd = 5) ∧ rl = sE ∧ to = sE) ∨ (m = 2 ∧ kd = 6 ∧ rl = sE ∧ to = sE)) → Fm No H H1 → H.nx + 2 ≤ H1.nx →
      H1.get H.nx = qac 0 [.int .u8 (.ofNat 0), .str 0 0, .str 0 0, .nilsl] → H1.get (H.nx + 1) = qac 0 [.int .u8 (.ofNat kd), rl.v, to.v, .nilsl] →
      Ok (qcp (C j) xv (.int .i64 (.ofNat (i + 1))) (.int .i64 (.ofNat (7 - (d + 1)))) (.ptr H.nx 0) (.int .i64 (.ofNat m)) (.ptr (H.nx + 1) 0) H1) fun r H' => ∃ f cs i', r = .tup [.agg cs, .int .i64 (.ofNat i')] ∧ FoC (fun b => H.nx ≤ b) H' f cs ∧ Fm No H H' ∧
       f.len = 1 ∧ f.Rt Nm ∧ f.depth ≤ d + 1 + 1 ∧ i ≤ i' ∧ i' ≤ 9 ∧ f.size + 3 * i ≤ 1 + 3 * i' := by
     intro kd m rl to H1 hm hk1 hf1 hn1 hr1 ho1
     unfold qcp qk3
     rw [qbc]
     refine qx1 (rl := rl) (to := to) (k0 := kd) (i0 := i + 1) (m := m) hC (ih j (by omega) (by omega)) hx (by omega) hm (Nat.le_succ _) (Nat.le_refl _) (by omega) (fun i' w g H2 q1 q2 q3 q4 q5 q6 q7 q8 q9 q10 q11 q12 => ?_) qaz 0 (i + 1) .nilsl .nil H1 (Nat.zero_le _) (by rw [qas]; omega) rfl trivial (Nat.zero_le _) (Nat.le_refl _) (by omega) (by simp [Fo.size]) (GrF.nil _ _ _) ho1 hr1 (by omega) (by omega) hf1
     unfold qe2
     unfold SS.v at q8
     simp (disch := first | omega | exact tr_i rfl | (simp only [qaa, qab]; done) | (simp only [qaa, qab]; omega)) only [go_sem, Nat.reduceAdd, Nat.reduceMul, Nat.reduceSub, Nat.reduceLeDiff, Nat.reduceEqDiff, Nat.reduceShiftRight, Nat.reduceAnd, q8, q9]
     obtain ⟨cs, c1, c2⟩ := q7.ex
     have f5 : Fm (fun b => b = H.nx) H2 (H2.put H.nx (qac 0 [.int .u8 (.ofNat kd), .str rl.n rl.a, .str to.n to.a, w])) := (Fm.refl _ _).put _ _ fun _ => rfl
     refine Ok.ret ⟨.cons kd rl to g .nil, _, i', rfl, ⟨w, cs, [], rfl, ?_, fun b hb => (q7.nw b hb).1, ?_, rfl⟩, q12.put_new _ _ (Nat.le_refl _), rfl, ⟨?_, q2, trivial⟩, ?_, by omega, q5, ?_⟩
     ·exact c1.fm f5 fun b hb he => (q7.nw b hb).2 (.inr he)
     ·exact (c2.fmS f5 fun b hb he => hb.2.2 (.inr he)).mono fun b _ hb => hb.1
     ·rcases hk1 with ⟨rfl, h⟩ | ⟨h2m, h, e1, e2⟩ | ⟨h2m, h, e1, e2⟩
      ·have : g = .nil := by cases g with
        | nil => rfl
        | cons _ _ _ _ _ => simp [Fo.len] at q1
       subst this
       rcases h with ⟨a, b, c⟩ | ⟨a, b, c⟩ | ⟨a, b, c⟩
       ·exact .inl ⟨a, b, c, rfl⟩
       ·exact .inr (.inl ⟨a, b, c, rfl⟩)
       ·exact .inr (.inr (.inl ⟨a, b, c, rfl⟩))
      ·rcases h with h | h
       ·exact .inr (.inr (.inr (.inl ⟨h, e1, e2, by omega⟩)))
       ·exact .inr (.inr (.inr (.inr (.inl ⟨h, e1, e2, by omega⟩))))
      ·exact .inr (.inr (.inr (.inr (.inr ⟨h, e1, e2, by omega⟩))))
     ·simp only [Fo.depth]; omega
     ·simp only [Fo.size]
      have : m + 3 * i' - 3 * (i + 1) + 1 ≤ 1 + 3 * i' - 3 * i := by omega
      omega
    have h10 : c % 10 = 0 ∨ c % 10 = 1 ∨ c % 10 = 2 ∨ c % 10 = 3 ∨ c % 10 = 4 ∨ c % 10 = 5 ∨ c % 10 = 6 ∨ c % 10 = 7 ∨ c % 10 = 8 ∨ c % 10 = 9 := by omega
    rcases h10 with h | h | h | h | h | h | h | h | h | h
    ·simp (disch := first | omega | exact tr_i rfl | (simp only [qaa, qab]; done) | (simp only [qaa, qab]; omega)) only [go_sem, Nat.reduceAdd, Nat.reduceMul, Nat.reduceSub, Nat.reduceLeDiff, Nat.reduceEqDiff, Nat.reduceShiftRight, Nat.reduceAnd, g1, g3, h]
     unfold qbf
     simp (disch := first | omega | exact tr_i rfl | (simp only [qaa, qab]; done) | (simp only [qaa, qab]; omega)) only [go_sem, Nat.reduceAdd, Nat.reduceMul, Nat.reduceSub, Nat.reduceLeDiff, Nat.reduceEqDiff, Nat.reduceShiftRight, Nat.reduceAnd, h]
     unfold qca
     simp (disch := first | omega | exact tr_i rfl | (simp only [qaa, qab]; done) | (simp only [qaa, qab]; omega)) only [go_sem, Nat.reduceAdd, Nat.reduceMul, Nat.reduceSub, Nat.reduceLeDiff, Nat.reduceEqDiff, Nat.reduceShiftRight, Nat.reduceAnd, h]
     exact main 1 0 sE sE _ (by omega) (.inl ⟨rfl, .inl ⟨rfl, rfl, rfl⟩⟩) (by (repeat (first | exact Fm.refl _ _ | assumption | refine Fm.push ?_ _ | refine Fm.up2 ?_ (by (first | omega | (simp only [qaa, qab]; omega))) | refine Fm.put_new ?_ _ _ (by (first | omega | (simp only [qaa, qab]; omega)))))) (by (first | omega | (simp only [qaa, qab]; omega))) (by simp (disch := first | omega | exact tr_i rfl | (simp only [qaa, qab]; done) | (simp only [qaa, qab]; omega)) only [go_sem, Nat.reduceAdd, Nat.reduceMul, Nat.reduceSub, Nat.reduceLeDiff, Nat.reduceEqDiff, Nat.reduceShiftRight, Nat.reduceAnd]) (by unfold sE SS.v; simp (disch := first | omega | exact tr_i rfl | (simp only [qaa, qab]; done) | (simp only [qaa, qab]; omega)) only [go_sem, Nat.reduceAdd, Nat.reduceMul, Nat.reduceSub, Nat.reduceLeDiff, Nat.reduceEqDiff, Nat.reduceShiftRight, Nat.reduceAnd])
    ·simp (disch := first | omega | exact tr_i rfl | (simp only [qaa, qab]; done) | (simp only [qaa, qab]; omega)) only [go_sem, Nat.reduceAdd, Nat.reduceMul, Nat.reduceSub, Nat.reduceLeDiff, Nat.reduceEqDiff, Nat.reduceShiftRight, Nat.reduceAnd, g1, g3, h]
     unfold qbf
     simp (disch := first | omega | exact tr_i rfl | (simp only [qaa, qab]; done) | (simp only [qaa, qab]; omega)) only [go_sem, Nat.reduceAdd, Nat.reduceMul, Nat.reduceSub, Nat.reduceLeDiff, Nat.reduceEqDiff, Nat.reduceShiftRight, Nat.reduceAnd, h]
     unfold qca
     simp (disch := first | omega | exact tr_i rfl | (simp only [qaa, qab]; done) | (simp only [qaa, qab]; omega)) only [go_sem, Nat.reduceAdd, Nat.reduceMul, Nat.reduceSub, Nat.reduceLeDiff, Nat.reduceEqDiff, Nat.reduceShiftRight, Nat.reduceAnd, h]
     exact main 1 0 sE sE _ (by omega) (.inl ⟨rfl, .inl ⟨rfl, rfl, rfl⟩⟩) (by (repeat (first | exact Fm.refl _ _ | assumption | refine Fm.push ?_ _ | refine Fm.up2 ?_ (by (first | omega | (simp only [qaa, qab]; omega))) | refine Fm.put_new ?_ _ _ (by (first | omega | (simp only [qaa, qab]; omega)))))) (by (first | omega | (simp only [qaa, qab]; omega))) (by simp (disch := first | omega | exact tr_i rfl | (simp only [qaa, qab]; done) | (simp only [qaa, qab]; omega)) only [go_sem, Nat.reduceAdd, Nat.reduceMul, Nat.reduceSub, Nat.reduceLeDiff, Nat.reduceEqDiff, Nat.reduceShiftRight, Nat.reduceAnd]) (by unfold sE SS.v; simp (disch := first | omega | exact tr_i rfl | (simp only [qaa, qab]; done) | (simp only [qaa, qab]; omega)) only [go_sem, Nat.reduceAdd, Nat.reduceMul, Nat.reduceSub, Nat.reduceLeDiff, Nat.reduceEqDiff, Nat.reduceShiftRight, Nat.reduceAnd])
    ·simp (disch := first | omega | exact tr_i rfl | (simp only [qaa, qab]; done) | (simp only [qaa, qab]; omega)) only [go_sem, Nat.reduceAdd, Nat.reduceMul, Nat.reduceSub, Nat.reduceLeDiff, Nat.reduceEqDiff, Nat.reduceShiftRight, Nat.reduceAnd, g1, g3, h]
     unfold qbf
     simp (disch := first | omega | exact tr_i rfl | (simp only [qaa, qab]; done) | (simp only [qaa, qab]; omega)) only [go_sem, Nat.reduceAdd, Nat.reduceMul, Nat.reduceSub, Nat.reduceLeDiff, Nat.reduceEqDiff, Nat.reduceShiftRight, Nat.reduceAnd, h]
     unfold qca
     simp (disch := first | omega | exact tr_i rfl | (simp only [qaa, qab]; done) | (simp only [qaa, qab]; omega)) only [go_sem, Nat.reduceAdd, Nat.reduceMul, Nat.reduceSub, Nat.reduceLeDiff, Nat.reduceEqDiff, Nat.reduceShiftRight, Nat.reduceAnd, h]
     exact main 1 0 sE sE _ (by omega) (.inl ⟨rfl, .inl ⟨rfl, rfl, rfl⟩⟩) (by (repeat (first | exact Fm.refl _ _ | assumption | refine Fm.push ?_ _ | refine Fm.up2 ?_ (by (first | omega | (simp only [qaa, qab]; omega))) | refine Fm.put_new ?_ _ _ (by (first | omega | (simp only [qaa, qab]; omega)))))) (by (first | omega | (simp only [qaa, qab]; omega))) (by simp (disch := first | omega | exact tr_i rfl | (simp only [qaa, qab]; done) | (simp only [qaa, qab]; omega)) only [go_sem, Nat.reduceAdd, Nat.reduceMul, Nat.reduceSub, Nat.reduceLeDiff, Nat.reduceEqDiff, Nat.reduceShiftRight, Nat.reduceAnd]) (by unfold sE SS.v; simp (disch := first | omega | exact tr_i rfl | (simp only [qaa, qab]; done) | (simp only [qaa, qab]; omega)) only [go_sem, Nat.reduceAdd, Nat.reduceMul, Nat.reduceSub, Nat.reduceLeDiff, Nat.reduceEqDiff, Nat.reduceShiftRight, Nat.reduceAnd])
    ·simp (disch := first | omega | exact tr_i rfl | (simp only [qaa, qab]; done) | (simp only [qaa, qab]; omega)) only [go_sem, Nat.reduceAdd, Nat.reduceMul, Nat.reduceSub, Nat.reduceLeDiff, Nat.reduceEqDiff, Nat.reduceShiftRight, Nat.reduceAnd, g1, g3, h]
     unfold qbf
     simp (disch := first | omega | exact tr_i rfl | (simp only [qaa, qab]; done) | (simp only [qaa, qab]; omega)) only [go_sem, Nat.reduceAdd, Nat.reduceMul, Nat.reduceSub, Nat.reduceLeDiff, Nat.reduceEqDiff, Nat.reduceShiftRight, Nat.reduceAnd, h]
     refine Ok.ve (qtt hC (k := j) (by omega) (c / 10) (by omega) _) ?_
     rintro _ H2 ⟨⟨s, rfl, hs⟩, f2⟩
     have n2 := f2.nx
     simp only [qaa, qab] at n2
     have k2 : H2.get H.nx = qac 0 [.int .u8 (.ofNat 0), .str 0 0, .str 0 0, .nilsl] := (f2.keep (by (first | omega | (simp only [qaa, qab]; omega)))).trans (by simp (disch := first | omega | exact tr_i rfl | (simp only [qaa, qab]; done) | (simp only [qaa, qab]; omega)) only [go_sem, Nat.reduceAdd, Nat.reduceMul, Nat.reduceSub, Nat.reduceLeDiff, Nat.reduceEqDiff, Nat.reduceShiftRight, Nat.reduceAnd])
     have l2 : H2.get (H.nx + 1) = qac 0 [.int .u8 (.ofNat 1), .str 0 0, .str 0 0, .nilsl] := (f2.keep (by (first | omega | (simp only [qaa, qab]; omega)))).trans (by simp (disch := first | omega | exact tr_i rfl | (simp only [qaa, qab]; done) | (simp only [qaa, qab]; omega)) only [go_sem, Nat.reduceAdd, Nat.reduceMul, Nat.reduceSub, Nat.reduceLeDiff, Nat.reduceEqDiff, Nat.reduceShiftRight, Nat.reduceAnd])
     have fY : Fm No H H2 := Fm.trans (by (repeat (first | exact Fm.refl _ _ | assumption | refine Fm.push ?_ _ | refine Fm.up2 ?_ (by (first | omega | (simp only [qaa, qab]; omega))) | refine Fm.put_new ?_ _ _ (by (first | omega | (simp only [qaa, qab]; omega)))))) f2
     unfold SS.v
     simp (disch := first | omega | exact tr_i rfl | (simp only [qaa, qab]; done) | (simp only [qaa, qab]; omega)) only [go_sem, Nat.reduceAdd, Nat.reduceMul, Nat.reduceSub, Nat.reduceLeDiff, Nat.reduceEqDiff, Nat.reduceShiftRight, Nat.reduceAnd, k2, l2]
     exact main 2 0 s sE _ (by omega) (.inl ⟨rfl, .inr (.inl ⟨rfl, hs, rfl⟩)⟩) (fY.put_new _ _ (by omega)) (by (first | omega | (simp only [qaa, qab]; omega))) (by simp (disch := first | omega | exact tr_i rfl | (simp only [qaa, qab]; done) | (simp only [qaa, qab]; omega)) only [go_sem, Nat.reduceAdd, Nat.reduceMul, Nat.reduceSub, Nat.reduceLeDiff, Nat.reduceEqDiff, Nat.reduceShiftRight, Nat.reduceAnd, k2]) (by unfold sE SS.v; simp (disch := first | omega | exact tr_i rfl | (simp only [qaa, qab]; done) | (simp only [qaa, qab]; omega)) only [go_sem, Nat.reduceAdd, Nat.reduceMul, Nat.reduceSub, Nat.reduceLeDiff, Nat.reduceEqDiff, Nat.reduceShiftRight, Nat.reduceAnd])
    ·simp (disch := first | omega | exact tr_i rfl | (simp only [qaa, qab]; done) | (simp only [qaa, qab]; omega)) only [go_sem, Nat.reduceAdd, Nat.reduceMul, Nat.reduceSub, Nat.reduceLeDiff, Nat.reduceEqDiff, Nat.reduceShiftRight, Nat.reduceAnd, g1, g3, h]
     unfold qbf
     simp (disch := first | omega | exact tr_i rfl | (simp only [qaa, qab]; done) | (simp only [qaa, qab]; omega)) only [go_sem, Nat.reduceAdd, Nat.reduceMul, Nat.reduceSub, Nat.reduceLeDiff, Nat.reduceEqDiff, Nat.reduceShiftRight, Nat.reduceAnd, h]
     refine Ok.ve (qtt hC (k := j) (by omega) (c / 10) (by omega) _) ?_
     rintro _ H2 ⟨⟨s, rfl, hs⟩, f2⟩
     have n2 := f2.nx
     simp only [qaa, qab] at n2
     have k2 : H2.get H.nx = qac 0 [.int .u8 (.ofNat 0), .str 0 0, .str 0 0, .nilsl] := (f2.keep (by (first | omega | (simp only [qaa, qab]; omega)))).trans (by simp (disch := first | omega | exact tr_i rfl | (simp only [qaa, qab]; done) | (simp only [qaa, qab]; omega)) only [go_sem, Nat.reduceAdd, Nat.reduceMul, Nat.reduceSub, Nat.reduceLeDiff, Nat.reduceEqDiff, Nat.reduceShiftRight, Nat.reduceAnd])
     have l2 : H2.get (H.nx + 1) = qac 0 [.int .u8 (.ofNat 1), .str 0 0, .str 0 0, .nilsl] := (f2.keep (by (first | omega | (simp only [qaa, qab]; omega)))).trans (by simp (disch := first | omega | exact tr_i rfl | (simp only [qaa, qab]; done) | (simp only [qaa, qab]; omega)) only [go_sem, Nat.reduceAdd, Nat.reduceMul, Nat.reduceSub, Nat.reduceLeDiff, Nat.reduceEqDiff, Nat.reduceShiftRight, Nat.reduceAnd])
     have fY : Fm No H H2 := Fm.trans (by (repeat (first | exact Fm.refl _ _ | assumption | refine Fm.push ?_ _ | refine Fm.up2 ?_ (by (first | omega | (simp only [qaa, qab]; omega))) | refine Fm.put_new ?_ _ _ (by (first | omega | (simp only [qaa, qab]; omega)))))) f2
     unfold SS.v
     simp (disch := first | omega | exact tr_i rfl | (simp only [qaa, qab]; done) | (simp only [qaa, qab]; omega)) only [go_sem, Nat.reduceAdd, Nat.reduceMul, Nat.reduceSub, Nat.reduceLeDiff, Nat.reduceEqDiff, Nat.reduceShiftRight, Nat.reduceAnd, k2, l2]
     exact main 2 0 s sE _ (by omega) (.inl ⟨rfl, .inr (.inl ⟨rfl, hs, rfl⟩)⟩) (fY.put_new _ _ (by omega)) (by (first | omega | (simp only [qaa, qab]; omega))) (by simp (disch := first | omega | exact tr_i rfl | (simp only [qaa, qab]; done) | (simp only [qaa, qab]; omega)) only [go_sem, Nat.reduceAdd, Nat.reduceMul, Nat.reduceSub, Nat.reduceLeDiff, Nat.reduceEqDiff, Nat.reduceShiftRight, Nat.reduceAnd, k2]) (by unfold sE SS.v; simp (disch := first | omega | exact tr_i rfl | (simp only [qaa, qab]; done) | (simp only [qaa, qab]; omega)) only [go_sem, Nat.reduceAdd, Nat.reduceMul, Nat.reduceSub, Nat.reduceLeDiff, Nat.reduceEqDiff, Nat.reduceShiftRight, Nat.reduceAnd])
    ·simp (disch := first | omega | exact tr_i rfl | (simp only [qaa, qab]; done) | (simp only [qaa, qab]; omega)) only [go_sem, Nat.reduceAdd, Nat.reduceMul, Nat.reduceSub, Nat.reduceLeDiff, Nat.reduceEqDiff, Nat.reduceShiftRight, Nat.reduceAnd, g1, g3, h]
     unfold qbf
     simp (disch := first | omega | exact tr_i rfl | (simp only [qaa, qab]; done) | (simp only [qaa, qab]; omega)) only [go_sem, Nat.reduceAdd, Nat.reduceMul, Nat.reduceSub, Nat.reduceLeDiff, Nat.reduceEqDiff, Nat.reduceShiftRight, Nat.reduceAnd, h]
     refine Ok.ve (qtt hC (k := j) (by omega) (c / 10) (by omega) _) ?_
     rintro _ H2 ⟨⟨s, rfl, hs⟩, f2⟩
     refine Ok.ve (qtt hC (k := j) (by omega) (c / 50) (by omega) _) ?_
     rintro _ H3 ⟨⟨s3, rfl, hs3⟩, f3⟩
     have n2 := (f2.trans f3).nx
     simp only [qaa, qab] at n2
     have k2 : H3.get H.nx = qac 0 [.int .u8 (.ofNat 0), .str 0 0, .str 0 0, .nilsl] := ((f2.trans f3).keep (by (first | omega | (simp only [qaa, qab]; omega)))).trans (by simp (disch := first | omega | exact tr_i rfl | (simp only [qaa, qab]; done) | (simp only [qaa, qab]; omega)) only [go_sem, Nat.reduceAdd, Nat.reduceMul, Nat.reduceSub, Nat.reduceLeDiff, Nat.reduceEqDiff, Nat.reduceShiftRight, Nat.reduceAnd])
     have l2 : H3.get (H.nx + 1) = qac 0 [.int .u8 (.ofNat 1), .str 0 0, .str 0 0, .nilsl] := ((f2.trans f3).keep (by (first | omega | (simp only [qaa, qab]; omega)))).trans (by simp (disch := first | omega | exact tr_i rfl | (simp only [qaa, qab]; done) | (simp only [qaa, qab]; omega)) only [go_sem, Nat.reduceAdd, Nat.reduceMul, Nat.reduceSub, Nat.reduceLeDiff, Nat.reduceEqDiff, Nat.reduceShiftRight, Nat.reduceAnd])
     have fY : Fm No H H3 := Fm.trans (by (repeat (first | exact Fm.refl _ _ | assumption | refine Fm.push ?_ _ | refine Fm.up2 ?_ (by (first | omega | (simp only [qaa, qab]; omega))) | refine Fm.put_new ?_ _ _ (by (first | omega | (simp only [qaa, qab]; omega)))))) (f2.trans f3)
     unfold SS.v
     simp (disch := first | omega | exact tr_i rfl | (simp only [qaa, qab]; done) | (simp only [qaa, qab]; omega)) only [go_sem, Nat.reduceAdd, Nat.reduceMul, Nat.reduceSub, Nat.reduceLeDiff, Nat.reduceEqDiff, Nat.reduceShiftRight, Nat.reduceAnd, k2, l2]
     exact main 3 0 s s3 _ (by omega) (.inl ⟨rfl, .inr (.inr ⟨rfl, hs, hs3⟩)⟩) (fY.put_new _ _ (by omega)) (by (first | omega | (simp only [qaa, qab]; omega))) (by simp (disch := first | omega | exact tr_i rfl | (simp only [qaa, qab]; done) | (simp only [qaa, qab]; omega)) only [go_sem, Nat.reduceAdd, Nat.reduceMul, Nat.reduceSub, Nat.reduceLeDiff, Nat.reduceEqDiff, Nat.reduceShiftRight, Nat.reduceAnd, k2]) (by unfold SS.v; simp (disch := first | omega | exact tr_i rfl | (simp only [qaa, qab]; done) | (simp only [qaa, qab]; omega)) only [go_sem, Nat.reduceAdd, Nat.reduceMul, Nat.reduceSub, Nat.reduceLeDiff, Nat.reduceEqDiff, Nat.reduceShiftRight, Nat.reduceAnd])
    ·simp (disch := first | omega | exact tr_i rfl | (simp only [qaa, qab]; done) | (simp only [qaa, qab]; omega)) only [go_sem, Nat.reduceAdd, Nat.reduceMul, Nat.reduceSub, Nat.reduceLeDiff, Nat.reduceEqDiff, Nat.reduceShiftRight, Nat.reduceAnd, g1, g3, h]
     unfold qbf
     simp (disch := first | omega | exact tr_i rfl | (simp only [qaa, qab]; done) | (simp only [qaa, qab]; omega)) only [go_sem, Nat.reduceAdd, Nat.reduceMul, Nat.reduceSub, Nat.reduceLeDiff, Nat.reduceEqDiff, Nat.reduceShiftRight, Nat.reduceAnd, h]
     unfold qca
     simp (disch := first | omega | exact tr_i rfl | (simp only [qaa, qab]; done) | (simp only [qaa, qab]; omega)) only [go_sem, Nat.reduceAdd, Nat.reduceMul, Nat.reduceSub, Nat.reduceLeDiff, Nat.reduceEqDiff, Nat.reduceShiftRight, Nat.reduceAnd, h]
     exact main 4 (2 + c / 10 % 2) sE sE _ (by omega) (.inr (.inl ⟨by omega, .inl rfl, rfl, rfl⟩)) (by (repeat (first | exact Fm.refl _ _ | assumption | refine Fm.push ?_ _ | refine Fm.up2 ?_ (by (first | omega | (simp only [qaa, qab]; omega))) | refine Fm.put_new ?_ _ _ (by (first | omega | (simp only [qaa, qab]; omega)))))) (by (first | omega | (simp only [qaa, qab]; omega))) (by simp (disch := first | omega | exact tr_i rfl | (simp only [qaa, qab]; done) | (simp only [qaa, qab]; omega)) only [go_sem, Nat.reduceAdd, Nat.reduceMul, Nat.reduceSub, Nat.reduceLeDiff, Nat.reduceEqDiff, Nat.reduceShiftRight, Nat.reduceAnd]) (by unfold sE SS.v; simp (disch := first | omega | exact tr_i rfl | (simp only [qaa, qab]; done) | (simp only [qaa, qab]; omega)) only [go_sem, Nat.reduceAdd, Nat.reduceMul, Nat.reduceSub, Nat.reduceLeDiff, Nat.reduceEqDiff, Nat.reduceShiftRight, Nat.reduceAnd]; rfl)
    ·simp (disch := first | omega | exact tr_i rfl | (simp only [qaa, qab]; done) | (simp only [qaa, qab]; omega)) only [go_sem, Nat.reduceAdd, Nat.reduceMul, Nat.reduceSub, Nat.reduceLeDiff, Nat.reduceEqDiff, Nat.reduceShiftRight, Nat.reduceAnd, g1, g3, h]
     unfold qbf
     simp (disch := first | omega | exact tr_i rfl | (simp only [qaa, qab]; done) | (simp only [qaa, qab]; omega)) only [go_sem, Nat.reduceAdd, Nat.reduceMul, Nat.reduceSub, Nat.reduceLeDiff, Nat.reduceEqDiff, Nat.reduceShiftRight, Nat.reduceAnd, h]
     unfold qca
     simp (disch := first | omega | exact tr_i rfl | (simp only [qaa, qab]; done) | (simp only [qaa, qab]; omega)) only [go_sem, Nat.reduceAdd, Nat.reduceMul, Nat.reduceSub, Nat.reduceLeDiff, Nat.reduceEqDiff, Nat.reduceShiftRight, Nat.reduceAnd, h]
     exact main 4 (2 + c / 10 % 2) sE sE _ (by omega) (.inr (.inl ⟨by omega, .inl rfl, rfl, rfl⟩)) (by (repeat (first | exact Fm.refl _ _ | assumption | refine Fm.push ?_ _ | refine Fm.up2 ?_ (by (first | omega | (simp only [qaa, qab]; omega))) | refine Fm.put_new ?_ _ _ (by (first | omega | (simp only [qaa, qab]; omega)))))) (by (first | omega | (simp only [qaa, qab]; omega))) (by simp (disch := first | omega | exact tr_i rfl | (simp only [qaa, qab]; done) | (simp only [qaa, qab]; omega)) only [go_sem, Nat.reduceAdd, Nat.reduceMul, Nat.reduceSub, Nat.reduceLeDiff, Nat.reduceEqDiff, Nat.reduceShiftRight, Nat.reduceAnd]) (by unfold sE SS.v; simp (disch := first | omega | exact tr_i rfl | (simp only [qaa, qab]; done) | (simp only [qaa, qab]; omega)) only [go_sem, Nat.reduceAdd, Nat.reduceMul, Nat.reduceSub, Nat.reduceLeDiff, Nat.reduceEqDiff, Nat.reduceShiftRight, Nat.reduceAnd]; rfl)
    ·simp (disch := first | omega | exact tr_i rfl | (simp only [qaa, qab]; done) | (simp only [qaa, qab]; omega)) only [go_sem, Nat.reduceAdd, Nat.reduceMul, Nat.reduceSub, Nat.reduceLeDiff, Nat.reduceEqDiff, Nat.reduceShiftRight, Nat.reduceAnd, g1, g3, h]
     unfold qbf
     simp (disch := first | omega | exact tr_i rfl | (simp only [qaa, qab]; done) | (simp only [qaa, qab]; omega)) only [go_sem, Nat.reduceAdd, Nat.reduceMul, Nat.reduceSub, Nat.reduceLeDiff, Nat.reduceEqDiff, Nat.reduceShiftRight, Nat.reduceAnd, h]
     unfold qca
     simp (disch := first | omega | exact tr_i rfl | (simp only [qaa, qab]; done) | (simp only [qaa, qab]; omega)) only [go_sem, Nat.reduceAdd, Nat.reduceMul, Nat.reduceSub, Nat.reduceLeDiff, Nat.reduceEqDiff, Nat.reduceShiftRight, Nat.reduceAnd, h]
     exact main 5 (2 + c / 10 % 2) sE sE _ (by omega) (.inr (.inl ⟨by omega, .inr rfl, rfl, rfl⟩)) (by (repeat (first | exact Fm.refl _ _ | assumption | refine Fm.push ?_ _ | refine Fm.up2 ?_ (by (first | omega | (simp only [qaa, qab]; omega))) | refine Fm.put_new ?_ _ _ (by (first | omega | (simp only [qaa, qab]; omega)))))) (by (first | omega | (simp only [qaa, qab]; omega))) (by simp (disch := first | omega | exact tr_i rfl | (simp only [qaa, qab]; done) | (simp only [qaa, qab]; omega)) only [go_sem, Nat.reduceAdd, Nat.reduceMul, Nat.reduceSub, Nat.reduceLeDiff, Nat.reduceEqDiff, Nat.reduceShiftRight, Nat.reduceAnd]) (by unfold sE SS.v; simp (disch := first | omega | exact tr_i rfl | (simp only [qaa, qab]; done) | (simp only [qaa, qab]; omega)) only [go_sem, Nat.reduceAdd, Nat.reduceMul, Nat.reduceSub, Nat.reduceLeDiff, Nat.reduceEqDiff, Nat.reduceShiftRight, Nat.reduceAnd]; rfl)
    ·simp (disch := first | omega | exact tr_i rfl | (simp only [qaa, qab]; done) | (simp only [qaa, qab]; omega)) only [go_sem, Nat.reduceAdd, Nat.reduceMul, Nat.reduceSub, Nat.reduceLeDiff, Nat.reduceEqDiff, Nat.reduceShiftRight, Nat.reduceAnd, g1, g3, h]
     unfold qbf
     simp (disch := first | omega | exact tr_i rfl | (simp only [qaa, qab]; done) | (simp only [qaa, qab]; omega)) only [go_sem, Nat.reduceAdd, Nat.reduceMul, Nat.reduceSub, Nat.reduceLeDiff, Nat.reduceEqDiff, Nat.reduceShiftRight, Nat.reduceAnd, h]
     unfold qca
     simp (disch := first | omega | exact tr_i rfl | (simp only [qaa, qab]; done) | (simp only [qaa, qab]; omega)) only [go_sem, Nat.reduceAdd, Nat.reduceMul, Nat.reduceSub, Nat.reduceLeDiff, Nat.reduceEqDiff, Nat.reduceShiftRight, Nat.reduceAnd, h]
     exact main 6 2 sE sE _ (by omega) (.inr (.inr ⟨rfl, rfl, rfl, rfl⟩)) (by (repeat (first | exact Fm.refl _ _ | assumption | refine Fm.push ?_ _ | refine Fm.up2 ?_ (by (first | omega | (simp only [qaa, qab]; omega))) | refine Fm.put_new ?_ _ _ (by (first | omega | (simp only [qaa, qab]; omega)))))) (by (first | omega | (simp only [qaa, qab]; omega))) (by simp (disch := first | omega | exact tr_i rfl | (simp only [qaa, qab]; done) | (simp only [qaa, qab]; omega)) only [go_sem, Nat.reduceAdd, Nat.reduceMul, Nat.reduceSub, Nat.reduceLeDiff, Nat.reduceEqDiff, Nat.reduceShiftRight, Nat.reduceAnd]) (by unfold sE SS.v; simp (disch := first | omega | exact tr_i rfl | (simp only [qaa, qab]; done) | (simp only [qaa, qab]; omega)) only [go_sem, Nat.reduceAdd, Nat.reduceMul, Nat.reduceSub, Nat.reduceLeDiff, Nat.reduceEqDiff, Nat.reduceShiftRight, Nat.reduceAnd]; rfl)
theorem Of_ok (hC : qbi C) {k : Nat} (hk : 12 ≤ k) {L : List Nat} {xv : AV} (hL : ∀ x ∈ L, x < 256) {H : Hp} (hx : Rl H xv (u8s L)) :
  Ok (C k (.f qjw) [.agg [xv]] H) fun r H' => ∃ f cs, r = .agg cs ∧ FoC (fun b => H.nx ≤ b) H' f cs ∧ Fm No H H' ∧ f.len = 1 ∧ f.Rt Nm ∧ f.depth ≤ 8 ∧ f.size ≤ 28 := by
 obtain ⟨j, rfl⟩ : ∃ j, k = j + 1 := ⟨k - 1, by omega⟩
 rw [(hC j).law13_R_Of]
 unfold law13_R_Of qn3
 simp (disch := first | omega | exact tr_i rfl | (simp only [qaa, qab]; done) | (simp only [qaa, qab]; omega)) only [go_sem, Nat.reduceAdd, Nat.reduceMul, Nat.reduceSub, Nat.reduceLeDiff, Nat.reduceEqDiff, Nat.reduceShiftRight, Nat.reduceAnd]
 have fX : Fm No H (qaq (qaq H (qac 0 [xv])) (qac 0 [.int .u8 (.ofNat 0), .str 0 0, .str 0 0, .nilsl])) := by (repeat (first | exact Fm.refl _ _ | assumption | refine Fm.push ?_ _ | refine Fm.up2 ?_ (by (first | omega | (simp only [qaa, qab]; omega))) | refine Fm.put_new ?_ _ _ (by (first | omega | (simp only [qaa, qab]; omega)))))
 refine Ok.ve (q41 hC hL 6 j (by omega) (by omega) 0 _ (by omega) (hx.fm fX)) ?_
 rintro _ H2 ⟨f, cs, i', rfl, hc, f2, fl, fr, fd, i1, i2, i3⟩
 have n2 := f2.nx
 simp only [qaa] at n2
 have k2 : H2.get (H.nx + 1) = qac 0 [.int .u8 (.ofNat 0), .str 0 0, .str 0 0, .nilsl] := (f2.keep (by (first | omega | (simp only [qaa, qab]; omega)))).trans (by simp (disch := first | omega | exact tr_i rfl | (simp only [qaa, qab]; done) | (simp only [qaa, qab]; omega)) only [go_sem, Nat.reduceAdd, Nat.reduceMul, Nat.reduceSub, Nat.reduceLeDiff, Nat.reduceEqDiff, Nat.reduceShiftRight, Nat.reduceAnd])
 obtain ⟨ka, ra, ta, aa, rfl⟩ : ∃ ka ra ta aa, f = .cons ka ra ta aa .nil := by
  cases f with
  | nil => cases fl
  | cons k rl to a r =>
   cases r with
   | nil => exact ⟨_, _, _, _, rfl⟩
   | cons _ _ _ _ _ => simp [Fo.len] at fl
 obtain ⟨av, ca, cr, rfl, g1, g2, g3, g4⟩ := hc
 obtain rfl : cr = [] := g4
 unfold SS.v
 simp (disch := first | omega | exact tr_i rfl | (simp only [qaa, qab]; done) | (simp only [qaa, qab]; omega)) only [go_sem, Nat.reduceAdd, Nat.reduceMul, Nat.reduceSub, Nat.reduceLeDiff, Nat.reduceEqDiff, Nat.reduceShiftRight, Nat.reduceAnd, k2]
 have f5 : Fm (fun b => b ≤ H2.nx ∧ (b = H.nx + 1 ∨ b = H2.nx)) H2 (((qaq H2 (qac 0 [.int .u8 (.ofNat 0), .str 0 0, .str 0 0, .nilsl])).put H2.nx (qac 0 [.int .u8 (.ofNat ka), .str ra.n ra.a, .str ta.n ta.a, av])).put (H.nx + 1) (qac 0 [.int .u8 (.ofNat ka), .str ra.n ra.a, .str ta.n ta.a, av])) := (((Fm.refl _ _).push _).put _ _ fun h => ⟨Nat.le_refl _, .inr rfl⟩).put _ _ fun h => ⟨by omega, .inl rfl⟩
 have hfo : FoC (fun b => H.nx + 1 + 1 ≤ b ∧ b < H2.nx) H2 (.cons ka ra ta aa .nil) [.int .u8 (.ofNat ka), .str ra.n ra.a, .str ta.n ta.a, av] := FoC.mono (P := fun b => H.nx + 1 + 1 ≤ b) (fun b h1 h2 => ⟨h2, h1⟩) ⟨av, ca, [], rfl, g1, g2, g3, rfl⟩
 exact Ok.ret ⟨_, _, rfl, (hfo.fmS f5 fun b hb h => by omega).mono fun b _ hb => by omega, ((((fX.trans f2).push _).put_new _ _ (by omega)).put_new _ _ (by omega)), rfl, fr, by omega, by omega⟩
end Go.Di
end
noncomputable section
namespace Go.Di
open Go.Ev
variable {C : Nat → Ev.Call}
theorem Gl.src {z n : Nat} {H : Hp} {v : AV} {l : List AV} (h : Gl z H v n l) : qd3 z H v = some ⟨n, l⟩ := by
 have hl := h.len
 rcases h.is with ⟨rfl, rfl⟩ | ⟨b, o, e, q, L, rfl, h1, h2, h3, h4, h5⟩
 ·have : l = [] := List.length_eq_zero_iff.1 (by rw [hl]; simp)
  subst this; rfl
 ·have hL : o + n * z = L.length := by rw [← h3, List.length_drop] at hl; omega
  rw [q0a z H b o n n e q L h1 (by omega), h3, List.take_of_length_le (by omega)]
theorem FoC.one {P : Nat → Prop} {H : Hp} {f : Fo} {cs : List AV} (h : FoC P H f cs) (hl : f.len = 1) : ∃ k rl to a av ca, f = .cons k rl to a .nil ∧ cs = [.int .u8 (.ofNat k), .str rl.n rl.a, .str to.n to.a, av] ∧ Gl 4 H av a.len ca ∧ (∀ b, In av b → P b) ∧ FoC P H a ca := by
 cases f with
 | nil => cases hl
 | cons k rl to a r =>
  cases r with
  | nil =>
   obtain ⟨av, ca, cr, h1, h2, h3, h4, h5⟩ := h
   obtain rfl : cr = [] := h5
   exact ⟨k, rl, to, a, av, ca, rfl, h1, h2, h3, h4⟩
  | cons _ _ _ _ _ => simp [Fo.len] at hl
theorem Gl.rule {P : Nat → Prop} {H : Hp} {v : AV} {n i k : Nat} {rl to : SS} {a r : Fo} {pre rest : List AV} (h : Gl 4 H v n (pre ++ rest)) (hp : pre.length = i * 4) (hr : FoC P H (.cons k rl to a r) rest) :
  i < n ∧ ∃ b o av ca cr, idxS 4 v (.int .i64 (.ofNat i)) = .val (.ptr b o) ∧ b < H.nx ∧ In v b ∧ qd6 (H.get b) o 4 = some [.int .u8 (.ofNat k), .str rl.n rl.a, .str to.n to.a, av] ∧ qbt (H.get b) (o + 3) = .val av ∧ rest = .int .u8 (.ofNat k) :: rl.v :: to.v :: av :: cr ∧ Gl 4 H av a.len ca ∧ (∀ b, In av b → P b) ∧ FoC P H a ca ∧ FoC P H r cr ∧
   ∀ j x, [AV.int .u8 (.ofNat k), .str rl.n rl.a, .str to.n to.a, av][j]? = some x → qbt (H.get b) (o + j) = .val x := by
 obtain ⟨av, ca, cr, h1, h2, h3, h4, h5⟩ := hr
 have hl := h.len
 have hi : i < n := by
  rw [List.length_append, hp, h1] at hl
  simp only [List.length_cons] at hl
  omega
 obtain ⟨b, o, e1, e2, e3, e4, e5⟩ := h.atN hi
 refine ⟨hi, b, o, av, ca, cr, e1, e2, e3, ?_, ?_, h1, h2, h3, h4, h5, fun j x hx => ?_⟩
 ·rw [e4, ← hp, List.drop_left, h1]; rfl
 ·rw [e5 3 (by omega), ← hp, List.getD_eq_getElem?_getD, List.getElem?_append_right (by omega), Nat.add_sub_cancel_left, h1]; rfl
 ·have hj : j < 4 := by
   rcases Nat.lt_or_ge j 4 with h | h
   ·exact h
   ·rw [List.getElem?_eq_none (by simpa using h)] at hx; cases hx
  rw [e5 j hj, ← hp, List.getD_eq_getElem?_getD, List.getElem?_append_right (by omega), Nat.add_sub_cancel_left, h1]
  match j, hj with
  | 0, _ | 1, _ | 2, _ | 3, _ => cases hx; rfl
theorem Fo.app_assoc : ∀ f g h : Fo, (f.app g).app h = f.app (g.app h)
 | .nil, _, _ => rfl
 | .cons k rl to a r, g, h => by rw [Fo.app, Fo.app, Fo.app, Fo.app_assoc r g h]
theorem Fo.len_size : ∀ f : Fo, f.len ≤ f.size
 | .nil => Nat.le_refl _
 | .cons k rl to a r => by have := Fo.len_size r; simp only [Fo.len, Fo.size]; omega
def zbl (C : Nat → Ev.Call) (f : Fo) : Prop :=
 ∀ (j : Nat), f.depth ≤ j → ∀ (H0 : Hp) (ib ob rb kd n : Nat) (rl to : SS) (av : AV) (pre rest : List AV) (i : Nat) (w : AV) (g : Fo) (H : Hp) (q : Hp → R1) (Q : AV → Hp → Prop) (k : Nat), n - i < k → i ≤ n → n = i + f.len → f.Rt Nm → (kd = 4 ∨ kd = 5 ∨ ¬ (kd = 4 ∨ kd = 5)) → g.len + f.size ≤ 1000 → n ≤ 1000 →
  Gl 4 H0 av n (pre ++ rest) → pre.length = i * 4 → FoC (fun _ => True) H0 f rest → H0.nx ≤ ib → H0.nx ≤ ob → H0.nx ≤ rb → ib ≠ ob → ob ≠ rb → ib < H.nx → ob < H.nx → rb < H.nx → H.get ib = qac 0 [.int .u8 (.ofNat kd), rl.v, to.v, av] → H.get ob = qac 0 [.int .u8 (.ofNat kd), rl.v, to.v, w] → H.get rb = qac 0 [.int .u8 (.ofNat 0), .str 0 0, .str 0 0, .nilsl] →
  GrF (fun b => b = ib ∨ b = ob ∨ b = rb) H0 H w g → Fm No H0 H →
  (∀ w H, GrF (fun b => b = ib ∨ b = ob ∨ b = rb) H0 H w (g.app (Fo.spl kd f.flat)) → H.get ob = qac 0 [.int .u8 (.ofNat kd), rl.v, to.v, w] → H.get rb = qac 0 [.int .u8 (.ofNat 0), .str 0 0, .str 0 0, .nilsl] → ob < H.nx → rb < H.nx → Fm No H0 H → Ok (q H) Q) →
  Ok (qd5 (C j) q (.ptr ib 0) (.ptr ob 0) k (.int .i64 (.ofNat i)) H) Q
theorem qu9 (hC : qbi C) {a : Fo} (hL : zbl C a) {j : Nat} (hj : a.depth ≤ j) {kd : Nat} {rl to : SS} {av : AV} {ca : List AV} {H : Hp} (hg : Gl 4 H av a.len ca) (hc : FoC (fun _ => True) H a ca) (hr : a.Rt Nm) (hs : a.size ≤ 1000) :
  Ok (C (j + 1) (.f qh1) [.agg [.int .u8 (.ofNat kd), .str rl.n rl.a, .str to.n to.a, av]] H) fun r H' => ∃ av2 ca2, r = .agg [.int .u8 (.ofNat kd), .str rl.n rl.a, .str to.n to.a, av2] ∧ Gl 4 H' av2 (Fo.spl kd a.flat).len ca2 ∧ (∀ b, In av2 b → H.nx ≤ b) ∧ FoC (fun b => H.nx ≤ b) H' (Fo.spl kd a.flat) ca2 ∧ Fm No H H' := by
 rw [(hC j).ref19_Flat]
 unfold ref19_Flat qnu
 simp (disch := first | omega | exact tr_i rfl | (simp only [qaa, qab]; done) | (simp only [qaa, qab]; omega)) only [go_sem, Nat.reduceAdd, Nat.reduceMul, Nat.reduceSub, Nat.reduceLeDiff, Nat.reduceEqDiff, Nat.reduceShiftRight, Nat.reduceAnd]
 unfold ql4
 rw [qbc]
 obtain ⟨H1, hH1⟩ : ∃ H1, H1 = (qaq (qaq (qaq H (qac 0 [.int .u8 (.ofNat kd), .str rl.n rl.a, .str to.n to.a, av])) (qac 0 [.int .u8 (.ofNat 0), .str 0 0, .str 0 0, .nilsl])) (qac 0 [.int .u8 (.ofNat 0), .str 0 0, .str 0 0, .nilsl])).put (H.nx + 1 + 1) (qac 0 [.int .u8 (.ofNat kd), .str rl.n rl.a, .str to.n to.a, .nilsl]) := ⟨_, rfl⟩
 rw [← hH1]
 have fX : Fm No H H1 := by rw [hH1]; (repeat (first | exact Fm.refl _ _ | assumption | refine Fm.push ?_ _ | refine Fm.up2 ?_ (by (first | omega | (simp only [qaa, qab]; omega))) | refine Fm.put_new ?_ _ _ (by (first | omega | (simp only [qaa, qab]; omega)))))
 have n1 : H1.nx = H.nx + 1 + 1 + 1 := by rw [hH1]; simp only [qaa, qab]
 refine hL j hj H H.nx (H.nx + 1 + 1) (H.nx + 1) kd a.len rl to av [] ca 0 .nilsl .nil H1 _ _ qaz (by have := Fo.len_size a; rw [qas]; omega) (Nat.zero_le _) (by omega) hr (by omega) (by simp only [Fo.len]; omega) (by have := Fo.len_size a; omega) hg rfl hc (Nat.le_refl _) (by omega) (by omega) (by omega) (by omega) (by omega) (by omega) (by omega) (by rw [hH1]; unfold SS.v; simp (disch := first | omega | exact tr_i rfl | (simp only [qaa, qab]; done) | (simp only [qaa, qab]; omega)) only [go_sem, Nat.reduceAdd, Nat.reduceMul, Nat.reduceSub, Nat.reduceLeDiff, Nat.reduceEqDiff, Nat.reduceShiftRight, Nat.reduceAnd]) (by rw [hH1]; exact qar _ _ _) (by rw [hH1]; simp (disch := first | omega | exact tr_i rfl | (simp only [qaa, qab]; done) | (simp only [qaa, qab]; omega)) only [go_sem, Nat.reduceAdd, Nat.reduceMul, Nat.reduceSub, Nat.reduceLeDiff, Nat.reduceEqDiff, Nat.reduceShiftRight, Nat.reduceAnd]) (GrF.nil _ _ _) fX fun w H2 w2 o2 r2 b1 b2 f2 => ?_
 unfold qez
 unfold SS.v at o2
 simp (disch := first | omega | exact tr_i rfl | (simp only [qaa, qab]; done) | (simp only [qaa, qab]; omega)) only [go_sem, Nat.reduceAdd, Nat.reduceMul, Nat.reduceSub, Nat.reduceLeDiff, Nat.reduceEqDiff, Nat.reduceShiftRight, Nat.reduceAnd, o2, r2]
 obtain ⟨cs, c1, c2⟩ := w2.ex
 have f5 : Fm (fun b => b = H.nx + 1) H2 (H2.put (H.nx + 1) (qac 0 [.int .u8 (.ofNat kd), .str rl.n rl.a, .str to.n to.a, w])) := (Fm.refl _ _).put _ _ fun _ => rfl
 refine Ok.ret ⟨w, cs, rfl, c1.fm f5 fun b hb he => (w2.nw b hb).2 (.inr (.inr he)), fun b hb => (w2.nw b hb).1, (c2.fmS f5 fun b hb he => hb.2.2 (.inr (.inr he))).mono fun b _ hb => hb.1, f2.put_new _ _ (by omega)⟩
theorem q1s (hC : qbi C) : ∀ f : Fo, zbl C f := by
 intro f
 induction f with
 | nil =>
  intro j hj H0 ib ob rb kd n rl to av pre rest i w g H q Q k hk hi hn hr hkd hsz hnn hg hp hc i1 i2 i3 i4 i5 b1 b2 b3 h1 h2 h3 hw hf hq
  obtain ⟨k, rfl⟩ : ∃ m, k = m + 1 := ⟨k - 1, by omega⟩
  show Ok (qg4 (C j) _ _ _ (qd5 (C j) _ _ _ k) _ H) Q
  unfold qg4
  simp only [Fo.len] at hn
  have hlt : ¬ i < n := by omega
  have hl := hg.lenV
  unfold SS.v at h1
  simp (disch := first | omega | exact tr_i rfl | (simp only [qaa, qab]; done) | (simp only [qaa, qab]; omega)) only [go_sem, Nat.reduceAdd, Nat.reduceMul, Nat.reduceSub, Nat.reduceLeDiff, Nat.reduceEqDiff, Nat.reduceShiftRight, Nat.reduceAnd, h1, hl, hlt]
  refine hq w H ?_ h2 h3 b2 b3 hf
  simp only [Fo.flat, Fo.spl, Fo.app_nil]
  exact hw
 | cons k1 r1 t1 a r iha ihr =>
  intro j hj H0 ib ob rb kd n rl to av pre rest i w g H q Q k hk hi hn hr hkd hsz hnn hg hp hc i1 i2 i3 i4 i5 b1 b2 b3 h1 h2 h3 hw hf hq
  obtain ⟨k, rfl⟩ : ∃ m, k = m + 1 := ⟨k - 1, by omega⟩
  show Ok (qg4 (C j) _ _ _ (qd5 (C j) _ _ _ k) _ H) Q
  unfold qg4
  simp only [Fo.len] at hn
  simp only [Fo.depth] at hj
  simp only [Fo.size] at hsz
  have hlt : i < n := by omega
  have hl := hg.lenV
  obtain ⟨_, b, o, av1, ca, cr, e1, e2, e3, e4, _, e5, g1, g2, g3, g4, _⟩ := (hg.no hf).rule hp (hc.fm hf)
  have h1' := h1
  have h2' := h2
  unfold SS.v at h1 h2
  simp (disch := first | omega | exact tr_i rfl | (simp only [qaa, qab]; done) | (simp only [qaa, qab]; omega)) only [go_sem, Nat.reduceAdd, Nat.reduceMul, Nat.reduceSub, Nat.reduceLeDiff, Nat.reduceEqDiff, Nat.reduceShiftRight, Nat.reduceAnd, h1, hl, hlt]
  unfold ql3
  simp (disch := first | omega | exact tr_i rfl | (simp only [qaa, qab]; done) | (simp only [qaa, qab]; omega)) only [go_sem, Nat.reduceAdd, Nat.reduceMul, Nat.reduceSub, Nat.reduceLeDiff, Nat.reduceEqDiff, Nat.reduceShiftRight, Nat.reduceAnd, h1, e1, e4]
  obtain ⟨j, rfl⟩ : ∃ m, j = m + 1 := ⟨j - 1, by omega⟩
  have lsz := Fo.len_size r
  have fsz : (Fo.spl k1 a.flat).len ≤ a.size := Nat.le_trans (Fo.len_size _) (Nat.le_trans (Fo.spl_size _ _) (Fo.flat_size _))
  refine Ok.ve (qu9 hC iha (j := j) (by omega) (kd := k1) g1 g3 hr.2.1 (by omega)) ?_
  rintro _ H2 ⟨av2, ca2, rfl, c1, c2, c3, f2⟩
  have n2 := f2.nx
  have n0 := hf.nx
  have o2 := (f2.keep b2).trans h2
  have r2 := (f2.keep b3).trans h3
  have q2 := (f2.keep b1).trans h1
  have fin : ∀ (ff : Fo) (cf : List AV) (HH : Hp), Fm No H HH → 0 < ff.len → FoC (fun b => H.nx ≤ b) HH ff cf → ff.app (Fo.spl kd r.flat) = Fo.spl kd (Fo.cons k1 r1 t1 a r).flat → ff.len ≤ a.size + 1 →
    Ok (ve (qbb 4 64 HH w (some ⟨ff.len, cf⟩)) fun a41 H => ve (qcr H (.ptr ob 3) a41) fun _ H => qg3 (C (j + 1)) (qd5 (C (j + 1)) q (.ptr ib 0) (.ptr ob 0) k) (.int .i64 (.ofNat i)) H) Q := by
   intro ff cf HH fA hl0 hff hap hln
   have hnw : ∀ b, In w b → b < H.nx := fun b hb => by
    obtain ⟨cs, d1, _⟩ := hw.ex
    exact d1.lt hb
   have nA := fA.nx
   refine Ok.ve ((hw.no fA).add (hff.mono fun b _ hb => ⟨by omega, fun hi => by have := hnw b hi; omega, by omega⟩) (fun b hb => by omega) (by omega) hl0 (by omega)) ?_
   rintro w' H4 ⟨w4, f4, n4, hw4⟩
   have kp : ∀ c, c < H.nx → (c = ib ∨ c = ob ∨ c = rb) → H4.get c = H.get c := fun c hc hx => by
    rw [f4.get c (by omega) (fun hi => (hw.nw c hi).2 hx), fA.keep hc]
   have o4 := (kp ob b2 (.inr (.inl rfl))).trans h2
   subst hw4
   simp (disch := first | omega | exact tr_i rfl | (simp only [qaa, qab]; done) | (simp only [qaa, qab]; omega)) only [go_sem, Nat.reduceAdd, Nat.reduceMul, Nat.reduceSub, Nat.reduceLeDiff, Nat.reduceEqDiff, Nat.reduceShiftRight, Nat.reduceAnd, o4]
   unfold qg3
   simp (disch := first | omega | exact tr_i rfl | (simp only [qaa, qab]; done) | (simp only [qaa, qab]; omega)) only [go_sem, Nat.reduceAdd, Nat.reduceMul, Nat.reduceSub, Nat.reduceLeDiff, Nat.reduceEqDiff, Nat.reduceShiftRight, Nat.reduceAnd]
   have f5 : Fm (fun b => b = ob) H4 (H4.put ob (qac 0 [.int .u8 (.ofNat kd), .str rl.n rl.a, .str to.n to.a, .sl HH.nx 0 (g.len + ff.len) (g.len + ff.len) false])) := (Fm.refl _ _).put _ _ fun _ => rfl
   have f6 : Fm No H0 (H4.put ob (qac 0 [.int .u8 (.ofNat kd), .str rl.n rl.a, .str to.n to.a, .sl HH.nx 0 (g.len + ff.len) (g.len + ff.len) false])) := ((hf.trans fA).then f4 fun c hc hi => by have := (hw.nw c hi).1; omega).put_new _ _ i2
   have e5' : pre ++ rest = (pre ++ [.int .u8 (.ofNat k1), r1.v, t1.v, av1]) ++ cr := by rw [e5]; simp
   refine ihr (j + 1) (by omega) H0 ib ob rb kd n rl to av (pre ++ [.int .u8 (.ofNat k1), r1.v, t1.v, av1]) cr (i + 1) _ (g.app ff) _ q Q k (by omega) (by omega) (by omega) hr.2.2 hkd (by rw [Fo.app_len]; omega) hnn (e5' ▸ hg) (by simp [hp]; omega) ?_ i1 i2 i3 i4 i5 (by simp only [qab]; omega) (by simp only [qab]; omega) (by simp only [qab]; omega) ?_ (qar _ _ _) ?_ (w4.fmS f5 fun b hb => .inl (.inr (.inl hb))) f6 ?_
   ·obtain ⟨_, _, cr', d1, _, _, _, d5⟩ := hc
    rw [e5] at d1
    simp only [List.cons.injEq] at d1
    rw [d1.2.2.2.2]; exact d5
   ·rw [qbz _ _ _ _ i4, kp ib b1 (.inl rfl)]; exact h1'
   ·rw [qbz _ _ _ _ (fun h => i5 h.symm), kp rb b3 (.inr (.inr rfl))]; exact h3
   ·rw [← hap, ← Fo.app_assoc] at hq
    exact hq
  have f3 : ∀ x, Fm (fun b => b = H2.nx) H2 ((qaq H2 (qac 0 [.int .u8 (.ofNat 0), .str 0 0, .str 0 0, .nilsl])).put H2.nx x) := fun x => ((Fm.refl _ _).push _).put _ _ fun h => rfl
  have fA : ∀ x, Fm No H ((qaq H2 (qac 0 [.int .u8 (.ofNat 0), .str 0 0, .str 0 0, .nilsl])).put H2.nx x) := fun x => (f2.push _).put_new _ _ n2
  have c1' : ∀ x, Gl 4 ((qaq H2 (qac 0 [.int .u8 (.ofNat 0), .str 0 0, .str 0 0, .nilsl])).put H2.nx x) av2 (Fo.spl k1 a.flat).len ca2 := fun x => c1.fm (f3 x) fun b hb he => by have := c1.lt hb; omega
  have c3' : ∀ x, FoC (fun b => H.nx ≤ b) ((qaq H2 (qac 0 [.int .u8 (.ofNat 0), .str 0 0, .str 0 0, .nilsl])).put H2.nx x) (Fo.spl k1 a.flat) ca2 := fun x => ((c3.mono (Q := fun b => H.nx ≤ b ∧ b < H2.nx) fun b h1 h2 => ⟨h2, h1⟩).fmS (f3 x) fun b hb he => by omega).mono fun b _ hb => hb.1
  have el : ∀ x, FoC (fun b => H.nx ≤ b) (qaq ((qaq H2 (qac 0 [.int .u8 (.ofNat 0), .str 0 0, .str 0 0, .nilsl])).put H2.nx x) (qac 0 [.int .u8 (.ofNat k1), .str r1.n r1.a, .str t1.n t1.a, av2])) (.cons k1 r1 t1 (Fo.spl k1 a.flat) .nil) [.int .u8 (.ofNat k1), .str r1.n r1.a, .str t1.n t1.a, av2] := fun x =>
   ⟨av2, ca2, [], rfl, (c1' x).no ((Fm.refl _ _).push _), c2, (c3' x).fm ((Fm.refl _ _).push _), rfl⟩
  have one : (Fo.cons k1 r1 t1 (Fo.spl k1 a.flat) .nil).len = 1 := rfl
  simp (disch := first | omega | exact tr_i rfl | (simp only [qaa, qab]; done) | (simp only [qaa, qab]; omega)) only [go_sem, Nat.reduceAdd, Nat.reduceMul, Nat.reduceSub, Nat.reduceLeDiff, Nat.reduceEqDiff, Nat.reduceShiftRight, Nat.reduceAnd, q2, o2]
  have hpos : k1 = 4 ∨ k1 = 5 → 0 < (Fo.spl k1 a.flat).len := fun h => by
   have h2 : 2 ≤ a.len := by rcases hr.1 with h' | h' | h' | h' | h' | h' <;> omega
   have := (Fo.spl_rt Nm k1 a.flat (Fo.flat_rt Nm a hr.2.1)).2
   rw [Fo.flat_len] at this
   omega
  rcases hkd with rfl | rfl | hk0
  ·by_cases hk1 : k1 = 4
   ·subst hk1
    simp (disch := first | omega | exact tr_i rfl | (simp only [qaa, qab]; done) | (simp only [qaa, qab]; omega)) only [go_sem, Nat.reduceAdd, Nat.reduceMul, Nat.reduceSub, Nat.reduceLeDiff, Nat.reduceEqDiff, Nat.reduceShiftRight, Nat.reduceAnd, q2, o2, (c1' _).src]
    exact fin _ _ _ (fA _) (hpos (.inl rfl)) (c3' _) (by simp [Fo.flat, Fo.spl]) (by omega)
   ·simp (disch := first | omega | exact tr_i rfl | (simp only [qaa, qab]; done) | (simp only [qaa, qab]; omega)) only [go_sem, Nat.reduceAdd, Nat.reduceMul, Nat.reduceSub, Nat.reduceLeDiff, Nat.reduceEqDiff, Nat.reduceShiftRight, Nat.reduceAnd, q2, o2, hk1]
    exact fin _ _ _ ((fA _).push _) (Nat.lt_of_lt_of_eq Nat.one_pos one.symm) (el _) (by simp [Fo.flat, Fo.spl, hk1, Fo.app]) (by omega)
  ·by_cases hk1 : k1 = 5
   ·subst hk1
    simp (disch := first | omega | exact tr_i rfl | (simp only [qaa, qab]; done) | (simp only [qaa, qab]; omega)) only [go_sem, Nat.reduceAdd, Nat.reduceMul, Nat.reduceSub, Nat.reduceLeDiff, Nat.reduceEqDiff, Nat.reduceShiftRight, Nat.reduceAnd, q2, o2, (c1' _).src]
    exact fin _ _ _ (fA _) (hpos (.inr rfl)) (c3' _) (by simp [Fo.flat, Fo.spl]) (by omega)
   ·simp (disch := first | omega | exact tr_i rfl | (simp only [qaa, qab]; done) | (simp only [qaa, qab]; omega)) only [go_sem, Nat.reduceAdd, Nat.reduceMul, Nat.reduceSub, Nat.reduceLeDiff, Nat.reduceEqDiff, Nat.reduceShiftRight, Nat.reduceAnd, q2, o2, hk1]
    exact fin _ _ _ ((fA _).push _) (Nat.lt_of_lt_of_eq Nat.one_pos one.symm) (el _) (by simp [Fo.flat, Fo.spl, hk1, Fo.app]) (by omega)
  ·have h4 : ¬ kd = 4 := fun h => hk0 (.inl h)
   have h5 : ¬ kd = 5 := fun h => hk0 (.inr h)
   simp (disch := first | omega | exact tr_i rfl | (simp only [qaa, qab]; done) | (simp only [qaa, qab]; omega)) only [go_sem, Nat.reduceAdd, Nat.reduceMul, Nat.reduceSub, Nat.reduceLeDiff, Nat.reduceEqDiff, Nat.reduceShiftRight, Nat.reduceAnd, q2, o2, h4, h5]
   exact fin _ _ _ ((fA _).push _) (Nat.lt_of_lt_of_eq Nat.one_pos one.symm) (el _) (by simp [Fo.flat, Fo.spl, h4, h5, Fo.app]) (by omega)
end Go.Di
end
noncomputable section
namespace Go.Di
open Go.Ev
variable {C : Nat → Ev.Call}
abbrev Key := Nat × SS × SS × List Nat
def Fo.kys : Fo → Nat → List Key
 | .nil, _ => []
 | .cons k rl to a r, p => (k, rl, to, a.ixs (p + 1)) :: (a.kys (p + 1) ++ r.kys (p + 1 + a.size))
theorem Fo.kys_len : ∀ (f : Fo) (p : Nat), (f.kys p).length = f.size
 | .nil, _ => rfl
 | .cons k rl to a r, p => by rw [Fo.kys, List.length_cons, List.length_append, kys_len a, kys_len r, Fo.size]; omega
def ints (l : List Nat) : List AV := l.map fun n => .int .i64 (.ofNat n)
structure NE where
 k : Nat
 rl : SS
 to : SS
 args : List Nat
 av : AV
 ng : Bool
def neC (x : NE) : List AV := [.int .u8 (.ofNat x.k), x.rl.v, x.to.v, x.av, .bool x.ng]
theorem ql9 (x : NE) : (neC x).length = 5 := rfl
def NE.key (x : NE) : Key := (x.k, x.rl, x.to, x.args)
structure NE.Ar (P : Nat → Prop) (H : Hp) (x : NE) : Prop where
 gl : Gl 1 H x.av x.args.length (ints x.args)
 nw : ∀ b, In x.av b → P b
theorem NE.Ar.fm {P Q S : Nat → Prop} {H H' : Hp} {x : NE} (h : x.Ar P H) (f : Fm S H H') (hs : ∀ b, b < H.nx → P b → ¬ S b) (hq : ∀ b, b < H.nx → P b → Q b) : x.Ar Q H' :=
 ⟨h.gl.keep f.nx fun b hb hl => f.get b hl (hs b hl (h.nw b hb)), fun b hb => hq b (h.gl.lt hb) (h.nw b hb)⟩
theorem q0f (L : List AV) (o i : Nat) (x : AV) (h : o + i < L.length) : (setL L (o + i) [x]).drop o = setL (L.drop o) i [x] := by
 unfold setL
 simp only [List.length_cons, List.length_nil, Nat.zero_add, List.append_assoc]
 rw [List.drop_append_of_le_length (by simp; omega), List.drop_take, Nat.add_sub_cancel_left, List.drop_drop]
 congr 3
theorem Gl.set1 {z n : Nat} {H : Hp} {v : AV} {l : List AV} (h : Gl z H v n l) {i j : Nat} (hi : i < n) (hj : j < z) (x : AV) :
  ∃ b o H', idxS z v (.int .i64 (.ofNat i)) = .val (.ptr b o) ∧ storeAt H b (o + j) [x] .undef = .ok .undef H' ∧ Gl z H' v n (setL l (i * z + j) [x]) ∧ Fm (In v) H H' ∧ H'.nx = H.nx := by
 have hl := h.len
 rcases h.is with ⟨rfl, rfl⟩ | ⟨b, o, e, q, L, rfl, h1, h2, h3, h4, h5⟩
 ·omega
 ·have hm : i * z + z ≤ n * z := by
   have : (i + 1) * z ≤ n * z := Nat.mul_le_mul_right z hi
   rw [Nat.add_mul, Nat.one_mul] at this; exact this
  have hL : o + n * z = L.length := by rw [← h3, List.length_drop] at hl; omega
  have hs : o + i * z + j + [x].length ≤ L.length := by simp; omega
  have hb : i * z + j + [x].length ≤ l.length := by rw [hl]; simp; omega
  refine ⟨b, o + i * z, _, qqk _ _ _ _ _ _ _ _ hi, qp1 H b _ [x] _ q L h1 hs, ⟨?_, .inr ⟨b, o, e, q, _, rfl, qar _ _ _, ?_, ?_, h4, h5⟩⟩, (Fm.refl _ _).put b _ fun _ => ⟨_, _, _, _, rfl⟩, rfl⟩
  ·rw [qkq _ _ _ hb, hl]
  ·rw [qkq _ _ _ hs]; exact h2
  ·rw [Nat.add_assoc, q0f _ _ _ _ (by omega), h3]
theorem q05 (a : AV) : ∀ (l : List NE) (i : Nat) (x : NE), l[i]? = some x → setL (l.flatMap neC) (i * 5 + 3) [a] = (l.set i ⟨x.k, x.rl, x.to, x.args, a, x.ng⟩).flatMap neC
 | [], _, _, h => by simp at h
 | y :: l, 0, x, h => by
  obtain rfl : y = x := by simpa using h
  simp [setL, neC]
 | y :: l, i + 1, x, h => by
  have := q05 a l i x (by simpa using h)
  rw [List.set_cons_succ, List.flatMap_cons, List.flatMap_cons, ← this]
  unfold setL
  have e : (i + 1) * 5 + 3 = (neC y).length + (i * 5 + 3) := by rw [ql9]; omega
  rw [e, List.take_length_add_append, List.append_assoc, List.append_assoc]
  congr 1
  rw [List.append_assoc]
  congr 2
  rw [Nat.add_assoc, List.drop_length_add_append]
theorem set_mid {α : Type} (lo ln : List α) (h x : α) : (lo ++ [h] ++ ln).set lo.length x = lo ++ ([x] ++ ln) := by
 rw [List.append_assoc, List.set_append_right _ _ (Nat.le_refl _), Nat.sub_self]; rfl
structure NoI (S0 : Nat → Prop) (H0 H : Hp) (ib kd : Nat) (rl to : SS) (av w xa : AV) (lo ln : List NE) (done : List Nat) : Prop where
 fm : Fm S0 H0 H
 bx : H0.nx ≤ ib ∧ ib < H.nx ∧ H.get ib = qac 0 [.int .u8 (.ofNat kd), .str rl.n rl.a, .str to.n to.a, av]
 gl : Gl 5 H w (lo ++ ln).length ((lo ++ ln).flatMap neC)
 nw : ∀ b, In w b → H0.nx ≤ b ∧ b ≠ ib
 xl : Gl 1 H xa done.length (ints done)
 xw : ∀ b, In xa b → H0.nx ≤ b ∧ b ≠ ib ∧ ¬ In w b
 ar : ∀ e ∈ ln, e.Ar (fun b => H0.nx ≤ b ∧ b ≠ ib ∧ ¬ In w b ∧ ¬ In xa b) H
def NodL (C : Nat → Ev.Call) (f : Fo) : Prop :=
 ∀ (j : Nat), f.depth ≤ j → ∀ (S0 : Nat → Prop) (H0 : Hp) (ib kd n i : Nat) (rl to : SS) (av w xa : AV) (lo ln : List NE) (done : List Nat) (pre rest : List AV) (neg : Bool) (H : Hp) (q : AV → AV → Hp → R1) (Q : AV → Hp → Prop) (k : Nat), n - i < k → n = i + f.len → done.length = i → n ≤ 1000 → (lo ++ ln).length + f.size ≤ 1000 →
  Gl 4 H0 av n (pre ++ rest) → pre.length = i * 4 → (∀ b, In av b → ¬ S0 b) → FoC (fun b => ¬ S0 b) H0 f rest → NoI S0 H0 H ib kd rl to av w xa lo ln done →
  (∀ w' xa' H' ln', NoI S0 H0 H' ib kd rl to av w' xa' lo (ln ++ ln') (done ++ f.ixs (lo ++ ln).length) → ln'.map NE.key = f.kys (lo ++ ln).length → Ok (q w' xa' H') Q) →
  Ok (qdh (C j) q (.bool neg) (.ptr ib 0) k w xa (.int .i64 (.ofNat i)) H) Q
theorem qxk (hC : qbi C) {a : Fo} (hL : NodL C a) {j : Nat} (hj : a.depth ≤ j) {kd : Nat} {rl to : SS} {av w : AV} {ca : List AV} {lo : List NE} {neg : Bool} {H : Hp} (hw : Gl 5 H w lo.length (lo.flatMap neC)) (hg : Gl 4 H av a.len ca) (hd : ∀ b, In av b → ¬ In w b) (hc : FoC (fun b => ¬ In w b) H a ca) (hs : lo.length + a.size + 1 ≤ 1000) :
  Ok (C (j + 1) (.f qd8) [w, .agg [.int .u8 (.ofNat kd), .str rl.n rl.a, .str to.n to.a, av], .bool neg] H) fun w' H' => ∃ ln, Gl 5 H' w' (lo ++ ln).length ((lo ++ ln).flatMap neC) ∧ ln.map NE.key = (Fo.cons kd rl to a .nil).kys lo.length ∧ (∀ e ∈ ln, e.Ar (fun b => H.nx ≤ b ∧ ¬ In w' b) H') ∧ Fm (In w) H H' ∧ ∀ b, In w' b → H.nx ≤ b := by
 rw [(hC j).ref13_Nodes]
 unfold ref13_Nodes qmz
 have hl := hw.lenV
 simp (disch := first | omega | exact tr_i rfl | (simp only [qaa, qab]; done) | (simp only [qaa, qab]; omega)) only [go_sem, Nat.reduceAdd, Nat.reduceMul, Nat.reduceSub, Nat.reduceLeDiff, Nat.reduceEqDiff, Nat.reduceShiftRight, Nat.reduceAnd, hl]
 have hal := Fo.len_size a
 have fX : Fm No H (qaq (qaq H (qac 0 [.int .u8 (.ofNat kd), .str rl.n rl.a, .str to.n to.a, av])) (qac 0 (neC ⟨kd, rl, to, [], .nilsl, neg⟩))) := by (repeat (first | exact Fm.refl _ _ | assumption | refine Fm.push ?_ _ | refine Fm.up2 ?_ (by (first | omega | (simp only [qaa, qab]; omega))) | refine Fm.put_new ?_ _ _ (by (first | omega | (simp only [qaa, qab]; omega)))))
 obtain ⟨H1, e1, g1, q1, f1, n1⟩ := (hw.no fX).append (k := 1) (w := 72) (x := neC ⟨kd, rl, to, [], .nilsl, neg⟩) (by omega) rfl (by omega) (by omega)
 refine Ok.veE e1 ?_
 simp only [qaa] at n1
 unfold qku
 rw [qbc]
 have fH : Fm (In w) H H1 := (fX.mono fun _ _ h => absurd h id).then f1 fun _ _ h => h
 have hlt : ¬ In w H.nx := fun h => by have := hw.lt h; omega
 have k1 : H1.get H.nx = qac 0 [.int .u8 (.ofNat kd), .str rl.n rl.a, .str to.n to.a, av] := (f1.get _ (by (first | omega | (simp only [qaa, qab]; omega))) hlt).trans (by simp (disch := first | omega | exact tr_i rfl | (simp only [qaa, qab]; done) | (simp only [qaa, qab]; omega)) only [go_sem, Nat.reduceAdd, Nat.reduceMul, Nat.reduceSub, Nat.reduceLeDiff, Nat.reduceEqDiff, Nat.reduceShiftRight, Nat.reduceAnd])
 have nw1 : ∀ b, In (.sl (qaq (qaq H (qac 0 [.int .u8 (.ofNat kd), .str rl.n rl.a, .str to.n to.a, av])) (qac 0 (neC ⟨kd, rl, to, [], .nilsl, neg⟩))).nx 0 (lo.length + 1) (lo.length + 1) false) b → b = H.nx + 1 + 1 := fun b h => by
  obtain ⟨_, _, _, _, h⟩ := h
  injection h with h
  rw [← h]; simp only [qaa]
 have hI : NoI (In w) H H1 H.nx kd rl to av (.sl (qaq (qaq H (qac 0 [.int .u8 (.ofNat kd), .str rl.n rl.a, .str to.n to.a, av])) (qac 0 (neC ⟨kd, rl, to, [], .nilsl, neg⟩))).nx 0 (lo.length + 1) (lo.length + 1) false) .nilsl (lo ++ [⟨kd, rl, to, [], .nilsl, neg⟩]) [] [] := by
  refine ⟨fH, ⟨Nat.le_refl _, by omega, k1⟩, ?_, fun b h => ?_, Gl.nil 1 _, fun b h => absurd h (notNil b), fun e he => by cases he⟩
  ·rw [List.append_nil, List.length_append, List.flatMap_append, List.flatMap_singleton]; exact g1
  ·have := nw1 b h; omega
 refine hL j hj (In w) H H.nx kd a.len 0 rl to av _ .nilsl _ [] [] [] ca neg H1 _ _ qaz (by rw [qas]; omega) (by omega) rfl (by omega) (by simp; omega) hg rfl hd hc hI fun w2 xa2 H2 ln2 hI2 hk2 => ?_
 unfold qef
 simp only [List.nil_append, List.append_nil] at hI2 hk2
 have hat : lo.length < (lo ++ [(⟨kd, rl, to, [], .nilsl, neg⟩ : NE)] ++ ln2).length := by simp
 obtain ⟨b, o, H3, i1, i2, g3, f3, n3⟩ := hI2.gl.set1 hat (j := 3) (by omega) xa2
 rw [q05 xa2 _ lo.length ⟨kd, rl, to, [], .nilsl, neg⟩ (by simp), set_mid] at g3
 have key : Ok (.ok w2 H3) fun w' H' => ∃ ln, Gl 5 H' w' (lo ++ ln).length ((lo ++ ln).flatMap neC) ∧ ln.map NE.key = (Fo.cons kd rl to a .nil).kys lo.length ∧ (∀ e ∈ ln, e.Ar (fun b => H.nx ≤ b ∧ ¬ In w' b) H') ∧ Fm (In w) H H' ∧ ∀ b, In w' b → H.nx ≤ b := by
  refine Ok.ret ⟨⟨kd, rl, to, a.ixs (lo.length + 1), xa2, neg⟩ :: ln2, ?_, ?_, ?_, hI2.fm.then f3 fun c hc hi => by have := (hI2.nw c hi).1; omega, fun b hb => (hI2.nw b hb).1⟩
  ·have e5 : ∀ x : NE, neC x = neC { x with args := a.ixs (lo.length + 1) } := fun _ => rfl
   have : (lo ++ ([(⟨kd, rl, to, [], xa2, neg⟩ : NE)] ++ ln2)).flatMap neC = (lo ++ (⟨kd, rl, to, a.ixs (lo.length + 1), xa2, neg⟩ :: ln2)).flatMap neC := by
    rw [List.flatMap_append, List.flatMap_append, List.flatMap_append, List.flatMap_singleton, List.flatMap_cons, e5 ⟨kd, rl, to, [], xa2, neg⟩]
   rw [← this]
   have hlen : (lo ++ (⟨kd, rl, to, a.ixs (lo.length + 1), xa2, neg⟩ :: ln2)).length = (lo ++ [(⟨kd, rl, to, [], .nilsl, neg⟩ : NE)] ++ ln2).length := by simp
   rw [hlen]; exact g3
  ·rw [List.map_cons, hk2]
   simp [NE.key, Fo.kys]
  ·intro e he
   rcases List.mem_cons.1 he with rfl | he
   ·refine ⟨?_, fun b hb => ⟨(hI2.xw b hb).1, (hI2.xw b hb).2.2⟩⟩
    have := hI2.xl.fm f3 fun b hb hi => (hI2.xw b hb).2.2 hi
    simpa using this
   ·exact (hI2.ar e he).fm f3 (fun b _ hb => hb.2.2.1) fun b _ hb => ⟨hb.1, hb.2.2.1⟩
 rcases hI2.xl.is with ⟨h, _⟩ | ⟨_, _, _, _, _, h, _⟩
 ·subst h
  simp (disch := first | omega | exact tr_i rfl | (simp only [qaa, qab]; done) | (simp only [qaa, qab]; omega)) only [go_sem, Nat.reduceAdd, Nat.reduceMul, Nat.reduceSub, Nat.reduceLeDiff, Nat.reduceEqDiff, Nat.reduceShiftRight, Nat.reduceAnd, i1, i2]
  exact key
 ·subst h
  simp (disch := first | omega | exact tr_i rfl | (simp only [qaa, qab]; done) | (simp only [qaa, qab]; omega)) only [go_sem, Nat.reduceAdd, Nat.reduceMul, Nat.reduceSub, Nat.reduceLeDiff, Nat.reduceEqDiff, Nat.reduceShiftRight, Nat.reduceAnd, i1, i2]
  exact key
end Go.Di
end
