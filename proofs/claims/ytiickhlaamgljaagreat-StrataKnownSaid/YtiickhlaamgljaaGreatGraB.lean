/-
 For countersignlaw18.StrataKnown: regions that draw, and slices that grow. No conditions beyond those that each theorem states.
-/
import Derived.Test.YtiickhlaamgljaaGreatGraA
set_option linter.unusedSimpArgs false
set_option linter.unusedVariables false
noncomputable section
/-
 Regions that draw their order, growing slices, bounds.
-/
namespace Go.Di
open Go.Ev
def vD (r : R0) (lk al : Bool) (i A nm : Nat) (H : Hp) (p : List Pd) (w : List Wt) (f : Hp → R0) (k : AV → Hp → List Pd → List Wt → R1) : R1 :=
 match r with
  | .bad => .bad
  | .val v => k v H p (bif lk then ⟨i, A, f, v⟩ :: w else w)
  | .new v b => bif al && b.wr then k v H (⟨i, nm, b⟩ :: p) w else .bad
theorem dq_t (lk al : Bool) (i A nm : Nat) (H : Hp) (p : List Pd) (w : List Wt) (f : Hp → R0) (k : AV → Hp → List Pd → List Wt → R1) : dq lk al i A nm H p w f (some true) k = vD (f (qa2 A p H)) lk al i A nm H p w f k := by rw [q5t]; rfl
theorem dq_f (lk al : Bool) (i A nm : Nat) (H : Hp) (p : List Pd) (w : List Wt) (f : Hp → R0) (k : AV → Hp → List Pd → List Wt → R1) : dq lk al i A nm H p w f (some false) k = k .undef H p w := by rw [q5t]; rfl
@[congr] theorem dq_congr {lk al : Bool} {i A nm : Nat} {H : Hp} {p : List Pd} {w : List Wt} {f : Hp → R0} {g g' : Option Bool} {k : AV → Hp → List Pd → List Wt → R1} (h : g = g') : dq lk al i A nm H p w f g k = dq lk al i A nm H p w f g' k := by rw [h]
@[congr] theorem vD_congr {r r' : R0} {lk al : Bool} {i A nm : Nat} {H : Hp} {p : List Pd} {w : List Wt} {f : Hp → R0} {k : AV → Hp → List Pd → List Wt → R1} (h : r = r') : vD r lk al i A nm H p w f k = vD r' lk al i A nm H p w f k := by rw [h]
@[congr] theorem de_congr {A : Nat} {H : Hp} {p : List Pd} {w : List Wt} {r r' : R1} {g g' : Option Bool} {k : AV → Hp → List Pd → List Wt → R1} (h : g = g') (hr : r = r') : de A H p w r g k = de A H p w r' g' k := by rw [h, hr]
theorem vD_q (v : AV) (al : Bool) (i A nm : Nat) (H : Hp) (p : List Pd) (w : List Wt) (f : Hp → R0) (k : AV → Hp → List Pd → List Wt → R1) : vD (.val v) false al i A nm H p w f k = k v H p w := id rfl
theorem vD_l (v : AV) (al : Bool) (i A nm : Nat) (H : Hp) (p : List Pd) (w : List Wt) (f : Hp → R0) (k : AV → Hp → List Pd → List Wt → R1) : vD (.val v) true al i A nm H p w f k = k v H p (⟨i, A, f, v⟩ :: w) := id rfl
theorem q9v (v : AV) (z : Nat) (l : List AV) (lk : Bool) (i A nm : Nat) (H : Hp) (p : List Pd) (w : List Wt) (f : Hp → R0) (k : AV → Hp → List Pd → List Wt → R1) : vD (.new v (qaa z l)) lk true i A nm H p w f k = k v H (⟨i, nm, qaa z l⟩ :: p) w := id rfl
theorem de_f (A : Nat) (H : Hp) (p : List Pd) (w : List Wt) (r : R1) (k : AV → Hp → List Pd → List Wt → R1) : de A H p w r (some false) k = k .undef H p w := by rw [q5v]; rfl
def vE (c : Bool) (r : R1) : R1 := bif c then r else .bad
@[congr] theorem vE_congr {c c' : Bool} {r : R1} (h : c = c') : vE c r = vE c' r := by rw [h]
theorem vE_t (r : R1) : vE true r = r := id rfl
theorem q83 (A : Nat) (H : Hp) (p : List Pd) (w : List Wt) (v : AV) (H' : Hp) (k : AV → Hp → List Pd → List Wt → R1) : de A H p w (.ok v H') (some true) k = vE (qhb (qc9 A p) H' (qc8 A w)) (k v H' (qc9 A p) (qc8 A w)) := by rw [q5v]; rfl
theorem q8o (m i : Nat) : hasB m i = decide ((m >>> i) &&& 1 = 1) := beq_eq _ _
theorem zbw (p : List Pd) (H : Hp) (k : Hp → R1) : dz2 p H k = k (allH p H) := id rfl
theorem dz_0 (H : Hp) (k : Nat → Hp → R1) : dz 0 H k = k H.nx H := id rfl
attribute [go_sem] dz_0
theorem qyr (A : Nat) (H : Hp) : qa2 A [] H = H := id rfl
theorem qwo (A : Nat) (x : Pd) (p : List Pd) (H : Hp) : qa2 A (x :: p) H = bif hasB A x.i then (qa2 A p H).put x.nm x.b else qa2 A p H := by
 rfl
theorem q57 (H : Hp) : allH [] H = H := id rfl
theorem q3l (x : Pd) (p : List Pd) (H : Hp) : allH (x :: p) H = (allH p H).put x.nm x.b := id rfl
theorem q2h (A : Nat) : qc9 A [] = [] := id rfl
theorem qxx (A : Nat) (x : Pd) (p : List Pd) : qc9 A (x :: p) = bif hasB A x.i then qc9 A p else x :: qc9 A p := id rfl
theorem q2g (A : Nat) : qc8 A [] = [] := id rfl
theorem qxw (A : Nat) (x : Wt) (p : List Wt) : qc8 A (x :: p) = bif hasB A x.i then qc8 A p else x :: qc8 A p := id rfl
theorem qyl (p : List Pd) (H : Hp) : qhb p H [] = true := id rfl
theorem qwm (p : List Pd) (H : Hp) (x : Wt) (w : List Wt) : qhb p H (x :: w) = (qza (x.f (qa2 x.A p H)) x.v && qhb p H w) := id rfl
theorem qy9 (u v : AV) : qza (.val u) v = eqF 64 u v := id rfl
def qtw : AV → Bool
 | .undef | .nilptr | .nilsl | .sle | .nilmap | .nilfn | .nilif => true
 | .bool _ | .int _ _ | .str _ _ | .ptr _ _ | .sl .. | .map _ | .yield _ => true
 | _ => false
theorem qcq {v : AV} (h : qtw v = true) (k : Nat) : eqF (k + 1) v v = true := by
 cases v <;> first | (cases h; done) | (simp [eqF, beq_eq]; done)
theorem qrt : ∀ (l : List AV) (k : Nat), l.all qtw = true → l.length < k → eqFL (k + 1) l l = true
 | [], k, _, _ => by simp [eqFL]
 | x :: l, 0, _, h => by simp at h
 | x :: l, k + 1, ha, h => by
  rw [List.all_cons, Bool.and_eq_true] at ha
  rw [eqFL, qcq ha.1, qrt l k ha.2 (by simpa using h)]; rfl
theorem q8w (k : IntKind) (n : Int) : eqF 64 (.int k n) (.int k n) = true := qcq (v := .int k n) rfl 63
theorem q5j (b : Bool) : eqF 64 (.bool b) (.bool b) = true := qcq (v := .bool b) rfl 63
theorem zbk (a b c d : Nat) (e : Bool) : eqF 64 (.sl a b c d e) (.sl a b c d e) = true := qcq (v := .sl a b c d e) rfl 63
theorem q13 : eqF 64 .nilsl .nilsl = true := qcq (v := .nilsl) rfl 63
theorem q8v (a b : Nat) : eqF 64 (.ptr a b) (.ptr a b) = true := qcq (v := .ptr a b) rfl 63
def Tr (b : Bool) : Prop := b = true
theorem ti {b : Bool} (h : b = true) : Tr b := h
theorem q14 (l : List AV) (h : Tr (l.all qtw && Nat.blt l.length 62)) : eqF 64 (.agg l) (.agg l) = true := by
 unfold Tr at h
 rw [Bool.and_eq_true, qgu, decide_eq_true_iff] at h
 show eqFL 63 l l = true
 exact qrt l 62 h.1 h.2
theorem q1e (H : Hp) (n c : Nat) : (Hp.mk H.t n).get c = H.get c := id rfl
theorem Fm.up {S : Nat → Prop} {H H' : Hp} (a : Fm S H H') (k : Nat) : Fm S H ⟨H'.t, H'.nx + k⟩ := ⟨by have := a.nx; show H.nx ≤ H'.nx + k; omega, fun b hb hs => a.get b hb hs⟩
theorem Fm.up2 {S : Nat → Prop} {H H' : Hp} (a : Fm S H H') {n : Nat} (h : H.nx ≤ n) : Fm S H ⟨H'.t, n⟩ := ⟨h, fun b hb hs => a.get b hb hs⟩
theorem Ok.deE {A : Nat} {H : Hp} {p : List Pd} {w : List Wt} {r : R1} {k : AV → Hp → List Pd → List Wt → R1} {Q : AV → Hp → Prop} {v : AV} {H' : Hp} (h : r = .ok v H')
  (hk : Ok (vE (qhb (qc9 A p) H' (qc8 A w)) (k v H' (qc9 A p) (qc8 A w))) Q) : Ok (Di.de A H p w r (some true) k) Q := by rw [h, q83]; exact hk
theorem Ok.veE {r : R1} {k : AV → Hp → R1} {Q : AV → Hp → Prop} {v : AV} {H' : Hp} (h : r = .ok v H') (hk : Ok (k v H') Q) : Ok (Di.ve r k) Q := by rw [h]; exact hk
theorem Ok.deO {A : Nat} {H : Hp} {p : List Pd} {w : List Wt} {r : R1} {k : AV → Hp → List Pd → List Wt → R1} {Q R : AV → Hp → Prop} (h : Ok r R)
  (hk : ∀ v H', R v H' → Ok (vE (qhb (qc9 A p) H' (qc8 A w)) (k v H' (qc9 A p) (qc8 A w))) Q) : Ok (Di.de A H p w r (some true) k) Q := by
 obtain ⟨v, H', e, q⟩ := h; rw [e, q83]; exact hk v H' q
def In (v : AV) (b : Nat) : Prop := ∃ o n m e, v = .sl b o n m e
structure Gl (z : Nat) (H : Hp) (v : AV) (n : Nat) (l : List AV) : Prop where
 len : l.length = n * z
 is : (v = .nilsl ∧ n = 0) ∨ ∃ b o e q L, v = .sl b o n n e ∧ H.get b = qaa q L ∧ o ≤ L.length ∧ L.drop o = l ∧ (e = true ∨ q = z) ∧ b < H.nx
theorem Gl.nil (z : Nat) (H : Hp) : Gl z H .nilsl 0 [] := ⟨by simp, .inl ⟨rfl, rfl⟩⟩
theorem Gl.lenV {z n : Nat} {H : Hp} {v : AV} {l : List AV} (h : Gl z H v n l) : lenSl v = .val (.int .i64 (.ofNat n)) := by
 rcases h.is with ⟨rfl, rfl⟩ | ⟨b, o, e, q, L, rfl, _⟩ <;> rfl
theorem Gl.keep {z n : Nat} {H H' : Hp} {v : AV} {l : List AV} (h : Gl z H v n l) (hn : H.nx ≤ H'.nx) (hk : ∀ b, In v b → b < H.nx → H'.get b = H.get b) : Gl z H' v n l := by
 refine ⟨h.len, ?_⟩
 rcases h.is with ⟨rfl, rfl⟩ | ⟨b, o, e, q, L, rfl, h1, h2, h3, h4, h5⟩
 ·exact .inl ⟨rfl, rfl⟩
 ·exact .inr ⟨b, o, e, q, L, rfl, (hk b ⟨_, _, _, _, rfl⟩ h5).trans h1, h2, h3, h4, Nat.lt_of_lt_of_le h5 hn⟩
theorem Gl.fm {z n : Nat} {H H' : Hp} {v : AV} {l : List AV} (h : Gl z H v n l) {S : Nat → Prop} (a : Fm S H H') (hs : ∀ b, In v b → ¬ S b) : Gl z H' v n l :=
 h.keep a.nx fun b hb hl => a.get b hl (hs b hb)
theorem Gl.no {z n : Nat} {H H' : Hp} {v : AV} {l : List AV} (h : Gl z H v n l) (a : Fm No H H') : Gl z H' v n l := h.fm a fun _ _ h => h
theorem Gl.append {z w n k : Nat} {H : Hp} {v : AV} {l x : List AV} (h : Gl z H v n l) (hk : 0 < k) (hx : x.length = k * z) (hb : (n + k) * w ≤ 1099511627776) (hb2 : n + k ≤ 1099511627776) :
  ∃ H', qaz z w H v (some ⟨k, x⟩) = .ok (.sl H.nx 0 (n + k) (n + k) false) H' ∧ Gl z H' (.sl H.nx 0 (n + k) (n + k) false) (n + k) (l ++ x) ∧ H'.get H.nx = qaa z (l ++ x) ∧ Fm (In v) H H' ∧ H'.nx = H.nx + 1 := by
 have hlen : (l ++ x).length = (n + k) * z := by rw [List.length_append, h.len, hx, Nat.add_mul]
 have fin : ∀ H1 : Hp, H1.nx = H.nx → Fm (In v) H H1 → qaz z w H v (some ⟨k, x⟩) = .ok (.sl H1.nx 0 (n + k) (n + k) false) (qan H1 (qaa z (l ++ x))) →
   ∃ H', qaz z w H v (some ⟨k, x⟩) = .ok (.sl H.nx 0 (n + k) (n + k) false) H' ∧ Gl z H' (.sl H.nx 0 (n + k) (n + k) false) (n + k) (l ++ x) ∧ H'.get H.nx = qaa z (l ++ x) ∧ Fm (In v) H H' ∧ H'.nx = H.nx + 1 := by
  intro H1 e1 f1 e2
  refine ⟨_, by rw [e2, e1], ⟨hlen, .inr ⟨_, _, _, z, l ++ x, rfl, by rw [← e1, qak], Nat.zero_le _, List.drop_zero, .inr rfl, by rw [np, e1]; omega⟩⟩, by rw [← e1, qak], f1.push _, by rw [np, e1]⟩
 have bk : Nat.ble ((n + k) * w) bigB = true := Nat.ble_eq_true_of_le hb
 have bk2 : Nat.ble (n + k) bigB = true := Nat.ble_eq_true_of_le hb2
 rcases h.is with ⟨rfl, rfl⟩ | ⟨b, o, e, q, L, rfl, h1, h2, h3, h4, h5⟩
 ·have : l = [] := List.length_eq_zero_iff.1 (by rw [h.len]; simp)
  subst this
  refine fin H rfl (Fm.refl _ _) ?_
  show (bif Nat.beq k 0 then _ else bif Nat.ble (Nat.mul k w) bigB && Nat.ble k bigB then _ else _) = _
  rw [beq_eq, decide_eq_false (by omega)]
  rw [Nat.zero_add] at bk bk2
  show (bif Nat.ble (k * w) bigB && Nat.ble k bigB then _ else _) = _
  rw [bk, bk2, Nat.zero_add]; rfl
 ·have e0 : Nat.ble (n + k) n = false := by rw [ble_eq, decide_eq_false (by omega)]
  have hd : o + n * z = L.length := by have := h.len; rw [← h3, List.length_drop] at this; omega
  have rd : qbf (H.get b) o (Nat.mul n z) = some l := by
   rw [h1, qcv, if_pos (by show o + n * z ≤ _; omega), h3, List.take_of_length_le (by rw [h.len]; exact Nat.le_refl _)]
  have main : ∀ (e : Bool) (H1 : Hp), H1 = (bif e then H else H.put b .dead) → (e = true ∨ q = z) → qaz z w H (.sl b o n n e) (some ⟨k, x⟩) = .ok (.sl H1.nx 0 (n + k) (n + k) false) (qan H1 (qaa z (l ++ x))) := by
   intro e H1 eH h4
   show (bif Nat.ble (n + k) n then _ else bif Nat.ble (Nat.mul (n + k) w) bigB && Nat.ble (n + k) bigB then (match qbf (H.get b) o (Nat.mul n z) with | none => R1.bad | some old => bif e then _ else bif qgs (H.get b) (o + n * z) z then _ else _) else R1.bad) = _
   rw [e0, show Nat.mul (n + k) w = (n + k) * w from rfl, bk, bk2, rd]
   subst eH
   cases e with
   | true => rfl
   | false =>
    rcases h4 with h4 | h4
    ·cases h4
    ·have : qgs (H.get b) (o + n * z) z = true := by rw [h1, q18]; simp [hd, h4]
     simp only [cond_false, cond_true, Bool.and_self, this]; rfl
  refine fin (bif e then H else H.put b .dead) (by cases e <;> rfl) ?_ (main e _ rfl h4)
  cases e with
  | true => exact Fm.refl _ _
  | false => exact (Fm.refl _ _).put b _ fun _ => ⟨_, _, _, _, rfl⟩
theorem qy6 (z : Nat) (H : Hp) (b o n m : Nat) (e : Bool) : qby z H (.sl b o n m e) = (match qbf (H.get b) o (n * z) with | some l => some ⟨n, l⟩ | none => none) := id rfl
theorem Gl.head {n : Nat} {H : Hp} {v : AV} {x : AV} {l : List AV} (h : Gl 1 H v n (x :: l)) : ∃ b o, idxS 1 v (.int .i64 (.ofNat 0)) = .val (.ptr b o) ∧ b < H.nx ∧ In v b ∧ qa9 (H.get b) o = .val x := by
 have hl := h.len
 rcases h.is with ⟨rfl, rfl⟩ | ⟨b, o, e, q, L, rfl, h1, h2, h3, h4, h5⟩
 ·simp at hl
 ·refine ⟨b, o, ?_, h5, ⟨_, _, _, _, rfl⟩, ?_⟩
  ·rw [qfc _ _ _ _ _ _ _ _ (by simp at hl; omega), Nat.zero_mul, Nat.add_zero]
  ·have : L[o]? = some x := by rw [← Nat.add_zero o, ← List.getElem?_drop, h3]; rfl
   rw [h1, qb7, this]
theorem Gl.tail {n : Nat} {H : Hp} {v : AV} {x : AV} {l : List AV} (h : Gl 1 H v (n + 1) (x :: l)) :
  ∃ w, qa8 1 v (some (.int .i64 (.ofNat 1))) none none = .val w ∧ Ev.lenSl w = .val (.int .i64 (.ofNat n)) ∧ (0 < n → Gl 1 H w n l) ∧ (∀ b, In w b → In v b) := by
 have hl := h.len
 rcases h.is with ⟨rfl, h0⟩ | ⟨b, o, e, q, L, rfl, h1, h2, h3, h4, h5⟩
 ·simp at h0
 ·have e1 : qa8 1 (.sl b o (n + 1) (n + 1) e) (some (.int .i64 (.ofNat 1))) none none = mkSl b o 1 ⟨1, n + 1, n + 1⟩ e := by
   show (match bounds (n + 1) (n + 1) (some (.int .i64 (.ofNat 1))) none none with | some bd => mkSl b o 1 bd e | none => R0.bad) = _
   have : bounds (n + 1) (n + 1) (some (.int .i64 (.ofNat 1))) none none = some ⟨1, n + 1, n + 1⟩ := by
    show (match (bif Nat.ble 1 (n + 1) then some 1 else none) with | none => none | some l => some (Bd.mk l (n + 1) (n + 1))) = _
    rw [ble_eq, decide_eq_true (by omega)]; rfl
   rw [this]
  rw [e1]
  unfold mkSl
  simp only [beq_eq]
  by_cases hn : n = 0
  ·subst hn
   cases e with
   | true => exact ⟨_, rfl, rfl, fun h => absurd h (Nat.lt_irrefl 0), fun c hc => by obtain ⟨o', n', m', e', h'⟩ := hc; cases h'; exact ⟨_, _, _, _, rfl⟩⟩
   | false => exact ⟨_, rfl, rfl, fun h => absurd h (Nat.lt_irrefl 0), fun c hc => by obtain ⟨o', n', m', e', h'⟩ := hc; cases h'⟩
  ·have hd : decide (n + 1 = 1) = false := by simp; exact hn
   rw [hd]
   refine ⟨.sl b (o + 1) n n e, by show R0.val (.sl b (o + 1 * 1) (n + 1 - 1) (n + 1 - 1) e) = _; rw [Nat.add_sub_cancel, Nat.one_mul], rfl, fun _ => ⟨?_, .inr ⟨b, o + 1, e, q, L, rfl, h1, ?_, ?_, h4, h5⟩⟩, fun c hc => by obtain ⟨o', n', m', e', h'⟩ := hc; cases h'; exact ⟨_, _, _, _, rfl⟩⟩
   ·simp at hl; omega
   ·have : (L.drop o).length = (x :: l).length := by rw [h3]
    rw [List.length_drop] at this; simp at this; omega
   ·rw [← List.drop_drop, h3]; rfl
theorem qn1 (l v : List AV) (h : Tr (Nat.beq v.length l.length)) : setL l 0 v = v := by
 unfold Tr at h
 rw [beq_eq, decide_eq_true_iff] at h
 unfold setL
 simp [h]
theorem qfp (z : List AV) (w nm n : Nat) (h : n * w ≤ 1099511627776) (h2 : n ≤ 1099511627776) : qhr z w nm (.int .i64 (.ofNat n)) (.int .i64 (.ofNat n)) = .new (.sl nm 0 n n true) (qaa 0 (reps z n)) := by
 show (bif Nat.ble n n && Nat.ble (Nat.mul n w) bigB && Nat.ble n bigB then _ else _) = _
 rw [Nat.ble_eq_true_of_le (Nat.le_refl n), show Nat.mul n w = n * w from rfl, Nat.ble_eq_true_of_le (show n * w ≤ bigB from h), Nat.ble_eq_true_of_le (show n ≤ bigB from h2)]; rfl
theorem qds (x : AV) : ∀ n, reps [x] n = List.replicate n x
 | 0 => rfl
 | n + 1 => by show [x] ++ reps [x] n = _; rw [qds x n]; rfl
theorem qqr (c : List AV) : qar c [] = some c := id rfl
theorem qn0 (c : List AV) (off size : Nat) (v : AV) (r : List (Nat × Nat × AV)) : qar c ((off, size, v) :: r) = match qgt v with | some l => (match qkn c off size l with | some c' => qar c' r | none => none) | none => none := id rfl
theorem qx4 (k : IntKind) (n : Int) : qgt (.int k n) = some [.int k n] := id rfl
theorem qt4 (n : Bool) : qgt (.bool n) = some [.bool n] := id rfl
theorem q2u (a b c d : Nat) (e : Bool) : qgt (.sl a b c d e) = some [.sl a b c d e] := id rfl
theorem qr0 : qgt .nilsl = some [.nilsl] := id rfl
theorem qx5 (l : List AV) : qgt (.agg l) = some l := id rfl
theorem qwz (c : List AV) (off size : Nat) (v : List AV) : qkn c off size v = bif Nat.beq v.length size && Nat.ble (off + size) c.length then some (c.take off ++ v ++ c.drop (off + size)) else none := id rfl
theorem q96 (l : List AV) : reps l 1 = l ++ [] := id rfl
theorem q95 (l : List AV) : reps l 2 = l ++ (l ++ []) := id rfl
theorem q94 (l : List AV) : reps l 3 = l ++ (l ++ (l ++ [])) := id rfl
attribute [go_sem] qqr qn0 qx4 qt4 q2u qr0 qx5 qwz q96 q95 q94 ble_eq qgu beq_eq List.append_nil List.nil_append List.cons_append q14
attribute [go_sem] qn1 qy6 vE_t q83 q8o dq_t dq_f vD_q vD_l q9v de_f zbw qyr qwo q57 q3l q2h qxx q2g qxw qyl qwm qy9 q8w q5j zbk q13 q8v q1e Bool.and_true Bool.true_and Bool.and_self
end Go.Di
end
