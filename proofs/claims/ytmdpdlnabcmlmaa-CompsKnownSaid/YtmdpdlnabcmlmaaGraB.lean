/-
 For countersignlaw17.CompsKnown: regions that draw, and slices that grow. No conditions beyond those that each theorem states.
-/
import Derived.Test.YtmdpdlnabcmlmaaGraA
set_option linter.unusedSimpArgs false
set_option linter.unusedVariables false
noncomputable section
/-
 Regions that draw their order, growing slices, bounds.
-/
namespace Go.Di
open Go.Ev
def vD (r : R0) (lk al : Bool) (i A nm : Nat) (H : Hp) (p : List Pd) (w : List Wt) (f : Hp → R0) (k : AV → Hp → List Pd → List Wt → R1) : R1 :=
 match r with
  | .bad => .bad
  | .val v => k v H p (bif lk then ⟨i, A, f, v⟩ :: w else w)
  | .new v b => bif al && b.wr then k v H (⟨i, nm, b⟩ :: p) w else .bad
theorem dq_t (lk al : Bool) (i A nm : Nat) (H : Hp) (p : List Pd) (w : List Wt) (f : Hp → R0) (k : AV → Hp → List Pd → List Wt → R1) : dq lk al i A nm H p w f (some true) k = vD (f (qaq A p H)) lk al i A nm H p w f k := by rw [zer]; rfl
theorem dq_f (lk al : Bool) (i A nm : Nat) (H : Hp) (p : List Pd) (w : List Wt) (f : Hp → R0) (k : AV → Hp → List Pd → List Wt → R1) : dq lk al i A nm H p w f (some false) k = k .undef H p w := by rw [zer]; rfl
@[congr] theorem dq_congr {lk al : Bool} {i A nm : Nat} {H : Hp} {p : List Pd} {w : List Wt} {f : Hp → R0} {g g' : Option Bool} {k : AV → Hp → List Pd → List Wt → R1} (h : g = g') : dq lk al i A nm H p w f g k = dq lk al i A nm H p w f g' k := by rw [h]
@[congr] theorem vD_congr {r r' : R0} {lk al : Bool} {i A nm : Nat} {H : Hp} {p : List Pd} {w : List Wt} {f : Hp → R0} {k : AV → Hp → List Pd → List Wt → R1} (h : r = r') : vD r lk al i A nm H p w f k = vD r' lk al i A nm H p w f k := by rw [h]
@[congr] theorem de_congr {A : Nat} {H : Hp} {p : List Pd} {w : List Wt} {r r' : R1} {g g' : Option Bool} {k : AV → Hp → List Pd → List Wt → R1} (h : g = g') (hr : r = r') : de A H p w r g k = de A H p w r' g' k := by rw [h, hr]
theorem vD_q (v : AV) (al : Bool) (i A nm : Nat) (H : Hp) (p : List Pd) (w : List Wt) (f : Hp → R0) (k : AV → Hp → List Pd → List Wt → R1) : vD (.val v) false al i A nm H p w f k = k v H p w := id rfl
theorem vD_l (v : AV) (al : Bool) (i A nm : Nat) (H : Hp) (p : List Pd) (w : List Wt) (f : Hp → R0) (k : AV → Hp → List Pd → List Wt → R1) : vD (.val v) true al i A nm H p w f k = k v H p (⟨i, A, f, v⟩ :: w) := id rfl
theorem zia (v : AV) (z : Nat) (l : List AV) (lk : Bool) (i A nm : Nat) (H : Hp) (p : List Pd) (w : List Wt) (f : Hp → R0) (k : AV → Hp → List Pd → List Wt → R1) : vD (.new v (qae z l)) lk true i A nm H p w f k = k v H (⟨i, nm, qae z l⟩ :: p) w := id rfl
theorem de_f (A : Nat) (H : Hp) (p : List Pd) (w : List Wt) (r : R1) (k : AV → Hp → List Pd → List Wt → R1) : de A H p w r (some false) k = k .undef H p w := by rw [zeu]; rfl
def vE (c : Bool) (r : R1) : R1 := bif c then r else .bad
@[congr] theorem vE_congr {c c' : Bool} {r : R1} (h : c = c') : vE c r = vE c' r := by rw [h]
theorem vE_t (r : R1) : vE true r = r := id rfl
theorem zhp (A : Nat) (H : Hp) (p : List Pd) (w : List Wt) (v : AV) (H' : Hp) (k : AV → Hp → List Pd → List Wt → R1) : de A H p w (.ok v H') (some true) k = vE (qlo (qek A p) H' (qej A w)) (k v H' (qek A p) (qej A w)) := by rw [zeu]; rfl
theorem zhc (m i : Nat) : hasB m i = decide ((m >>> i) &&& 1 = 1) := beq_eq _ _
theorem zj0 (p : List Pd) (H : Hp) (k : Hp → R1) : dz2 p H k = k (allH p H) := id rfl
theorem dz_0 (H : Hp) (k : Nat → Hp → R1) : dz 0 H k = k H.nx H := id rfl
attribute [go_sem] dz_0
theorem q78 (A : Nat) (H : Hp) : qaq A [] H = H := id rfl
theorem q5s (A : Nat) (x : Pd) (p : List Pd) (H : Hp) : qaq A (x :: p) H = bif hasB A x.i then (qaq A p H).put x.nm x.b else qaq A p H := by
 rfl
theorem ze6 (H : Hp) : allH [] H = H := id rfl
theorem zcq (x : Pd) (p : List Pd) (H : Hp) : allH (x :: p) H = (allH p H).put x.nm x.b := id rfl
theorem zbs (A : Nat) : qek A [] = [] := id rfl
theorem q7h (A : Nat) (x : Pd) (p : List Pd) : qek A (x :: p) = bif hasB A x.i then qek A p else x :: qek A p := id rfl
theorem zbr (A : Nat) : qej A [] = [] := id rfl
theorem q7g (A : Nat) (x : Wt) (p : List Wt) : qej A (x :: p) = bif hasB A x.i then qej A p else x :: qej A p := id rfl
theorem q75 (p : List Pd) (H : Hp) : qlo p H [] = true := id rfl
theorem q5q (p : List Pd) (H : Hp) (x : Wt) (w : List Wt) : qlo p H (x :: w) = (q8s (x.f (qaq x.A p H)) x.v && qlo p H w) := id rfl
theorem q8r (u v : AV) : q8s (.val u) v = eqF 64 u v := id rfl
def q27 : AV → Bool
 | .undef | .nilptr | .nilsl | .sle | .nilmap | .nilfn | .nilif => true
 | .bool _ | .int _ _ | .str _ _ | .ptr _ _ | .sl .. | .map _ | .yield _ => true
 | _ => false
theorem qcp {v : AV} (h : q27 v = true) (k : Nat) : eqF (k + 1) v v = true := by
 cases v <;> first | (cases h; done) | (simp [eqF, beq_eq]; done)
theorem qz9 : ∀ (l : List AV) (k : Nat), l.all q27 = true → l.length < k → eqFL (k + 1) l l = true
 | [], k, _, _ => by simp [eqFL]
 | x :: l, 0, _, h => by simp at h
 | x :: l, k + 1, ha, h => by
  rw [List.all_cons, Bool.and_eq_true] at ha
  rw [eqFL, qcp ha.1, qz9 l k ha.2 (by simpa using h)]; rfl
theorem zbi (k : IntKind) (n : Int) : eqF 64 (.int k n) (.int k n) = true := qcp (v := .int k n) rfl 63
theorem zek (b : Bool) : eqF 64 (.bool b) (.bool b) = true := qcp (v := .bool b) rfl 63
theorem zfq (a b c d : Nat) (e : Bool) : eqF 64 (.sl a b c d e) (.sl a b c d e) = true := qcp (v := .sl a b c d e) rfl 63
theorem zbh : eqF 64 .nilsl .nilsl = true := qcp (v := .nilsl) rfl 63
theorem zhi (a b : Nat) : eqF 64 (.ptr a b) (.ptr a b) = true := qcp (v := .ptr a b) rfl 63
def Tr (b : Bool) : Prop := b = true
theorem ti {b : Bool} (h : b = true) : Tr b := h
theorem zbj (l : List AV) (h : Tr (l.all q27 && Nat.blt l.length 62)) : eqF 64 (.agg l) (.agg l) = true := by
 unfold Tr at h
 rw [Bool.and_eq_true, qh7, decide_eq_true_iff] at h
 show eqFL 63 l l = true
 exact qz9 l 62 h.1 h.2
theorem za2 (H : Hp) (n c : Nat) : (Hp.mk H.t n).get c = H.get c := id rfl
theorem Fm.up {S : Nat → Prop} {H H' : Hp} (a : Fm S H H') (k : Nat) : Fm S H ⟨H'.t, H'.nx + k⟩ := ⟨by have := a.nx; show H.nx ≤ H'.nx + k; omega, fun b hb hs => a.get b hb hs⟩
theorem Fm.up2 {S : Nat → Prop} {H H' : Hp} (a : Fm S H H') {n : Nat} (h : H.nx ≤ n) : Fm S H ⟨H'.t, n⟩ := ⟨h, fun b hb hs => a.get b hb hs⟩
theorem Ok.deE {A : Nat} {H : Hp} {p : List Pd} {w : List Wt} {r : R1} {k : AV → Hp → List Pd → List Wt → R1} {Q : AV → Hp → Prop} {v : AV} {H' : Hp} (h : r = .ok v H')
  (hk : Ok (vE (qlo (qek A p) H' (qej A w)) (k v H' (qek A p) (qej A w))) Q) : Ok (Di.de A H p w r (some true) k) Q := by rw [h, zhp]; exact hk
theorem Ok.deO {A : Nat} {H : Hp} {p : List Pd} {w : List Wt} {r : R1} {k : AV → Hp → List Pd → List Wt → R1} {Q R : AV → Hp → Prop} (h : Ok r R)
  (hk : ∀ v H', R v H' → Ok (vE (qlo (qek A p) H' (qej A w)) (k v H' (qek A p) (qej A w))) Q) : Ok (Di.de A H p w r (some true) k) Q := by
 obtain ⟨v, H', e, q⟩ := h; rw [e, zhp]; exact hk v H' q
def In (v : AV) (b : Nat) : Prop := ∃ o n m e, v = .sl b o n m e
structure Gl (z : Nat) (H : Hp) (v : AV) (n : Nat) (l : List AV) : Prop where
 len : l.length = n * z
 is : (v = .nilsl ∧ n = 0) ∨ ∃ b o e q L, v = .sl b o n n e ∧ H.get b = qae q L ∧ o ≤ L.length ∧ L.drop o = l ∧ (e = true ∨ q = z) ∧ b < H.nx
theorem Gl.nil (z : Nat) (H : Hp) : Gl z H .nilsl 0 [] := ⟨by simp, .inl ⟨rfl, rfl⟩⟩
theorem Gl.lenV {z n : Nat} {H : Hp} {v : AV} {l : List AV} (h : Gl z H v n l) : qa9 v = .val (.int .i64 (.ofNat n)) := by
 rcases h.is with ⟨rfl, rfl⟩ | ⟨b, o, e, q, L, rfl, _⟩ <;> rfl
theorem Gl.keep {z n : Nat} {H H' : Hp} {v : AV} {l : List AV} (h : Gl z H v n l) (hn : H.nx ≤ H'.nx) (hk : ∀ b, In v b → b < H.nx → H'.get b = H.get b) : Gl z H' v n l := by
 refine ⟨h.len, ?_⟩
 rcases h.is with ⟨rfl, rfl⟩ | ⟨b, o, e, q, L, rfl, h1, h2, h3, h4, h5⟩
 ·exact .inl ⟨rfl, rfl⟩
 ·exact .inr ⟨b, o, e, q, L, rfl, (hk b ⟨_, _, _, _, rfl⟩ h5).trans h1, h2, h3, h4, Nat.lt_of_lt_of_le h5 hn⟩
theorem Gl.fm {z n : Nat} {H H' : Hp} {v : AV} {l : List AV} (h : Gl z H v n l) {S : Nat → Prop} (a : Fm S H H') (hs : ∀ b, In v b → ¬ S b) : Gl z H' v n l :=
 h.keep a.nx fun b hb hl => a.get b hl (hs b hb)
theorem Gl.no {z n : Nat} {H H' : Hp} {v : AV} {l : List AV} (h : Gl z H v n l) (a : Fm No H H') : Gl z H' v n l := h.fm a fun _ _ h => h
theorem Gl.append {z w n k : Nat} {H : Hp} {v : AV} {l x : List AV} (h : Gl z H v n l) (hk : 0 < k) (hx : x.length = k * z) (hb : (n + k) * w ≤ 1099511627776) (hb2 : n + k ≤ 1099511627776) :
  ∃ H', qbc z w H v (some ⟨k, x⟩) = .ok (.sl H.nx 0 (n + k) (n + k) false) H' ∧ Gl z H' (.sl H.nx 0 (n + k) (n + k) false) (n + k) (l ++ x) ∧ H'.get H.nx = qae z (l ++ x) ∧ Fm (In v) H H' ∧ H'.nx = H.nx + 1 := by
 have hlen : (l ++ x).length = (n + k) * z := by rw [List.length_append, h.len, hx, Nat.add_mul]
 have fin : ∀ H1 : Hp, H1.nx = H.nx → Fm (In v) H H1 → qbc z w H v (some ⟨k, x⟩) = .ok (.sl H1.nx 0 (n + k) (n + k) false) (qaw H1 (qae z (l ++ x))) →
   ∃ H', qbc z w H v (some ⟨k, x⟩) = .ok (.sl H.nx 0 (n + k) (n + k) false) H' ∧ Gl z H' (.sl H.nx 0 (n + k) (n + k) false) (n + k) (l ++ x) ∧ H'.get H.nx = qae z (l ++ x) ∧ Fm (In v) H H' ∧ H'.nx = H.nx + 1 := by
  intro H1 e1 f1 e2
  refine ⟨_, by rw [e2, e1], ⟨hlen, .inr ⟨_, _, _, z, l ++ x, rfl, by rw [← e1, qar], Nat.zero_le _, List.drop_zero, .inr rfl, by rw [np, e1]; omega⟩⟩, by rw [← e1, qar], f1.push _, by rw [np, e1]⟩
 have bk : Nat.ble ((n + k) * w) bigB = true := Nat.ble_eq_true_of_le hb
 have bk2 : Nat.ble (n + k) bigB = true := Nat.ble_eq_true_of_le hb2
 rcases h.is with ⟨rfl, rfl⟩ | ⟨b, o, e, q, L, rfl, h1, h2, h3, h4, h5⟩
 ·have : l = [] := List.length_eq_zero_iff.1 (by rw [h.len]; simp)
  subst this
  refine fin H rfl (Fm.refl _ _) ?_
  show (bif Nat.beq k 0 then _ else bif Nat.ble (Nat.mul k w) bigB && Nat.ble k bigB then _ else _) = _
  rw [beq_eq, decide_eq_false (by omega)]
  rw [Nat.zero_add] at bk bk2
  show (bif Nat.ble (k * w) bigB && Nat.ble k bigB then _ else _) = _
  rw [bk, bk2, Nat.zero_add]; rfl
 ·have e0 : Nat.ble (n + k) n = false := by rw [ble_eq, decide_eq_false (by omega)]
  have hd : o + n * z = L.length := by have := h.len; rw [← h3, List.length_drop] at this; omega
  have rd : qci (H.get b) o (Nat.mul n z) = some l := by
   rw [h1, qlz, if_pos (by show o + n * z ≤ _; omega), h3, List.take_of_length_le (by rw [h.len]; exact Nat.le_refl _)]
  have main : ∀ (e : Bool) (H1 : Hp), H1 = (bif e then H else H.put b .dead) → (e = true ∨ q = z) → qbc z w H (.sl b o n n e) (some ⟨k, x⟩) = .ok (.sl H1.nx 0 (n + k) (n + k) false) (qaw H1 (qae z (l ++ x))) := by
   intro e H1 eH h4
   show (bif Nat.ble (n + k) n then _ else bif Nat.ble (Nat.mul (n + k) w) bigB && Nat.ble (n + k) bigB then (match qci (H.get b) o (Nat.mul n z) with | none => R1.bad | some old => bif e then _ else bif qj8 (H.get b) (o + n * z) z then _ else _) else R1.bad) = _
   rw [e0, show Nat.mul (n + k) w = (n + k) * w from rfl, bk, bk2, rd]
   subst eH
   cases e with
   | true => rfl
   | false =>
    rcases h4 with h4 | h4
    ·cases h4
    ·have : qj8 (H.get b) (o + n * z) z = true := by rw [h1, zbl]; simp [hd, h4]
     simp only [cond_false, cond_true, Bool.and_self, this]; rfl
  refine fin (bif e then H else H.put b .dead) (by cases e <;> rfl) ?_ (main e _ rfl h4)
  cases e with
  | true => exact Fm.refl _ _
  | false => exact (Fm.refl _ _).put b _ fun _ => ⟨_, _, _, _, rfl⟩
theorem q8p (z : Nat) (H : Hp) (b o n m : Nat) (e : Bool) (q : Nat) (L : List AV) (h : H.get b = qae q L) (hl : o + n * z ≤ L.length) : qb8 z H (.sl b o n m e) = some ⟨n, (L.drop o).take (n * z)⟩ := by
 show (match qci (H.get b) o (Nat.mul n z) with | some l => some (Src.mk n l) | none => none) = _
 rw [h, qlz, if_pos (show o + Nat.mul n z ≤ L.length from hl)]; rfl
theorem q8o (z : Nat) (H : Hp) (b o n m : Nat) (e : Bool) : qb8 z H (.sl b o n m e) = (match qci (H.get b) o (n * z) with | some l => some ⟨n, l⟩ | none => none) := id rfl
theorem Gl.head {n : Nat} {H : Hp} {v : AV} {x : AV} {l : List AV} (h : Gl 1 H v n (x :: l)) : ∃ b o, idxS 1 v (.int .i64 (.ofNat 0)) = .val (.ptr b o) ∧ b < H.nx ∧ In v b ∧ qbl (H.get b) o = .val x := by
 have hl := h.len
 rcases h.is with ⟨rfl, rfl⟩ | ⟨b, o, e, q, L, rfl, h1, h2, h3, h4, h5⟩
 ·simp at hl
 ·refine ⟨b, o, ?_, h5, ⟨_, _, _, _, rfl⟩, ?_⟩
  ·rw [qi5 _ _ _ _ _ _ _ _ (by simp at hl; omega), Nat.zero_mul, Nat.add_zero]
  ·have : L[o]? = some x := by rw [← Nat.add_zero o, ← List.getElem?_drop, h3]; rfl
   rw [h1, qcl, this]
theorem zdd (l v : List AV) (h : Tr (Nat.beq v.length l.length)) : setL l 0 v = v := by
 unfold Tr at h
 rw [beq_eq, decide_eq_true_iff] at h
 unfold setL
 simp [h]
theorem qme (z : List AV) (w nm n : Nat) (h : n * w ≤ 1099511627776) (h2 : n ≤ 1099511627776) : qpf z w nm (.int .i64 (.ofNat n)) (.int .i64 (.ofNat n)) = .new (.sl nm 0 n n true) (qae 0 (reps z n)) := by
 show (bif Nat.ble n n && Nat.ble (Nat.mul n w) bigB && Nat.ble n bigB then _ else _) = _
 rw [Nat.ble_eq_true_of_le (Nat.le_refl n), show Nat.mul n w = n * w from rfl, Nat.ble_eq_true_of_le (show n * w ≤ bigB from h), Nat.ble_eq_true_of_le (show n ≤ bigB from h2)]; rfl
theorem qfp (x : AV) : ∀ n, reps [x] n = List.replicate n x
 | 0 => rfl
 | n + 1 => by show [x] ++ reps [x] n = _; rw [qfp x n]; rfl
theorem qyz (c : List AV) : qas c [] = some c := id rfl
theorem qvq (c : List AV) (off size : Nat) (v : AV) (r : List (Nat × Nat × AV)) : qas c ((off, size, v) :: r) = match qj9 v with | some l => (match qqr c off size l with | some c' => qas c' r | none => none) | none => none := id rfl
theorem q7q (k : IntKind) (n : Int) : qj9 (.int k n) = some [.int k n] := id rfl
theorem q3c (n : Bool) : qj9 (.bool n) = some [.bool n] := id rfl
theorem zb1 (a b c d : Nat) (e : Bool) : qj9 (.sl a b c d e) = some [.sl a b c d e] := id rfl
theorem q0e : qj9 .nilsl = some [.nilsl] := id rfl
theorem q7r (l : List AV) : qj9 (.agg l) = some l := id rfl
theorem q5x (c : List AV) (off size : Nat) (v : List AV) : qqr c off size v = bif Nat.beq v.length size && Nat.ble (off + size) c.length then some (c.take off ++ v ++ c.drop (off + size)) else none := id rfl
theorem zim (l : List AV) : reps l 1 = l ++ [] := id rfl
theorem zil (l : List AV) : reps l 2 = l ++ (l ++ []) := id rfl
theorem zik (l : List AV) : reps l 3 = l ++ (l ++ (l ++ [])) := id rfl
attribute [go_sem] qyz qvq q7q q3c zb1 q0e q7r q5x zim zil zik ble_eq qh7 beq_eq List.append_nil List.nil_append List.cons_append zbj
attribute [go_sem] zdd q8o vE_t zhp zhc dq_t dq_f vD_q vD_l zia de_f zj0 q78 q5s ze6 zcq zbs q7h zbr q7g q75 q5q q8r zbi zek zfq zbh zhi za2 Bool.and_true Bool.true_and Bool.and_self
end Go.Di
end
