/-
 For countersignlaw17.CompsErrors: regions that draw, and slices that grow. No conditions beyond those that each theorem states.
-/
import Derived.Test.YtmdpdlnabcmlmaaGraA
set_option linter.unusedSimpArgs false
set_option linter.unusedVariables false
noncomputable section
/-
 Regions that draw their order, growing slices, bounds.
-/
namespace Go.Di
open Go.Ev
def vD (r : R0) (lk al : Bool) (i A nm : Nat) (H : Hp) (p : List Pd) (w : List Wt) (f : Hp → R0) (k : AV → Hp → List Pd → List Wt → R1) : R1 :=
 match r with
  | .bad => .bad
  | .val v => k v H p (bif lk then ⟨i, A, f, v⟩ :: w else w)
  | .new v b => bif al && b.wr then k v H (⟨i, nm, b⟩ :: p) w else .bad
theorem dq_t (lk al : Bool) (i A nm : Nat) (H : Hp) (p : List Pd) (w : List Wt) (f : Hp → R0) (k : AV → Hp → List Pd → List Wt → R1) : dq lk al i A nm H p w f (some true) k = vD (f (qas A p H)) lk al i A nm H p w f k := by rw [zea]; rfl
theorem dq_f (lk al : Bool) (i A nm : Nat) (H : Hp) (p : List Pd) (w : List Wt) (f : Hp → R0) (k : AV → Hp → List Pd → List Wt → R1) : dq lk al i A nm H p w f (some false) k = k .undef H p w := by rw [zea]; rfl
@[congr] theorem dq_congr {lk al : Bool} {i A nm : Nat} {H : Hp} {p : List Pd} {w : List Wt} {f : Hp → R0} {g g' : Option Bool} {k : AV → Hp → List Pd → List Wt → R1} (h : g = g') : dq lk al i A nm H p w f g k = dq lk al i A nm H p w f g' k := by rw [h]
@[congr] theorem vD_congr {r r' : R0} {lk al : Bool} {i A nm : Nat} {H : Hp} {p : List Pd} {w : List Wt} {f : Hp → R0} {k : AV → Hp → List Pd → List Wt → R1} (h : r = r') : vD r lk al i A nm H p w f k = vD r' lk al i A nm H p w f k := by rw [h]
@[congr] theorem de_congr {A : Nat} {H : Hp} {p : List Pd} {w : List Wt} {r r' : R1} {g g' : Option Bool} {k : AV → Hp → List Pd → List Wt → R1} (h : g = g') (hr : r = r') : de A H p w r g k = de A H p w r' g' k := by rw [h, hr]
theorem vD_q (v : AV) (al : Bool) (i A nm : Nat) (H : Hp) (p : List Pd) (w : List Wt) (f : Hp → R0) (k : AV → Hp → List Pd → List Wt → R1) : vD (.val v) false al i A nm H p w f k = k v H p w := id rfl
theorem vD_l (v : AV) (al : Bool) (i A nm : Nat) (H : Hp) (p : List Pd) (w : List Wt) (f : Hp → R0) (k : AV → Hp → List Pd → List Wt → R1) : vD (.val v) true al i A nm H p w f k = k v H p (⟨i, A, f, v⟩ :: w) := id rfl
theorem zhw (v : AV) (z : Nat) (l : List AV) (lk : Bool) (i A nm : Nat) (H : Hp) (p : List Pd) (w : List Wt) (f : Hp → R0) (k : AV → Hp → List Pd → List Wt → R1) : vD (.new v (qac z l)) lk true i A nm H p w f k = k v H (⟨i, nm, qac z l⟩ :: p) w := id rfl
theorem de_f (A : Nat) (H : Hp) (p : List Pd) (w : List Wt) (r : R1) (k : AV → Hp → List Pd → List Wt → R1) : de A H p w r (some false) k = k .undef H p w := by rw [zeb]; rfl
def vE (c : Bool) (r : R1) : R1 := bif c then r else .bad
@[congr] theorem vE_congr {c c' : Bool} {r : R1} (h : c = c') : vE c r = vE c' r := by rw [h]
theorem vE_t (r : R1) : vE true r = r := id rfl
theorem zg9 (A : Nat) (H : Hp) (p : List Pd) (w : List Wt) (v : AV) (H' : Hp) (k : AV → Hp → List Pd → List Wt → R1) : de A H p w (.ok v H') (some true) k = vE (qlw (qex A p) H' (qew A w)) (k v H' (qex A p) (qew A w)) := by rw [zeb]; rfl
theorem zgw (m i : Nat) : hasB m i = decide ((m >>> i) &&& 1 = 1) := beq_eq _ _
theorem zjm (p : List Pd) (H : Hp) (k : Hp → R1) : dz2 p H k = k (allH p H) := id rfl
theorem dz_0 (H : Hp) (k : Nat → Hp → R1) : dz 0 H k = k H.nx H := id rfl
attribute [go_sem] dz_0
theorem q7w (A : Nat) (H : Hp) : qas A [] H = H := id rfl
theorem q5m (A : Nat) (x : Pd) (p : List Pd) (H : Hp) : qas A (x :: p) H = bif hasB A x.i then (qas A p H).put x.nm x.b else qas A p H := by
 rfl
theorem zen (H : Hp) : allH [] H = H := id rfl
theorem zcb (x : Pd) (p : List Pd) (H : Hp) : allH (x :: p) H = (allH p H).put x.nm x.b := id rfl
theorem za9 (A : Nat) : qex A [] = [] := id rfl
theorem q65 (A : Nat) (x : Pd) (p : List Pd) : qex A (x :: p) = bif hasB A x.i then qex A p else x :: qex A p := id rfl
theorem za8 (A : Nat) : qew A [] = [] := id rfl
theorem q64 (A : Nat) (x : Wt) (p : List Wt) : qew A (x :: p) = bif hasB A x.i then qew A p else x :: qew A p := id rfl
theorem q7t (p : List Pd) (H : Hp) : qlw p H [] = true := id rfl
theorem q5l (p : List Pd) (H : Hp) (x : Wt) (w : List Wt) : qlw p H (x :: w) = (q8g (x.f (qas x.A p H)) x.v && qlw p H w) := id rfl
theorem q8f (u v : AV) : q8g (.val u) v = eqF 64 u v := id rfl
def qpw : AV → Bool
 | .undef | .nilptr | .nilsl | .sle | .nilmap | .nilfn | .nilif => true
 | .bool _ | .int _ _ | .str _ _ | .ptr _ _ | .sl .. | .map _ | .yield _ => true
 | _ => false
theorem qek {v : AV} (h : qpw v = true) (k : Nat) : eqF (k + 1) v v = true := by
 cases v <;> first | (cases h; done) | (simp [eqF, beq_eq]; done)
theorem q0g : ∀ (l : List AV) (k : Nat), l.all qpw = true → l.length < k → eqFL (k + 1) l l = true
 | [], k, _, _ => by simp [eqFL]
 | x :: l, 0, _, h => by simp at h
 | x :: l, k + 1, ha, h => by
  rw [List.all_cons, Bool.and_eq_true] at ha
  rw [eqFL, qek ha.1, q0g l k ha.2 (by simpa using h)]; rfl
theorem za0 (k : IntKind) (n : Int) : eqF 64 (.int k n) (.int k n) = true := qek (v := .int k n) rfl 63
theorem zd3 (b : Bool) : eqF 64 (.bool b) (.bool b) = true := qek (v := .bool b) rfl 63
theorem zfd (a b c d : Nat) (e : Bool) : eqF 64 (.sl a b c d e) (.sl a b c d e) = true := qek (v := .sl a b c d e) rfl 63
theorem zaz : eqF 64 .nilsl .nilsl = true := qek (v := .nilsl) rfl 63
theorem zg2 (a b : Nat) : eqF 64 (.ptr a b) (.ptr a b) = true := qek (v := .ptr a b) rfl 63
def Tr (b : Bool) : Prop := b = true
theorem ti {b : Bool} (h : b = true) : Tr b := h
theorem za1 (l : List AV) (h : Tr (l.all qpw && Nat.blt l.length 62)) : eqF 64 (.agg l) (.agg l) = true := by
 unfold Tr at h
 rw [Bool.and_eq_true, qie, decide_eq_true_iff] at h
 show eqFL 63 l l = true
 exact q0g l 62 h.1 h.2
theorem zam (H : Hp) (n c : Nat) : (Hp.mk H.t n).get c = H.get c := id rfl
theorem Fm.up {S : Nat → Prop} {H H' : Hp} (a : Fm S H H') (k : Nat) : Fm S H ⟨H'.t, H'.nx + k⟩ := ⟨by have := a.nx; show H.nx ≤ H'.nx + k; omega, fun b hb hs => a.get b hb hs⟩
theorem Fm.up2 {S : Nat → Prop} {H H' : Hp} (a : Fm S H H') {n : Nat} (h : H.nx ≤ n) : Fm S H ⟨H'.t, n⟩ := ⟨h, fun b hb hs => a.get b hb hs⟩
theorem Ok.deE {A : Nat} {H : Hp} {p : List Pd} {w : List Wt} {r : R1} {k : AV → Hp → List Pd → List Wt → R1} {Q : AV → Hp → Prop} {v : AV} {H' : Hp} (h : r = .ok v H')
  (hk : Ok (vE (qlw (qex A p) H' (qew A w)) (k v H' (qex A p) (qew A w))) Q) : Ok (Di.de A H p w r (some true) k) Q := by rw [h, zg9]; exact hk
theorem Ok.deO {A : Nat} {H : Hp} {p : List Pd} {w : List Wt} {r : R1} {k : AV → Hp → List Pd → List Wt → R1} {Q R : AV → Hp → Prop} (h : Ok r R)
  (hk : ∀ v H', R v H' → Ok (vE (qlw (qex A p) H' (qew A w)) (k v H' (qex A p) (qew A w))) Q) : Ok (Di.de A H p w r (some true) k) Q := by
 obtain ⟨v, H', e, q⟩ := h; rw [e, zg9]; exact hk v H' q
def In (v : AV) (b : Nat) : Prop := ∃ o n m e, v = .sl b o n m e
structure Gl (z : Nat) (H : Hp) (v : AV) (n : Nat) (l : List AV) : Prop where
 len : l.length = n * z
 is : (v = .nilsl ∧ n = 0) ∨ ∃ b o e q L, v = .sl b o n n e ∧ H.get b = qac q L ∧ o ≤ L.length ∧ L.drop o = l ∧ (e = true ∨ q = z) ∧ b < H.nx
theorem Gl.nil (z : Nat) (H : Hp) : Gl z H .nilsl 0 [] := ⟨by simp, .inl ⟨rfl, rfl⟩⟩
theorem Gl.lenV {z n : Nat} {H : Hp} {v : AV} {l : List AV} (h : Gl z H v n l) : qbu v = .val (.int .i64 (.ofNat n)) := by
 rcases h.is with ⟨rfl, rfl⟩ | ⟨b, o, e, q, L, rfl, _⟩ <;> rfl
theorem Gl.keep {z n : Nat} {H H' : Hp} {v : AV} {l : List AV} (h : Gl z H v n l) (hn : H.nx ≤ H'.nx) (hk : ∀ b, In v b → b < H.nx → H'.get b = H.get b) : Gl z H' v n l := by
 refine ⟨h.len, ?_⟩
 rcases h.is with ⟨rfl, rfl⟩ | ⟨b, o, e, q, L, rfl, h1, h2, h3, h4, h5⟩
 ·exact .inl ⟨rfl, rfl⟩
 ·exact .inr ⟨b, o, e, q, L, rfl, (hk b ⟨_, _, _, _, rfl⟩ h5).trans h1, h2, h3, h4, Nat.lt_of_lt_of_le h5 hn⟩
theorem Gl.fm {z n : Nat} {H H' : Hp} {v : AV} {l : List AV} (h : Gl z H v n l) {S : Nat → Prop} (a : Fm S H H') (hs : ∀ b, In v b → ¬ S b) : Gl z H' v n l :=
 h.keep a.nx fun b hb hl => a.get b hl (hs b hb)
theorem Gl.no {z n : Nat} {H H' : Hp} {v : AV} {l : List AV} (h : Gl z H v n l) (a : Fm No H H') : Gl z H' v n l := h.fm a fun _ _ h => h
theorem Gl.append {z w n k : Nat} {H : Hp} {v : AV} {l x : List AV} (h : Gl z H v n l) (hk : 0 < k) (hx : x.length = k * z) (hb : (n + k) * w ≤ 1099511627776) (hb2 : n + k ≤ 1099511627776) :
  ∃ H', qb2 z w H v (some ⟨k, x⟩) = .ok (.sl H.nx 0 (n + k) (n + k) false) H' ∧ Gl z H' (.sl H.nx 0 (n + k) (n + k) false) (n + k) (l ++ x) ∧ H'.get H.nx = qac z (l ++ x) ∧ Fm (In v) H H' ∧ H'.nx = H.nx + 1 := by
 have hlen : (l ++ x).length = (n + k) * z := by rw [List.length_append, h.len, hx, Nat.add_mul]
 have fin : ∀ H1 : Hp, H1.nx = H.nx → Fm (In v) H H1 → qb2 z w H v (some ⟨k, x⟩) = .ok (.sl H1.nx 0 (n + k) (n + k) false) (qau H1 (qac z (l ++ x))) →
   ∃ H', qb2 z w H v (some ⟨k, x⟩) = .ok (.sl H.nx 0 (n + k) (n + k) false) H' ∧ Gl z H' (.sl H.nx 0 (n + k) (n + k) false) (n + k) (l ++ x) ∧ H'.get H.nx = qac z (l ++ x) ∧ Fm (In v) H H' ∧ H'.nx = H.nx + 1 := by
  intro H1 e1 f1 e2
  refine ⟨_, by rw [e2, e1], ⟨hlen, .inr ⟨_, _, _, z, l ++ x, rfl, by rw [← e1, qaq], Nat.zero_le _, List.drop_zero, .inr rfl, by rw [np, e1]; omega⟩⟩, by rw [← e1, qaq], f1.push _, by rw [np, e1]⟩
 have bk : Nat.ble ((n + k) * w) bigB = true := Nat.ble_eq_true_of_le hb
 have bk2 : Nat.ble (n + k) bigB = true := Nat.ble_eq_true_of_le hb2
 rcases h.is with ⟨rfl, rfl⟩ | ⟨b, o, e, q, L, rfl, h1, h2, h3, h4, h5⟩
 ·have : l = [] := List.length_eq_zero_iff.1 (by rw [h.len]; simp)
  subst this
  refine fin H rfl (Fm.refl _ _) ?_
  show (bif Nat.beq k 0 then _ else bif Nat.ble (Nat.mul k w) bigB && Nat.ble k bigB then _ else _) = _
  rw [beq_eq, decide_eq_false (by omega)]
  rw [Nat.zero_add] at bk bk2
  show (bif Nat.ble (k * w) bigB && Nat.ble k bigB then _ else _) = _
  rw [bk, bk2, Nat.zero_add]; rfl
 ·have e0 : Nat.ble (n + k) n = false := by rw [ble_eq, decide_eq_false (by omega)]
  have hd : o + n * z = L.length := by have := h.len; rw [← h3, List.length_drop] at this; omega
  have rd : qcq (H.get b) o (Nat.mul n z) = some l := by
   rw [h1, qit, if_pos (by show o + n * z ≤ _; omega), h3, List.take_of_length_le (by rw [h.len]; exact Nat.le_refl _)]
  have main : ∀ (e : Bool) (H1 : Hp), H1 = (bif e then H else H.put b .dead) → (e = true ∨ q = z) → qb2 z w H (.sl b o n n e) (some ⟨k, x⟩) = .ok (.sl H1.nx 0 (n + k) (n + k) false) (qau H1 (qac z (l ++ x))) := by
   intro e H1 eH h4
   show (bif Nat.ble (n + k) n then _ else bif Nat.ble (Nat.mul (n + k) w) bigB && Nat.ble (n + k) bigB then (match qcq (H.get b) o (Nat.mul n z) with | none => R1.bad | some old => bif e then _ else bif qkg (H.get b) (o + n * z) z then _ else _) else R1.bad) = _
   rw [e0, show Nat.mul (n + k) w = (n + k) * w from rfl, bk, bk2, rd]
   subst eH
   cases e with
   | true => rfl
   | false =>
    rcases h4 with h4 | h4
    ·cases h4
    ·have : qkg (H.get b) (o + n * z) z = true := by rw [h1, za3]; simp [hd, h4]
     simp only [cond_false, cond_true, Bool.and_self, this]; rfl
  refine fin (bif e then H else H.put b .dead) (by cases e <;> rfl) ?_ (main e _ rfl h4)
  cases e with
  | true => exact Fm.refl _ _
  | false => exact (Fm.refl _ _).put b _ fun _ => ⟨_, _, _, _, rfl⟩
theorem q8b (z : Nat) (H : Hp) (b o n m : Nat) (e : Bool) (q : Nat) (L : List AV) (h : H.get b = qac q L) (hl : o + n * z ≤ L.length) : qdh z H (.sl b o n m e) = some ⟨n, (L.drop o).take (n * z)⟩ := by
 show (match qcq (H.get b) o (Nat.mul n z) with | some l => some (Src.mk n l) | none => none) = _
 rw [h, qit, if_pos (show o + Nat.mul n z ≤ L.length from hl)]; rfl
theorem q8a (z : Nat) (H : Hp) (b o n m : Nat) (e : Bool) : qdh z H (.sl b o n m e) = (match qcq (H.get b) o (n * z) with | some l => some ⟨n, l⟩ | none => none) := id rfl
theorem Gl.head {n : Nat} {H : Hp} {v : AV} {x : AV} {l : List AV} (h : Gl 1 H v n (x :: l)) : ∃ b o, idxS 1 v (.int .i64 (.ofNat 0)) = .val (.ptr b o) ∧ b < H.nx ∧ In v b ∧ qb8 (H.get b) o = .val x := by
 have hl := h.len
 rcases h.is with ⟨rfl, rfl⟩ | ⟨b, o, e, q, L, rfl, h1, h2, h3, h4, h5⟩
 ·simp at hl
 ·refine ⟨b, o, ?_, h5, ⟨_, _, _, _, rfl⟩, ?_⟩
  ·rw [qib _ _ _ _ _ _ _ _ (by simp at hl; omega), Nat.zero_mul, Nat.add_zero]
  ·have : L[o]? = some x := by rw [← Nat.add_zero o, ← List.getElem?_drop, h3]; rfl
   rw [h1, qdi, this]
theorem zc0 (l v : List AV) (h : Tr (Nat.beq v.length l.length)) : setL l 0 v = v := by
 unfold Tr at h
 rw [beq_eq, decide_eq_true_iff] at h
 unfold setL
 simp [h]
theorem qmn (z : List AV) (w nm n : Nat) (h : n * w ≤ 1099511627776) (h2 : n ≤ 1099511627776) : qps z w nm (.int .i64 (.ofNat n)) (.int .i64 (.ofNat n)) = .new (.sl nm 0 n n true) (qac 0 (reps z n)) := by
 show (bif Nat.ble n n && Nat.ble (Nat.mul n w) bigB && Nat.ble n bigB then _ else _) = _
 rw [Nat.ble_eq_true_of_le (Nat.le_refl n), show Nat.mul n w = n * w from rfl, Nat.ble_eq_true_of_le (show n * w ≤ bigB from h), Nat.ble_eq_true_of_le (show n ≤ bigB from h2)]; rfl
theorem qf3 (x : AV) : ∀ n, reps [x] n = List.replicate n x
 | 0 => rfl
 | n + 1 => by show [x] ++ reps [x] n = _; rw [qf3 x n]; rfl
theorem qza (c : List AV) : qa3 c [] = some c := id rfl
theorem qvu (c : List AV) (off size : Nat) (v : AV) (r : List (Nat × Nat × AV)) : qa3 c ((off, size, v) :: r) = match qkh v with | some l => (match qqz c off size l with | some c' => qa3 c' r | none => none) | none => none := id rfl
theorem q7b (k : IntKind) (n : Int) : qkh (.int k n) = some [.int k n] := id rfl
theorem q21 (n : Bool) : qkh (.bool n) = some [.bool n] := id rfl
theorem zbm (a b c d : Nat) (e : Bool) : qkh (.sl a b c d e) = some [.sl a b c d e] := id rfl
theorem q0j : qkh .nilsl = some [.nilsl] := id rfl
theorem q7c (l : List AV) : qkh (.agg l) = some l := id rfl
theorem q5t (c : List AV) (off size : Nat) (v : List AV) : qqz c off size v = bif Nat.beq v.length size && Nat.ble (off + size) c.length then some (c.take off ++ v ++ c.drop (off + size)) else none := id rfl
theorem zh6 (l : List AV) : reps l 1 = l ++ [] := id rfl
theorem zh5 (l : List AV) : reps l 2 = l ++ (l ++ []) := id rfl
theorem zh4 (l : List AV) : reps l 3 = l ++ (l ++ (l ++ [])) := id rfl
attribute [go_sem] qza qvu q7b q21 zbm q0j q7c q5t zh6 zh5 zh4 ble_eq qie beq_eq List.append_nil List.nil_append List.cons_append za1
attribute [go_sem] zc0 q8a vE_t zg9 zgw dq_t dq_f vD_q vD_l zhw de_f zjm q7w q5m zen zcb za9 q65 za8 q64 q7t q5l q8f za0 zd3 zfd zaz zg2 zam Bool.and_true Bool.true_and Bool.and_self
end Go.Di
end
