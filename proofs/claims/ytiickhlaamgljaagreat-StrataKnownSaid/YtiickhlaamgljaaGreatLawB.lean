/-
 For countersignlaw18.StrataKnown: the law, the second part. No conditions beyond those that each theorem states.
-/
import Derived.Test.YtiickhlaamgljaaGreatLaw
import Derived.Test.YtiickhlaamgljaaGreatEv3
import Derived.Test.YtiickhlaamgljaaGreatEv4
set_option linter.unusedSimpArgs false
set_option linter.unusedVariables false
open Nat (reduceAdd reduceMul reduceSub reduceLeDiff reduceEqDiff reduceShiftRight reduceAnd)
noncomputable section
/-
 Graphs without any program: the walk ends, and what holds then.
-/
namespace Go.Di
open Go.Ev
theorem qk7 : ∀ (n : Nat) (l : List Nat), l.Nodup → (∀ x ∈ l, x < n) → l.length ≤ n
 | 0, l, _, h => by
  cases l with
  | nil => exact Nat.le_refl _
  | cons x l => exact absurd (h x (List.mem_cons_self ..)) (Nat.not_lt_zero _)
 | n + 1, l, hn, h => by
  by_cases hm : n ∈ l
  ·have h1 := qk7 n (l.erase n) (hn.erase n) (fun x hx => by
    have h2 := (hn.mem_erase_iff).1 hx
    have := h x h2.2
    have := h2.1
    omega)
   rw [List.length_erase_of_mem hm] at h1; omega
  ·have := qk7 n l hn (fun x hx => by
    have := h x hx
    have : x ≠ n := fun e => hm (e ▸ hx)
    omega)
   omega
theorem Inv.start {n : Nat} (ms : List Nat) {a : Nat} (ha : a < n) (hn : n ≤ 256) : Inv n ms a [[]] 0 (qa0 a) := by
 refine ⟨by unfold qa0; rw [List.length_set, List.length_replicate], rfl, List.pairwise_singleton _ _, fun x hx => ?_, rfl, fun v hv => ?_, fun v x hx => ?_, fun v x hx => ?_, fun i hi => by omega, by simp, Nat.zero_le _⟩
 ·rw [List.mem_singleton] at hx; subst hx; trivial
 ·show 0 ≤ ((List.replicate 256 (-1)).set a (.ofNat a)).getD v 0 ↔ _
  rw [qbq _ _ _ _ (by rw [List.length_replicate]; omega)]
  by_cases h : v = a
  ·rw [if_pos h]
   exact ⟨fun _ => ⟨[], List.mem_singleton.2 rfl, h.symm⟩, fun _ => Int.natCast_nonneg _⟩
  ·rw [if_neg h]
   have : (List.replicate 256 (-1 : Int)).getD v 0 = -1 := by
    simp only [List.getD_eq_getElem?_getD, List.getElem?_replicate, if_pos hv]; rfl
   rw [this]
   refine ⟨fun h' => by omega, fun ⟨x, hx, h1⟩ => ?_⟩
   rw [List.mem_singleton] at hx; subst hx
   exact absurd h1.symm h
 ·rw [List.mem_singleton] at hx; cases hx
 ·rw [List.mem_singleton] at hx; cases hx
theorem q1c {n : Nat} {ms : List Nat} {a : Nat} (ha : a < n) {x : List Nat} (h : Rw n ms a x) : hd x a < n := by
 cases x with
 | nil => exact ha
 | cons v x => exact h.1
theorem Inv.step {n : Nat} {ms : List Nat} {a : Nat} {T : List (List Nat)} {t : Nat} {s : Wk} (hn : n ≤ 256) (ha : a < n) (h : Inv n ms a T t s) (hq : s.q ≠ []) : ∃ T', Inv n ms a T' (t + 1) (qjn (qaj n ms) s) := by
 have hlt : t < T.length := by
  rcases Nat.lt_or_ge t T.length with h' | h'
  ·exact h'
  ·exact absurd (by rw [h.q, List.drop_eq_nil_of_le h']; rfl) hq
 obtain ⟨su, hsu⟩ : ∃ su, T[t]? = some su := ⟨T[t], List.getElem?_eq_getElem hlt⟩
 have hsm : su ∈ T := List.mem_of_getElem? hsu
 have hd0 : T.drop t = su :: T.drop (t + 1) := by
  rw [List.drop_eq_getElem_cons hlt]
  rw [List.getElem?_eq_getElem hlt] at hsu
  cases hsu; rfl
 have start : Inn n ms a T t su [] s := by
  refine ⟨h.len, h.nil, hsu, h.pw, h.rw', h.q, h.iff, h.par, fun v x hx => ?_, h.cls, h.nd, fun e he => (by cases he), fun x hx => .inl ?_⟩
  ·obtain ⟨i, h1, h2⟩ := h.fst v x hx
   exact ⟨i, by omega, h2⟩
  ·cases x with
   | nil => exact Nat.zero_le _
   | cons v x =>
    obtain ⟨i, h1, h2, _⟩ := h.fst v x hx
    have hv : v < n := (h.rw' _ hx).1
    have hcd : cd' (n + 1) x < cd' (n + 1) su := by
     have hi : i < T.length := by omega
     have := List.pairwise_iff_getElem.1 h.pw i t hi hlt h1
     rw [List.getElem?_eq_getElem hi] at h2
     rw [List.getElem?_eq_getElem hlt] at hsu
     cases h2; cases hsu
     exact this
    have h3 : (cd' (n + 1) x + 1) * (n + 1) ≤ cd' (n + 1) su * (n + 1) := Nat.mul_le_mul_right _ hcd
    rw [Nat.add_mul, Nat.one_mul] at h3
    show cd' (n + 1) x * (n + 1) + (v + 1) ≤ _
    omega
 obtain ⟨T', h'⟩ := Inn.all hn ha (qaj n ms) [] T s rfl start
 refine ⟨T', ?_⟩
 have hq0 : s.q = hd su a :: (T.drop (t + 1)).map (hd · a) := by rw [h.q, hd0]; rfl
 have hlt' : t < T'.length := by
  rcases Nat.lt_or_ge t T'.length with h1 | h1
  ·exact h1
  ·have := h'.at'; rw [List.getElem?_eq_none h1] at this; cases this
 have hd1 : T'.drop t = su :: T'.drop (t + 1) := by
  have := h'.at'
  rw [List.drop_eq_getElem_cons hlt']
  rw [List.getElem?_eq_getElem hlt'] at this
  cases this; rfl
 have hnx : qjn (qaj n ms) s = ⟨(inner (qaj n ms) (hd su a) s).f, (inner (qaj n ms) (hd su a) s).q.tail⟩ := by
  unfold qjn; rw [hq0]
 rw [hnx]
 refine ⟨h'.len, h'.nil, h'.pw, h'.rw', ?_, h'.iff, h'.par, h'.fst, fun i hi x hx v hv hadj => ?_, h'.nd, hlt'⟩
 ·show (inner (qaj n ms) (hd su a) s).q.tail = _
  rw [h'.q, hd1]; rfl
 ·by_cases e : i = t
  ·subst e
   rw [h'.at'] at hx
   cases hx
   obtain ⟨e, he, h1, h2⟩ := qpq (q1c ha (h'.rw' su (List.mem_of_getElem? h'.at'))) hv hadj
   obtain ⟨y, hy, h3⟩ := h'.dn e he h1
   exact ⟨y, hy, by rw [h3, h2]⟩
  ·exact h'.cls i (by omega) x hx v hv hadj
theorem Inv.card {n : Nat} {ms : List Nat} {a : Nat} {T : List (List Nat)} {t : Nat} {s : Wk} (ha : a < n) (h : Inv n ms a T t s) : T.length ≤ n := by
 have := qk7 n (T.map (hd · a)) h.nd (fun x hx => by
  obtain ⟨y, hy, rfl⟩ := List.mem_map.1 hx
  exact q1c ha (h.rw' y hy))
 rwa [List.length_map] at this
theorem q7a {n : Nat} {ms : List Nat} {a : Nat} (hn : n ≤ 256) (ha : a < n) : ∀ (m : Nat) (T : List (List Nat)) (t : Nat) (s : Wk), n - t ≤ m → Inv n ms a T t s →
  qxu (qaj n ms) m s ∧ ∃ T' q, Inv n ms a T' T'.length ⟨bfs (qaj n ms) m s, q⟩
 | 0, T, t, s, hm, h => by
  have hc := h.card ha
  have ht : t = T.length := by have := h.le; omega
  have hq : s.q = [] := by rw [h.q, List.drop_eq_nil_of_le (by omega)]; rfl
  exact ⟨hq, T, s.q, by subst ht; exact h⟩
 | m + 1, T, t, s, hm, h => by
  cases hq : s.q with
  | nil =>
   have ht : t = T.length := by
    have h1 := h.q
    rw [hq] at h1
    have h2 := congrArg List.length h1
    rw [List.length_map, List.length_drop, List.length_nil] at h2
    have := h.le; omega
   refine ⟨.inl hq, T, s.q, ?_⟩
   have : bfs (qaj n ms) (m + 1) s = s.f := by simp [bfs, hq]
   rw [this]; subst ht; exact h
  | cons u r =>
   obtain ⟨T1, h1⟩ := h.step hn ha (by rw [hq]; simp)
   obtain ⟨h2, T2, q2, h3⟩ := q7a hn ha m T1 (t + 1) _ (by omega) h1
   refine ⟨.inr h2, T2, q2, ?_⟩
   have : bfs (qaj n ms) (m + 1) s = bfs (qaj n ms) m (qjn (qaj n ms) s) := by simp [bfs, hq]
   rw [this]; exact h3
theorem least {n : Nat} {ms : List Nat} {a : Nat} {T : List (List Nat)} {s : Wk} (h : Inv n ms a T T.length s) : ∀ w, Rw n ms a w → ∃ x ∈ T, hd x a = hd w a ∧ cd' (n + 1) x ≤ cd' (n + 1) w
 | [], _ => ⟨[], List.mem_of_getElem? h.nil, rfl, Nat.le_refl _⟩
 | v :: w, ⟨hv, hadj, hw⟩ => by
  obtain ⟨y, hy, h1, h2⟩ := least h w hw
  obtain ⟨j, hj, rfl⟩ := List.mem_iff_getElem.1 hy
  obtain ⟨x, hx, h3⟩ := h.cls j hj T[j] (List.getElem?_eq_getElem hj) v hv (by rw [h1]; exact hadj)
  refine ⟨x, hx, h3, ?_⟩
  cases x with
  | nil => exact Nat.zero_le _
  | cons v' x =>
   have hvv : v' = v := h3
   subst hvv
   obtain ⟨i, hi, h4, h5⟩ := h.fst v' x hx
   have hij : i ≤ j := by
    rcases Nat.lt_or_ge j i with h' | h'
    ·exact absurd (by rw [h1]; exact hadj) (h5 j h' T[j] (List.getElem?_eq_getElem hj))
    ·exact h'
   have h6 : cd' (n + 1) x ≤ cd' (n + 1) T[j] := by
    rw [List.getElem?_eq_getElem hi] at h4
    cases h4
    rcases Nat.eq_or_lt_of_le hij with e | e
    ·subst e; exact Nat.le_refl _
    ·exact Nat.le_of_lt (List.pairwise_iff_getElem.1 h.pw i j hi hj e)
   show cd' (n + 1) x * (n + 1) + (v' + 1) ≤ cd' (n + 1) w * (n + 1) + (v' + 1)
   exact Nat.add_le_add_right (Nat.mul_le_mul_right _ (Nat.le_trans h6 h2)) _
end Go.Di
end
noncomputable section
/-
 Graphs without any program: the way that the walk found is the least path of the reference.
-/
namespace Go.Di
open Go.Ev
variable {n : Nat} {ms : List Nat}
theorem qjx (x y : Int) : x < y ∨ y ≤ x := by omega
theorem qln (s r : List Nat) (a : Nat) : hd (s ++ r) a = hd s (hd r a) := by cases s <;> rfl
theorem qnj {a : Nat} : ∀ {s r : List Nat}, Rw n ms a r → Rw n ms (hd r a) s → Rw n ms a (s ++ r)
 | [], _, h, _ => h
 | v :: s, r, h, ⟨h1, h2, h3⟩ => ⟨h1, by show Adj n ms (hd (s ++ r) a) v; rw [qln]; exact h2, qnj h h3⟩
theorem qwh {a : Nat} : ∀ {s r : List Nat}, Rw n ms a (s ++ r) → Rw n ms a r ∧ Rw n ms (hd r a) s
 | [], _, h => ⟨h, trivial⟩
 | v :: s, r, ⟨h1, h2, h3⟩ => by
  obtain ⟨h4, h5⟩ := qwh h3
  exact ⟨h4, h1, by rw [← qln]; exact h2, h5⟩
theorem q3s {a : Nat} : ∀ {s : List Nat}, Rw n ms a s → ∀ v ∈ s, v < n
 | [], _, _, h => by cases h
 | v :: s, ⟨h1, _, h3⟩, w, h => by
  rcases List.mem_cons.1 h with rfl | h
  ·exact h1
  ·exact q3s h3 w h
theorem q6a {a : Nat} (ha : a < n) : ∀ {s : List Nat}, Rw n ms a s → wk (Adj n ms) n a (hd s a) s.length
 | [], _ => rfl
 | v :: s, ⟨h1, h2, h3⟩ => qyn (q6a ha h3) (q1c ha h3) (show wk (Adj n ms) n (hd s a) v 1 from h2)
theorem q9p {b : Nat} (hb : b < n) : ∀ (L a : Nat), wS (Adj n ms) n a b L → ∃ w, w.length = L + 1 ∧ hd w a = b ∧ Rw n ms a w
 | 0, a, h => ⟨[b], rfl, rfl, hb, h, trivial⟩
 | L + 1, a, ⟨x, hx, h1, h2⟩ => by
  obtain ⟨w, h3, h4, h5⟩ := q9p hb L x h2
  refine ⟨w ++ [x], by simp [h3], ?_, ?_⟩
  ·rw [qln]; exact h4
  ·exact qnj (r := [x]) ⟨hx, h1, trivial⟩ h5
theorem q7f {a b L : Nat} (hb : b < n) (h : wk (Adj n ms) n a b L) : ∃ w, w.length = L ∧ hd w a = b ∧ Rw n ms a w := by
 cases L with
 | zero => exact ⟨[], rfl, h, trivial⟩
 | succ L => exact q9p hb L a h
theorem q2v (B : Nat) : ∀ (s r : List Nat), cd' B (s ++ r) = cd' B r * B ^ s.length + cd' B s
 | [], r => by simp [cd']
 | v :: s, r => by
  show cd' B (s ++ r) * B + (v + 1) = _
  rw [q2v B s r, List.length_cons, Nat.pow_succ, Nat.add_mul, Nat.mul_assoc]
  show _ = _ + (cd' B s * B + (v + 1))
  omega
theorem q87 (n : Nat) : ∀ (s : List Nat), (∀ v ∈ s, v < n) → cd' (n + 1) s + 1 ≤ (n + 1) ^ s.length
 | [], _ => Nat.le_refl _
 | v :: s, h => by
  have h1 := q87 n s (fun w hw => h w (List.mem_cons_of_mem _ hw))
  have h2 := h v (List.mem_cons_self ..)
  have h3 : (cd' (n + 1) s + 1) * (n + 1) ≤ (n + 1) ^ s.length * (n + 1) := Nat.mul_le_mul_right _ h1
  rw [Nat.add_mul, Nat.one_mul] at h3
  rw [List.length_cons, Nat.pow_succ]
  show cd' (n + 1) s * (n + 1) + (v + 1) + 1 ≤ _
  omega
theorem zb6 (n : Nat) : ∀ (v : Nat) (s : List Nat), (n + 1) ^ s.length ≤ cd' (n + 1) (v :: s)
 | v, [] => by simp [cd']
 | v, w :: s => by
  have h1 := zb6 n w s
  have h2 : (n + 1) ^ s.length * (n + 1) ≤ cd' (n + 1) (w :: s) * (n + 1) := Nat.mul_le_mul_right _ h1
  rw [List.length_cons, Nat.pow_succ]
  show _ ≤ cd' (n + 1) (w :: s) * (n + 1) + (v + 1)
  omega
theorem q5x {x w : List Nat} (hw : ∀ v ∈ w, v < n) (h : w.length < x.length) : cd' (n + 1) w < cd' (n + 1) x := by
 cases x with
 | nil => simp at h
 | cons v x =>
  have h1 := q87 n w hw
  have h2 := zb6 n v x
  have h3 : (n + 1) ^ w.length ≤ (n + 1) ^ x.length := Nat.pow_le_pow_right (by omega) (by simp at h; omega)
  omega
theorem q88 {s s' r : List Nat} {z z' : Nat} (hs' : ∀ v ∈ s', v < n) (hl : s'.length = s.length) (hz : z' < z) : cd' (n + 1) (s' ++ z' :: r) < cd' (n + 1) (s ++ z :: r) := by
 rw [q2v, q2v, hl]
 have h1 := q87 n s' hs'
 rw [hl] at h1
 have h2 : cd' (n + 1) (z' :: r) + 1 ≤ cd' (n + 1) (z :: r) := by
  show cd' (n + 1) r * (n + 1) + (z' + 1) + 1 ≤ cd' (n + 1) r * (n + 1) + (z + 1)
  omega
 have h3 := Nat.mul_le_mul_right ((n + 1) ^ s.length) h2
 rw [Nat.add_mul, Nat.one_mul] at h3
 omega
theorem zch {a : Nat} {T : List (List Nat)} (hnd : (T.map (hd · a)).Nodup) {x y : List Nat} (hx : x ∈ T) (hy : y ∈ T) (h : hd x a = hd y a) : x = y := by
 obtain ⟨i, hi, rfl⟩ := List.mem_iff_getElem.1 hx
 obtain ⟨j, hj, rfl⟩ := List.mem_iff_getElem.1 hy
 have hp := List.pairwise_iff_getElem.1 hnd
 rcases Nat.lt_trichotomy i j with e | e | e
 ·exact absurd (by rw [List.getElem_map, List.getElem_map]; exact h) (hp i j (by simpa using hi) (by simpa using hj) e)
 ·subst e; rfl
 ·exact absurd (by rw [List.getElem_map, List.getElem_map]; exact h.symm) (hp j i (by simpa using hj) (by simpa using hi) e)
theorem q2j (hl : ms.length = n * n) {y b k : Nat} (hy : y < n) (hb : b < n) (hw : wk (Adj n ms) n y b k) (hmin : ∀ w, Rw n ms y w → hd w y = b → k ≤ w.length) : (dist n ms).getD (y * n + b) 0 = k := by
 obtain ⟨h1, h2⟩ := qps hl y b k hy hb hw
 obtain ⟨w, h3, h4, h5⟩ := q7f hb (qj3 hl y b hy hb h1)
 have := hmin w h5 h4
 omega
theorem zcq (hl : ms.length = n * n) {a b : Nat} (ha : a < n) (hb : b < n) {x : List Nat} (hx : Rw n ms a x) (hxb : hd x a = b) (hmin : ∀ w, Rw n ms a w → hd w a = b → cd' (n + 1) x ≤ cd' (n + 1) w) :
  ∀ (p r : List Nat), p.reverse ++ r = x → Gp n ms (dist n ms) b (hd r a) p
 | [], r, h => by
  have : r = x := h
  subst this; rw [hxb]; exact .nil
 | z :: s, r, h => by
  rw [List.reverse_cons, List.append_assoc] at h
  have h' : s.reverse ++ z :: r = x := h
  subst h'
  obtain ⟨⟨hz, hadj, hr⟩, hs⟩ := qwh hx
  have hxb' : hd s.reverse z = b := by rw [← hxb, qln]; rfl
  have hyn := q1c ha hr
  have hls : s.reverse.length = s.length := List.length_reverse
  -- a shorter way on is none
  have key : ∀ (w r' : List Nat), Rw n ms a r' → Rw n ms (hd r' a) w → hd w (hd r' a) = b → (s.reverse ++ z :: r).length ≤ (w ++ r').length := by
   intro w r' hr' hw hwb
   rcases Nat.lt_or_ge (w ++ r').length (s.reverse ++ z :: r).length with e | e
   ·have h1 := hmin (w ++ r') (qnj hr' hw) (by rw [qln]; exact hwb)
    have h2 := q5x (q3s (qnj hr' hw)) e
    omega
   ·exact e
  have dz : (dist n ms).getD (z * n + b) 0 = s.length := by
   refine q2j hl hz hb ?_ fun w hw hwb => ?_
   ·have := q6a hz hs
    rw [hls] at this
    have h9 : hd s.reverse (hd (z :: r) a) = b := hxb'
    rw [show hd s.reverse z = b from hxb'] at this
    exact this
   ·have := key w (z :: r) ⟨hz, hadj, hr⟩ hw hwb
    simp only [List.length_append, List.length_cons, hls] at this; omega
  have dy : (dist n ms).getD (hd r a * n + b) 0 = (s.length + 1 : Nat) := by
   refine q2j hl hyn hb ?_ fun w hw hwb => ?_
   ·have h1 : Rw n ms (hd r a) (s.reverse ++ [z]) := qnj (r := [z]) ⟨hz, hadj, trivial⟩ hs
    have := q6a hyn h1
    rw [qln] at this
    rw [show hd s.reverse (hd [z] (hd r a)) = b from hxb'] at this
    rw [show (s.reverse ++ [z]).length = s.length + 1 by simp] at this
    exact this
   ·have := key w r hr hw hwb
    simp only [List.length_append, List.length_cons, hls] at this; omega
  refine .cons (fun e => ?_) ⟨hz, ⟨hadj, by rw [dz]; omega, by rw [dz, dy]; omega⟩, fun k hk hnx => ?_⟩ (zcq hl ha hb hx hxb hmin s (z :: r) rfl)
  ·have := key [] r hr trivial e
   simp only [List.length_append, List.length_cons, List.length_nil] at this; omega
  ·obtain ⟨h1, h2, h3⟩ := hnx
   rw [dy] at h3
   have hkn : k < n := by omega
   obtain ⟨w, h4, h5, h6⟩ := q7f hb (qj3 hl k b hkn hb h2)
   rw [h3] at h4
   have hr' : Rw n ms a (k :: r) := ⟨hkn, h1, hr⟩
   have h7 := hmin (w ++ k :: r) (qnj hr' h6) (by rw [qln]; exact h5)
   have h8 := q88 (s := s.reverse) (s' := w) (r := r) (z := z) (z' := k) (q3s h6) (by rw [h4, hls]; omega) hk
   omega
theorem zct {a : Nat} (hn : n ≤ 256) {T : List (List Nat)} {t : Nat} {s : Wk} (h : Inv n ms a T t s) : ∀ (x : List Nat), x ∈ T → Ch s.f a (x ++ [a])
 | [], _ => .one
 | v :: x, hx => by
  obtain ⟨h1, h2⟩ := h.par v x hx
  obtain ⟨i, _, h3, _⟩ := h.fst v x hx
  have ih := zct hn h x (List.mem_of_getElem? h3)
  have hv : v < 256 := by have : v < n := (h.rw' _ hx).1; omega
  cases x with
  | nil => exact .cons h1 hv h2 ih
  | cons w x => exact .cons h1 hv h2 ih
theorem q3o {a : Nat} {T : List (List Nat)} {t : Nat} {s : Wk} (h : Inv n ms a T t s) : ∀ (x : List Nat) (i : Nat), T[i]? = some x → x.length ≤ i
 | [], _, _ => Nat.zero_le _
 | v :: x, i, hi => by
  obtain ⟨j, _, h3, _⟩ := h.fst v x (List.mem_of_getElem? hi)
  have ih := q3o h x j h3
  have hit : i < T.length := by
   rcases Nat.lt_or_ge i T.length with h | h
   ·exact h
   ·rw [List.getElem?_eq_none h] at hi; cases hi
  have hjt : j < T.length := by
   rcases Nat.lt_or_ge j T.length with h | h
   ·exact h
   ·rw [List.getElem?_eq_none h] at h3; cases h3
  rw [List.getElem?_eq_getElem hit] at hi
  rw [List.getElem?_eq_getElem hjt] at h3
  have hlt : cd' (n + 1) x < cd' (n + 1) (v :: x) := by
   show _ < cd' (n + 1) x * (n + 1) + (v + 1)
   rw [Nat.mul_add, Nat.mul_one]; omega
  rcases Nat.lt_or_ge j i with e | e
  ·rw [List.length_cons]; omega
  ·exfalso
   rcases Nat.eq_or_lt_of_le e with e | e
   ·subst e
    rw [Option.some.injEq] at hi h3
    rw [← hi, ← h3] at hlt
    omega
   ·have := List.pairwise_iff_getElem.1 h.pw i j hit hjt e
    rw [Option.some.injEq] at hi h3
    rw [hi, h3] at this
    omega
theorem qyp {n : Nat} {ms : List Nat} (hM : MOk n ms) (hlen : (qaj n ms).length < 1000) : qqc n ms := by
 have hl := hM.len
 have h256 := hM.hn
 refine fun a ha => ?_
 obtain ⟨hends, T, q, hI⟩ := q7a (ms := ms) hM.hn ha n [[]] 0 (qa0 a) (by omega) (Inv.start ms ha hM.hn)
 have iff : ∀ b, b < n → ((bfs (qaj n ms) n (qa0 a)).getD b 0 < 0 ↔ (dist n ms).getD (a * n + b) 0 < 0) := by
  intro b hb
  have h1 := hI.iff b (by omega)
  constructor
  ·intro h
   rcases qjx ((dist n ms).getD (a * n + b) 0) 0 with h2 | h2
   ·exact h2
   ·obtain ⟨w, _, h4, h5⟩ := q7f hb (qj3 hl a b ha hb h2)
    obtain ⟨x, hx, h6, _⟩ := least hI w h5
    have := h1.2 ⟨x, hx, by rw [h6, h4]⟩
    exact absurd this (Int.not_le.2 h)
  ·intro h
   rcases qjx ((bfs (qaj n ms) n (qa0 a)).getD b 0) 0 with h2 | h2
   ·exact h2
   ·obtain ⟨x, hx, h3⟩ := h1.1 h2
    have h4 := q6a ha (hI.rw' x hx)
    rw [h3] at h4
    have := (qps hl a b _ ha hb h4).1
    omega
 refine ⟨n, ⟨qe9 n ms, hM.hn, hlen, by omega, hends⟩, ?_, fun b hb => ⟨iff b hb, fun hneg => ?_⟩⟩
 ·have main : ∀ i, i ≤ 256 → qqz (bfs (qaj n ms) n (qa0 a)) i = qyo n (dist n ms) a (min i n) := by
   intro i
   induction i with
   | zero => intro _; rw [Nat.zero_min]; rfl
   | succ i ih =>
    intro hi
    rw [qs6, ih (by omega)]
    by_cases h : i < n
    ·rw [show min (i + 1) n = min i n + 1 by omega, show min i n = i by omega, qwn]
     by_cases h2 : (bfs (qaj n ms) n (qa0 a)).getD i 0 < 0
     ·rw [if_pos h2, if_pos ((iff i h).1 h2)]
     ·rw [if_neg h2, if_neg (fun h3 => h2 ((iff i h).2 h3))]
    ·rw [show min (i + 1) n = min i n by omega]
     have : (bfs (qaj n ms) n (qa0 a)).getD i 0 < 0 := by
      rcases qjx ((bfs (qaj n ms) n (qa0 a)).getD i 0) 0 with h2 | h2
      ·exact h2
      ·obtain ⟨x, hx, h3⟩ := (hI.iff i (by omega)).1 h2
       have := q1c ha (hI.rw' x hx)
       omega
     rw [if_pos this, List.append_nil]
  rw [main 256 (Nat.le_refl _), show min 256 n = n by omega]
 ·have hpos : 0 ≤ (bfs (qaj n ms) n (qa0 a)).getD b 0 := by
   rcases qjx ((bfs (qaj n ms) n (qa0 a)).getD b 0) 0 with h2 | h2
   ·exact absurd ((iff b hb).1 h2) hneg
   ·exact h2
  obtain ⟨x, hx, hxb⟩ := (hI.iff b (by omega)).1 hpos
  have hch := zct hM.hn hI x hx
  have hmin : ∀ w, Rw n ms a w → hd w a = b → cd' (n + 1) x ≤ cd' (n + 1) w := by
   intro w hw hwb
   obtain ⟨y, hy, h1, h2⟩ := least hI w hw
   have := zch hI.nd hy hx (by rw [h1, hwb, hxb])
   subst this
   exact h2
  have hgp := zcq hl ha hb (hI.rw' x hx) hxb hmin x.reverse [] (by rw [List.reverse_reverse, List.append_nil])
  obtain ⟨i, hi, hxi⟩ := List.mem_iff_getElem.1 hx
  have hsh := q3o hI x i (by rw [List.getElem?_eq_getElem hi, hxi])
  have hcard := hI.card ha
  have hsplit : x ++ [a] = b :: (x ++ [a]).tail := by
   cases x with
   | nil => rw [show b = a from hxb.symm]; rfl
   | cons v x => rw [show b = v from hxb.symm]; rfl
  refine ⟨(x ++ [a]).tail, x.reverse, by rw [← hsplit]; exact hch, ?_, hgp, by rw [← hsplit, List.reverse_append]; rfl⟩
  simp only [List.length_tail, List.length_append, List.length_cons, List.length_nil]
  omega
end Go.Di
end
noncomputable section
/-
 Strata of a graph, without any program: the least numbers that fit.
-/
namespace Go.Di
open Go.Ev Go.Di.T Go.Sort
def stN (e : Edge) : Nat := if e.s then 1 else 0
def Fit (n : Nat) (es : List Edge) (o : List Nat) : Prop := o.length = n ∧ ∀ e ∈ es, o.getD e.t 0 + stN e ≤ o.getD e.f 0
def Lst (n : Nat) (es : List Edge) (o : List Nat) : Prop := ∀ S, Fit n es S → ∀ x, x < n → o.getD x 0 ≤ S.getD x 0
theorem q5b {n : Nat} {es : List Edge} {o o' : List Nat} (h : Fit n es o) (l : Lst n es o) (h' : Fit n es o') (l' : Lst n es o') : o = o' := by
 apply List.ext_getElem (h.1.trans h'.1.symm)
 intro i h1 h2
 have hi : i < n := by have := h.1; omega
 have a := l o' h' i hi
 have b := l' o h i hi
 rw [List.getD_eq_getElem?_getD, List.getD_eq_getElem?_getD, List.getElem?_eq_getElem h1, List.getElem?_eq_getElem h2] at a b
 have a : o[i] ≤ o'[i] := a
 have b : o'[i] ≤ o[i] := b
 omega
theorem zbf {n : Nat} {es : List Edge} {S : List Nat} (h : Fit n es S) {a b : Nat} (hr : Rc (qa6 es) a b) : S.getD b 0 ≤ S.getD a 0 := by
 induction hr with
 | refl => exact Nat.le_refl _
 | step _ hst ih =>
  obtain ⟨x, hx, rfl, rfl⟩ := qbt.1 hst
  have := h.2 x hx
  omega
structure OutI (n : Nat) (es : List Edge) (ins : List Nat) (i : Nat) (o : List Nat) : Prop where
 len : o.length = n
 zero : ∀ x, x < n → i ≤ ins.getD x 0 → o.getD x 0 = 0
 up : ∀ e ∈ es, ins.getD e.f 0 < i → ins.getD e.t 0 ≠ ins.getD e.f 0 → o.getD e.t 0 + stN e ≤ o.getD e.f 0
 why : ∀ x, x < n → ins.getD x 0 < i → o.getD x 0 = 0 ∨ ∃ e ∈ es, ins.getD e.f 0 = ins.getD x 0 ∧ ins.getD e.t 0 ≠ ins.getD x 0 ∧ o.getD x 0 = o.getD e.t 0 + stN e
 same : ∀ x y, x < n → y < n → ins.getD x 0 = ins.getD y 0 → o.getD x 0 = o.getD y 0
 bd : ∀ x, x < n → o.getD x 0 ≤ ins.getD x 0
theorem rep0 (n x : Nat) : (List.replicate n 0).getD x 0 = 0 := by
 rw [List.getD_eq_getElem?_getD, List.getElem?_replicate]
 split <;> rfl
theorem OutI.start (n : Nat) (es : List Edge) (ins : List Nat) : OutI n es ins 0 (List.replicate n 0) :=
 ⟨by simp, fun x _ _ => rep0 n x, fun e _ h => absurd h (Nat.not_lt_zero _), fun x _ h => absurd h (Nat.not_lt_zero _), fun x y _ _ _ => by rw [rep0, rep0], fun x _ => by rw [rep0]; omega⟩
def asks (es : List Edge) (ins o : List Nat) (i : Nat) : List Nat := (es.filter fun e => decide (ins.getD e.f 0 = i) && !decide (ins.getD e.t 0 = i)).map fun e => o.getD e.t 0 + stN e
def maxL (l : List Nat) : Nat := l.foldl max 0
theorem q1t (l : List Nat) : ∀ a, a ≤ l.foldl max a ∧ (∀ x ∈ l, x ≤ l.foldl max a) ∧ (l.foldl max a = a ∨ l.foldl max a ∈ l) := by
 induction l with
 | nil => intro a; exact ⟨Nat.le_refl _, fun x h => (by cases h), Or.inl rfl⟩
 | cons y l ih =>
  intro a
  obtain ⟨h1, h2, h3⟩ := ih (max a y)
  show a ≤ l.foldl max (max a y) ∧ (∀ x ∈ y :: l, x ≤ l.foldl max (max a y)) ∧ (l.foldl max (max a y) = a ∨ l.foldl max (max a y) ∈ y :: l)
  refine ⟨by omega, fun x hx => ?_, ?_⟩
  ·rcases List.mem_cons.1 hx with rfl | hx
   ·omega
   ·exact h2 x hx
  ·rcases h3 with h3 | h3
   ·by_cases hay : y ≤ a
    ·left; omega
    ·right; rw [h3, show max a y = y by omega]; exact List.mem_cons_self
   ·right; exact List.mem_cons_of_mem _ h3
theorem qqb {es : List Edge} {ins o : List Nat} {i x : Nat} : x ∈ asks es ins o i ↔ ∃ e ∈ es, ins.getD e.f 0 = i ∧ ins.getD e.t 0 ≠ i ∧ x = o.getD e.t 0 + stN e := by
 unfold asks
 rw [List.mem_map]
 constructor
 ·rintro ⟨e, he, rfl⟩
  obtain ⟨he, hp⟩ := List.mem_filter.1 he
  rw [Bool.and_eq_true, decide_eq_true_eq, Bool.not_eq_true', decide_eq_false_iff_not] at hp
  exact ⟨e, he, hp.1, hp.2, rfl⟩
 ·rintro ⟨e, he, h1, h2, rfl⟩
  exact ⟨e, List.mem_filter.2 ⟨he, by rw [decide_eq_true h1, decide_eq_false h2]; rfl⟩, rfl⟩
def qgm (o : List Nat) (v : Nat) : List Nat → List Nat
 | [] => o
 | x :: l => qgm (o.set x v) v l
theorem zbd (cs : List Nat) (a c v : Nat) (hc : c < cs.length) : (cs.set a v).getD c 0 = if a = c then v else cs.getD c 0 := by
 rw [List.getD_eq_getElem?_getD, List.getD_eq_getElem?_getD, List.getElem?_set]
 by_cases h : a = c
 ·subst h; rw [if_pos rfl, if_pos rfl, if_pos hc]; rfl
 ·rw [if_neg h, if_neg h]
theorem qlq (v : Nat) : ∀ (l o : List Nat), (qgm o v l).length = o.length
 | [], _ => rfl
 | x :: l, o => (qlq v l _).trans List.length_set
theorem qrs (v : Nat) {y : Nat} : ∀ (l o : List Nat), y < o.length → (qgm o v l).getD y 0 = if y ∈ l then v else o.getD y 0
 | [], o, _ => by simp [qgm]
 | x :: l, o, h => by
  rw [qgm, qrs v l _ (by rw [List.length_set]; exact h), zbd _ _ _ _ h]
  by_cases h1 : y ∈ l
  ·rw [if_pos h1, if_pos (List.mem_cons_of_mem _ h1)]
  ·rw [if_neg h1]
   by_cases h2 : x = y
   ·subst h2; rw [if_pos rfl, if_pos List.mem_cons_self]
   ·rw [if_neg h2, if_neg fun h => (List.mem_cons.1 h).elim (fun e => h2 e.symm) h1]
theorem qm9 (v x : Nat) : ∀ (l o : List Nat), qgm o v (l ++ [x]) = (qgm o v l).set x v
 | [], _ => rfl
 | _ :: l, _ => qm9 v x l _
theorem OutI.step {n : Nat} {es : List Edge} {ins : List Nat} {i : Nat} {o c : List Nat} (h : OutI n es ins i o) (hE : ∀ e ∈ es, e.f < n ∧ e.t < n) (hc : ∀ x, x < n → (x ∈ c ↔ ins.getD x 0 = i)) (hd : ∀ e ∈ es, ins.getD e.t 0 ≤ ins.getD e.f 0) : OutI n es ins (i + 1) (qgm o (maxL (asks es ins o i)) c) := by
 have g : ∀ x, x < n → (qgm o (maxL (asks es ins o i)) c).getD x 0 = if ins.getD x 0 = i then maxL (asks es ins o i) else o.getD x 0 := fun x hx => by
  rw [qrs _ _ _ (by rw [h.len]; exact hx)]
  by_cases hi : ins.getD x 0 = i
  ·rw [if_pos hi, if_pos ((hc x hx).2 hi)]
  ·rw [if_neg hi, if_neg fun m => hi ((hc x hx).1 m)]
 obtain ⟨_, m2, m3⟩ := q1t (asks es ins o i) 0
 refine ⟨by rw [qlq, h.len], fun x hx hi => ?_, fun e he hi hne => ?_, fun x hx hi => ?_, fun x y hx hy e => ?_, fun x hx => ?_⟩
 ·rw [g x hx, if_neg (by omega)]
  exact h.zero x hx (by omega)
 ·obtain ⟨l1, l2⟩ := hE e he
  have := hd e he
  rw [g _ l1, g _ l2, if_neg (by omega)]
  by_cases hf : ins.getD e.f 0 = i
  ·rw [if_pos hf]
   exact m2 _ (qqb.2 ⟨e, he, hf, by omega, rfl⟩)
  ·rw [if_neg hf]
   exact h.up e he (by omega) hne
 ·rw [g x hx]
  by_cases hf : ins.getD x 0 = i
  ·rw [if_pos hf]
   rcases m3 with m3 | m3
   ·exact Or.inl m3
   ·obtain ⟨e, he, h1, h2, h3⟩ := qqb.1 m3
    refine Or.inr ⟨e, he, h1.trans hf.symm, by rw [hf]; exact h2, ?_⟩
    rw [g _ (hE e he).2, if_neg h2]
    exact h3
  ·rw [if_neg hf]
   rcases h.why x hx (by omega) with h0 | ⟨e, he, h1, h2, h3⟩
   ·exact Or.inl h0
   ·refine Or.inr ⟨e, he, h1, h2, ?_⟩
    have := hd e he
    rw [g _ (hE e he).2, if_neg (by omega)]
    exact h3
 ·rw [g x hx, g y hy, e]
  split
  ·rfl
  ·exact h.same x y hx hy e
 ·rw [g x hx]
  by_cases hf : ins.getD x 0 = i
  ·rw [if_pos hf, hf]
   rcases m3 with m3 | m3
   ·have m3 : maxL (asks es ins o i) = 0 := m3
    omega
   ·obtain ⟨e, he, h1, h2, h3⟩ := qqb.1 m3
    have h3 : maxL (asks es ins o i) = o.getD e.t 0 + stN e := h3
    have h4 := hd e he
    have h5 := h.bd e.t (hE e he).2
    have : stN e ≤ 1 := by unfold stN; split <;> omega
    omega
  ·rw [if_neg hf]; exact h.bd x hx
theorem OutI.done {n : Nat} {es : List Edge} {ins : List Nat} {res : List (List Nat)} {o : List Nat} (h : OutI n es ins res.length o) (hE : ∀ e ∈ es, e.f < n ∧ e.t < n) (hN : Nm n res ins) (hF : OrdF n (qa6 es) [] res) (hd : ∀ e ∈ es, ins.getD e.t 0 ≤ ins.getD e.f 0) (hm : ∀ e ∈ es, e.s = true → ins.getD e.f 0 ≠ ins.getD e.t 0) :
  Fit n es o ∧ Lst n es o ∧ ∀ x, x < n → o.getD x 0 ≤ ins.getD x 0 := by
 refine ⟨⟨h.len, fun e he => ?_⟩, fun S hS => ?_, ?_⟩
 ·obtain ⟨l1, l2⟩ := hE e he
  by_cases hs : ins.getD e.t 0 = ins.getD e.f 0
  ·have hns : ¬ e.s = true := fun t => hm e he t hs.symm
   unfold stN
   rw [if_neg hns, h.same _ _ l2 l1 hs]
   exact Nat.le_refl _
  ·exact h.up e he (hN.lt l1) hs
 ·have key : ∀ m x, ins.getD x 0 = m → x < n → o.getD x 0 ≤ S.getD x 0 := fun m => by
   induction m using Nat.strongRecOn with
   | _ m ih =>
    intro x hx hxn
    rcases h.why x hxn (hN.lt hxn) with h0 | ⟨e, he, h1, h2, h3⟩
    ·omega
    ·obtain ⟨l1, l2⟩ := hE e he
     have h4 := hd e he
     have h5 := ih (ins.getD e.t 0) (by omega) e.t rfl l2
     have h6 := hS.2 e he
     have h7 := zbf hS ((hN.eq hF hxn l1).1 h1.symm).1
     omega
  exact fun x hx => key _ x rfl hx
 ·exact h.bd
def FitM (n : Nat) (ms o : List Nat) : Prop := ∀ i k, i < n → k < n → 0 < ms.getD (i * n + k) 0 → o.getD k 0 + (if 1 < ms.getD (i * n + k) 0 then 1 else 0) ≤ o.getD i 0
theorem q5l {n : Nat} {ms : List Nat} {i k : Nat} (h : ms.getD (i * n + k) 0 % 2 = 1) : (⟨i, k, 0⟩ : T3) ∈ ent n ms i k := by
 unfold ent
 rw [if_pos h]; exact List.mem_append_left _ (List.mem_singleton.2 rfl)
end Go.Di
end
noncomputable section
/-
 Contracts: the reference's numbers.
-/
namespace Go.Di
open Go.Ev Go.Di.T Go.Sort
variable {C : Nat → Ev.Call} {LA LO : LP}
theorem q6j : ∀ (o : List Nat) (m : Nat), (∀ x ∈ o, x ≤ m) → o.sum ≤ o.length * m
 | [], _, _ => by simp
 | x :: l, m, h => by
  have h1 := q6j l m fun y hy => h y (List.mem_cons_of_mem _ hy)
  have h2 := h x List.mem_cons_self
  rw [List.sum_cons, List.length_cons, Nat.add_mul, Nat.one_mul]
  omega
structure RE (H1 : Hp) (n a0 mb ob : Nat) (ms : List Nat) : Prop where
 g0 : H1.get a0 = qaa 0 [.int .i64 (.ofNat n), .sl mb 0 (n * n) (n * n) true]
 gm : H1.get mb = qaa 0 (nats ms)
 lt : a0 < H1.nx ∧ mb < H1.nx
 ne : a0 ≠ ob ∧ mb ≠ ob
 len : ms.length = n * n
 n : n ≤ 256
structure NS (n : Nat) (ms o : List Nat) : Prop where
 len : o.length = n
 lst : ∀ S, S.length = n → FitM n ms S → ∀ x, x < n → o.getD x 0 ≤ S.getD x 0
 sm : ∀ x, x < n → o.getD x 0 ≤ n
theorem NS.sum {n : Nat} {ms o : List Nat} (h : NS n ms o) : o.sum ≤ n * n := by
 have := q6j o n fun x hx => by
  obtain ⟨i, hi, rfl⟩ := List.mem_iff_getElem.1 hx
  have := h.sm i (by have := h.len; omega)
  rwa [List.getD_eq_getElem?_getD, List.getElem?_eq_getElem hi] at this
 rwa [h.len] at this
structure PI (n : Nat) (ms o0 o : List Nat) (ch : Bool) (i k : Nat) : Prop where
 ns : NS n ms o
 up : ch = true → o0.sum < o.sum
 no : ch = false → o = o0 ∧ ∀ i' k', i' < n → k' < n → (i' < i ∨ (i' = i ∧ k' < k)) → 0 < ms.getD (i' * n + k') 0 → o.getD k' 0 + (if 1 < ms.getD (i' * n + k') 0 then 1 else 0) ≤ o.getD i' 0
 le : o0.sum ≤ o.sum
def ask (n : Nat) (ms o : List Nat) (i k : Nat) : Nat := o.getD k 0 + (if 1 < ms.getD (i * n + k) 0 then 1 else 0)
theorem PI.keep {n : Nat} {ms o0 o : List Nat} {ch : Bool} {i k : Nat} (h : PI n ms o0 o ch i k) (hp : 0 < ms.getD (i * n + k) 0 → ask n ms o i k ≤ o.getD i 0) : PI n ms o0 o ch i (k + 1) :=
 ⟨h.ns, h.up, fun hc => ⟨(h.no hc).1, fun i' k' hi hk hv hb => by
  rcases hv with hv | ⟨rfl, hv⟩
  ·exact (h.no hc).2 i' k' hi hk (Or.inl hv) hb
  ·by_cases e : k' = k
   ·subst e; exact hp hb
   ·exact (h.no hc).2 i' k' hi hk (Or.inr ⟨rfl, by omega⟩) hb⟩, h.le⟩
theorem q0j (o : List Nat) (i : Nat) (h : i < o.length) : (nats o)[i]? = some (.int .i64 (.ofNat (o.getD i 0))) := by
 unfold nats
 rw [List.getElem?_map, List.getD_eq_getElem?_getD, List.getElem?_eq_getElem h]; rfl
theorem PI.row {n : Nat} {ms o0 o : List Nat} {ch : Bool} {i : Nat} (h : PI n ms o0 o ch i n) : PI n ms o0 o ch (i + 1) 0 :=
 ⟨h.ns, h.up, fun hc => ⟨(h.no hc).1, fun i' k' hi hk hv hb => (h.no hc).2 i' k' hi hk (by omega) hb⟩, h.le⟩
theorem NS.start (n : Nat) (ms : List Nat) : NS n ms (List.replicate n 0) :=
 ⟨by simp, fun S _ _ x _ => by rw [rep0]; omega, fun x _ => by rw [rep0]; omega⟩
end Go.Di
end
noncomputable section
/-
 Contracts: the numbers of a graph, as the program reckons them.
-/
namespace Go.Di
open Go.Ev Go.Di.T Go.Sort
variable {C : Nat → Ev.Call} {LA LO : LP}
theorem maxN (a b : Nat) : max (Int.ofNat a) (Int.ofNat b) = Int.ofNat (max a b) := by simp only [Int.ofNat_eq_natCast]; omega
theorem qm6 {call : Ev.Call} {H : Hp} {v : AV} {l : List Nat} (hv : Rl H v (nats l)) (hl : l.length < 900000) {q : AV → Hp → R1} {Q : AV → Hp → Prop} (hq : Ok (q (.int .i64 (.ofNat (maxL l))) H) Q) :
  ∀ (f i : Nat), l.length - i < f → i ≤ l.length → Ok (qf3 call q v (.int .i64 (.ofNat l.length)) f (.int .i64 (.ofNat (maxL (l.take i)))) (.int .i64 (.ofNat i)) H) Q
 | 0, i, h, _ => by omega
 | f + 1, i, h, hi => by
  show Ok (qnv call _ _ _ (qf3 call _ _ _ f) _ _ H) Q
  unfold qnv
  by_cases hlt : i < l.length
  ·obtain ⟨b, o, e1, _, e2⟩ := hv.at' i (by rw [qaw]; exact hlt)
   rw [qe2] at e2
   have hm := maxN (maxL (l.take i)) l[i]
   have hs : maxL (l.take (i + 1)) = max (maxL (l.take i)) l[i] := by
    unfold maxL
    rw [List.take_succ_eq_append_getElem hlt, List.foldl_append]; rfl
   simp (disch := first | omega | exact ti rfl | (simp only [np, nq]; first | done | omega)) only [go_sem, reduceAdd, reduceMul, reduceSub, reduceLeDiff, reduceEqDiff, reduceShiftRight, reduceAnd, hlt]
   unfold qnt
   simp (disch := first | omega | exact ti rfl | (simp only [np, nq]; first | done | omega)) only [go_sem, reduceAdd, reduceMul, reduceSub, reduceLeDiff, reduceEqDiff, reduceShiftRight, reduceAnd, e1, e2, qtv, hm]
   unfold qnu
   simp (disch := first | omega | exact ti rfl | (simp only [np, nq]; first | done | omega)) only [go_sem, reduceAdd, reduceMul, reduceSub, reduceLeDiff, reduceEqDiff, reduceShiftRight, reduceAnd]
   rw [← hs]
   exact qm6 hv hl hq f (i + 1) (by omega) (by omega)
  ·simp (disch := first | omega | exact ti rfl | (simp only [np, nq]; first | done | omega)) only [go_sem, reduceAdd, reduceMul, reduceSub, reduceLeDiff, reduceEqDiff, reduceShiftRight, reduceAnd, hlt]
   have : i = l.length := by omega
   subst this
   rw [List.take_length]
   exact hq
theorem q47 (hY : qjl C) {k : Nat} (hk : 1 ≤ k) {H : Hp} {v : AV} {l : List Nat} (hv : Rl H v (nats l)) (hl : l.length < 900000) :
  C k (.f qht) [v] H = .ok (.int .i64 (.ofNat (maxL l))) H := by
 obtain ⟨j, rfl⟩ : ∃ j, k = j + 1 := ⟨k - 1, by omega⟩
 have key : Ok (C (j + 1) (.f qht) [v] H) fun r H' => r = .int .i64 (.ofNat (maxL l)) ∧ H' = H := by
  rw [(hY j).stGre]
  unfold stGre qsm
  have e0 := hv.len
  rw [qaw] at e0
  simp (disch := first | omega | exact ti rfl | (simp only [np, nq]; first | done | omega)) only [go_sem, reduceAdd, reduceMul, reduceSub, reduceLeDiff, reduceEqDiff, reduceShiftRight, reduceAnd, e0]
  unfold qnw
  rw [qas]
  refine qm6 hv hl ?_ qao 0 (by rw [qal]; omega) (Nat.zero_le _)
  unfold qeo
  exact Ok.ret ⟨rfl, rfl⟩
 obtain ⟨r, H', h, rfl, rfl⟩ := key
 exact h
theorem step_ok (hY : qjl C) {k : Nat} (hk : 1 ≤ k) (e : Edge) (H : Hp) :
  Ok (C k (.f qjy) [.agg e.cells] H) fun r H' => r = .int .i64 (.ofNat (stN e)) ∧ Fm No H H' := by
 obtain ⟨j, rfl⟩ : ∃ j, k = j + 1 := ⟨k - 1, by omega⟩
 rw [(hY j).stStp]
 unfold stStp qsk Edge.cells stN
 cases hs : e.s with
 | true =>
  simp (disch := first | omega | exact ti rfl | (simp only [np, nq]; first | done | omega)) only [go_sem, reduceAdd, reduceMul, reduceSub, reduceLeDiff, reduceEqDiff, reduceShiftRight, reduceAnd, hs]
  exact Ok.ret ⟨rfl, by (repeat (first | exact Fm.refl _ _ | assumption | refine Fm.push ?_ _ | refine Fm.up2 ?_ (by (first | omega | (simp only [np, nq]; omega))) | refine Fm.put_new ?_ _ _ (by (first | omega | (simp only [np, nq]; omega)))))⟩
 | false =>
  simp (disch := first | omega | exact ti rfl | (simp only [np, nq]; first | done | omega)) only [go_sem, reduceAdd, reduceMul, reduceSub, reduceLeDiff, reduceEqDiff, reduceShiftRight, reduceAnd, hs]
  unfold qns
  exact Ok.ret ⟨rfl, by (repeat (first | exact Fm.refl _ _ | assumption | refine Fm.push ?_ _ | refine Fm.up2 ?_ (by (first | omega | (simp only [np, nq]; omega))) | refine Fm.put_new ?_ _ _ (by (first | omega | (simp only [np, nq]; omega)))))⟩
theorem q56 {es : List Edge} {ins o : List Nat} {i c : Nat} (hc : c < es.length) (h1 : ins.getD es[c].f 0 = i) (h2 : ¬ ins.getD es[c].t 0 = i) : asks (es.take (c + 1)) ins o i = asks (es.take c) ins o i ++ [o.getD es[c].t 0 + stN es[c]] := by
 unfold asks
 rw [List.take_succ_eq_append_getElem hc, List.filter_append, List.map_append]
 have : List.filter (fun e => decide (ins.getD e.f 0 = i) && !decide (ins.getD e.t 0 = i)) [es[c]] = [es[c]] := by
  rw [List.filter_cons, decide_eq_true h1, decide_eq_false h2]; rfl
 rw [this]; rfl
theorem q9h {es : List Edge} {ins o : List Nat} {i c : Nat} (hc : c < es.length) (h : ¬ (ins.getD es[c].f 0 = i ∧ ¬ ins.getD es[c].t 0 = i)) : asks (es.take (c + 1)) ins o i = asks (es.take c) ins o i := by
 unfold asks
 rw [List.take_succ_eq_append_getElem hc, List.filter_append, List.map_append]
 have : List.filter (fun e => decide (ins.getD e.f 0 = i) && !decide (ins.getD e.t 0 = i)) [es[c]] = [] := by
  rw [List.filter_cons]
  by_cases h1 : ins.getD es[c].f 0 = i
  ·have h2 : ins.getD es[c].t 0 = i := Classical.byContradiction fun g => h ⟨h1, g⟩
   rw [decide_eq_true h1, decide_eq_true h2]; rfl
  ·rw [decide_eq_false h1]; rfl
 rw [this]; simp
theorem q3k (es : List Edge) (ins o : List Nat) (i : Nat) : (asks es ins o i).length ≤ es.length := by
 unfold asks
 rw [List.length_map]
 exact List.length_filter_le _ _
theorem qk6 (hY : qjl C) {j : Nat} {H1 : Hp} {n c ob i : Nat} {gv lv iv : AV} {es : List Edge} {ins o : List Nat} (hj : 1 ≤ j) (hg : IsE H1 gv es) (hlen : es.length < 200000) (hE : ∀ e ∈ es, e.f < n ∧ e.t < n) (hc : H1.get c = qaa 0 [lv, iv]) (hcl : c < H1.nx) (hiv : Gl 1 H1 iv n (nats ins)) (hob : H1.get ob = qaa 0 (nats o)) (hobl : ob < H1.nx) (hol : o.length = n) (hos : ∀ x, x < n → o.getD x 0 ≤ 1000)
  {q : AV → Hp → R1} {Q : AV → Hp → Prop} (hq : ∀ w H, Gl 1 H w (asks es ins o i).length (nats (asks es ins o i)) → Fm No H1 H → (∀ b, In w b → H1.nx ≤ b) → Ok (q w H) Q) :
  ∀ (f k : Nat) (w : AV) (H : Hp), es.length - k < f → k ≤ es.length → Gl 1 H w (asks (es.take k) ins o i).length (nats (asks (es.take k) ins o i)) → (∀ b, In w b → H1.nx ≤ b) → Fm No H1 H →
   Ok (qcs (C j) q (.ptr c 0) (.sl ob 0 n n true) (.int .i64 (.ofNat i)) gv (.int .i64 (.ofNat es.length)) f w (.int .i64 (.ofNat k)) H) Q
 | 0, k, w, H, h, _, _, _, _ => by omega
 | f + 1, k, w, H, h, hk, hw, hnew, hF => by
  show Ok (qkg (C j) _ _ _ _ _ _ (qcs (C j) _ _ _ _ _ _ f) _ _ H) Q
  unfold qkg
  by_cases hlt : k < es.length
  ·obtain ⟨b, p, e1, e2, e3⟩ := (hg.fm hF).at hlt
   obtain ⟨r1, r2⟩ := hE es[k] (List.getElem_mem _)
   have hil : ins.length = n := by have := hiv.len; rw [qaw] at this; omega
   obtain ⟨b1, o1, c1, c2, _, c3⟩ := (hiv.no hF).at (q0j ins es[k].f (by omega))
   obtain ⟨b2, o2, c4, c5, _, c6⟩ := (hiv.no hF).at (q0j ins es[k].t (by omega))
   have k1 : H.get c = qaa 0 [lv, iv] := (hF.keep hcl).trans hc
   have hcH : c < H.nx := Nat.lt_of_lt_of_le hcl hF.nx
   have k2 : H.get ob = qaa 0 (nats o) := (hF.keep hobl).trans hob
   have hobH : ob < H.nx := Nat.lt_of_lt_of_le hobl hF.nx
   have wfl := qcq hw.flat 63
   simp (disch := first | omega | exact ti rfl | (simp only [np, nq]; first | done | omega)) only [go_sem, reduceAdd, reduceMul, reduceSub, reduceLeDiff, reduceEqDiff, reduceShiftRight, reduceAnd, hlt]
   rw [qje]
   unfold qch
   have fx : Fm No H ((qan H (qaa 0 [.int .i64 (.ofNat 0), .int .i64 (.ofNat 0), .bool false])).put H.nx (qaa 0 es[k].cells)) := by (repeat (first | exact Fm.refl _ _ | assumption | refine Fm.push ?_ _ | refine Fm.up2 ?_ (by (first | omega | (simp only [np, nq]; omega))) | refine Fm.put_new ?_ _ _ (by (first | omega | (simp only [np, nq]; omega)))))
   have hle := q3k (es.take k) ins o i
   rw [List.length_take] at hle
   have nopath : ¬ (ins.getD es[k].f 0 = i ∧ ¬ ins.getD es[k].t 0 = i) → Ok (qd9 (C j) (qcs (C j) q (.ptr c 0) (.sl ob 0 n n true) (.int .i64 (.ofNat i)) gv (.int .i64 (.ofNat es.length)) f) w (.int .i64 (.ofNat k)) ((qan H (qaa 0 [.int .i64 (.ofNat 0), .int .i64 (.ofNat 0), .bool false])).put H.nx (qaa 0 es[k].cells))) Q := fun hn => by
    unfold qd9
    simp (disch := first | omega | exact ti rfl | (simp only [np, nq]; first | done | omega)) only [go_sem, reduceAdd, reduceMul, reduceSub, reduceLeDiff, reduceEqDiff, reduceShiftRight, reduceAnd]
    exact qk6 hY hj hg hlen hE hc hcl hiv hob hobl hol hos hq f (k + 1) w _ (by omega) (by omega) (by rw [q9h hlt hn]; exact hw.no fx) hnew (hF.trans fx)
   by_cases h1 : ins.getD es[k].f 0 = i
   ·by_cases h2 : ins.getD es[k].t 0 = i
    ·simp (disch := first | omega | exact ti rfl | (simp only [np, nq]; first | done | omega)) only [go_sem, reduceAdd, reduceMul, reduceSub, reduceLeDiff, reduceEqDiff, reduceShiftRight, reduceAnd, e1, e3, Edge.cells, k1, c1, c3, c4, c6, h1, h2]
     have := nopath fun h => h.2 h2
     unfold Edge.cells at this
     exact this
    ·have v4 := q0j o es[k].t (by omega)
     have ho4 := hos es[k].t r2
     simp (disch := first | omega | exact ti rfl | (simp only [np, nq]; first | done | omega)) only [go_sem, reduceAdd, reduceMul, reduceSub, reduceLeDiff, reduceEqDiff, reduceShiftRight, reduceAnd, e1, e3, Edge.cells, k1, k2, c1, c3, c4, c6, h1, h2, v4]
     generalize hHx : (Hp.mk ((qan H (qaa 0 [.int .i64 (.ofNat 0), .int .i64 (.ofNat 0), .bool false])).put H.nx (qaa 0 [.int .i64 (.ofNat es[k].f), .int .i64 (.ofNat es[k].t), .bool es[k].s])).t (H.nx + 1 + 12)) = Hx at *
     have fx : Fm No H Hx := by rw [← hHx]; exact Fm.up2 fx (by omega)
     have nx : Hx.nx = H.nx + 1 + 12 := by rw [← hHx]
     have kx : Hx.get H.nx = qaa 0 [.int .i64 (.ofNat es[k].f), .int .i64 (.ofNat es[k].t), .bool es[k].s] := by rw [← hHx]; exact qac _ _ _
     refine Ok.deO (step_ok hY (k := j) hj es[k] Hx) ?_
     rintro r H2 ⟨rfl, f2⟩
     have kx2 : H2.get H.nx = qaa 0 [.int .i64 (.ofNat es[k].f), .int .i64 (.ofNat es[k].t), .bool es[k].s] := (f2.keep (by omega)).trans kx
     have k22 : H2.get ob = qaa 0 (nats o) := ((fx.trans f2).keep hobH).trans k2
     have hst : stN es[k] ≤ 1 := by unfold stN; split <;> omega
     simp (disch := first | omega | exact ti rfl | (simp only [np, nq]; first | done | omega)) only [go_sem, reduceAdd, reduceMul, reduceSub, reduceLeDiff, reduceEqDiff, reduceShiftRight, reduceAnd, kx2, k22, v4]
     generalize hz : o.getD es[k].t 0 + stN es[k] = z at *
     have fP : Fm No H (H2.put (H.nx + 1 + 9) (qaa 0 [AV.int .i64 (.ofNat z)])) := (fx.trans f2).put_new _ _ (by omega)
     have hgP : Gl 1 (H2.put (H.nx + 1 + 9) (qaa 0 [AV.int .i64 (.ofNat z)])) w _ _ := hw.no fP
     obtain ⟨H3, a1, a2, _, a4, a5⟩ := hgP.append (w := 8) (k := 1) (x := [AV.int .i64 (.ofNat z)]) (by omega) rfl (by omega) (by omega)
     refine Ok.deE a1 ?_
     simp (disch := first | omega | exact ti rfl | (simp only [np, nq]; first | done | omega)) only [go_sem, reduceAdd, reduceMul, reduceSub, reduceLeDiff, reduceEqDiff, reduceShiftRight, reduceAnd]
     unfold qd9
     simp (disch := first | omega | exact ti rfl | (simp only [np, nq]; first | done | omega)) only [go_sem, reduceAdd, reduceMul, reduceSub, reduceLeDiff, reduceEqDiff, reduceShiftRight, reduceAnd]
     have hs := q56 (o := o) hlt h1 h2
     rw [hz] at hs
     have e10 : nats (asks (es.take k) ins o i) ++ [AV.int .i64 (.ofNat z)] = nats (asks (es.take (k + 1)) ins o i) := by rw [hs]; simp [nats]
     have hml : (asks (es.take (k + 1)) ins o i).length = (asks (es.take k) ins o i).length + 1 := by rw [hs, List.length_append]; rfl
     rw [e10, ← hml] at a2
     rw [← hml]
     have hn1 := hF.nx
     have hn2 := f2.nx
     have hpn : (H2.put (H.nx + 1 + 9) (qaa 0 [AV.int .i64 (.ofNat z)])).nx = H2.nx := rfl
     refine qk6 hY hj hg hlen hE hc hcl hiv hob hobl hol hos hq f (k + 1) _ H3 (by omega) (by omega) a2 (fun b hb => ?_) ((hF.trans fP).then a4 fun c hc h => by have := hnew c h; omega)
     obtain ⟨_, _, _, _, h⟩ := hb
     cases h
     omega
   ·simp (disch := first | omega | exact ti rfl | (simp only [np, nq]; first | done | omega)) only [go_sem, reduceAdd, reduceMul, reduceSub, reduceLeDiff, reduceEqDiff, reduceShiftRight, reduceAnd, e1, e3, Edge.cells, k1, c1, c3, h1]
    have := nopath fun h => h1 h.1
    unfold Edge.cells at this
    exact this
  ·simp (disch := first | omega | exact ti rfl | (simp only [np, nq]; first | done | omega)) only [go_sem, reduceAdd, reduceMul, reduceSub, reduceLeDiff, reduceEqDiff, reduceShiftRight, reduceAnd, hlt]
   have : k = es.length := by omega
   subst this
   rw [List.take_length] at hw
   exact hq w H hw hF hnew
end Go.Di
end
noncomputable section
/-
 Contracts: the numbers of a graph, whole.
-/
namespace Go.Di
open Go.Ev Go.Di.T Go.Sort
variable {C : Nat → Ev.Call} {LA LO : LP}
theorem qre (hY : qjl C) {j : Nat} (hj : 1 ≤ j) {H1 : Hp} {n ob : Nat} {w cw : AV} {l c o : List Nat} (hw : Gl 1 H1 w l.length (nats l)) (hl : l.length < 900000) (hwo : ∀ b, In w b → b ≠ ob) (hc : Gl 1 H1 cw c.length (nats c)) (hcl : c.length < 900000) (hco : ∀ b, In cw b → b ≠ ob) (hcn : ∀ x ∈ c, x < n) (hol : o.length = n)
  {q : Hp → R1} {Q : AV → Hp → Prop} (hq : ∀ H, H.get ob = qaa 0 (nats (qgm o (maxL l) c)) → Fm (fun b => b = ob) H1 H → Ok (q H) Q) :
  ∀ (f k : Nat) (H : Hp), c.length - k < f → k ≤ c.length → H.get ob = qaa 0 (nats (qgm o (maxL l) (c.take k))) → Fm (fun b => b = ob) H1 H →
   Ok (qd8 (C j) q (.sl ob 0 n n true) w cw (.int .i64 (.ofNat c.length)) f (.int .i64 (.ofNat k)) H) Q
 | 0, k, H, h, _, _, _ => by omega
 | f + 1, k, H, h, hk, hg, hF => by
  show Ok (qkh (C j) _ _ _ _ _ (qd8 (C j) _ _ _ _ _ f) _ H) Q
  unfold qkh
  by_cases hlt : k < c.length
  ·have hcH : Gl 1 H cw c.length (nats c) := hc.fm hF hco
   have hwH : Rl H w (nats l) := (hw.fm hF hwo).rl
   obtain ⟨b, p, e1, _, _, e3⟩ := hcH.at (show (nats c)[k]? = some (.int .i64 (.ofNat c[k])) from qop c k hlt)
   have hx := hcn c[k] (List.getElem_mem _)
   have hgr := q47 hY (k := j) hj hwH hl
   have hfl : (qgm o (maxL l) (c.take k)).length = n := by rw [qlq, hol]
   have hst := qon (qgm o (maxL l) (c.take k)) c[k] (maxL l) (by omega)
   have hle : c[k] + 1 ≤ (nats (qgm o (maxL l) (c.take k))).length := by rw [qaw]; omega
   have hsn : (qgm o (maxL l) (c.take k)).set c[k] (maxL l) = qgm o (maxL l) (c.take (k + 1)) := by rw [List.take_succ_eq_append_getElem hlt, qm9]
   simp (disch := first | omega | exact ti rfl | (simp only [np, nq]; first | done | omega)) only [go_sem, reduceAdd, reduceMul, reduceSub, reduceLeDiff, reduceEqDiff, reduceShiftRight, reduceAnd, hlt]
   unfold qke
   simp (disch := first | omega | exact ti rfl | (simp only [np, nq]; first | done | omega)) only [go_sem, reduceAdd, reduceMul, reduceSub, reduceLeDiff, reduceEqDiff, reduceShiftRight, reduceAnd, e1, e3, hgr, hg, hst, hle, Nat.mul_one, Nat.zero_add, List.length_cons, List.length_nil]
   unfold qkf
   simp (disch := first | omega | exact ti rfl | (simp only [np, nq]; first | done | omega)) only [go_sem, reduceAdd, reduceMul, reduceSub, reduceLeDiff, reduceEqDiff, reduceShiftRight, reduceAnd]
   rw [hsn]
   exact qre hY hj hw hl hwo hc hcl hco hcn hol hq f (k + 1) _ (by omega) (by omega) (qac _ _ _) (hF.put _ _ fun _ => rfl)
  ·simp (disch := first | omega | exact ti rfl | (simp only [np, nq]; first | done | omega)) only [go_sem, reduceAdd, reduceMul, reduceSub, reduceLeDiff, reduceEqDiff, reduceShiftRight, reduceAnd, hlt]
   have : k = c.length := by omega
   subst this
   rw [List.take_length] at hg
   exact hq H hg hF
theorem qrf (hY : qjl C) {j : Nat} (hj : 1 ≤ j) {HB H0 H1 : Hp} {n a0 c : Nat} {gv lv iv : AV} {os : List AV} {es : List Edge} {ins : List Nat} {res : List (List Nat)} (hn : n ≤ 256) (hg : IsE H0 gv es) (hlen : es.length < 200000) (hE : ∀ e ∈ es, e.f < n ∧ e.t < n) (ha : H0.get a0 = qaa 0 [.int .i64 (.ofNat n), gv]) (hal0 : a0 < H0.nx) (hc : H0.get c = qaa 0 [lv, iv]) (hcl : c < H0.nx) (hCR : CR HB H0 n lv iv os res ins) (hN : Nm n res ins) (hlt : ∀ o ∈ res, ∀ x ∈ o, x < n) (hd : ∀ e ∈ es, ins.getD e.t 0 ≤ ins.getD e.f 0) (hLn : res.length ≤ n) (hol : ∀ o ∈ res, o.length ≤ n) (h01 : Fm No H0 H1) (hx1 : H0.nx < H1.nx)
  {q : Hp → R1} {Q : AV → Hp → Prop} (hq : ∀ o H, OutI n es ins res.length o → H.get H0.nx = qaa 0 (nats o) → Fm (fun b => b = H0.nx) H1 H → Ok (q H) Q) :
  ∀ (f i : Nat) (o : List Nat) (H : Hp), res.length - i < f → i ≤ res.length → OutI n es ins i o → H.get H0.nx = qaa 0 (nats o) → Fm (fun b => b = H0.nx) H1 H →
   Ok (qa7 (C j) q (.ptr a0 0) (.ptr c 0) (.sl H0.nx 0 n n true) lv (.int .i64 (.ofNat res.length)) f (.int .i64 (.ofNat i)) H) Q
 | 0, i, o, H, h, _, _, _, _ => by omega
 | f + 1, i, o, H, h, hi, hO, hgo, hF => by
  show Ok (qfg (C j) _ _ _ _ _ _ (qa7 (C j) _ _ _ _ _ _ f) _ H) Q
  unfold qfg
  by_cases hil : i < res.length
  ·have kp : ∀ b, b < H0.nx → H.get b = H0.get b := fun b hb => (hF.get b (by omega) (by omega)).trans (h01.keep hb)
   have hnx : H0.nx ≤ H.nx := by have := hF.nx; omega
   have hosl := hCR.len
   have gE : IsE H gv es := hg.keep hnx fun b hb hlt => kp b hlt
   have gI : Gl 1 H iv n (nats ins) := hCR.gi.keep hnx fun b hb hlt => kp b hlt
   have gL : Gl 1 H lv os.length os := hCR.gl.keep hnx fun b hb hlt => kp b hlt
   obtain ⟨c1, _, _⟩ := hCR.at' i (os[i]'(by omega)) (res[i]'hil) (by simp) (by simp)
   have gC : Gl 1 H (os[i]'(by omega)) (res[i]'hil).length (nats (res[i]'hil)) := c1.keep hnx fun b hb hlt => kp b hlt
   have hci : ∀ b, In (os[i]'(by omega)) b → b < H0.nx := fun b hb => c1.lt hb
   obtain ⟨b1, o1, e1, _, _, e2⟩ := gL.at (i := i) (x := os[i]'(by omega)) (by simp)
   have hcm : ∀ x, x < n → (x ∈ res[i]'hil ↔ ins.getD x 0 = i) := fun x hx => by
    constructor
    ·intro h; exact hN.is i _ x (List.getElem?_eq_getElem hil) h
    ·intro h
     obtain ⟨j', o', h1, h2⟩ := hN.all x hx
     have := hN.is j' o' x h1 h2
     rw [h] at this
     subst this
     rw [List.getElem?_eq_getElem hil] at h1
     cases h1; exact h2
   have hcn := hlt _ (List.getElem_mem hil)
   have hcle := hol _ (List.getElem_mem hil)
   have k1 : H.get a0 = qaa 0 [.int .i64 (.ofNat n), gv] := (kp a0 hal0).trans ha
   have k2 : H.get c = qaa 0 [lv, iv] := (kp c hcl).trans hc
   have e0 := gE.len
   generalize os[i]'(by omega) = cw at *
   generalize res[i]'hil = co at *
   simp (disch := first | omega | exact ti rfl | (simp only [np, nq]; first | done | omega)) only [go_sem, reduceAdd, reduceMul, reduceSub, reduceLeDiff, reduceEqDiff, reduceShiftRight, reduceAnd, hil]
   unfold qkc
   simp (disch := first | omega | exact ti rfl | (simp only [np, nq]; first | done | omega)) only [go_sem, reduceAdd, reduceMul, reduceSub, reduceLeDiff, reduceEqDiff, reduceShiftRight, reduceAnd, e1, e2, k1, e0]
   unfold qki
   rw [qas]
   have hbd : ∀ x, x < n → o.getD x 0 ≤ 1000 := fun x hx => by
    have h1 := hO.bd x hx
    have h2 := hN.lt hx
    omega
   refine qk6 hY hj gE hlen hE k2 (Nat.lt_of_lt_of_le hcl hnx) gI hgo (by have := hF.nx; omega) hO.len hbd (fun w H2 hw f2 hnew => ?_) qao 0 .nilsl H (by rw [qal]; omega) (Nat.zero_le _) (by simpa [asks, nats] using Gl.nil 1 H) (fun b hb => by obtain ⟨_, _, _, _, h⟩ := hb; cases h) (Fm.refl _ _)
   unfold qct
   have gC2 := gC.no f2
   have e3 := gC2.lenV
   simp (disch := first | omega | exact ti rfl | (simp only [np, nq]; first | done | omega)) only [go_sem, reduceAdd, reduceMul, reduceSub, reduceLeDiff, reduceEqDiff, reduceShiftRight, reduceAnd, e3]
   unfold qkj
   rw [qas]
   have hal := q3k es ins o i
   have hobH : H0.nx < H.nx := by have := hF.nx; omega
   refine qre hY hj (H1 := H2) (o := o) hw (by omega) (fun b hb => by have := hnew b hb; omega) gC2 (by omega) (fun b hb => by have := hci b hb; omega) hcn hO.len (fun H3 g3 f3 => ?_) qao 0 H2 (by rw [qal]; omega) (Nat.zero_le _) ((f2.keep hobH).trans hgo) (Fm.refl _ _)
   unfold qdg
   simp (disch := first | omega | exact ti rfl | (simp only [np, nq]; first | done | omega)) only [go_sem, reduceAdd, reduceMul, reduceSub, reduceLeDiff, reduceEqDiff, reduceShiftRight, reduceAnd]
   exact qrf hY hj hn hg hlen hE ha hal0 hc hcl hCR hN hlt hd hLn hol h01 hx1 hq f (i + 1) _ H3 (by omega) (by omega) (hO.step hE hcm hd) g3 ((hF.then f2 fun _ _ h => h.elim).then f3 fun _ _ h => h)
  ·simp (disch := first | omega | exact ti rfl | (simp only [np, nq]; first | done | omega)) only [go_sem, reduceAdd, reduceMul, reduceSub, reduceLeDiff, reduceEqDiff, reduceShiftRight, reduceAnd, hil]
   have : i = res.length := by omega
   subst this
   exact hq o H hO hgo hF
theorem q4q {n : Nat} {es : List Edge} (hE : ∀ e ∈ es, e.f < n ∧ e.t < n) {res : List (List Nat)} {ins : List Nat} (hF : OrdF n (qa6 es) [] res) (h : Nm n res ins) : ∀ e ∈ es, ins.getD e.t 0 ≤ ins.getD e.f 0 := fun e he => by
 obtain ⟨l1, l2⟩ := hE e he
 obtain ⟨j, o, h1, h2⟩ := h.all e.f l1
 rcases qq8 hF h1 h2 l2 (qbt.2 ⟨e, he, rfl, rfl⟩) with g | ⟨j', c', g1, g2, g3⟩
 ·simp at g
 ·rw [h.is j o e.f h1 h2, h.is j' c' e.t g2 g3]; exact g1
theorem q8e {n : Nat} {adj : Nat → List Nat} {res : List (List Nat)} {ins : List Nat} (hF : OrdF n adj [] res) (hi : ∀ (j : Nat) (o : List Nat) (x : Nat), res[j]? = some o → x ∈ o → ins[x]? = some j) : Nm n res ins := ⟨fun j o y h1 h2 => by
  rw [List.getD_eq_getElem?_getD, hi j o y h1 h2]; rfl, fun y hy => by
  obtain ⟨z1, z2, z3, z4, z5⟩ := hF.all
  obtain ⟨o, ho, hyo⟩ := List.mem_flatten.1 (z3 y hy)
  obtain ⟨j, hj⟩ := List.mem_iff_getElem?.1 ho
  exact ⟨j, o, hj, hyo⟩⟩
theorem qyh (hC : qbe C) (hY : qjl C) (hO : qc0 C) (hS : qcb C) (hR : qcc LA LO C) {k : Nat} (hk : 1002 ≤ k) {n : Nat} {es : List Edge} (hE : qb2 n es) (hn : n ≤ 256) (hlen : es.length < 900) {gv : AV} {H : Hp} (hg : IsE H gv es) :
  Ok (C k (.f qow) [.agg [.int .i64 (.ofNat n), gv]] H) fun r H' => Fm No H H' ∧
   ((∃ w o, r = .tup [w, .int .i64 (.ofNat 0)] ∧ Gl 1 H' w n (nats o) ∧ capV w = .val (.int .i64 (.ofNat n)) ∧ Fit n es o ∧ Lst n es o ∧ ∀ x, x < n → o.getD x 0 < n) ∨
    (r = .tup [.nilsl, .int .i64 (.ofNat 12)] ∧ ∃ e ∈ es, e.s = true ∧ Rc (qa6 es) e.t e.f)) := by
 obtain ⟨j, rfl⟩ : ∃ j, k = j + 1 := ⟨k - 1, by omega⟩
 rw [(hY j).stNum]
 unfold stNum qsl
 simp (disch := first | omega | exact ti rfl | (simp only [np, nq]; first | done | omega)) only [go_sem, reduceAdd, reduceMul, reduceSub, reduceLeDiff, reduceEqDiff, reduceShiftRight, reduceAnd]
 have f0 : Fm No H (qan H (qaa 0 [.int .i64 (.ofNat n), gv])) := by (repeat (first | exact Fm.refl _ _ | assumption | refine Fm.push ?_ _ | refine Fm.up2 ?_ (by (first | omega | (simp only [np, nq]; omega))) | refine Fm.put_new ?_ _ _ (by (first | omega | (simp only [np, nq]; omega)))))
 refine Ok.ve (q9m hC hO hS hR (k := j) (by omega) hE hn (by omega) (hg.fm f0)) ?_
 rintro r H1 ⟨lv, iv, os, ins2, out, ins, res, rfl, hOrd, hCR, f1⟩
 have hF := hOrd.ord hE.rng
 have n1 : H.nx + 1 ≤ H1.nx := f1.nx
 have g1 : H1.get H.nx = qaa 0 [.int .i64 (.ofNat n), gv] := (f1.keep (by (first | omega | (simp only [np, nq]; omega)))).trans (qak _ _)
 have es3 : ∀ x y a b : AV, setL [a, b] 0 [x, y] = [x, y] := fun _ _ _ _ => rfl
 have fa : Fm No H1 ((qan H1 (qaa 0 [.nilsl, .nilsl])).put H1.nx (qaa 0 [lv, iv])) := by (repeat (first | exact Fm.refl _ _ | assumption | refine Fm.push ?_ _ | refine Fm.up2 ?_ (by (first | omega | (simp only [np, nq]; omega))) | refine Fm.put_new ?_ _ _ (by (first | omega | (simp only [np, nq]; omega)))))
 simp (disch := first | omega | exact ti rfl | (simp only [np, nq]; first | done | omega)) only [go_sem, reduceAdd, reduceMul, reduceSub, reduceLeDiff, reduceEqDiff, reduceShiftRight, reduceAnd, es3, List.length_cons, List.length_nil]
 generalize hH2 : (qan H1 (qaa 0 [AV.nilsl, AV.nilsl])).put H1.nx (qaa 0 [lv, iv]) = H2 at *
 have c2 : H2.get H1.nx = qaa 0 [lv, iv] := by rw [← hH2, qac]
 have n2 : H2.nx = H1.nx + 1 := by rw [← hH2]; rfl
 have g2 : H2.get H.nx = qaa 0 [.int .i64 (.ofNat n), gv] := (fa.keep (by omega)).trans g1
 rw [qjc]
 unfold qcf
 simp (disch := first | omega | exact ti rfl | (simp only [np, nq]; first | done | omega)) only [go_sem, reduceAdd, reduceMul, reduceSub, reduceLeDiff, reduceEqDiff, reduceShiftRight, reduceAnd, g2]
 refine Ok.ve (q6c hC hO hS hR (k := j) (by omega) hE hn hlen (((hg.fm f0).fm f1).fm fa)) ?_
 rintro r H3 ⟨wx, res3, ins3, R3, rfl, hF3, hin3, hasc3, hmem3, hx3, hcx3, hRl, f3⟩
 have hrr := hF3.uniq hF
 subst hrr
 have n3 := f3.nx
 have f03 := ((f0.trans f1).trans fa).trans f3
 have e0 := hx3.len
 rw [qaw] at e0
 have hN := q8e hF hCR.ins
 have hN3 := q8e hF hin3
 by_cases hm : R3 = []
 ·subst hm
  have e0' : lenSl wx = .val (.int .i64 (.ofNat 0)) := e0
  simp (disch := first | omega | exact ti rfl | (simp only [np, nq]; first | done | omega)) only [go_sem, reduceAdd, reduceMul, reduceSub, reduceLeDiff, reduceEqDiff, reduceShiftRight, reduceAnd, e0', Nat.lt_irrefl]
  rw [qjd]
  unfold qcg
  have g3 : H3.get H.nx = qaa 0 [.int .i64 (.ofNat n), gv] := (f3.keep (by omega)).trans g2
  have c3 : H3.get H1.nx = qaa 0 [lv, iv] := (f3.keep (by omega)).trans c2
  have hd := q4q hE.rng hF hN
  have nomix : ∀ e ∈ es, e.s = true → ins2.getD e.f 0 ≠ ins2.getD e.t 0 := fun e he hs h => by
   obtain ⟨l1, l2⟩ := hE.rng e he
   rw [hN.same hN3 l1, hN.same hN3 l2] at h
   have := (hmem3 _).2 (qvs.2 ⟨e, he, hs, h, rfl⟩)
   cases this
  have hL := q4r hF
  have hCR3 := hCR.no (fa.trans f3)
  obtain ⟨z1, z2, z3, z4, z5⟩ := hF.all
  have elv := hCR3.gl.lenV
  rw [hCR3.len] at elv
  by_cases h0 : 0 < n
  ·have mk := qfp [.int .i64 (.ofNat 0)] 8 H3.nx n (by omega) (by omega)
   rw [qds, qoo] at mk
   simp (disch := first | omega | exact ti rfl | (simp only [np, nq]; first | done | omega)) only [go_sem, reduceAdd, reduceMul, reduceSub, reduceLeDiff, reduceEqDiff, reduceShiftRight, reduceAnd, g3, h0, mk]
   rw [qff]
   unfold qb4
   have c4 : (qan H3 (qaa 0 (nats (List.replicate n 0)))).get H1.nx = qaa 0 [lv, iv] := by rw [qbd _ _ _ (by omega)]; exact c3
   simp (disch := first | omega | exact ti rfl | (simp only [np, nq]; first | done | omega)) only [go_sem, reduceAdd, reduceMul, reduceSub, reduceLeDiff, reduceEqDiff, reduceShiftRight, reduceAnd, c4, elv]
   unfold qhf
   rw [qas]
   refine qrf hY (j := j) (by omega) (HB := qan H (qaa 0 [.int .i64 (.ofNat n), gv])) (H0 := H3) (H1 := qan H3 (qaa 0 (nats (List.replicate n 0)))) hn (hg.fm f03) (by omega) hE.rng g3 (by omega) c3 (by omega) hCR3 hN (fun o ho x hx => z2 x (List.mem_flatten.2 ⟨o, ho, hx⟩)) hd hL (fun o ho => ?_) ((Fm.refl _ _).push _) (Nat.lt_succ_self _) (fun o H4 hO4 g4 f4 => ?_) qao 0 (List.replicate n 0) _ (by rw [qal]; omega) (Nat.zero_le _) (OutI.start n es ins2) (qak _ _) (Fm.refl _ _)
   ·have : o.length ≤ res3.flatten.length := (List.sublist_flatten_of_mem ho).length_le
    omega
   ·unfold qbc
    obtain ⟨d1, d2, d3⟩ := hO4.done hE.rng hN hF hd nomix
    have n4 := f4.nx
    have n4' : H3.nx + 1 ≤ H4.nx := n4
    refine Ok.ret ⟨(f03.push _).then f4 fun c hc h => by have := f03.nx; omega, Or.inl ⟨_, o, rfl, ⟨by rw [qaw, hO4.len, Nat.mul_one], .inr ⟨H3.nx, 0, true, 0, _, rfl, g4, Nat.zero_le _, List.drop_zero, Or.inl rfl, by omega⟩⟩, rfl, d1, d2, fun x hx => ?_⟩⟩
    have h1 := d3 x hx
    have h2 := hN.lt hx
    omega
  ·have hn0 : n = 0 := by omega
   subst hn0
   simp (disch := first | omega | exact ti rfl | (simp only [np, nq]; first | done | omega)) only [go_sem, reduceAdd, reduceMul, reduceSub, reduceLeDiff, reduceEqDiff, reduceShiftRight, reduceAnd, g3, Nat.lt_irrefl]
   rw [qff]
   unfold qb4
   have hr0 : res3 = [] := List.length_eq_zero_iff.1 (by omega)
   subst hr0
   have elv' : lenSl lv = .val (.int .i64 (.ofNat 0)) := elv
   simp (disch := first | omega | exact ti rfl | (simp only [np, nq]; first | done | omega)) only [go_sem, reduceAdd, reduceMul, reduceSub, reduceLeDiff, reduceEqDiff, reduceShiftRight, reduceAnd, c3, elv', Nat.lt_irrefl]
   unfold qhf
   rw [qas]
   show Ok (qfg (C j) _ _ _ _ _ _ (qa7 (C j) _ _ _ _ _ _ 999999) _ H3) _
   unfold qfg
   simp (disch := first | omega | exact ti rfl | (simp only [np, nq]; first | done | omega)) only [go_sem, reduceAdd, reduceMul, reduceSub, reduceLeDiff, reduceEqDiff, reduceShiftRight, reduceAnd, Nat.lt_irrefl]
   unfold qbc
   have hes : es = [] := by
    rcases List.eq_nil_or_concat es with h | ⟨l, e, h⟩
    ·exact h
    ·have := hE.rng e (by rw [h]; simp)
     omega
   exact Ok.ret ⟨f03, Or.inl ⟨_, [], rfl, Gl.nil _ _, rfl, ⟨rfl, fun e he => by rw [hes] at he; cases he⟩, fun S _ x hx => absurd hx (Nat.not_lt_zero _), fun x hx => absurd hx (Nat.not_lt_zero _)⟩⟩
 ·have hp : 0 < R3.length := List.length_pos_iff.2 hm
  simp (disch := first | omega | exact ti rfl | (simp only [np, nq]; first | done | omega)) only [go_sem, reduceAdd, reduceMul, reduceSub, reduceLeDiff, reduceEqDiff, reduceShiftRight, reduceAnd, e0, hp]
  obtain ⟨x, hx⟩ := List.exists_mem_of_ne_nil R3 hm
  obtain ⟨e, he, hs, h1, _⟩ := qvs.1 ((hmem3 x).1 hx)
  obtain ⟨l1, l2⟩ := hE.rng e he
  exact Ok.ret ⟨f03, Or.inr ⟨rfl, e, he, hs, ((hN3.eq hF l1 l2).1 h1).2⟩⟩
end Go.Di
end
noncomputable section
/-
 Contracts: a way round with a negative edge, in the code.
-/
namespace Go.Di
open Go.Ev Go.Di.T Go.Sort
variable {C : Nat → Ev.Call} {LA LO : LP}
theorem app1 {H : Hp} {b : Nat} {x : AV} {l : List AV} (hg : H.get b = qaa 0 [x]) (hb : b < H.nx) {k : Nat} (hk : l.length = k) (hl : k ≤ 1000000) :
  ∃ w H', qaz 1 8 H (.sl b 0 1 1 true) (some ⟨k, l⟩) = .ok w H' ∧ Gl 1 H' w (k + 1) (x :: l) ∧ Fm (fun c => c = b) H H' ∧ (∀ c, In w c → b ≤ c) ∧ H.nx ≤ H'.nx := by
 have g : Gl 1 H (.sl b 0 1 1 true) 1 [x] := ⟨rfl, .inr ⟨b, 0, true, 0, _, rfl, hg, Nat.zero_le _, rfl, .inl rfl, hb⟩⟩
 by_cases h0 : k = 0
 ·subst h0
  have := List.length_eq_zero_iff.1 hk
  subst this
  refine ⟨_, H.put b (qaa 0 [x]), ?_, ⟨rfl, .inr ⟨b, 0, true, 0, _, rfl, qac _ _ _, Nat.zero_le _, rfl, .inl rfl, hb⟩⟩, (Fm.refl _ _).put b _ fun _ => rfl, fun c hc => ?_, Nat.le_refl _⟩
  ·show storeAt H b (0 + 1 * 1) [] (.sl b 0 1 1 true) = _
   exact qcd _ _ _ _ _ _ _ hg (by simp)
  ·obtain ⟨_, _, _, _, e⟩ := hc; cases e; exact Nat.le_refl _
 ·obtain ⟨H', a1, a2, _, a4, a5⟩ := g.append (w := 8) (k := k) (x := l) (by omega) (by omega) (by omega) (by omega)
  rw [show 1 + k = k + 1 by omega] at a1 a2
  refine ⟨_, H', a1, a2, a4.mono fun c _ hc => ?_, fun c hc => ?_, by omega⟩
  ·obtain ⟨_, _, _, _, e⟩ := hc; cases e; rfl
  ·obtain ⟨_, _, _, _, e⟩ := hc; cases e; omega
def q7d (es : List Edge) (p : Edge → Bool) (i : Nat) : Prop := ∃ h : i < es.length, p es[i] = true ∧ (es.take i).any p = false
theorem qnm {call : Ev.Call} {f : FuncId} {caps : List AV} {es : List Edge} {p : Edge → Bool} {H0 : Hp} {w : AV} (hw : IsE H0 w es) (hlen : es.length < 900000) (hf : CloE call H0 f caps es p) {q1 : AV → Hp → R1} {q2 : Hp → R1} {Q : AV → Hp → Prop}
  (hq1 : ∀ i H, q7d es p i → Fm No H0 H → Ok (q1 (.int .i64 (.ofNat i)) H) Q) (hq2 : ∀ H, es.any p = false → Fm No H0 H → Ok (q2 H) Q) :
  ∀ (k i : Nat) (H : Hp), es.length - i < k → i ≤ es.length → (es.take i).any p = false → Fm No H0 H →
   Ok (qh9 call q1 q2 w (.fn f [] caps) (.int .i64 (.ofNat es.length)) k (.int .i64 (.ofNat i)) H) Q
 | 0, i, H, h, _, _, _ => by omega
 | k + 1, i, H, h, hi, ha, hF => by
  show Ok (qsy call _ _ _ _ _ (qh9 call _ _ _ _ _ k) _ H) Q
  unfold qsy
  by_cases hlt : i < es.length
  ·obtain ⟨b, o, e1, e2, e3⟩ := (hw.fm hF).at hlt
   simp (disch := first | omega | exact ti rfl | (simp only [np, nq]; first | done | omega)) only [go_sem, reduceAdd, reduceMul, reduceSub, reduceLeDiff, reduceEqDiff, reduceShiftRight, reduceAnd, hlt]
   unfold qsw
   simp (disch := first | omega | exact ti rfl | (simp only [np, nq]; first | done | omega)) only [go_sem, reduceAdd, reduceMul, reduceSub, reduceLeDiff, reduceEqDiff, reduceShiftRight, reduceAnd, e1, e3]
   have hs : (es.take (i + 1)).any p = p es[i] := by
    rw [List.take_succ_eq_append_getElem hlt, List.any_append, ha]; simp
   have hcl := hf es[i] (List.getElem_mem _) H hF
   refine Ok.ve hcl ?_
   rintro v H' ⟨rfl, f'⟩
   cases hp : p es[i] with
   | true =>
    simp (disch := first | omega | exact ti rfl | (simp only [np, nq]; first | done | omega)) only [go_sem, reduceAdd, reduceMul, reduceSub, reduceLeDiff, reduceEqDiff, reduceShiftRight, reduceAnd]
    exact hq1 i H' ⟨hlt, hp, ha⟩ (hF.trans f')
   | false =>
    simp (disch := first | omega | exact ti rfl | (simp only [np, nq]; first | done | omega)) only [go_sem, reduceAdd, reduceMul, reduceSub, reduceLeDiff, reduceEqDiff, reduceShiftRight, reduceAnd]
    unfold qsx
    simp (disch := first | omega | exact ti rfl | (simp only [np, nq]; first | done | omega)) only [go_sem, reduceAdd, reduceMul, reduceSub, reduceLeDiff, reduceEqDiff, reduceShiftRight, reduceAnd]
    exact qnm hw hlen hf hq1 hq2 k (i + 1) H' (by omega) (by omega) (hs.trans hp) (hF.trans f')
  ·simp (disch := first | omega | exact ti rfl | (simp only [np, nq]; first | done | omega)) only [go_sem, reduceAdd, reduceMul, reduceSub, reduceLeDiff, reduceEqDiff, reduceShiftRight, reduceAnd, hlt]
   have : i = es.length := by omega
   subst this
   rw [List.take_length] at ha
   exact hq2 H ha hF
theorem q6e (hC : qbe C) {j : Nat} {f : FuncId} {caps : List AV} {es : List Edge} {p : Edge → Bool} {H0 : Hp} {w : AV} (hw : IsE H0 w es) (hlen : es.length < 900000) (hf : CloE (C j) H0 f caps es p) :
  Ok (C (j + 1) (.f qoz) [w, .fn f [] caps] H0) fun v H' => ((∃ i, v = .int .i64 (.ofNat i) ∧ q7d es p i) ∨ (v = .int .i64 (.negSucc 0) ∧ es.any p = false)) ∧ Fm No H0 H' := by
 rw [(hC j).sIxF]
 unfold sIxF qzj
 have e0 := hw.len
 simp (disch := first | omega | exact ti rfl | (simp only [np, nq]; first | done | omega)) only [go_sem, reduceAdd, reduceMul, reduceSub, reduceLeDiff, reduceEqDiff, reduceShiftRight, reduceAnd, e0]
 unfold qsz
 rw [qas]
 refine qnm hw hlen hf (fun i H hp hF => Ok.ret ⟨Or.inl ⟨i, rfl, hp⟩, hF⟩) (fun H ha hF => ?_) qao 0 H0 (by rw [qal]; omega) (Nat.zero_le _) (by simp) (Fm.refl _ _)
 unfold qgx
 exact Ok.ret ⟨Or.inr ⟨rfl, ha⟩, hF⟩
theorem q7g (hY : qjl C) {j : Nat} {H0 : Hp} {c n : Nat} {lv iv : AV} {ins : List Nat} {es : List Edge} (hE : ∀ e ∈ es, e.f < n ∧ e.t < n) (hi : Gl 1 H0 iv n (nats ins)) (hg : H0.get c = qaa 0 [lv, iv]) (hc : c < H0.nx) :
  CloE (C (j + 1)) H0 qhs [.ptr c 0] es (mixP ins) := by
 intro e he H hF
 show Ok (C (j + 1) (.f qhs) [.agg e.cells, .ptr c 0] H) _
 rw [(hY j).stWiA]
 unfold stWiA qsj Edge.cells
 obtain ⟨r1, r2⟩ := hE e he
 have hil : ins.length = n := by have := hi.len; rw [qaw] at this; omega
 obtain ⟨b1, o1, e1, e2, _, e3⟩ := (hi.no hF).at (q0j ins e.f (by omega))
 obtain ⟨b2, o2, e4, e5, _, e6⟩ := (hi.no hF).at (q0j ins e.t (by omega))
 have g1 : H.get c = qaa 0 [lv, iv] := (hF.keep hc).trans hg
 have hcH : c < H.nx := Nat.lt_of_lt_of_le hc hF.nx
 cases hs : e.s with
 | true =>
  simp (disch := first | omega | exact ti rfl | (simp only [np, nq]; first | done | omega)) only [go_sem, reduceAdd, reduceMul, reduceSub, reduceLeDiff, reduceEqDiff, reduceShiftRight, reduceAnd, g1, e1, e3, e4, e6, hs]
  refine Ok.ret ⟨?_, by (repeat (first | exact Fm.refl _ _ | assumption | refine Fm.push ?_ _ | refine Fm.up2 ?_ (by (first | omega | (simp only [np, nq]; omega))) | refine Fm.put_new ?_ _ _ (by (first | omega | (simp only [np, nq]; omega)))))⟩
  unfold mixP
  rw [hs, Bool.true_and]
 | false =>
  simp (disch := first | omega | exact ti rfl | (simp only [np, nq]; first | done | omega)) only [go_sem, reduceAdd, reduceMul, reduceSub, reduceLeDiff, reduceEqDiff, reduceShiftRight, reduceAnd, g1, hs]
  refine Ok.ret ⟨?_, by (repeat (first | exact Fm.refl _ _ | assumption | refine Fm.push ?_ _ | refine Fm.up2 ?_ (by (first | omega | (simp only [np, nq]; omega))) | refine Fm.put_new ?_ _ _ (by (first | omega | (simp only [np, nq]; omega)))))⟩
  unfold mixP
  rw [hs, Bool.false_and]
end Go.Di
end
noncomputable section
/-
 Contracts: a way round with a negative edge, in the code, whole.
-/
namespace Go.Di
open Go.Ev Go.Di.T Go.Sort
variable {C : Nat → Ev.Call} {LA LO : LP}
def RM (n : Nat) (ms : List Nat) (e : Edge) : Prop := e.s = true ∧ ¬ (dist n ms).getD (e.t * n + e.f) 0 < 0
def q9n (n : Nat) (ms : List Nat) : Option (List Nat) → Prop
 | none => ∀ e ∈ qaj n ms, ¬ RM n ms e
 | some s => ∃ (i : Nat) (e : Edge) (l : List Nat), (qaj n ms)[i]? = some e ∧ RM n ms e ∧ (∀ e' ∈ (qaj n ms).take i, ¬ RM n ms e') ∧ Gp n ms (dist n ms) e.f e.t l ∧ l.length < 1000 ∧ s = e.f :: (e.t :: l).dropLast
theorem Gp.uniq {n : Nat} {ms : List Nat} {d : List Int} {b : Nat} : ∀ {a : Nat} {l l' : List Nat}, Gp n ms d b a l → Gp n ms d b a l' → l = l'
 | _, _, _, .nil, .nil => rfl
 | _, _, _, .nil, .cons h _ _ => absurd rfl h
 | _, _, _, .cons h _ _, .nil => absurd rfl h
 | _, _, _, .cons (x := x) _ h1 g1, .cons (x := y) _ h2 g2 => by
  have : x = y := by
   rcases Nat.lt_trichotomy x y with h | h | h
   ·exact absurd h1.is (h2.least x h)
   ·exact h
   ·exact absurd h2.is (h1.least y h)
  subst this
  rw [Gp.uniq g1 g2]
theorem qzr {n : Nat} {ms : List Nat} (hl : ms.length = n * n) {res : List (List Nat)} {ins : List Nat} (hN : Nm n res ins) (hF : OrdF n (qa6 (qaj n ms)) [] res) {e : Edge} (he : e ∈ qaj n ms) : mixP ins e = true ↔ RM n ms e := by
 obtain ⟨l1, l2⟩ := (qe9 n ms).rng e he
 have h0 : Rc (qa6 (qaj n ms)) e.f e.t := .step (.refl _) (qbt.2 ⟨e, he, rfl, rfl⟩)
 have h1 := (q2i hl).2 e.t e.f l2 l1
 have h2 := hN.eq hF l1 l2
 unfold mixP RM
 rw [Bool.and_eq_true, decide_eq_true_eq, h2]
 constructor
 ·rintro ⟨a, _, b⟩
  exact ⟨a, Int.not_lt.2 (h1.2 b)⟩
 ·rintro ⟨a, b⟩
  exact ⟨a, h0, h1.1 (Int.not_lt.1 b)⟩
theorem Gs.rd {H : Hp} {b o n m : Nat} {e : Bool} {l : List AV} (h : Gs 1 H (.sl b o n m e) n l) : qbf (H.get b) o (n * 1) = some l := by
 rcases h.is with ⟨h, _⟩ | ⟨b', o', m', e', q, L, hv, h0, h1, h2, h3, h4, h5⟩
 ·cases h
 ·cases hv
  rw [h1, qcv, if_pos (by omega), h3]
theorem qyf (hC : qbe C) (hY : qjl C) (hO : qc0 C) (hS : qcb C) (hR : qcc LA LO C) {k : Nat} (hk : 1002 ≤ k) {n : Nat} {ms : List Nat} (hM : MOk n ms) (hP : qqc n ms) (hn : n ≤ 256) (hlen : (qaj n ms).length < 900) {gv : AV} {H : Hp} (hg : IsE H gv (qaj n ms)) :
  Ok (C k (.f qov) [.agg [.int .i64 (.ofNat n), gv]] H) fun r H' => Fm No H H' ∧
   ((r = .tup [.nilsl, .int .i64 (.ofNat 8)] ∧ q9n n ms none) ∨
    ∃ w s, r = .tup [w, .int .i64 (.ofNat 0)] ∧ Gl 1 H' w s.length (nats s) ∧ capV w = .val (.int .i64 (.ofNat s.length)) ∧ s.length ≤ 1001 ∧ q9n n ms (some s)) := by
 obtain ⟨j, rfl⟩ : ∃ j, k = j + 3 := ⟨k - 3, by omega⟩
 rw [(hY (j + 2)).stWit]
 have hE := qe9 n ms
 have hl := hM.len
 unfold stWit qsi
 simp (disch := first | omega | exact ti rfl | (simp only [np, nq]; first | done | omega)) only [go_sem, reduceAdd, reduceMul, reduceSub, reduceLeDiff, reduceEqDiff, reduceShiftRight, reduceAnd]
 have f0 : Fm No H (qan H (qaa 0 [.int .i64 (.ofNat n), gv])) := by (repeat (first | exact Fm.refl _ _ | assumption | refine Fm.push ?_ _ | refine Fm.up2 ?_ (by (first | omega | (simp only [np, nq]; omega))) | refine Fm.put_new ?_ _ _ (by (first | omega | (simp only [np, nq]; omega)))))
 refine Ok.ve (q9m hC hO hS hR (k := j + 2) (by omega) hE hn (by omega) (hg.fm f0)) ?_
 rintro r H1 ⟨lv, iv, os, ins2, out, ins, res, rfl, hOrd, hCR, f1⟩
 have hF := hOrd.ord hE.rng
 have hN := q8e hF hCR.ins
 have n1 : H.nx + 1 ≤ H1.nx := f1.nx
 have g1 : H1.get H.nx = qaa 0 [.int .i64 (.ofNat n), gv] := (f1.keep (by (first | omega | (simp only [np, nq]; omega)))).trans (qak _ _)
 have es3 : ∀ x y a b : AV, setL [a, b] 0 [x, y] = [x, y] := fun _ _ _ _ => rfl
 have fa : Fm No H1 ((qan H1 (qaa 0 [.nilsl, .nilsl])).put H1.nx (qaa 0 [lv, iv])) := by (repeat (first | exact Fm.refl _ _ | assumption | refine Fm.push ?_ _ | refine Fm.up2 ?_ (by (first | omega | (simp only [np, nq]; omega))) | refine Fm.put_new ?_ _ _ (by (first | omega | (simp only [np, nq]; omega)))))
 simp (disch := first | omega | exact ti rfl | (simp only [np, nq]; first | done | omega)) only [go_sem, reduceAdd, reduceMul, reduceSub, reduceLeDiff, reduceEqDiff, reduceShiftRight, reduceAnd, es3, List.length_cons, List.length_nil]
 generalize hH2 : (qan H1 (qaa 0 [AV.nilsl, AV.nilsl])).put H1.nx (qaa 0 [lv, iv]) = H2 at *
 have c2 : H2.get H1.nx = qaa 0 [lv, iv] := by rw [← hH2, qac]
 have n2 : H2.nx = H1.nx + 1 := by rw [← hH2]; rfl
 have g2 : H2.get H.nx = qaa 0 [.int .i64 (.ofNat n), gv] := (fa.keep (by omega)).trans g1
 have hg2 : IsE H2 gv (qaj n ms) := ((hg.fm f0).fm f1).fm fa
 unfold qj8
 simp (disch := first | omega | exact ti rfl | (simp only [np, nq]; first | done | omega)) only [go_sem, reduceAdd, reduceMul, reduceSub, reduceLeDiff, reduceEqDiff, reduceShiftRight, reduceAnd, g2]
 refine Ok.ve (q6e hC (j := j + 1) hg2 (by omega) (q7g (j := j) hY hE.rng (hCR.gi.no fa) c2 (by omega))) ?_
 rintro v H3 ⟨hcase, f3⟩
 have f03 := ((f0.trans f1).trans fa).trans f3
 rcases hcase with ⟨i, rfl, hi, hp, ha⟩ | ⟨rfl, ha⟩
 ·simp (disch := first | omega | exact ti rfl | (simp only [np, nq]; first | done | omega)) only [go_sem, reduceAdd, reduceMul, reduceSub, reduceLeDiff, reduceEqDiff, reduceShiftRight, reduceAnd, Nat.not_lt_zero]
  unfold qj9
  have hg3 := hg2.fm f3
  obtain ⟨b, o, e1, _, e3⟩ := hg3.at hi
  have g3 : H3.get H.nx = qaa 0 [.int .i64 (.ofNat n), gv] := (f3.keep (by omega)).trans g2
  have h3 : H.nx < H3.nx := by have := f3.nx; omega
  have hmem : (qaj n ms)[i] ∈ qaj n ms := List.getElem_mem _
  have hrm := (qzr hl hN hF hmem).1 hp
  have hno : ∀ e' ∈ (qaj n ms).take i, ¬ RM n ms e' := fun e' he' h => by
   have := List.any_eq_false.1 ha e' he'
   exact this ((qzr hl hN hF (List.mem_of_mem_take he')).2 h)
  have hat : (qaj n ms)[i]? = some (qaj n ms)[i] := List.getElem?_eq_getElem hi
  obtain ⟨l1, l2⟩ := hE.rng _ hmem
  generalize (qaj n ms)[i] = e at *
  have fb : Fm No H3 ((qan H3 (qaa 0 [.int .i64 (.ofNat 0), .int .i64 (.ofNat 0), .bool false])).put H3.nx (qaa 0 e.cells)) := by (repeat (first | exact Fm.refl _ _ | assumption | refine Fm.push ?_ _ | refine Fm.up2 ?_ (by (first | omega | (simp only [np, nq]; omega))) | refine Fm.put_new ?_ _ _ (by (first | omega | (simp only [np, nq]; omega)))))
  simp (disch := first | omega | exact ti rfl | (simp only [np, nq]; first | done | omega)) only [go_sem, reduceAdd, reduceMul, reduceSub, reduceLeDiff, reduceEqDiff, reduceShiftRight, reduceAnd, g3, e1, e3, Edge.cells]
  unfold Edge.cells at fb
  obtain ⟨m, hW, _, hWb⟩ := hP e.t l2
  obtain ⟨w1, w2⟩ := hWb e.f l1
  have hnn := fun h => hrm.2 (w1.1 h)
  obtain ⟨l, l', z1, z2, z3, z4⟩ := w2 hrm.2
  refine Ok.ve (q9k hC (k := j + 2) (by omega) (hg3.fm fb) hW l2 l1 (Q := fun r H' => ∃ w, r = .tup [w, .int .i64 (.ofNat 0)] ∧ Fm No _ H' ∧ Gl 1 H' w (l.length + 1) (nats (e.t :: l')) ∧ ∀ b, In w b → H3.nx + 1 ≤ b) (fun h => absurd h hnn) (fun _ => ⟨l, z1, z2, fun H' w a1 a2 a3 a4 => ⟨w, rfl, a1, by rw [← z4]; exact a2, a4⟩⟩)) ?_
  rintro r H4 ⟨w, rfl, f4, gw, hwn⟩
  have hll : l'.length = l.length := by have := congrArg List.length z4; simpa using this.symm
  have n4 := f4.nx
  have n4' : H3.nx + 1 ≤ H4.nx := n4
  have g4 : H4.get H3.nx = qaa 0 [.int .i64 (.ofNat e.f), .int .i64 (.ofNat e.t), .bool e.s] := (f4.keep (by (first | omega | (simp only [np, nq]; omega)))).trans (qac _ _ _)
  have elw := gw.lenV
  obtain ⟨wb, wo, wm, we, u1, u2, u3⟩ := gw.gs.upto (k := l.length) (by omega) (by omega)
  have u1' : qa8 1 w none (some (.int .i64 (.ofNat (l.length + 1 - 1)))) none = .val (.sl wb wo l.length wm we) := by rw [Nat.add_sub_cancel]; exact u1
  have hwb : wb < H4.nx := u2.lt ⟨_, _, _, _, rfl⟩
  have hdl : (nats (e.t :: l')).take (l.length * 1) = nats (e.t :: l').dropLast := by
   unfold nats
   rw [← List.map_take, List.dropLast_eq_take, List.length_cons, hll]
   simp
  rw [hdl] at u2
  have hdn : (nats (e.t :: l').dropLast).length = l.length := by rw [qaw, List.length_dropLast, List.length_cons, hll]; rfl
  have rd1 := u2.rd
  have rd2 := rd1
  rw [Nat.mul_one] at rd2
  simp (disch := first | omega | exact ti rfl | (simp only [np, nq]; first | done | omega)) only [go_sem, reduceAdd, reduceMul, reduceSub, reduceLeDiff, reduceEqDiff, reduceShiftRight, reduceAnd, g4, elw, u1', rd1, rd2, hwb]
  have hdl2 : l.length < 1000 := z2
  obtain ⟨w5, H5, a1, a2, a3, a4, a5⟩ := app1 (H := (Hp.mk H4.t (H4.nx + 12)).put (H4.nx + 2) (qaa 0 [AV.int .i64 (.ofNat e.f)])) (qac _ _ _) (by (first | omega | (simp only [np, nq]; omega))) (l := nats (e.t :: l').dropLast) hdn (by omega)
  refine Ok.deE a1 ?_
  have fP : Fm No H4 ((Hp.mk H4.t (H4.nx + 12)).put (H4.nx + 2) (qaa 0 [AV.int .i64 (.ofNat e.f)])) := by (repeat (first | exact Fm.refl _ _ | assumption | refine Fm.push ?_ _ | refine Fm.up2 ?_ (by (first | omega | (simp only [np, nq]; omega))) | refine Fm.put_new ?_ _ _ (by (first | omega | (simp only [np, nq]; omega)))))
  have f5 : Fm No H4 H5 := fP.then a3 fun c hc h => by omega
  have g5 : H5.get H3.nx = qaa 0 [.int .i64 (.ofNat e.f), .int .i64 (.ofNat e.t), .bool e.s] := (f5.keep (by omega)).trans g4
  simp (disch := first | omega | exact ti rfl | (simp only [np, nq]; first | done | omega)) only [go_sem, reduceAdd, reduceMul, reduceSub, reduceLeDiff, reduceEqDiff, reduceShiftRight, reduceAnd, g5]
  obtain ⟨w6, b1, b2, b3, b4⟩ := qut hC (k := j + 2) (by omega) a2
  refine Ok.deE b1 ?_
  simp (disch := first | omega | exact ti rfl | (simp only [np, nq]; first | done | omega)) only [go_sem, reduceAdd, reduceMul, reduceSub, reduceLeDiff, reduceEqDiff, reduceShiftRight, reduceAnd, g5]
  have hsl : (e.f :: (e.t :: l').dropLast).length = l.length + 1 := by rw [List.length_cons, List.length_dropLast, List.length_cons, hll]; rfl
  refine Ok.ret ⟨((f03.trans fb).trans f4).trans f5, Or.inr ⟨w6, e.f :: (e.t :: l').dropLast, rfl, by rw [hsl]; exact b2, by rw [hsl]; exact b3, by omega, i, e, l', hat, hrm, hno, z3, by omega, rfl⟩⟩
 ·simp (disch := first | omega | exact ti rfl | (simp only [np, nq]; first | done | omega)) only [go_sem, reduceAdd, reduceMul, reduceSub, reduceLeDiff, reduceEqDiff, reduceShiftRight, reduceAnd]
  exact Ok.ret ⟨f03, Or.inl ⟨rfl, fun e he h => by
   have := List.any_eq_false.1 ha e he
   exact this ((qzr hl hN hF he).2 h)⟩⟩
end Go.Di
end
noncomputable section
/-
 Contracts: a way round with a negative edge, in the reference.
-/
namespace Go.Di
open Go.Ev Go.Di.T Go.Sort
variable {C : Nat → Ev.Call} {LA LO : LP}
theorem Gl.before {H : Hp} {v : AV} {a k : Nat} {l : List Nat} (h : Gl 1 H v (k + 1) (nats (a :: l))) (hl : l.length = k) :
  ∃ b o m e, qa8 1 v none (some (.int .i64 (.ofNat (k + 1 - 1)))) none = .val (.sl b o k m e) ∧ qbf (H.get b) o (k * 1) = some (nats (a :: l).dropLast) ∧ b < H.nx := by
 obtain ⟨wb, wo, wm, we, u1, u2, u3⟩ := h.gs.upto (k := k) (by omega) (by omega)
 refine ⟨wb, wo, wm, we, by rw [Nat.add_sub_cancel]; exact u1, ?_, u2.lt ⟨_, _, _, _, rfl⟩⟩
 have hdl : (nats (a :: l)).take (k * 1) = nats (a :: l).dropLast := by
  unfold nats
  rw [← List.map_take, List.dropLast_eq_take, List.length_cons, hl]
  simp
 rw [hdl] at u2
 exact u2.rd
end Go.Di
end
noncomputable section
/-
 The law StrataNumbers.
-/
namespace Go.Di
open Go.Ev Go.Di.T Go.Sort
variable {C : Nat → Ev.Call} {LA LO : LP}
theorem Gp.last {n : Nat} {ms : List Nat} {d : List Int} {b : Nat} : ∀ {a : Nat} {l : List Nat}, Gp n ms d b a l → (a :: l).dropLast ++ [b] = a :: l
 | _, _, .nil => rfl
 | a, _, .cons (x := x) (l := l) _ _ h => by
  show a :: (x :: l).dropLast ++ [b] = _
  rw [List.cons_append, h.last]
theorem Gp.adj {n : Nat} {ms : List Nat} {d : List Int} {b : Nat} : ∀ {a : Nat} {l : List Nat}, a < n → Gp n ms d b a l → ∀ (i x y : Nat), (a :: l)[i]? = some x → (a :: l)[i + 1]? = some y → x < n ∧ y < n ∧ 0 < ms.getD (x * n + y) 0
 | _, _, _, .nil, i, x, y, _, h => by simp at h
 | a, _, ha, .cons (x := z) _ h1 h2, 0, x, y, g1, g2 => by
  cases g1; cases g2
  exact ⟨ha, h1.lt, h1.is.1⟩
 | a, _, ha, .cons (x := z) _ h1 h2, i + 1, x, y, g1, g2 => Gp.adj h1.lt h2 i x y g1 g2
theorem qqh {n : Nat} {ms : List Nat} (hl : ms.length = n * n) {e : Edge} (he : e ∈ qaj n ms) (hs : e.s = true) (hr : Rc (qa6 (qaj n ms)) e.t e.f) : RM n ms e := by
 obtain ⟨l1, l2⟩ := (qe9 n ms).rng e he
 exact ⟨hs, Int.not_lt.2 (((q2i hl).2 e.t e.f l2 l1).2 hr)⟩
end Go.Di
end
noncomputable section
/-
 Edges in order are those of a matrix.
-/
namespace Go.Di
open Go.Ev Go.Di.T Go.Sort
def kE (n : Nat) (e : Edge) : Nat := (e.f * n + e.t) * 2 + (if e.s then 1 else 0)
theorem q2q {a b : Int} (h : b < a) : cmpI a b = 1 := by unfold cmpI; rw [if_neg (by omega), if_pos h]
theorem q04 {n : Nat} {a b : Edge} (ha : a.t < n) (hb : b.t < n) (h : cmpE a b < 0) : kE n a < kE n b := by
 unfold kE
 unfold cmpE at h
 rcases Nat.lt_trichotomy a.f b.f with hf | hf | hf
 ·have h1 : (a.f + 1) * n ≤ b.f * n := Nat.mul_le_mul_right n hf
  rw [Nat.add_mul, Nat.one_mul] at h1
  split <;> split <;> omega
 ·have hft : a.f * n = b.f * n := by rw [hf]
  rcases Nat.lt_trichotomy a.t b.t with ht | ht | ht
  ·split <;> split <;> omega
  ·rw [hf, ht, qiq, qiq] at h
   cases ha : a.s <;> cases hb : b.s <;> rw [ha, hb] at h
   ·exact absurd h (by decide)
   ·rw [hf, ht]; simp
   ·exact absurd h (by decide)
   ·exact absurd h (by decide)
  ·rw [hf, qiq, q2q (a := .ofNat a.t) (b := .ofNat b.t) (by simp only [Int.ofNat_eq_natCast]; omega)] at h
   exact absurd h (by show ¬ ((1 : Int) < 0); decide)
 ·rw [q2q (a := .ofNat a.f) (b := .ofNat b.f) (by simp only [Int.ofNat_eq_natCast]; omega)] at h
  exact absurd h (by show ¬ ((1 : Int) < 0); decide)
theorem qq2 {α : Type} {k : α → Nat} : ∀ {l : List α}, (∀ i (h : i + 1 < l.length), k l[i] < k l[i + 1]) → l.Pairwise fun a b => k a < k b
 | [], _ => List.Pairwise.nil
 | [x], _ => List.pairwise_singleton _ _
 | x :: y :: l, h => by
  have ih : (y :: l).Pairwise fun a b => k a < k b := qq2 fun i hi => h (i + 1) (by simpa using hi)
  refine List.pairwise_cons.2 ⟨fun z hz => ?_, ih⟩
  have h0 : k x < k y := h 0 (by simp)
  rcases List.mem_cons.1 hz with rfl | hz
  ·exact h0
  ·exact Nat.lt_trans h0 ((List.pairwise_cons.1 ih).1 z hz)
theorem qz8 {α : Type} {k : α → Nat} : ∀ {l l' : List α}, l.Pairwise (fun a b => k a < k b) → l'.Pairwise (fun a b => k a < k b) → (∀ x, x ∈ l ↔ x ∈ l') → l = l'
 | [], [], _, _, _ => rfl
 | [], y :: l', _, _, h => by have := (h y).2 List.mem_cons_self; cases this
 | x :: l, [], _, _, h => by have := (h x).1 List.mem_cons_self; cases this
 | x :: l, y :: l', h1, h2, h => by
  obtain ⟨a1, a2⟩ := List.pairwise_cons.1 h1
  obtain ⟨b1, b2⟩ := List.pairwise_cons.1 h2
  have e : x = y := by
   rcases List.mem_cons.1 ((h x).1 List.mem_cons_self) with e | e
   ·exact e
   ·rcases List.mem_cons.1 ((h y).2 List.mem_cons_self) with e' | e'
    ·exact e'.symm
    ·have := a1 y e'
     have := b1 x e
     omega
  subst e
  rw [qz8 a2 b2 fun z => ⟨fun hz => ?_, fun hz => ?_⟩]
  ·rcases List.mem_cons.1 ((h z).1 (List.mem_cons_of_mem _ hz)) with e | e
   ·subst e; exact absurd (a1 z hz) (Nat.lt_irrefl _)
   ·exact e
  ·rcases List.mem_cons.1 ((h z).2 (List.mem_cons_of_mem _ hz)) with e | e
   ·subst e; exact absurd (b1 z hz) (Nat.lt_irrefl _)
   ·exact e
theorem qb2.pw {n : Nat} {es : List Edge} (h : qb2 n es) : es.Pairwise fun a b => kE n a < kE n b :=
 qq2 fun i hi => q04 (h.rng _ (List.getElem_mem _)).2 (h.rng _ (List.getElem_mem _)).2 (h.ord i hi)
theorem q2d {n : Nat} {ms : List Nat} {i j : Nat} (h : ms.getD (i * n + j) 0 % 2 = 1) : ∀ {k : Nat}, j < k → (⟨i, j, 0⟩ : T3) ∈ eR n ms i k
 | 0, hj => by omega
 | k + 1, hj => by
  by_cases e : j = k
  ·subst e
   exact List.mem_append_right _ (q5l h)
  ·exact List.mem_append_left _ (q2d h (show j < k by omega))
theorem q2f {n : Nat} {ms : List Nat} {i j : Nat} (h : ms.getD (i * n + j) 0 % 2 = 1) (hj : j < n) : ∀ {m : Nat}, i < m → (⟨i, j, 0⟩ : T3) ∈ eM n ms m
 | 0, hi => by omega
 | m + 1, hi => by
  by_cases e : i = m
  ·subst e
   exact List.mem_append_right _ (q2d h hj)
  ·exact List.mem_append_left _ (q2f h hj (show i < m by omega))
theorem zbl {n : Nat} {ms : List Nat} {i k : Nat} {e : T3} (h : e ∈ ent n ms i k) (hs : e.s = 0) : ms.getD (i * n + k) 0 % 2 = 1 := by
 unfold ent at h
 rcases List.mem_append.1 h with h | h
 ·split at h
  ·assumption
  ·cases h
 ·split at h
  ·rw [List.mem_singleton] at h; subst h; cases hs
  ·cases h
theorem zbr {n : Nat} {ms : List Nat} {i : Nat} {e : T3} : ∀ {k : Nat}, e ∈ eR n ms i k → e.s = 0 → ms.getD (i * n + e.t) 0 % 2 = 1
 | 0, h, _ => by cases h
 | k + 1, h, hs => by
  rcases List.mem_append.1 h with h | h
  ·exact zbr h hs
  ·rw [(qt1 h).2.1]; exact zbl h hs
theorem zbu {n : Nat} {ms : List Nat} {e : T3} : ∀ {i : Nat}, e ∈ eM n ms i → e.s = 0 → ms.getD (e.f * n + e.t) 0 % 2 = 1
 | 0, h, _ => by cases h
 | i + 1, h, hs => by
  rcases List.mem_append.1 h with h | h
  ·exact zbu h hs
  ·rw [(qnc h).1]; exact zbr h hs
open Classical in
def msOf (n : Nat) (es : List Edge) : List Nat := (List.range (n * n)).map fun p => (if (⟨p / n, p % n, false⟩ : Edge) ∈ es then 1 else 0) + (if (⟨p / n, p % n, true⟩ : Edge) ∈ es then 2 else 0)
open Classical in
theorem qvr {n : Nat} {es : List Edge} {i k : Nat} (hi : i < n) (hk : k < n) : (msOf n es).getD (i * n + k) 0 = (if (⟨i, k, false⟩ : Edge) ∈ es then 1 else 0) + (if (⟨i, k, true⟩ : Edge) ∈ es then 2 else 0) := by
 have h1 : (i + 1) * n ≤ n * n := Nat.mul_le_mul_right n hi
 rw [Nat.add_mul, Nat.one_mul] at h1
 have h2 : i * n + k < n * n := by omega
 have h3 : (i * n + k) / n = i := by rw [Nat.mul_comm, Nat.mul_add_div (by omega), Nat.div_eq_of_lt hk, Nat.add_zero]
 have h4 : (i * n + k) % n = k := by rw [Nat.mul_comm, Nat.mul_add_mod, Nat.mod_eq_of_lt hk]
 unfold msOf
 rw [List.getD_eq_getElem?_getD, List.getElem?_map, List.getElem?_eq_getElem (by simpa using h2)]
 simp [h3, h4]
theorem ex_ms {n : Nat} {es : List Edge} (hE : qb2 n es) (hn : n ≤ 256) : ∃ ms, MOk n ms ∧ qaj n ms = es := by
 have hok : MOk n (msOf n es) := ⟨hn, by simp [msOf], fun x hx => by
  unfold msOf at hx
  obtain ⟨p, _, rfl⟩ := List.mem_map.1 hx
  split <;> split <;> omega⟩
 refine ⟨msOf n es, hok, qz8 (qe9 n _).pw hE.pw fun e => ⟨fun h => ?_, fun h => ?_⟩⟩
 ·obtain ⟨t, ht, rfl⟩ := List.mem_map.1 h
  obtain ⟨l1, l2, l3, _⟩ := qhx ht
  have hg := qvr (es := es) l1 l2
  by_cases hs : t.s = 1
  ·have h1 := eM_s ht hs
   rw [hg] at h1
   show (⟨t.f, t.t, decide (t.s = 1)⟩ : Edge) ∈ es
   rw [decide_eq_true hs]
   by_cases hm : (⟨t.f, t.t, true⟩ : Edge) ∈ es
   ·exact hm
   ·rw [if_neg hm] at h1
    split at h1 <;> omega
  ·have h1 := zbu ht (by omega)
   rw [hg] at h1
   show (⟨t.f, t.t, decide (t.s = 1)⟩ : Edge) ∈ es
   rw [decide_eq_false hs]
   by_cases hm : (⟨t.f, t.t, false⟩ : Edge) ∈ es
   ·exact hm
   ·rw [if_neg hm] at h1
    split at h1 <;> omega
 ·obtain ⟨l1, l2⟩ := hE.rng e h
  have hg := qvr (es := es) l1 l2
  obtain ⟨f, t, s⟩ := e
  cases s with
  | true =>
   have h1 : 1 < (msOf n es).getD (f * n + t) 0 := by
    rw [hg, if_pos h]
    split <;> omega
   exact List.mem_map.2 ⟨_, q62 h1 l2 l1, rfl⟩
  | false =>
   have h1 : (msOf n es).getD (f * n + t) 0 % 2 = 1 := by
    rw [hg, if_pos h]
    split <;> rfl
   exact List.mem_map.2 ⟨_, q2f h1 l2 l1, rfl⟩
end Go.Di
end
noncomputable section
/-
 Two known graphs, their strata and their witness, without any program.
-/
namespace Go.Di
open Go.Ev Go.Di.T Go.Sort
theorem q2s {x y : Edge} (h : x.f < y.f) : cmpE x y < 0 := by
 unfold cmpE
 rw [qt3 (by simp only [Int.ofNat_eq_natCast]; omega)]
 exact Int.negSucc_lt_zero 0
def dnE : List Edge := (List.range 255).map fun i => ⟨i + 1, i, decide ((i + 1) % 2 = 1)⟩
def rdE : List Edge := (List.range 256).map fun i => ⟨i, (i + 1) % 256, decide (i = 100)⟩
def dnN : List Nat := (List.range 256).map fun i => (i + 1) / 2
def rdN' : List Nat := (List.range 256).map fun j => (100 + j) % 256
theorem zbz : qb2 256 dnE := by
 refine ⟨fun e he => ?_, fun i h => ?_⟩
 ·obtain ⟨i, hi, rfl⟩ := List.mem_map.1 he
  rw [List.mem_range] at hi
  show i + 1 < 256 ∧ i < 256
  omega
 ·have g : ∀ i (h : i < dnE.length), dnE[i] = ⟨i + 1, i, decide ((i + 1) % 2 = 1)⟩ := fun i h => by simp [dnE]
  rw [g, g]
  exact q2s (Nat.lt_succ_self _)
theorem zab : qb2 256 rdE := by
 refine ⟨fun e he => ?_, fun i h => ?_⟩
 ·obtain ⟨i, hi, rfl⟩ := List.mem_map.1 he
  rw [List.mem_range] at hi
  exact ⟨hi, Nat.mod_lt _ (by omega)⟩
 ·have g : ∀ i (h : i < rdE.length), rdE[i] = ⟨i, (i + 1) % 256, decide (i = 100)⟩ := fun i h => by simp [rdE]
  rw [g, g]
  exact q2s (Nat.lt_succ_self _)
theorem qry {x : Nat} (h : x < 256) : dnN.getD x 0 = (x + 1) / 2 := by
 rw [List.getD_eq_getElem?_getD]; simp [dnN, h]
theorem zby : Fit 256 dnE dnN := by
 refine ⟨by simp [dnN], fun e he => ?_⟩
 obtain ⟨i, hi, rfl⟩ := List.mem_map.1 he
 rw [List.mem_range] at hi
 show dnN.getD i 0 + stN ⟨i + 1, i, decide ((i + 1) % 2 = 1)⟩ ≤ dnN.getD (i + 1) 0
 rw [qry (by omega), qry (by omega)]
 unfold stN
 by_cases h : (i + 1) % 2 = 1
 ·rw [if_pos (decide_eq_true h)]; omega
 ·rw [if_neg (by simpa using h)]; omega
theorem zbx : Lst 256 dnE dnN := fun S hS x => by
 induction x with
 | zero => intro h; rw [qry h]; omega
 | succ x ih =>
  intro h
  have h1 := ih (by omega)
  have h2 : S.getD x 0 + stN ⟨x + 1, x, decide ((x + 1) % 2 = 1)⟩ ≤ S.getD (x + 1) 0 := hS.2 _ (List.mem_map.2 ⟨x, List.mem_range.2 (by omega), rfl⟩)
  rw [qry (by omega)] at h1
  rw [qry h]
  unfold stN at h2
  by_cases h : (x + 1) % 2 = 1
  ·rw [if_pos (decide_eq_true h)] at h2; omega
  ·rw [if_neg (by simpa using h)] at h2; omega
theorem dn_no {e : Edge} (he : e ∈ dnE) (hr : Rc (qa6 dnE) e.t e.f) : False := by
 have down : ∀ {a b : Nat}, Rc (qa6 dnE) a b → b ≤ a := fun hr => by
  induction hr with
  | refl => exact Nat.le_refl _
  | step _ e ih =>
   obtain ⟨e, he, rfl, rfl⟩ := qbt.1 e
   obtain ⟨i, _, rfl⟩ := List.mem_map.1 he
   exact Nat.le_trans (Nat.le_succ i) ih
 have := down hr
 obtain ⟨i, _, rfl⟩ := List.mem_map.1 he
 exact absurd this (Nat.not_succ_le_self i)
theorem q6l {e : Edge} (h : e ∈ rdE) : e.f < 256 ∧ e.t = (e.f + 1) % 256 ∧ (e.s = true → e.f = 100) := by
 obtain ⟨i, hi, rfl⟩ := List.mem_map.1 h
 exact ⟨List.mem_range.1 hi, rfl, fun h => of_decide_eq_true h⟩
theorem zaa {a : Nat} (h : a < 256) : ∀ m, Rc (qa6 rdE) a ((a + m) % 256)
 | 0 => by rw [Nat.add_zero, Nat.mod_eq_of_lt h]; exact Rc.refl _
 | m + 1 => by
  have h1 : (a + m) % 256 < 256 := Nat.mod_lt _ (by omega)
  have h2 : ((a + m) % 256 + 1) % 256 ∈ qa6 rdE ((a + m) % 256) := qbt.2 ⟨_, List.mem_map.2 ⟨(a + m) % 256, List.mem_range.2 h1, rfl⟩, rfl, rfl⟩
  have := (zaa h m).step h2
  have e : ((a + m) % 256 + 1) % 256 = (a + (m + 1)) % 256 := by omega
  rwa [e] at this
theorem gp_rd {ms : List Nat} {d : List Int} (hms : qaj 256 ms = rdE) {a : Nat} {l : List Nat} (h : Gp 256 ms d 100 a l) (ha : a < 256) : l = ((List.range l.length).map fun j => (a + 1 + j) % 256) ∧ (a + l.length) % 256 = 100 ∧ l.length < 256 := by
 induction h with
 | nil => exact ⟨rfl, rfl, by decide⟩
 | @cons a x l hne hx _ ih =>
  obtain ⟨e, he, rfl, rfl⟩ := qpq ha hx.lt hx.is.1
  rw [hms] at he
  obtain ⟨_, h2, _⟩ := q6l he
  have ht : e.t < 256 := hx.lt
  obtain ⟨i1, i2, i3⟩ := ih ht
  have hlen : (e.t :: l).length = l.length + 1 := rfl
  refine ⟨?_, by rw [hlen]; omega, by rw [hlen]; omega⟩
  rw [hlen, List.range_succ_eq_map, List.map_cons, List.map_map, Nat.add_zero, ← h2]
  refine congrArg (e.t :: ·) (i1.trans (List.map_congr_left fun j _ => ?_))
  show (e.t + 1 + j) % 256 = (e.f + 1 + (j + 1)) % 256
  omega
set_option maxRecDepth 100000 in
theorem q6k {ms : List Nat} (hl : ms.length = 256 * 256) (hms : qaj 256 ms = rdE) {x : Option (List Nat)} (h : q9n 256 ms x) : x = some rdN' := by
 cases x with
 | none =>
  exfalso
  have he : (⟨100, 101, true⟩ : Edge) ∈ qaj 256 ms := by
   rw [hms]
   exact List.mem_map.2 ⟨100, List.mem_range.2 (by omega), rfl⟩
  refine h _ he (qqh hl he rfl ?_)
  rw [hms]
  exact zaa (a := 101) (by omega) 255
 | some s =>
  obtain ⟨i, e, l, h1, h2, _, h3, _, rfl⟩ := h
  have he := List.mem_of_getElem? h1
  rw [hms] at he
  obtain ⟨_, ht, hf⟩ := q6l he
  have hf := hf h2.1
  rw [hf] at ht h3
  rw [ht] at h3
  obtain ⟨g1, g2, g3⟩ := gp_rd hms h3 (by decide)
  have hll : l.length = 255 := by omega
  rw [hll] at g1
  rw [hf, ht, g1]
  decide +kernel
end Go.Di
end
noncomputable section
/-
 Known calls that hand back a list of numbers: by a contract in place of a run.
-/
namespace Go.Di
open Go.Ev Go.RowKit
variable {P : Program}
theorem q0y (hm : P.follows .mixedOrders = true) {ext : Ext} (hE : qjp P ext) {e : Kn} {N n k : Nat} {l : List Nat} (hv : e.v = .tup [.sl N 0 n n true, .int .i64 (.ofNat 0)]) (hN : e.nx ≤ N) (hN' : N < e.nx') (hpost : ∀ p ∈ e.post, qou p.k = true ∨ p = ⟨N, qaa 0 (nats l)⟩) (hn : 0 < n)
  (hrun : Ok (callF P ext k (.f e.f) e.args e.hp) fun r H' => ∃ w, r = .tup [w, .int .i64 (.ofNat 0)] ∧ Gl 1 H' w n (nats l) ∧ capV w = .val (.int .i64 (.ofNat n))) : KnOk P e := by
 intro ι w ARGS hH ha
 obtain ⟨v, H1, he, w0, rfl, hG, hcap⟩ := hrun
 obtain ⟨c1, c2⟩ := (qh0 hm hE k).fn _ _ _ _ _ he ι w ARGS hH ha
 refine ⟨c1, fun m => (c2 m).mono fun en w' hp => ?_⟩
 cases en with
 | panicked => exact hp.elim
 | outgrown => exact hp.elim
 | returned V =>
  obtain ⟨ι1, a1, a2, a3⟩ := hp
  rcases hG.is with ⟨_, h0⟩ | ⟨b, o, x, q, L, rfl, g1, g2, g3, g4, g5⟩
  ·omega
  have hx : x = true := by cases x with | true => rfl | false => cases hcap
  subst hx
  simp only [Rep, RepL] at a1
  obtain ⟨VS, ⟨V1, r1, e1, ⟨_, loc, hb, rfl⟩, V2, r2, e2, rfl, rfl⟩, rfl⟩ := a1
  subst e2
  subst e1
  have hen : e.hp.nx = e.nx := qhl _ _
  have hιN : ι N = none := hH.fresh N (by omega)
  have hll : (nats l).length = n := by have := hG.len; omega
  have hg : ∀ c, ((⟨Hp.empty.t, e.nx'⟩ : Hp).put N (qaa 0 (nats l))).get c = if c = N then qaa 0 (nats l) else .dead := fun c => by
   rw [Hp.get_put _ _ _ _ inH inH]
   by_cases h : c = N
   ·rw [if_pos h, if_pos h]
   ·rw [if_neg h, if_neg h]; exact Ev.empty_get _ c
  have hwr : (qaa q L).wr = true := rfl
  have hdd : (qaa q L).isDead = false := rfl
  refine ⟨fun c => if c = N then some ⟨loc.blk, loc.base + o, 0, 0⟩ else ι c, (⟨Hp.empty.t, e.nx'⟩ : Hp).put N (qaa 0 (nats l)), ?_, ⟨inH, fun c _ => ?_, fun c m _ h1 h2 => ?_, fun c c' m m' _ _ h1 h2 _ _ _ => ?_, fun c h => ?_, fun c h _ => ?_⟩,
   ⟨fun c m h => ?_, ?_, fun c h1 h2 => ?_, a3.os, a3.tape, a3.output, a3.size, a3.keep, fun c m _ h1 h2 => ?_, fun c m _ h1 h2 => ?_⟩, rfl, fun p hp => ?_⟩
  ·rw [hv]
   simp only [Rep, RepL]
   exact ⟨_, ⟨_, _, rfl, ⟨Nat.le_refl _, ⟨loc.blk, loc.base + o, 0, 0⟩, if_pos trivial, by simp⟩, _, _, rfl, rfl, rfl⟩, rfl⟩
  ·rw [hg]
   by_cases h : c = N
   ·rw [if_pos h]
    have hB := a2.blk b inH
    rw [g1] at hB
    obtain ⟨loc', k1, _, k3, _⟩ := hB
    rw [hb] at k1; cases k1
    refine ⟨_, if_pos h, ⟨qbo _, rfl⟩, fun i hi => ?_, fun _ j hj => by simp at hj⟩
    have hi : i < (nats l).length := hi
    have hoi : o + i < L.length := by
     have := congrArg List.length g3
     rw [List.length_drop] at this
     omega
    obtain ⟨V, q1, q2, q3, q4⟩ := k3 (o + i) hoi
    have d1 : (qah (qaq L.length) (o + i)).f (wrL L 0 (same AV.undef (qaq L.length))) = L.getD (o + i) .undef := qcl L (o + i) (Nat.lt_of_lt_of_le hoi (qbo _))
    have d2 : (qah (qaq (nats l).length) i).f (wrL (nats l) 0 (same AV.undef (qaq (nats l).length))) = (nats l).getD i .undef := qcl (nats l) i (Nat.lt_of_lt_of_le hi (qbo _))
    have hL : L[o + i]? = (nats l)[i]? := by rw [← g3, List.getElem?_drop]
    rw [d1, List.getD_eq_getElem?_getD, hL, List.getElem?_eq_getElem hi, qe2] at q2
    rw [← Nat.add_assoc] at q1 q4
    refine ⟨V, q1, ?_, q3, q4⟩
    rw [d2, List.getD_eq_getElem?_getD, List.getElem?_eq_getElem hi, qe2]
    simpa only [Rep, Option.getD_some] using q2
   ·rw [if_neg h]; trivial
  ·rw [hg] at h1
   by_cases h : c = N
   ·rw [if_pos h] at h2; cases h2
    exact a2.low b loc inH (by rw [g1]; rfl) hb
   ·rw [if_neg h] at h1; cases h1
  ·rw [hg] at h1 h2
   by_cases h : c = N
   ·by_cases h' : c' = N
    ·rw [h, h']
    ·rw [if_neg h'] at h2; cases h2
   ·rw [if_neg h] at h1; cases h1
  ·have h : e.nx' ≤ c := h
   show (if c = N then _ else ι c) = none
   rw [if_neg (by omega)]
   exact hH.fresh c (by omega)
  ·have h : e.nx' ≤ c := h
   rw [hg, if_neg (by omega)]
  ·show (if c = N then _ else ι c) = some m
   rw [if_neg (fun h' => by rw [h', hιN] at h; cases h)]; exact h
  ·show e.hp.nx ≤ e.nx'
   omega
  ·by_cases h : c = N
   ·omega
   ·exact absurd ((if_neg h).trans h1) h2
  ·rw [hg] at h1
   by_cases h : c = N
   ·have h2 : (if c = N then some ⟨loc.blk, loc.base + o, 0, 0⟩ else ι c) = some m := h2
    rw [if_pos h] at h2; cases h2
    exact a3.new b loc inH (by rw [g1]; rfl) hb
   ·rw [if_neg h] at h1; cases h1
  ·rw [hg] at h1
   by_cases h : c = N
   ·have h2 : (if c = N then some ⟨loc.blk, loc.base + o, 0, 0⟩ else ι c) = some m := h2
    rw [if_pos h] at h2; cases h2
    exact a3.live b loc inH (by rw [g1]; rfl) hb
   ·rw [if_neg h] at h1; cases h1
  ·rcases hpost p hp with h | h
   ·exact Or.inl h
   ·subst h
    refine Or.inr ?_
    rw [hg, if_pos rfl]
    exact Alike.refl _
end Go.Di
end
