/-
 For countersignlaw18.StrataNumbers: the law, the second part. No conditions beyond those that each theorem states.
-/
import Derived.Test.YtiickhlaamgljaaGreatLaw
set_option linter.unusedSimpArgs false
set_option linter.unusedVariables false
open Nat (reduceAdd reduceMul reduceSub reduceLeDiff reduceEqDiff reduceShiftRight reduceAnd)
section
/-
 Graphs without any program: the walk reaches each node by the least of all ways.
-/
namespace Go.Di
open Go.Ev
def q4g (n : Nat) (d : List Int) (a : Nat) (i : Nat) : List Nat := (List.range i).filter fun k => !decide (d.getD (a * n + k) 0 < 0)
theorem q1p (n : Nat) (d : List Int) (a i : Nat) : q4g n d a (i + 1) = q4g n d a i ++ (if d.getD (a * n + i) 0 < 0 then [] else [i]) := by
 unfold q4g
 rw [List.range_succ, List.filter_append]
 by_cases h : d.getD (a * n + i) 0 < 0
 ·rw [if_pos h, List.filter_cons, if_neg (by simp only [h, decide_true, Bool.not_true]; exact Bool.false_ne_true)]; rfl
 ·rw [if_neg h, List.filter_cons, if_pos (by simp only [h, decide_false, Bool.not_false])]; rfl
structure qjv (n : Nat) (ms : List Nat) : Prop where
 bnd : DBnd n ms
 bnd2 : Bnd (dist n ms)
 walk : ∀ a, a < n → ∃ m, WOk n (qan n ms) a m ∧ qus (bfs (qan n ms) m (qa2 a)) 256 = q4g n (dist n ms) a n ∧
  ∀ b, b < n → ((bfs (qan n ms) m (qa2 a)).getD b 0 < 0 ↔ (dist n ms).getD (a * n + b) 0 < 0) ∧
   (¬ (dist n ms).getD (a * n + b) 0 < 0 → ∃ l l', Ch (bfs (qan n ms) m (qa2 a)) a (b :: l) ∧ l.length < 1000 ∧ Gp n ms (dist n ms) b a l' ∧ (b :: l).reverse = a :: l')
theorem Gl.ints {H : Hp} {w : AV} {p : List Nat} {n : Nat} (h : Gl 1 H w n (nats p)) : Gl 1 H w (p.map Int.ofNat).length (Di.ints (p.map Int.ofNat)) := by
 have := h.len
 rw [q0l, Nat.mul_one] at this
 rw [List.length_map, qg3, this]; exact h
def hd (s : List Nat) (a : Nat) : Nat := match s with | [] => a | v :: _ => v
def Rw (n : Nat) (ms : List Nat) (a : Nat) : List Nat → Prop
 | [] => True
 | v :: s => v < n ∧ Adj n ms (hd s a) v ∧ Rw n ms a s
def cd' (B : Nat) : List Nat → Nat
 | [] => 0
 | v :: s => cd' B s * B + (v + 1)
structure Inv (n : Nat) (ms : List Nat) (a : Nat) (T : List (List Nat)) (t : Nat) (s : Wk) : Prop where
 len : s.f.length = 256
 nil : T[0]? = some []
 pw : T.Pairwise (fun x y => cd' (n + 1) x < cd' (n + 1) y)
 rw' : ∀ x ∈ T, Rw n ms a x
 q : s.q = (T.drop t).map (hd · a)
 iff : ∀ v, v < 256 → (0 ≤ s.f.getD v 0 ↔ ∃ x ∈ T, hd x a = v)
 par : ∀ v x, v :: x ∈ T → v ≠ a ∧ s.f[v]? = some (.ofNat (hd x a))
 fst : ∀ v x, v :: x ∈ T → ∃ i, i < t ∧ T[i]? = some x ∧ ∀ j, j < i → ∀ y, T[j]? = some y → ¬ Adj n ms (hd y a) v
 cls : ∀ i, i < t → ∀ x, T[i]? = some x → ∀ v, v < n → Adj n ms (hd x a) v → ∃ y ∈ T, hd y a = v
 nd : (T.map (hd · a)).Nodup
 le : t ≤ T.length
structure Inn (n : Nat) (ms : List Nat) (a : Nat) (T : List (List Nat)) (t : Nat) (su : List Nat) (done : List Edge) (s : Wk) : Prop where
 len : s.f.length = 256
 nil : T[0]? = some []
 at' : T[t]? = some su
 pw : T.Pairwise (fun x y => cd' (n + 1) x < cd' (n + 1) y)
 rw' : ∀ x ∈ T, Rw n ms a x
 q : s.q = (T.drop t).map (hd · a)
 iff : ∀ v, v < 256 → (0 ≤ s.f.getD v 0 ↔ ∃ x ∈ T, hd x a = v)
 par : ∀ v x, v :: x ∈ T → v ≠ a ∧ s.f[v]? = some (.ofNat (hd x a))
 fst : ∀ v x, v :: x ∈ T → ∃ i, i < t + 1 ∧ T[i]? = some x ∧ ∀ j, j < i → ∀ y, T[j]? = some y → ¬ Adj n ms (hd y a) v
 cls : ∀ i, i < t → ∀ x, T[i]? = some x → ∀ v, v < n → Adj n ms (hd x a) v → ∃ y ∈ T, hd y a = v
 nd : (T.map (hd · a)).Nodup
 dn : ∀ e ∈ done, e.f = hd su a → ∃ y ∈ T, hd y a = e.t
 ord : ∀ x ∈ T, cd' (n + 1) x ≤ cd' (n + 1) su * (n + 1) ∨ ∃ v, x = v :: su ∧ ∃ e ∈ done, e.f = hd su a ∧ e.t = v
theorem Inn.step {n : Nat} {ms : List Nat} {a : Nat} {T : List (List Nat)} {t : Nat} {su : List Nat} {done : List Edge} {s : Wk} (hn : n ≤ 256) (ha : a < n) (h : Inn n ms a T t su done s) {e : Edge} (he : e ∈ qan n ms)
  (hs : ∀ d ∈ done, d.f = e.f → d.t ≤ e.t) : ∃ T', Inn n ms a T' t su (done ++ [e]) (qez (hd su a) s e) := by
 obtain ⟨hef, het⟩ := (qdr n ms).rng e he
 unfold qez
 by_cases hc : e.f = hd su a ∧ s.f.getD e.t 0 < 0
 ·rw [if_pos hc]
  obtain ⟨hf, hneg⟩ := hc
  have hnot : ¬ ∃ x ∈ T, hd x a = e.t := fun hx => by have := (h.iff e.t (by omega)).2 hx; omega
  have hadj : Adj n ms (hd su a) e.t := hf ▸ qvw he
  have hsu : su ∈ T := List.mem_of_getElem? h.at'
  have hlt : t < T.length := by
   rcases Nat.lt_or_ge t T.length with h' | h'
   ·exact h'
   ·have := h.at'; rw [List.getElem?_eq_none h'] at this; cases this
  have h0 : [] ∈ T := List.mem_of_getElem? h.nil
  have hta : e.t ≠ a := fun e' => hnot ⟨[], h0, e'.symm⟩
  refine ⟨T ++ [e.t :: su], ?_⟩
  refine ⟨by simp only [List.length_set]; exact h.len, ?_, ?_, ?_, ?_, ?_, ?_, ?_, ?_, ?_, ?_, ?_, ?_⟩
  ·rw [List.getElem?_append_left (by omega)]; exact h.nil
  ·rw [List.getElem?_append_left hlt]; exact h.at'
  ·refine List.pairwise_append.2 ⟨h.pw, List.pairwise_singleton _ _, fun x hx y hy => ?_⟩
   rw [List.mem_singleton] at hy
   subst hy
   show _ < cd' (n + 1) su * (n + 1) + (e.t + 1)
   rcases h.ord x hx with h' | ⟨v, rfl, d, hd', hdf, rfl⟩
   ·omega
   ·have h1 := hs d hd' (by rw [hdf, hf])
    have h2 : d.t ≠ e.t := fun e' => hnot ⟨_, hx, e'⟩
    show cd' (n + 1) su * (n + 1) + (d.t + 1) < _
    omega
  ·intro x hx
   rcases List.mem_append.1 hx with hx | hx
   ·exact h.rw' x hx
   ·rw [List.mem_singleton] at hx
    subst hx
    exact ⟨het, hadj, h.rw' su hsu⟩
  ·show s.q ++ [e.t] = _
   rw [h.q, List.drop_append_of_le_length (by omega), List.map_append]; rfl
  ·intro v hv
   show 0 ≤ (s.f.set e.t (.ofNat e.f)).getD v 0 ↔ _
   rw [qbw _ _ _ _ (by rw [h.len]; omega)]
   by_cases hve : v = e.t
   ·subst hve
    rw [if_pos rfl]
    exact ⟨fun _ => ⟨_, List.mem_append_right _ (List.mem_singleton.2 rfl), rfl⟩, fun _ => Int.natCast_nonneg _⟩
   ·rw [if_neg hve, h.iff v hv]
    constructor
    ·rintro ⟨x, hx, h1⟩; exact ⟨x, List.mem_append_left _ hx, h1⟩
    ·rintro ⟨x, hx, h1⟩
     rcases List.mem_append.1 hx with hx | hx
     ·exact ⟨x, hx, h1⟩
     ·rw [List.mem_singleton] at hx
      subst hx
      exact absurd h1.symm hve
  ·intro v x hx
   rcases List.mem_append.1 hx with hx | hx
   ·obtain ⟨h1, h2⟩ := h.par v x hx
    refine ⟨h1, ?_⟩
    have : v ≠ e.t := fun e' => hnot ⟨_, hx, e'⟩
    show (s.f.set e.t (.ofNat e.f))[v]? = _
    rw [List.getElem?_set_ne (fun e' => this e'.symm)]; exact h2
   ·rw [List.mem_singleton] at hx
    cases hx
    refine ⟨hta, ?_⟩
    show (s.f.set e.t (.ofNat e.f))[e.t]? = _
    rw [List.getElem?_set_self (by rw [h.len]; omega), hf]
  ·intro v x hx
   rcases List.mem_append.1 hx with hx | hx
   ·obtain ⟨i, h1, h2, h3⟩ := h.fst v x hx
    have hi : i < T.length := by omega
    refine ⟨i, h1, by rw [List.getElem?_append_left hi]; exact h2, fun j hj y hy => h3 j hj y ?_⟩
    rwa [List.getElem?_append_left (by omega)] at hy
   ·rw [List.mem_singleton] at hx
    cases hx
    refine ⟨t, by omega, by rw [List.getElem?_append_left hlt]; exact h.at', fun j hj y hy hadj' => ?_⟩
    rw [List.getElem?_append_left (by omega)] at hy
    exact hnot (h.cls j hj y hy e.t het hadj')
  ·intro i hi x hx v hv hadj'
   rw [List.getElem?_append_left (by omega)] at hx
   obtain ⟨y, hy, h1⟩ := h.cls i hi x hx v hv hadj'
   exact ⟨y, List.mem_append_left _ hy, h1⟩
  ·rw [List.map_append]
   refine List.nodup_append.2 ⟨h.nd, by simp, fun x hx y hy => ?_⟩
   obtain ⟨z, hz, rfl⟩ := List.mem_map.1 hx
   simp only [List.map_cons, List.map_nil, List.mem_singleton] at hy
   subst hy
   exact fun e' => hnot ⟨z, hz, e'⟩
  ·intro d hd' hdf
   rcases List.mem_append.1 hd' with hd' | hd'
   ·obtain ⟨y, hy, h1⟩ := h.dn d hd' hdf
    exact ⟨y, List.mem_append_left _ hy, h1⟩
   ·rw [List.mem_singleton] at hd'
    subst hd'
    exact ⟨_, List.mem_append_right _ (List.mem_singleton.2 rfl), rfl⟩
  ·intro x hx
   rcases List.mem_append.1 hx with hx | hx
   ·rcases h.ord x hx with h' | ⟨v, h1, d, hd', h2⟩
    ·exact .inl h'
    ·exact .inr ⟨v, h1, d, List.mem_append_left _ hd', h2⟩
   ·rw [List.mem_singleton] at hx
    exact .inr ⟨e.t, hx, e, List.mem_append_right _ (List.mem_singleton.2 rfl), hf, rfl⟩
 ·rw [if_neg hc]
  refine ⟨T, h.len, h.nil, h.at', h.pw, h.rw', h.q, h.iff, h.par, h.fst, h.cls, h.nd, ?_, ?_⟩
  ·intro d hd' hdf
   rcases List.mem_append.1 hd' with hd' | hd'
   ·exact h.dn d hd' hdf
   ·rw [List.mem_singleton] at hd'
    subst hd'
    exact (h.iff d.t (by omega)).1 (Int.not_lt.1 fun h' => hc ⟨hdf, h'⟩)
  ·intro x hx
   rcases h.ord x hx with h' | ⟨v, h1, d, hd', h2⟩
   ·exact .inl h'
   ·exact .inr ⟨v, h1, d, List.mem_append_left _ hd', h2⟩
theorem Inn.all {n : Nat} {ms : List Nat} {a : Nat} {t : Nat} {su : List Nat} (hn : n ≤ 256) (ha : a < n) : ∀ (rest done : List Edge) (T : List (List Nat)) (s : Wk), done ++ rest = qan n ms → Inn n ms a T t su done s →
  ∃ T', Inn n ms a T' t su (qan n ms) (inner rest (hd su a) s)
 | [], done, T, s, h, hi => ⟨T, by rw [List.append_nil] at h; rw [← h]; exact hi⟩
 | e :: rest, done, T, s, h, hi => by
  have hp := qvv n ms
  rw [← h] at hp
  obtain ⟨_, _, h3⟩ := List.pairwise_append.1 hp
  have he : e ∈ qan n ms := by rw [← h]; exact List.mem_append_right _ (List.mem_cons_self ..)
  obtain ⟨T1, h1⟩ := hi.step hn ha he (fun d hd' hdf => h3 d hd' e (List.mem_cons_self ..) hdf)
  exact Inn.all hn ha rest (done ++ [e]) T1 _ (by rw [List.append_assoc]; exact h) h1
end Go.Di
end
section
/-
 Graphs without any program: the walk ends, and what holds then.
-/
namespace Go.Di
open Go.Ev
theorem qnj : ∀ (n : Nat) (l : List Nat), l.Nodup → (∀ x ∈ l, x < n) → l.length ≤ n
 | 0, l, _, h => by
  cases l with
  | nil => exact Nat.le_refl _
  | cons x l => exact absurd (h x (List.mem_cons_self ..)) (Nat.not_lt_zero _)
 | n + 1, l, hn, h => by
  by_cases hm : n ∈ l
  ·have h1 := qnj n (l.erase n) (hn.erase n) (fun x hx => by
    have h2 := (hn.mem_erase_iff).1 hx
    have := h x h2.2
    have := h2.1
    omega)
   rw [List.length_erase_of_mem hm] at h1; omega
  ·have := qnj n l hn (fun x hx => by
    have := h x hx
    have : x ≠ n := fun e => hm (e ▸ hx)
    omega)
   omega
theorem Inv.start {n : Nat} (ms : List Nat) {a : Nat} (ha : a < n) (hn : n ≤ 256) : Inv n ms a [[]] 0 (qa2 a) := by
 refine ⟨by unfold qa2; rw [List.length_set, List.length_replicate], rfl, List.pairwise_singleton _ _, fun x hx => ?_, rfl, fun v hv => ?_, fun v x hx => ?_, fun v x hx => ?_, fun i hi => by omega, by simp, Nat.zero_le _⟩
 ·rw [List.mem_singleton] at hx; subst hx; trivial
 ·show 0 ≤ ((List.replicate 256 (-1)).set a (.ofNat a)).getD v 0 ↔ _
  rw [qbw _ _ _ _ (by rw [List.length_replicate]; omega)]
  by_cases h : v = a
  ·rw [if_pos h]
   exact ⟨fun _ => ⟨[], List.mem_singleton.2 rfl, h.symm⟩, fun _ => Int.natCast_nonneg _⟩
  ·rw [if_neg h]
   have : (List.replicate 256 (-1 : Int)).getD v 0 = -1 := by
    simp only [List.getD_eq_getElem?_getD, List.getElem?_replicate, if_pos hv]; rfl
   rw [this]
   refine ⟨fun h' => by omega, fun ⟨x, hx, h1⟩ => ?_⟩
   rw [List.mem_singleton] at hx; subst hx
   exact absurd h1.symm h
 ·rw [List.mem_singleton] at hx; cases hx
 ·rw [List.mem_singleton] at hx; cases hx
theorem q7w {n : Nat} {ms : List Nat} {a : Nat} (ha : a < n) {x : List Nat} (h : Rw n ms a x) : hd x a < n := by
 cases x with
 | nil => exact ha
 | cons v x => exact h.1
theorem Inv.step {n : Nat} {ms : List Nat} {a : Nat} {T : List (List Nat)} {t : Nat} {s : Wk} (hn : n ≤ 256) (ha : a < n) (h : Inv n ms a T t s) (hq : s.q ≠ []) : ∃ T', Inv n ms a T' (t + 1) (qlf (qan n ms) s) := by
 have hlt : t < T.length := by
  rcases Nat.lt_or_ge t T.length with h' | h'
  ·exact h'
  ·exact absurd (by rw [h.q, List.drop_eq_nil_of_le h']; rfl) hq
 obtain ⟨su, hsu⟩ : ∃ su, T[t]? = some su := ⟨T[t], List.getElem?_eq_getElem hlt⟩
 have hsm : su ∈ T := List.mem_of_getElem? hsu
 have hd0 : T.drop t = su :: T.drop (t + 1) := by
  rw [List.drop_eq_getElem_cons hlt]
  rw [List.getElem?_eq_getElem hlt] at hsu
  cases hsu; rfl
 have start : Inn n ms a T t su [] s := by
  refine ⟨h.len, h.nil, hsu, h.pw, h.rw', h.q, h.iff, h.par, fun v x hx => ?_, h.cls, h.nd, fun e he => (by cases he), fun x hx => .inl ?_⟩
  ·obtain ⟨i, h1, h2⟩ := h.fst v x hx
   exact ⟨i, by omega, h2⟩
  ·cases x with
   | nil => exact Nat.zero_le _
   | cons v x =>
    obtain ⟨i, h1, h2, _⟩ := h.fst v x hx
    have hv : v < n := (h.rw' _ hx).1
    have hcd : cd' (n + 1) x < cd' (n + 1) su := by
     have hi : i < T.length := by omega
     have := List.pairwise_iff_getElem.1 h.pw i t hi hlt h1
     rw [List.getElem?_eq_getElem hi] at h2
     rw [List.getElem?_eq_getElem hlt] at hsu
     cases h2; cases hsu
     exact this
    have h3 : (cd' (n + 1) x + 1) * (n + 1) ≤ cd' (n + 1) su * (n + 1) := Nat.mul_le_mul_right _ hcd
    rw [Nat.add_mul, Nat.one_mul] at h3
    show cd' (n + 1) x * (n + 1) + (v + 1) ≤ _
    omega
 obtain ⟨T', h'⟩ := Inn.all hn ha (qan n ms) [] T s rfl start
 refine ⟨T', ?_⟩
 have hq0 : s.q = hd su a :: (T.drop (t + 1)).map (hd · a) := by rw [h.q, hd0]; rfl
 have hlt' : t < T'.length := by
  rcases Nat.lt_or_ge t T'.length with h1 | h1
  ·exact h1
  ·have := h'.at'; rw [List.getElem?_eq_none h1] at this; cases this
 have hd1 : T'.drop t = su :: T'.drop (t + 1) := by
  have := h'.at'
  rw [List.drop_eq_getElem_cons hlt']
  rw [List.getElem?_eq_getElem hlt'] at this
  cases this; rfl
 have hnx : qlf (qan n ms) s = ⟨(inner (qan n ms) (hd su a) s).f, (inner (qan n ms) (hd su a) s).q.tail⟩ := by
  unfold qlf; rw [hq0]
 rw [hnx]
 refine ⟨h'.len, h'.nil, h'.pw, h'.rw', ?_, h'.iff, h'.par, h'.fst, fun i hi x hx v hv hadj => ?_, h'.nd, hlt'⟩
 ·show (inner (qan n ms) (hd su a) s).q.tail = _
  rw [h'.q, hd1]; rfl
 ·by_cases e : i = t
  ·subst e
   rw [h'.at'] at hx
   cases hx
   obtain ⟨e, he, h1, h2⟩ := qti (q7w ha (h'.rw' su (List.mem_of_getElem? h'.at'))) hv hadj
   obtain ⟨y, hy, h3⟩ := h'.dn e he h1
   exact ⟨y, hy, by rw [h3, h2]⟩
  ·exact h'.cls i (by omega) x hx v hv hadj
theorem Inv.card {n : Nat} {ms : List Nat} {a : Nat} {T : List (List Nat)} {t : Nat} {s : Wk} (ha : a < n) (h : Inv n ms a T t s) : T.length ≤ n := by
 have := qnj n (T.map (hd · a)) h.nd (fun x hx => by
  obtain ⟨y, hy, rfl⟩ := List.mem_map.1 hx
  exact q7w ha (h.rw' y hy))
 rwa [List.length_map] at this
theorem zdm {n : Nat} {ms : List Nat} {a : Nat} (hn : n ≤ 256) (ha : a < n) : ∀ (m : Nat) (T : List (List Nat)) (t : Nat) (s : Wk), n - t ≤ m → Inv n ms a T t s →
  q3h (qan n ms) m s ∧ ∃ T' q, Inv n ms a T' T'.length ⟨bfs (qan n ms) m s, q⟩
 | 0, T, t, s, hm, h => by
  have hc := h.card ha
  have ht : t = T.length := by have := h.le; omega
  have hq : s.q = [] := by rw [h.q, List.drop_eq_nil_of_le (by omega)]; rfl
  exact ⟨hq, T, s.q, by subst ht; exact h⟩
 | m + 1, T, t, s, hm, h => by
  cases hq : s.q with
  | nil =>
   have ht : t = T.length := by
    have h1 := h.q
    rw [hq] at h1
    have h2 := congrArg List.length h1
    rw [List.length_map, List.length_drop, List.length_nil] at h2
    have := h.le; omega
   refine ⟨.inl hq, T, s.q, ?_⟩
   have : bfs (qan n ms) (m + 1) s = s.f := by simp [bfs, hq]
   rw [this]; subst ht; exact h
  | cons u r =>
   obtain ⟨T1, h1⟩ := h.step hn ha (by rw [hq]; simp)
   obtain ⟨h2, T2, q2, h3⟩ := zdm hn ha m T1 (t + 1) _ (by omega) h1
   refine ⟨.inr h2, T2, q2, ?_⟩
   have : bfs (qan n ms) (m + 1) s = bfs (qan n ms) m (qlf (qan n ms) s) := by simp [bfs, hq]
   rw [this]; exact h3
theorem least {n : Nat} {ms : List Nat} {a : Nat} {T : List (List Nat)} {s : Wk} (h : Inv n ms a T T.length s) : ∀ w, Rw n ms a w → ∃ x ∈ T, hd x a = hd w a ∧ cd' (n + 1) x ≤ cd' (n + 1) w
 | [], _ => ⟨[], List.mem_of_getElem? h.nil, rfl, Nat.le_refl _⟩
 | v :: w, ⟨hv, hadj, hw⟩ => by
  obtain ⟨y, hy, h1, h2⟩ := least h w hw
  obtain ⟨j, hj, rfl⟩ := List.mem_iff_getElem.1 hy
  obtain ⟨x, hx, h3⟩ := h.cls j hj T[j] (List.getElem?_eq_getElem hj) v hv (by rw [h1]; exact hadj)
  refine ⟨x, hx, h3, ?_⟩
  cases x with
  | nil => exact Nat.zero_le _
  | cons v' x =>
   have hvv : v' = v := h3
   subst hvv
   obtain ⟨i, hi, h4, h5⟩ := h.fst v' x hx
   have hij : i ≤ j := by
    rcases Nat.lt_or_ge j i with h' | h'
    ·exact absurd (by rw [h1]; exact hadj) (h5 j h' T[j] (List.getElem?_eq_getElem hj))
    ·exact h'
   have h6 : cd' (n + 1) x ≤ cd' (n + 1) T[j] := by
    rw [List.getElem?_eq_getElem hi] at h4
    cases h4
    rcases Nat.eq_or_lt_of_le hij with e | e
    ·subst e; exact Nat.le_refl _
    ·exact Nat.le_of_lt (List.pairwise_iff_getElem.1 h.pw i j hi hj e)
   show cd' (n + 1) x * (n + 1) + (v' + 1) ≤ cd' (n + 1) w * (n + 1) + (v' + 1)
   exact Nat.add_le_add_right (Nat.mul_le_mul_right _ (Nat.le_trans h6 h2)) _
end Go.Di
end
section
/-
 Graphs without any program: the way that the walk found is the least path of the reference.
-/
namespace Go.Di
open Go.Ev
variable {n : Nat} {ms : List Nat}
theorem qlq (x y : Int) : x < y ∨ y ≤ x := by omega
theorem qn2 (s r : List Nat) (a : Nat) : hd (s ++ r) a = hd s (hd r a) := by cases s <;> rfl
theorem qqi {a : Nat} : ∀ {s r : List Nat}, Rw n ms a r → Rw n ms (hd r a) s → Rw n ms a (s ++ r)
 | [], _, h, _ => h
 | v :: s, r, h, ⟨h1, h2, h3⟩ => ⟨h1, by show Adj n ms (hd (s ++ r) a) v; rw [qn2]; exact h2, qqi h h3⟩
theorem q1i {a : Nat} : ∀ {s r : List Nat}, Rw n ms a (s ++ r) → Rw n ms a r ∧ Rw n ms (hd r a) s
 | [], _, h => ⟨h, trivial⟩
 | v :: s, r, ⟨h1, h2, h3⟩ => by
  obtain ⟨h4, h5⟩ := q1i h3
  exact ⟨h4, h1, by rw [← qn2]; exact h2, h5⟩
theorem q95 {a : Nat} : ∀ {s : List Nat}, Rw n ms a s → ∀ v ∈ s, v < n
 | [], _, _, h => by cases h
 | v :: s, ⟨h1, _, h3⟩, w, h => by
  rcases List.mem_cons.1 h with rfl | h
  ·exact h1
  ·exact q95 h3 w h
theorem zco {a : Nat} (ha : a < n) : ∀ {s : List Nat}, Rw n ms a s → wk (Adj n ms) n a (hd s a) s.length
 | [], _ => rfl
 | v :: s, ⟨h1, h2, h3⟩ => q4e (zco ha h3) (q7w ha h3) (show wk (Adj n ms) n (hd s a) v 1 from h2)
theorem zgc {b : Nat} (hb : b < n) : ∀ (L a : Nat), wS (Adj n ms) n a b L → ∃ w, w.length = L + 1 ∧ hd w a = b ∧ Rw n ms a w
 | 0, a, h => ⟨[b], rfl, rfl, hb, h, trivial⟩
 | L + 1, a, ⟨x, hx, h1, h2⟩ => by
  obtain ⟨w, h3, h4, h5⟩ := zgc hb L x h2
  refine ⟨w ++ [x], by simp [h3], ?_, ?_⟩
  ·rw [qn2]; exact h4
  ·exact qqi (r := [x]) ⟨hx, h1, trivial⟩ h5
theorem zdt {a b L : Nat} (hb : b < n) (h : wk (Adj n ms) n a b L) : ∃ w, w.length = L ∧ hd w a = b ∧ Rw n ms a w := by
 cases L with
 | zero => exact ⟨[], rfl, h, trivial⟩
 | succ L => exact zgc hb L a h
theorem q88 (B : Nat) : ∀ (s r : List Nat), cd' B (s ++ r) = cd' B r * B ^ s.length + cd' B s
 | [], r => by simp [cd']
 | v :: s, r => by
  show cd' B (s ++ r) * B + (v + 1) = _
  rw [q88 B s r, List.length_cons, Nat.pow_succ, Nat.add_mul, Nat.mul_assoc]
  show _ = _ + (cd' B s * B + (v + 1))
  omega
theorem zfu (n : Nat) : ∀ (s : List Nat), (∀ v ∈ s, v < n) → cd' (n + 1) s + 1 ≤ (n + 1) ^ s.length
 | [], _ => Nat.le_refl _
 | v :: s, h => by
  have h1 := zfu n s (fun w hw => h w (List.mem_cons_of_mem _ hw))
  have h2 := h v (List.mem_cons_self ..)
  have h3 : (cd' (n + 1) s + 1) * (n + 1) ≤ (n + 1) ^ s.length * (n + 1) := Nat.mul_le_mul_right _ h1
  rw [Nat.add_mul, Nat.one_mul] at h3
  rw [List.length_cons, Nat.pow_succ]
  show cd' (n + 1) s * (n + 1) + (v + 1) + 1 ≤ _
  omega
theorem zim (n : Nat) : ∀ (v : Nat) (s : List Nat), (n + 1) ^ s.length ≤ cd' (n + 1) (v :: s)
 | v, [] => by simp [cd']
 | v, w :: s => by
  have h1 := zim n w s
  have h2 : (n + 1) ^ s.length * (n + 1) ≤ cd' (n + 1) (w :: s) * (n + 1) := Nat.mul_le_mul_right _ h1
  rw [List.length_cons, Nat.pow_succ]
  show _ ≤ cd' (n + 1) (w :: s) * (n + 1) + (v + 1)
  omega
theorem zcb {x w : List Nat} (hw : ∀ v ∈ w, v < n) (h : w.length < x.length) : cd' (n + 1) w < cd' (n + 1) x := by
 cases x with
 | nil => simp at h
 | cons v x =>
  have h1 := zfu n w hw
  have h2 := zim n v x
  have h3 : (n + 1) ^ w.length ≤ (n + 1) ^ x.length := Nat.pow_le_pow_right (by omega) (by simp at h; omega)
  omega
theorem zfv {s s' r : List Nat} {z z' : Nat} (hs' : ∀ v ∈ s', v < n) (hl : s'.length = s.length) (hz : z' < z) : cd' (n + 1) (s' ++ z' :: r) < cd' (n + 1) (s ++ z :: r) := by
 rw [q88, q88, hl]
 have h1 := zfu n s' hs'
 rw [hl] at h1
 have h2 : cd' (n + 1) (z' :: r) + 1 ≤ cd' (n + 1) (z :: r) := by
  show cd' (n + 1) r * (n + 1) + (z' + 1) + 1 ≤ cd' (n + 1) r * (n + 1) + (z + 1)
  omega
 have h3 := Nat.mul_le_mul_right ((n + 1) ^ s.length) h2
 rw [Nat.add_mul, Nat.one_mul] at h3
 omega
theorem zix {a : Nat} {T : List (List Nat)} (hnd : (T.map (hd · a)).Nodup) {x y : List Nat} (hx : x ∈ T) (hy : y ∈ T) (h : hd x a = hd y a) : x = y := by
 obtain ⟨i, hi, rfl⟩ := List.mem_iff_getElem.1 hx
 obtain ⟨j, hj, rfl⟩ := List.mem_iff_getElem.1 hy
 have hp := List.pairwise_iff_getElem.1 hnd
 rcases Nat.lt_trichotomy i j with e | e | e
 ·exact absurd (by rw [List.getElem_map, List.getElem_map]; exact h) (hp i j (by simpa using hi) (by simpa using hj) e)
 ·subst e; rfl
 ·exact absurd (by rw [List.getElem_map, List.getElem_map]; exact h.symm) (hp j i (by simpa using hj) (by simpa using hi) e)
theorem q80 (hl : ms.length = n * n) {y b k : Nat} (hy : y < n) (hb : b < n) (hw : wk (Adj n ms) n y b k) (hmin : ∀ w, Rw n ms y w → hd w y = b → k ≤ w.length) : (dist n ms).getD (y * n + b) 0 = k := by
 obtain ⟨h1, h2⟩ := qtk hl y b k hy hb hw
 obtain ⟨w, h3, h4, h5⟩ := zdt hb (qlx hl y b hy hb h1)
 have := hmin w h5 h4
 omega
theorem zi5 (hl : ms.length = n * n) {a b : Nat} (ha : a < n) (hb : b < n) {x : List Nat} (hx : Rw n ms a x) (hxb : hd x a = b) (hmin : ∀ w, Rw n ms a w → hd w a = b → cd' (n + 1) x ≤ cd' (n + 1) w) :
  ∀ (p r : List Nat), p.reverse ++ r = x → Gp n ms (dist n ms) b (hd r a) p
 | [], r, h => by
  have : r = x := h
  subst this; rw [hxb]; exact .nil
 | z :: s, r, h => by
  rw [List.reverse_cons, List.append_assoc] at h
  have h' : s.reverse ++ z :: r = x := h
  subst h'
  obtain ⟨⟨hz, hadj, hr⟩, hs⟩ := q1i hx
  have hxb' : hd s.reverse z = b := by rw [← hxb, qn2]; rfl
  have hyn := q7w ha hr
  have hls : s.reverse.length = s.length := List.length_reverse
  -- a shorter way on is none
  have key : ∀ (w r' : List Nat), Rw n ms a r' → Rw n ms (hd r' a) w → hd w (hd r' a) = b → (s.reverse ++ z :: r).length ≤ (w ++ r').length := by
   intro w r' hr' hw hwb
   rcases Nat.lt_or_ge (w ++ r').length (s.reverse ++ z :: r).length with e | e
   ·have h1 := hmin (w ++ r') (qqi hr' hw) (by rw [qn2]; exact hwb)
    have h2 := zcb (q95 (qqi hr' hw)) e
    omega
   ·exact e
  have dz : (dist n ms).getD (z * n + b) 0 = s.length := by
   refine q80 hl hz hb ?_ fun w hw hwb => ?_
   ·have := zco hz hs
    rw [hls] at this
    have h9 : hd s.reverse (hd (z :: r) a) = b := hxb'
    rw [show hd s.reverse z = b from hxb'] at this
    exact this
   ·have := key w (z :: r) ⟨hz, hadj, hr⟩ hw hwb
    simp only [List.length_append, List.length_cons, hls] at this; omega
  have dy : (dist n ms).getD (hd r a * n + b) 0 = (s.length + 1 : Nat) := by
   refine q80 hl hyn hb ?_ fun w hw hwb => ?_
   ·have h1 : Rw n ms (hd r a) (s.reverse ++ [z]) := qqi (r := [z]) ⟨hz, hadj, trivial⟩ hs
    have := zco hyn h1
    rw [qn2] at this
    rw [show hd s.reverse (hd [z] (hd r a)) = b from hxb'] at this
    rw [show (s.reverse ++ [z]).length = s.length + 1 by simp] at this
    exact this
   ·have := key w r hr hw hwb
    simp only [List.length_append, List.length_cons, hls] at this; omega
  refine .cons (fun e => ?_) ⟨hz, ⟨hadj, by rw [dz]; omega, by rw [dz, dy]; omega⟩, fun k hk hnx => ?_⟩ (zi5 hl ha hb hx hxb hmin s (z :: r) rfl)
  ·have := key [] r hr trivial e
   simp only [List.length_append, List.length_cons, List.length_nil] at this; omega
  ·obtain ⟨h1, h2, h3⟩ := hnx
   rw [dy] at h3
   have hkn : k < n := by omega
   obtain ⟨w, h4, h5, h6⟩ := zdt hb (qlx hl k b hkn hb h2)
   rw [h3] at h4
   have hr' : Rw n ms a (k :: r) := ⟨hkn, h1, hr⟩
   have h7 := hmin (w ++ k :: r) (qqi hr' h6) (by rw [qn2]; exact h5)
   have h8 := zfv (s := s.reverse) (s' := w) (r := r) (z := z) (z' := k) (q95 h6) (by rw [h4, hls]; omega) hk
   omega
theorem zi8 {a : Nat} (hn : n ≤ 256) {T : List (List Nat)} {t : Nat} {s : Wk} (h : Inv n ms a T t s) : ∀ (x : List Nat), x ∈ T → Ch s.f a (x ++ [a])
 | [], _ => .one
 | v :: x, hx => by
  obtain ⟨h1, h2⟩ := h.par v x hx
  obtain ⟨i, _, h3, _⟩ := h.fst v x hx
  have ih := zi8 hn h x (List.mem_of_getElem? h3)
  have hv : v < 256 := by have : v < n := (h.rw' _ hx).1; omega
  cases x with
  | nil => exact .cons h1 hv h2 ih
  | cons w x => exact .cons h1 hv h2 ih
theorem q90 {a : Nat} {T : List (List Nat)} {t : Nat} {s : Wk} (h : Inv n ms a T t s) : ∀ (x : List Nat) (i : Nat), T[i]? = some x → x.length ≤ i
 | [], _, _ => Nat.zero_le _
 | v :: x, i, hi => by
  obtain ⟨j, _, h3, _⟩ := h.fst v x (List.mem_of_getElem? hi)
  have ih := q90 h x j h3
  have hit : i < T.length := by
   rcases Nat.lt_or_ge i T.length with h | h
   ·exact h
   ·rw [List.getElem?_eq_none h] at hi; cases hi
  have hjt : j < T.length := by
   rcases Nat.lt_or_ge j T.length with h | h
   ·exact h
   ·rw [List.getElem?_eq_none h] at h3; cases h3
  rw [List.getElem?_eq_getElem hit] at hi
  rw [List.getElem?_eq_getElem hjt] at h3
  have hlt : cd' (n + 1) x < cd' (n + 1) (v :: x) := by
   show _ < cd' (n + 1) x * (n + 1) + (v + 1)
   rw [Nat.mul_add, Nat.mul_one]; omega
  rcases Nat.lt_or_ge j i with e | e
  ·rw [List.length_cons]; omega
  ·exfalso
   rcases Nat.eq_or_lt_of_le e with e | e
   ·subst e
    rw [Option.some.injEq] at hi h3
    rw [← hi, ← h3] at hlt
    omega
   ·have := List.pairwise_iff_getElem.1 h.pw i j hit hjt e
    rw [Option.some.injEq] at hi h3
    rw [hi, h3] at this
    omega
theorem q2n {n : Nat} {ms : List Nat} (hn : n < 13) (hM : MOk n ms) : qjv n ms := by
 have hl := hM.len
 refine ⟨dbnd hl hn, dbnd2 hl hn, fun a ha => ?_⟩
 obtain ⟨hends, T, q, hI⟩ := zdm (ms := ms) hM.hn ha n [[]] 0 (qa2 a) (by omega) (Inv.start ms ha hM.hn)
 have iff : ∀ b, b < n → ((bfs (qan n ms) n (qa2 a)).getD b 0 < 0 ↔ (dist n ms).getD (a * n + b) 0 < 0) := by
  intro b hb
  have h1 := hI.iff b (by omega)
  constructor
  ·intro h
   rcases qlq ((dist n ms).getD (a * n + b) 0) 0 with h2 | h2
   ·exact h2
   ·obtain ⟨w, _, h4, h5⟩ := zdt hb (qlx hl a b ha hb h2)
    obtain ⟨x, hx, h6, _⟩ := least hI w h5
    have := h1.2 ⟨x, hx, by rw [h6, h4]⟩
    exact absurd this (Int.not_le.2 h)
  ·intro h
   rcases qlq ((bfs (qan n ms) n (qa2 a)).getD b 0) 0 with h2 | h2
   ·exact h2
   ·obtain ⟨x, hx, h3⟩ := h1.1 h2
    have h4 := zco ha (hI.rw' x hx)
    rw [h3] at h4
    have := (qtk hl a b _ ha hb h4).1
    omega
 refine ⟨n, ⟨qdr n ms, hM.hn, q8u ms hn, by omega, hends⟩, ?_, fun b hb => ⟨iff b hb, fun hneg => ?_⟩⟩
 ·have main : ∀ i, i ≤ 256 → qus (bfs (qan n ms) n (qa2 a)) i = q4g n (dist n ms) a (min i n) := by
   intro i
   induction i with
   | zero => intro _; rw [Nat.zero_min]; rfl
   | succ i ih =>
    intro hi
    rw [qxc, ih (by omega)]
    by_cases h : i < n
    ·rw [show min (i + 1) n = min i n + 1 by omega, show min i n = i by omega, q1p]
     by_cases h2 : (bfs (qan n ms) n (qa2 a)).getD i 0 < 0
     ·rw [if_pos h2, if_pos ((iff i h).1 h2)]
     ·rw [if_neg h2, if_neg (fun h3 => h2 ((iff i h).2 h3))]
    ·rw [show min (i + 1) n = min i n by omega]
     have : (bfs (qan n ms) n (qa2 a)).getD i 0 < 0 := by
      rcases qlq ((bfs (qan n ms) n (qa2 a)).getD i 0) 0 with h2 | h2
      ·exact h2
      ·obtain ⟨x, hx, h3⟩ := (hI.iff i (by omega)).1 h2
       have := q7w ha (hI.rw' x hx)
       omega
     rw [if_pos this, List.append_nil]
  rw [main 256 (Nat.le_refl _), show min 256 n = n by omega]
 ·have hpos : 0 ≤ (bfs (qan n ms) n (qa2 a)).getD b 0 := by
   rcases qlq ((bfs (qan n ms) n (qa2 a)).getD b 0) 0 with h2 | h2
   ·exact absurd ((iff b hb).1 h2) hneg
   ·exact h2
  obtain ⟨x, hx, hxb⟩ := (hI.iff b (by omega)).1 hpos
  have hch := zi8 hM.hn hI x hx
  have hmin : ∀ w, Rw n ms a w → hd w a = b → cd' (n + 1) x ≤ cd' (n + 1) w := by
   intro w hw hwb
   obtain ⟨y, hy, h1, h2⟩ := least hI w hw
   have := zix hI.nd hy hx (by rw [h1, hwb, hxb])
   subst this
   exact h2
  have hgp := zi5 hl ha hb (hI.rw' x hx) hxb hmin x.reverse [] (by rw [List.reverse_reverse, List.append_nil])
  obtain ⟨i, hi, hxi⟩ := List.mem_iff_getElem.1 hx
  have hsh := q90 hI x i (by rw [List.getElem?_eq_getElem hi, hxi])
  have hcard := hI.card ha
  have hsplit : x ++ [a] = b :: (x ++ [a]).tail := by
   cases x with
   | nil => rw [show b = a from hxb.symm]; rfl
   | cons v x => rw [show b = v from hxb.symm]; rfl
  refine ⟨(x ++ [a]).tail, x.reverse, by rw [← hsplit]; exact hch, ?_, hgp, by rw [← hsplit, List.reverse_append]; rfl⟩
  simp only [List.length_tail, List.length_append, List.length_cons, List.length_nil]
  omega
end Go.Di
end
section
/-
 Strata of a graph, without any program: the least numbers that fit.
-/
namespace Go.Di
open Go.Ev Go.Di.T Go.Sort
def stN (e : Edge) : Nat := if e.s then 1 else 0
def Fit (n : Nat) (es : List Edge) (o : List Nat) : Prop := o.length = n ∧ ∀ e ∈ es, o.getD e.t 0 + stN e ≤ o.getD e.f 0
def Lst (n : Nat) (es : List Edge) (o : List Nat) : Prop := ∀ S, Fit n es S → ∀ x, x < n → o.getD x 0 ≤ S.getD x 0
theorem zbs {n : Nat} {es : List Edge} {o o' : List Nat} (h : Fit n es o) (l : Lst n es o) (h' : Fit n es o') (l' : Lst n es o') : o = o' := by
 apply List.ext_getElem (h.1.trans h'.1.symm)
 intro i h1 h2
 have hi : i < n := by have := h.1; omega
 have a := l o' h' i hi
 have b := l' o h i hi
 rw [List.getD_eq_getElem?_getD, List.getD_eq_getElem?_getD, List.getElem?_eq_getElem h1, List.getElem?_eq_getElem h2] at a b
 have a : o[i] ≤ o'[i] := a
 have b : o'[i] ≤ o[i] := b
 omega
theorem zc9 {n : Nat} {es : List Edge} {S : List Nat} (h : Fit n es S) {a b : Nat} (hr : Rc (qbc es) a b) : S.getD b 0 ≤ S.getD a 0 := by
 induction hr with
 | refl => exact Nat.le_refl _
 | step _ hst ih =>
  obtain ⟨x, hx, rfl, rfl⟩ := qcn.1 hst
  have := h.2 x hx
  omega
theorem qvo {n : Nat} {es : List Edge} {S : List Nat} (h : Fit n es S) {e : Edge} (he : e ∈ es) (hs : e.s = true) (hr : Rc (qbc es) e.t e.f) : False := by
 have h1 := h.2 e he
 have h2 := zc9 h hr
 unfold stN at h1
 rw [if_pos hs] at h1
 omega
structure OutI (n : Nat) (es : List Edge) (ins : List Nat) (i : Nat) (o : List Nat) : Prop where
 len : o.length = n
 zero : ∀ x, x < n → i ≤ ins.getD x 0 → o.getD x 0 = 0
 up : ∀ e ∈ es, ins.getD e.f 0 < i → ins.getD e.t 0 ≠ ins.getD e.f 0 → o.getD e.t 0 + stN e ≤ o.getD e.f 0
 why : ∀ x, x < n → ins.getD x 0 < i → o.getD x 0 = 0 ∨ ∃ e ∈ es, ins.getD e.f 0 = ins.getD x 0 ∧ ins.getD e.t 0 ≠ ins.getD x 0 ∧ o.getD x 0 = o.getD e.t 0 + stN e
 same : ∀ x y, x < n → y < n → ins.getD x 0 = ins.getD y 0 → o.getD x 0 = o.getD y 0
 bd : ∀ x, x < n → o.getD x 0 ≤ ins.getD x 0
theorem rep0 (n x : Nat) : (List.replicate n 0).getD x 0 = 0 := by
 rw [List.getD_eq_getElem?_getD, List.getElem?_replicate]
 split <;> rfl
theorem OutI.start (n : Nat) (es : List Edge) (ins : List Nat) : OutI n es ins 0 (List.replicate n 0) :=
 ⟨by simp, fun x _ _ => rep0 n x, fun e _ h => absurd h (Nat.not_lt_zero _), fun x _ h => absurd h (Nat.not_lt_zero _), fun x y _ _ _ => by rw [rep0, rep0], fun x _ => by rw [rep0]; omega⟩
def asks (es : List Edge) (ins o : List Nat) (i : Nat) : List Nat := (es.filter fun e => decide (ins.getD e.f 0 = i) && !decide (ins.getD e.t 0 = i)).map fun e => o.getD e.t 0 + stN e
def maxL (l : List Nat) : Nat := l.foldl max 0
theorem q8f (l : List Nat) : ∀ a, a ≤ l.foldl max a ∧ (∀ x ∈ l, x ≤ l.foldl max a) ∧ (l.foldl max a = a ∨ l.foldl max a ∈ l) := by
 induction l with
 | nil => intro a; exact ⟨Nat.le_refl _, fun x h => (by cases h), Or.inl rfl⟩
 | cons y l ih =>
  intro a
  obtain ⟨h1, h2, h3⟩ := ih (max a y)
  show a ≤ l.foldl max (max a y) ∧ (∀ x ∈ y :: l, x ≤ l.foldl max (max a y)) ∧ (l.foldl max (max a y) = a ∨ l.foldl max (max a y) ∈ y :: l)
  refine ⟨by omega, fun x hx => ?_, ?_⟩
  ·rcases List.mem_cons.1 hx with rfl | hx
   ·omega
   ·exact h2 x hx
  ·rcases h3 with h3 | h3
   ·by_cases hay : y ≤ a
    ·left; omega
    ·right; rw [h3, show max a y = y by omega]; exact List.mem_cons_self
   ·right; exact List.mem_cons_of_mem _ h3
theorem qt3 {es : List Edge} {ins o : List Nat} {i x : Nat} : x ∈ asks es ins o i ↔ ∃ e ∈ es, ins.getD e.f 0 = i ∧ ins.getD e.t 0 ≠ i ∧ x = o.getD e.t 0 + stN e := by
 unfold asks
 rw [List.mem_map]
 constructor
 ·rintro ⟨e, he, rfl⟩
  obtain ⟨he, hp⟩ := List.mem_filter.1 he
  rw [Bool.and_eq_true, decide_eq_true_eq, Bool.not_eq_true', decide_eq_false_iff_not] at hp
  exact ⟨e, he, hp.1, hp.2, rfl⟩
 ·rintro ⟨e, he, h1, h2, rfl⟩
  exact ⟨e, List.mem_filter.2 ⟨he, by rw [decide_eq_true h1, decide_eq_false h2]; rfl⟩, rfl⟩
def qh5 (o : List Nat) (v : Nat) : List Nat → List Nat
 | [] => o
 | x :: l => qh5 (o.set x v) v l
theorem q0u (cs : List Nat) (a c v : Nat) (hc : c < cs.length) : (cs.set a v).getD c 0 = if a = c then v else cs.getD c 0 := by
 rw [List.getD_eq_getElem?_getD, List.getD_eq_getElem?_getD, List.getElem?_set]
 by_cases h : a = c
 ·subst h; rw [if_pos rfl, if_pos rfl, if_pos hc]; rfl
 ·rw [if_neg h, if_neg h]
theorem qn5 (v : Nat) : ∀ (l o : List Nat), (qh5 o v l).length = o.length
 | [], _ => rfl
 | x :: l, o => (qn5 v l _).trans List.length_set
theorem qvr (v : Nat) {y : Nat} : ∀ (l o : List Nat), y < o.length → (qh5 o v l).getD y 0 = if y ∈ l then v else o.getD y 0
 | [], o, _ => by simp [qh5]
 | x :: l, o, h => by
  rw [qh5, qvr v l _ (by rw [List.length_set]; exact h), q0u _ _ _ _ h]
  by_cases h1 : y ∈ l
  ·rw [if_pos h1, if_pos (List.mem_cons_of_mem _ h1)]
  ·rw [if_neg h1]
   by_cases h2 : x = y
   ·subst h2; rw [if_pos rfl, if_pos List.mem_cons_self]
   ·rw [if_neg h2, if_neg fun h => (List.mem_cons.1 h).elim (fun e => h2 e.symm) h1]
theorem qqa (v x : Nat) : ∀ (l o : List Nat), qh5 o v (l ++ [x]) = (qh5 o v l).set x v
 | [], _ => rfl
 | _ :: l, _ => qqa v x l _
theorem OutI.step {n : Nat} {es : List Edge} {ins : List Nat} {i : Nat} {o c : List Nat} (h : OutI n es ins i o) (hE : ∀ e ∈ es, e.f < n ∧ e.t < n) (hc : ∀ x, x < n → (x ∈ c ↔ ins.getD x 0 = i)) (hd : ∀ e ∈ es, ins.getD e.t 0 ≤ ins.getD e.f 0) : OutI n es ins (i + 1) (qh5 o (maxL (asks es ins o i)) c) := by
 have g : ∀ x, x < n → (qh5 o (maxL (asks es ins o i)) c).getD x 0 = if ins.getD x 0 = i then maxL (asks es ins o i) else o.getD x 0 := fun x hx => by
  rw [qvr _ _ _ (by rw [h.len]; exact hx)]
  by_cases hi : ins.getD x 0 = i
  ·rw [if_pos hi, if_pos ((hc x hx).2 hi)]
  ·rw [if_neg hi, if_neg fun m => hi ((hc x hx).1 m)]
 obtain ⟨_, m2, m3⟩ := q8f (asks es ins o i) 0
 refine ⟨by rw [qn5, h.len], fun x hx hi => ?_, fun e he hi hne => ?_, fun x hx hi => ?_, fun x y hx hy e => ?_, fun x hx => ?_⟩
 ·rw [g x hx, if_neg (by omega)]
  exact h.zero x hx (by omega)
 ·obtain ⟨l1, l2⟩ := hE e he
  have := hd e he
  rw [g _ l1, g _ l2, if_neg (by omega)]
  by_cases hf : ins.getD e.f 0 = i
  ·rw [if_pos hf]
   exact m2 _ (qt3.2 ⟨e, he, hf, by omega, rfl⟩)
  ·rw [if_neg hf]
   exact h.up e he (by omega) hne
 ·rw [g x hx]
  by_cases hf : ins.getD x 0 = i
  ·rw [if_pos hf]
   rcases m3 with m3 | m3
   ·exact Or.inl m3
   ·obtain ⟨e, he, h1, h2, h3⟩ := qt3.1 m3
    refine Or.inr ⟨e, he, h1.trans hf.symm, by rw [hf]; exact h2, ?_⟩
    rw [g _ (hE e he).2, if_neg h2]
    exact h3
  ·rw [if_neg hf]
   rcases h.why x hx (by omega) with h0 | ⟨e, he, h1, h2, h3⟩
   ·exact Or.inl h0
   ·refine Or.inr ⟨e, he, h1, h2, ?_⟩
    have := hd e he
    rw [g _ (hE e he).2, if_neg (by omega)]
    exact h3
 ·rw [g x hx, g y hy, e]
  split
  ·rfl
  ·exact h.same x y hx hy e
 ·rw [g x hx]
  by_cases hf : ins.getD x 0 = i
  ·rw [if_pos hf, hf]
   rcases m3 with m3 | m3
   ·have m3 : maxL (asks es ins o i) = 0 := m3
    omega
   ·obtain ⟨e, he, h1, h2, h3⟩ := qt3.1 m3
    have h3 : maxL (asks es ins o i) = o.getD e.t 0 + stN e := h3
    have h4 := hd e he
    have h5 := h.bd e.t (hE e he).2
    have : stN e ≤ 1 := by unfold stN; split <;> omega
    omega
  ·rw [if_neg hf]; exact h.bd x hx
theorem OutI.done {n : Nat} {es : List Edge} {ins : List Nat} {res : List (List Nat)} {o : List Nat} (h : OutI n es ins res.length o) (hE : ∀ e ∈ es, e.f < n ∧ e.t < n) (hN : Nm n res ins) (hF : OrdF n (qbc es) [] res) (hd : ∀ e ∈ es, ins.getD e.t 0 ≤ ins.getD e.f 0) (hm : ∀ e ∈ es, e.s = true → ins.getD e.f 0 ≠ ins.getD e.t 0) :
  Fit n es o ∧ Lst n es o ∧ ∀ x, x < n → o.getD x 0 ≤ ins.getD x 0 := by
 refine ⟨⟨h.len, fun e he => ?_⟩, fun S hS => ?_, ?_⟩
 ·obtain ⟨l1, l2⟩ := hE e he
  by_cases hs : ins.getD e.t 0 = ins.getD e.f 0
  ·have hns : ¬ e.s = true := fun t => hm e he t hs.symm
   unfold stN
   rw [if_neg hns, h.same _ _ l2 l1 hs]
   exact Nat.le_refl _
  ·exact h.up e he (hN.lt l1) hs
 ·have key : ∀ m x, ins.getD x 0 = m → x < n → o.getD x 0 ≤ S.getD x 0 := fun m => by
   induction m using Nat.strongRecOn with
   | _ m ih =>
    intro x hx hxn
    rcases h.why x hxn (hN.lt hxn) with h0 | ⟨e, he, h1, h2, h3⟩
    ·omega
    ·obtain ⟨l1, l2⟩ := hE e he
     have h4 := hd e he
     have h5 := ih (ins.getD e.t 0) (by omega) e.t rfl l2
     have h6 := hS.2 e he
     have h7 := zc9 hS ((hN.eq hF hxn l1).1 h1.symm).1
     omega
  exact fun x hx => key _ x rfl hx
 ·exact h.bd
def FitM (n : Nat) (ms o : List Nat) : Prop := ∀ i k, i < n → k < n → 0 < ms.getD (i * n + k) 0 → o.getD k 0 + (if 1 < ms.getD (i * n + k) 0 then 1 else 0) ≤ o.getD i 0
theorem zbt {n : Nat} {ms o : List Nat} (hl : o.length = n) (h3 : ∀ x ∈ ms, x ≤ 3) : FitM n ms o ↔ Fit n (qan n ms) o := by
 constructor
 ·intro h
  refine ⟨hl, fun e he => ?_⟩
  obtain ⟨t, ht, rfl⟩ := List.mem_map.1 he
  obtain ⟨l1, l2, l3, l4⟩ := qic ht
  have := h t.f t.t l1 l2 l4
  show o.getD t.t 0 + stN (toE t) ≤ o.getD t.f 0
  unfold stN toE
  by_cases hs : t.s = 1
  ·have h1 := eM_s ht hs
   rw [if_pos h1] at this
   rw [if_pos (decide_eq_true hs)]
   exact this
  ·rw [if_neg (by simpa using hs)]
   omega
 ·intro h i k hi hk hp
  by_cases h1 : 1 < ms.getD (i * n + k) 0
  ·have := h.2 _ (List.mem_map.2 ⟨_, zdf h1 hk hi, rfl⟩)
   rw [if_pos h1]
   exact this
  ·rw [if_neg h1]
   obtain ⟨e, he, rfl, rfl⟩ := qti hi hk hp
   have := h.2 e he
   omega
end Go.Di
end
section
/-
 Contracts: the reference's numbers.
-/
namespace Go.Di
open Go.Ev Go.Di.T Go.Sort
variable {C : Nat → Ev.Call} {LA LO : LP}
theorem q4n : ∀ (o : List Nat) (i v : Nat), i < o.length → (o.set i v).sum + o.getD i 0 = o.sum + v
 | x :: l, 0, v, _ => by simp; omega
 | x :: l, i + 1, v, h => by
  have := q4n l i v (by simpa using h)
  simp at this ⊢
  omega
theorem zcy : ∀ (o : List Nat) (m : Nat), (∀ x ∈ o, x ≤ m) → o.sum ≤ o.length * m
 | [], _, _ => by simp
 | x :: l, m, h => by
  have h1 := zcy l m fun y hy => h y (List.mem_cons_of_mem _ hy)
  have h2 := h x List.mem_cons_self
  rw [List.sum_cons, List.length_cons, Nat.add_mul, Nat.one_mul]
  omega
structure RE (H1 : Hp) (n a0 mb ob : Nat) (ms : List Nat) : Prop where
 g0 : H1.get a0 = qaa 0 [.int .i64 (.ofNat n), .sl mb 0 (n * n) (n * n) true]
 gm : H1.get mb = qaa 0 (nats ms)
 lt : a0 < H1.nx ∧ mb < H1.nx
 ne : a0 ≠ ob ∧ mb ≠ ob
 len : ms.length = n * n
 n : n ≤ 256
structure NS (n : Nat) (ms o : List Nat) : Prop where
 len : o.length = n
 lst : ∀ S, S.length = n → FitM n ms S → ∀ x, x < n → o.getD x 0 ≤ S.getD x 0
 sm : ∀ x, x < n → o.getD x 0 ≤ n
theorem NS.sum {n : Nat} {ms o : List Nat} (h : NS n ms o) : o.sum ≤ n * n := by
 have := zcy o n fun x hx => by
  obtain ⟨i, hi, rfl⟩ := List.mem_iff_getElem.1 hx
  have := h.sm i (by have := h.len; omega)
  rwa [List.getD_eq_getElem?_getD, List.getElem?_eq_getElem hi] at this
 rwa [h.len] at this
structure PI (n : Nat) (ms o0 o : List Nat) (ch : Bool) (i k : Nat) : Prop where
 ns : NS n ms o
 up : ch = true → o0.sum < o.sum
 no : ch = false → o = o0 ∧ ∀ i' k', i' < n → k' < n → (i' < i ∨ (i' = i ∧ k' < k)) → 0 < ms.getD (i' * n + k') 0 → o.getD k' 0 + (if 1 < ms.getD (i' * n + k') 0 then 1 else 0) ≤ o.getD i' 0
 le : o0.sum ≤ o.sum
def ask (n : Nat) (ms o : List Nat) (i k : Nat) : Nat := o.getD k 0 + (if 1 < ms.getD (i * n + k) 0 then 1 else 0)
theorem PI.keep {n : Nat} {ms o0 o : List Nat} {ch : Bool} {i k : Nat} (h : PI n ms o0 o ch i k) (hp : 0 < ms.getD (i * n + k) 0 → ask n ms o i k ≤ o.getD i 0) : PI n ms o0 o ch i (k + 1) :=
 ⟨h.ns, h.up, fun hc => ⟨(h.no hc).1, fun i' k' hi hk hv hb => by
  rcases hv with hv | ⟨rfl, hv⟩
  ·exact (h.no hc).2 i' k' hi hk (Or.inl hv) hb
  ·by_cases e : k' = k
   ·subst e; exact hp hb
   ·exact (h.no hc).2 i' k' hi hk (Or.inr ⟨rfl, by omega⟩) hb⟩, h.le⟩
theorem q9w {n : Nat} {ms o S : List Nat} {i k : Nat} (h : NS n ms o) (hi : i < n) (hk : k < n) (hb : 0 < ms.getD (i * n + k) 0) (hl : S.length = n) (hS : FitM n ms S) : ask n ms o i k ≤ S.getD i 0 := by
 have h1 := hS i k hi hk hb
 have h2 := h.lst S hl hS k hk
 unfold ask
 omega
theorem PI.raise {n : Nat} {ms o0 o : List Nat} {ch : Bool} {i k : Nat} (h : PI n ms o0 o ch i k) (hi : i < n) (hk : k < n) (hb : 0 < ms.getD (i * n + k) 0) (hlt : o.getD i 0 < ask n ms o i k) (hn : ask n ms o i k ≤ n) : PI n ms o0 (o.set i (ask n ms o i k)) true i (k + 1) := by
 have hl := h.ns.len
 have hs := q4n o i (ask n ms o i k) (by omega)
 refine ⟨⟨by rw [List.length_set]; exact hl, fun S hSl hS x hx => ?_, fun x hx => ?_⟩, fun _ => by have := h.le; omega, fun hc => (by cases hc), by have := h.le; omega⟩
 ·rw [q0u _ _ _ _ (by omega)]
  by_cases e : i = x
  ·subst e; rw [if_pos rfl]; exact q9w h.ns hi hk hb hSl hS
  ·rw [if_neg e]; exact h.ns.lst S hSl hS x hx
 ·rw [q0u _ _ _ _ (by omega)]
  by_cases e : i = x
  ·subst e; rw [if_pos rfl]; exact hn
  ·rw [if_neg e]; exact h.ns.sm x hx
theorem qkc (o : List Nat) (i : Nat) (h : i < o.length) : (nats o)[i]? = some (.int .i64 (.ofNat (o.getD i 0))) := by
 unfold nats
 rw [List.getElem?_map, List.getD_eq_getElem?_getD, List.getElem?_eq_getElem h]; rfl
theorem zc5 {call : Ev.Call} {H1 : Hp} {n a0 mb ob : Nat} {ms o0 : List Nat} (hE : RE H1 n a0 mb ob ms) (hob : ob < H1.nx) {i : Nat} (hi : i < n) {qr : AV → AV → Hp → R1} {qe : AV → Hp → R1} {Q : AV → Hp → Prop}
  (hr : (∀ S, S.length = n → FitM n ms S → ∃ x, x < n ∧ n < S.getD x 0) → ∀ H, Fm (fun b => b = ob) H1 H → Ok (qr .nilsl (.bool false) H) Q) (he : ∀ o ch H, PI n ms o0 o ch i n → H.get ob = qaa 0 (nats o) → Fm (fun b => b = ob) H1 H → Ok (qe (.bool ch) H) Q) :
  ∀ (f k : Nat) (o : List Nat) (ch : Bool) (H : Hp), n - k < f → k ≤ n → PI n ms o0 o ch i k → H.get ob = qaa 0 (nats o) → Fm (fun b => b = ob) H1 H →
   Ok (qd3 call qr qe (.ptr a0 0) (.sl ob 0 n n true) (.int .i64 (.ofNat i)) f (.bool ch) (.int .i64 (.ofNat k)) H) Q
 | 0, k, o, ch, H, h, _, _, _, _ => by omega
 | f + 1, k, o, ch, H, h, hk, hP, hg, hF => by
  show Ok (qxl call _ _ _ _ _ (qd3 call _ _ _ _ _ f) _ _ H) Q
  unfold qxl
  have g0 : H.get a0 = qaa 0 [.int .i64 (.ofNat n), .sl mb 0 (n * n) (n * n) true] := (hF.get _ hE.lt.1 hE.ne.1).trans hE.g0
  have gm : H.get mb = qaa 0 (nats ms) := (hF.get _ hE.lt.2 hE.ne.2).trans hE.gm
  have hlen := hP.ns.len
  have hml := hE.len
  have hn := hE.n
  by_cases hlt : k < n
  ·have i1 : i * n + k < n * n := qcl hi hlt
   have m1 : i * n ≤ 65536 := Nat.mul_le_mul (Nat.le_of_lt (Nat.lt_of_lt_of_le hi hn)) hn
   have v1 := qkc ms (i * n + k) (by omega)
   have v2 := qkc o k (by omega)
   have v3 := qkc o i (by omega)
   have s1 := hP.ns.sm k hlt
   have s2 := hP.ns.sm i hi
   have hng : ¬ n < o.getD i 0 := by omega
   have next : ∀ (o' : List Nat) (ch' : Bool) (H' : Hp), PI n ms o0 o' ch' i (k + 1) → H'.get ob = qaa 0 (nats o') → Fm (fun b => b = ob) H1 H' →
     Ok (qhn call qr (qd3 call qr qe (.ptr a0 0) (.sl ob 0 n n true) (.int .i64 (.ofNat i)) f) (.ptr a0 0) (.sl ob 0 n n true) (.bool ch') (.int .i64 (.ofNat i)) (.int .i64 (.ofNat k)) H') Q := fun o' ch' H' hP' hg' hF' => by
    unfold qhn
    have g0' : H'.get a0 = qaa 0 [.int .i64 (.ofNat n), .sl mb 0 (n * n) (n * n) true] := (hF'.get _ hE.lt.1 hE.ne.1).trans hE.g0
    have v3' := qkc o' i (by have := hP'.ns.len; omega)
    have s3 := hP'.ns.sm i hi
    have hng : ¬ n < o'.getD i 0 := by omega
    simp (disch := first | omega | exact ti rfl | (simp only [np, nq]; first | done | omega)) only [go_sem, reduceAdd, reduceMul, reduceSub, reduceLeDiff, reduceEqDiff, reduceShiftRight, reduceAnd, g0', hg', v3', hng, Nat.mul_one, Nat.zero_add]
    unfold qru
    simp (disch := first | omega | exact ti rfl | (simp only [np, nq]; first | done | omega)) only [go_sem, reduceAdd, reduceMul, reduceSub, reduceLeDiff, reduceEqDiff, reduceShiftRight, reduceAnd]
    exact zc5 hE hob hi hr he f (k + 1) o' ch' H' (by omega) (by omega) hP' hg' hF'
   have lift : 0 < ms.getD (i * n + k) 0 → Ok (qhm call qr (qd3 call qr qe (.ptr a0 0) (.sl ob 0 n n true) (.int .i64 (.ofNat i)) f) (.ptr a0 0) (.sl ob 0 n n true) (.bool ch) (.int .i64 (.ofNat i)) (.int .i64 (.ofNat k)) (.int .i64 (.ofNat (ask n ms o i k))) H) Q := fun hb => by
    unfold qhm
    by_cases hup : o.getD i 0 < ask n ms o i k
    ·have hst := qjh o i (ask n ms o i k) (by omega)
     have hle : i + 1 ≤ (nats o).length := by rw [qav]; omega
     by_cases hbig : ask n ms o i k ≤ n
     ·simp (disch := first | omega | exact ti rfl | (simp only [np, nq]; first | done | omega)) only [go_sem, reduceAdd, reduceMul, reduceSub, reduceLeDiff, reduceEqDiff, reduceShiftRight, reduceAnd, hg, v3, hup, hst, hle, Nat.mul_one, Nat.zero_add, List.length_cons, List.length_nil]
      exact next _ true _ (hP.raise hi hlt hb hup hbig) (qac _ _ _) (hF.put _ _ fun _ => rfl)
     ·have v4 : (nats (o.set i (ask n ms o i k)))[i]? = some (.int .i64 (.ofNat (ask n ms o i k))) := by
       rw [qkc _ _ (by rw [List.length_set]; omega), q0u _ _ _ _ (by omega), if_pos rfl]
      have hbig' : n < ask n ms o i k := by omega
      simp (disch := first | omega | exact ti rfl | (simp only [np, nq]; first | done | omega)) only [go_sem, reduceAdd, reduceMul, reduceSub, reduceLeDiff, reduceEqDiff, reduceShiftRight, reduceAnd, hg, v3, hup, hst, hle, Nat.mul_one, Nat.zero_add, List.length_cons, List.length_nil]
      unfold qhn
      have g0p : (H.put ob (qaa 0 (nats (o.set i (ask n ms o i k))))).get a0 = qaa 0 [.int .i64 (.ofNat n), .sl mb 0 (n * n) (n * n) true] := by
       rw [qam _ _ _ _ (by have := hE.ne.1; omega)]; exact g0
      simp (disch := first | omega | exact ti rfl | (simp only [np, nq]; first | done | omega)) only [go_sem, reduceAdd, reduceMul, reduceSub, reduceLeDiff, reduceEqDiff, reduceShiftRight, reduceAnd, g0p, v4, hbig', Nat.mul_one, Nat.zero_add]
      refine hr (fun S hl hS => ⟨i, hi, ?_⟩) _ (hF.put _ _ fun _ => rfl)
      have := q9w hP.ns hi hlt hb hl hS
      omega
    ·simp (disch := first | omega | exact ti rfl | (simp only [np, nq]; first | done | omega)) only [go_sem, reduceAdd, reduceMul, reduceSub, reduceLeDiff, reduceEqDiff, reduceShiftRight, reduceAnd, hg, v3, hup, Nat.mul_one, Nat.zero_add]
     exact next o ch H (hP.keep fun _ => by omega) hg hF
   simp (disch := first | omega | exact ti rfl | (simp only [np, nq]; first | done | omega)) only [go_sem, reduceAdd, reduceMul, reduceSub, reduceLeDiff, reduceEqDiff, reduceShiftRight, reduceAnd, g0, hlt]
   unfold qrt
   by_cases b1 : ms.getD (i * n + k) 0 = 1
   ·have hask : ask n ms o i k = o.getD k 0 := by unfold ask; rw [if_neg (by omega), Nat.add_zero]
    have b2 : ¬ 1 < ms.getD (i * n + k) 0 := by omega
    simp (disch := first | omega | exact ti rfl | (simp only [np, nq]; first | done | omega)) only [go_sem, reduceAdd, reduceMul, reduceSub, reduceLeDiff, reduceEqDiff, reduceShiftRight, reduceAnd, g0, gm, hg, v1, v2, b1, Nat.mul_one, Nat.zero_add]
    unfold qhl
    simp (disch := first | omega | exact ti rfl | (simp only [np, nq]; first | done | omega)) only [go_sem, reduceAdd, reduceMul, reduceSub, reduceLeDiff, reduceEqDiff, reduceShiftRight, reduceAnd, g0, gm, hg, v1, b1, Nat.mul_one, Nat.zero_add]
    rw [← hask]
    exact lift (by omega)
   ·by_cases b2 : 1 < ms.getD (i * n + k) 0
    ·have hask : ask n ms o i k = o.getD k 0 + 1 := by unfold ask; rw [if_pos b2]
     simp (disch := first | omega | exact ti rfl | (simp only [np, nq]; first | done | omega)) only [go_sem, reduceAdd, reduceMul, reduceSub, reduceLeDiff, reduceEqDiff, reduceShiftRight, reduceAnd, g0, gm, hg, v1, b1, Nat.mul_one, Nat.zero_add]
     unfold qhl
     simp (disch := first | omega | exact ti rfl | (simp only [np, nq]; first | done | omega)) only [go_sem, reduceAdd, reduceMul, reduceSub, reduceLeDiff, reduceEqDiff, reduceShiftRight, reduceAnd, g0, gm, hg, v1, v2, b2, Nat.mul_one, Nat.zero_add]
     rw [← hask]
     exact lift (by omega)
    ·simp (disch := first | omega | exact ti rfl | (simp only [np, nq]; first | done | omega)) only [go_sem, reduceAdd, reduceMul, reduceSub, reduceLeDiff, reduceEqDiff, reduceShiftRight, reduceAnd, g0, gm, hg, v1, b1, Nat.mul_one, Nat.zero_add]
     unfold qhl
     simp (disch := first | omega | exact ti rfl | (simp only [np, nq]; first | done | omega)) only [go_sem, reduceAdd, reduceMul, reduceSub, reduceLeDiff, reduceEqDiff, reduceShiftRight, reduceAnd, g0, gm, hg, v1, b2, Nat.mul_one, Nat.zero_add]
     unfold qhm
     have hneg : ¬ (Int.ofNat (o.getD i 0) < Int.negSucc 0) := by
      have := Int.negSucc_lt_zero 0
      simp only [Int.ofNat_eq_natCast]
      omega
     simp (disch := first | omega | exact ti rfl | (simp only [np, nq]; first | done | omega)) only [go_sem, reduceAdd, reduceMul, reduceSub, reduceLeDiff, reduceEqDiff, reduceShiftRight, reduceAnd, hg, v3, hneg, Nat.mul_one, Nat.zero_add]
     exact next o ch H (hP.keep fun h => by omega) hg hF
  ·simp (disch := first | omega | exact ti rfl | (simp only [np, nq]; first | done | omega)) only [go_sem, reduceAdd, reduceMul, reduceSub, reduceLeDiff, reduceEqDiff, reduceShiftRight, reduceAnd, g0, hlt]
   have : k = n := by omega
   subst this
   exact he o ch H hP hg hF
theorem PI.row {n : Nat} {ms o0 o : List Nat} {ch : Bool} {i : Nat} (h : PI n ms o0 o ch i n) : PI n ms o0 o ch (i + 1) 0 :=
 ⟨h.ns, h.up, fun hc => ⟨(h.no hc).1, fun i' k' hi hk hv hb => (h.no hc).2 i' k' hi hk (by omega) hb⟩, h.le⟩
theorem q6y {call : Ev.Call} {H1 : Hp} {n a0 mb ob : Nat} {ms o0 : List Nat} (hE : RE H1 n a0 mb ob ms) (hob : ob < H1.nx) {qr : AV → AV → Hp → R1} {qe : AV → Hp → R1} {Q : AV → Hp → Prop}
  (hr : (∀ S, S.length = n → FitM n ms S → ∃ x, x < n ∧ n < S.getD x 0) → ∀ H, Fm (fun b => b = ob) H1 H → Ok (qr .nilsl (.bool false) H) Q) (he : ∀ o ch H, PI n ms o0 o ch n 0 → H.get ob = qaa 0 (nats o) → Fm (fun b => b = ob) H1 H → Ok (qe (.bool ch) H) Q) :
  ∀ (f i : Nat) (o : List Nat) (ch : Bool) (H : Hp), n - i < f → i ≤ n → PI n ms o0 o ch i 0 → H.get ob = qaa 0 (nats o) → Fm (fun b => b = ob) H1 H →
   Ok (qcx call qr qe (.ptr a0 0) (.sl ob 0 n n true) f (.bool ch) (.int .i64 (.ofNat i)) H) Q
 | 0, i, o, ch, H, h, _, _, _, _ => by omega
 | f + 1, i, o, ch, H, h, hi, hP, hg, hF => by
  show Ok (qxm call _ _ _ _ (qcx call _ _ _ _ f) _ _ H) Q
  unfold qxm
  have g0 : H.get a0 = qaa 0 [.int .i64 (.ofNat n), .sl mb 0 (n * n) (n * n) true] := (hF.get _ hE.lt.1 hE.ne.1).trans hE.g0
  have hn := hE.n
  by_cases hlt : i < n
  ·simp (disch := first | omega | exact ti rfl | (simp only [np, nq]; first | done | omega)) only [go_sem, reduceAdd, reduceMul, reduceSub, reduceLeDiff, reduceEqDiff, reduceShiftRight, reduceAnd, g0, hlt]
   unfold qrs qxn
   rw [qaq]
   refine zc5 hE hob hlt hr (fun o' ch' H' hP' hg' hF' => ?_) qal 0 o ch H (by rw [qah]; omega) (Nat.zero_le _) hP hg hF
   unfold qe2
   simp (disch := first | omega | exact ti rfl | (simp only [np, nq]; first | done | omega)) only [go_sem, reduceAdd, reduceMul, reduceSub, reduceLeDiff, reduceEqDiff, reduceShiftRight, reduceAnd]
   exact q6y hE hob hr he f (i + 1) o' ch' H' (by omega) (by omega) hP'.row hg' hF'
  ·simp (disch := first | omega | exact ti rfl | (simp only [np, nq]; first | done | omega)) only [go_sem, reduceAdd, reduceMul, reduceSub, reduceLeDiff, reduceEqDiff, reduceShiftRight, reduceAnd, g0, hlt]
   have : i = n := by omega
   subst this
   exact he o ch H hP hg hF
theorem q6x {call : Ev.Call} {H1 : Hp} {n a0 mb ob : Nat} {ms : List Nat} (hE : RE H1 n a0 mb ob ms) (hob : ob < H1.nx) {qr : AV → AV → Hp → R1} {qe : Hp → R1} {Q : AV → Hp → Prop}
  (hr : (∀ S, S.length = n → FitM n ms S → ∃ x, x < n ∧ n < S.getD x 0) → ∀ H, Fm (fun b => b = ob) H1 H → Ok (qr .nilsl (.bool false) H) Q) (he : ∀ o H, NS n ms o → FitM n ms o → H.get ob = qaa 0 (nats o) → Fm (fun b => b = ob) H1 H → Ok (qe H) Q) :
  ∀ (f : Nat) (o : List Nat) (H : Hp), n * n - o.sum + 2 ≤ f → NS n ms o → H.get ob = qaa 0 (nats o) → Fm (fun b => b = ob) H1 H →
   Ok (qby call qr qe (.ptr a0 0) (.sl ob 0 n n true) f (.bool true) H) Q
 | 0, o, H, h, _, _, _ => by omega
 | f + 1, o, H, h, hN, hg, hF => by
  show Ok (qms call _ _ _ _ (qby call _ _ _ _ f) _ H) Q
  unfold qms
  simp (disch := first | omega | exact ti rfl | (simp only [np, nq]; first | done | omega)) only [go_sem, reduceAdd, reduceMul, reduceSub, reduceLeDiff, reduceEqDiff, reduceShiftRight, reduceAnd]
  unfold qrr qxo
  rw [qaq]
  have hn := hE.n
  refine q6y hE hob (o0 := o) hr (fun o' ch' H' hP hg' hF' => ?_) qal 0 o false H (by rw [qah]; omega) (Nat.zero_le _) ⟨hN, fun h => (by cases h), fun _ => ⟨rfl, fun i' k' _ _ hv => (by omega)⟩, Nat.le_refl _⟩ hg hF
  cases ch' with
  | true =>
   have h1 := hP.up rfl
   have h2 := hP.ns.sum
   exact q6x hE hob hr he f o' H' (by omega) hP.ns hg' hF'
  | false =>
   obtain ⟨f, rfl⟩ : ∃ g, f = g + 1 := ⟨f - 1, by omega⟩
   show Ok (qms call _ _ _ _ (qby call _ _ _ _ f) _ H') Q
   unfold qms
   simp (disch := first | omega | exact ti rfl | (simp only [np, nq]; first | done | omega)) only [go_sem, reduceAdd, reduceMul, reduceSub, reduceLeDiff, reduceEqDiff, reduceShiftRight, reduceAnd]
   exact he o' H' hP.ns (fun i k hi hk hb => (hP.no rfl).2 i k hi hk (Or.inl hi) hb) hg' hF'
theorem NS.start (n : Nat) (ms : List Nat) : NS n ms (List.replicate n 0) :=
 ⟨by simp, fun S _ _ x _ => by rw [rep0]; omega, fun x _ => by rw [rep0]; omega⟩
theorem qrc (hY : qgi C) {k : Nat} (hk : 1 ≤ k) {n mb : Nat} {ms : List Nat} {mv : AV} {H : Hp} (hM : IsM H mv mb n ms) (hn : n < 13) :
  Ok (C k (.f qsr) [mv] H) fun r H' => Fm No H H' ∧ ((∃ ob o, r = .tup [.sl ob 0 n n true, .bool true] ∧ H'.get ob = qaa 0 (nats o) ∧ ob < H'.nx ∧ NS n ms o ∧ FitM n ms o) ∨ (r = .tup [.nilsl, .bool false] ∧ ∀ S, S.length = n → FitM n ms S → ∃ x, x < n ∧ n < S.getD x 0)) := by
 obtain ⟨j, rfl⟩ : ∃ j, k = j + 1 := ⟨k - 1, by omega⟩
 have hr := hM.hv
 subst hr
 rw [(hY j).rNum]
 unfold rNum q6a
 have f0 : Fm No H (qak H (qaa 0 [.int .i64 (.ofNat n), .sl mb 0 (n * n) (n * n) true])) := (Fm.refl _ _).push _
 have mk := qdh [.int .i64 (.ofNat 0)] 8 (H.nx + 1) n (by omega) (by omega)
 rw [qch, qln] at mk
 simp (disch := first | omega | exact ti rfl | (simp only [np, nq]; first | done | omega)) only [go_sem, reduceAdd, reduceMul, reduceSub, reduceLeDiff, reduceEqDiff, reduceShiftRight, reduceAnd, mk]
 generalize hH1 : qak (qak H (qaa 0 [.int .i64 (.ofNat n), .sl mb 0 (n * n) (n * n) true])) (qaa 0 (nats (List.replicate n 0))) = H1
 have n1 : H1.nx = H.nx + 1 + 1 := by rw [← hH1]; rfl
 have f1 : Fm No H H1 := by rw [← hH1]; exact f0.push _
 have g1 : H1.get H.nx = qaa 0 [.int .i64 (.ofNat n), .sl mb 0 (n * n) (n * n) true] := by rw [← hH1, qbb _ _ _ (by (first | omega | (simp only [np, nq]; omega))), qaj]
 have g2 : H1.get (H.nx + 1) = qaa 0 (nats (List.replicate n 0)) := by rw [← hH1]; exact qaj _ _
 have hml := hM.lt
 have hE : RE H1 n H.nx mb (H.nx + 1) ms := ⟨g1, (f1.keep hml).trans hM.get, ⟨by omega, by omega⟩, ⟨by omega, by omega⟩, hM.ok.len, by omega⟩
 unfold qxp
 rw [qaq]
 have hnn : n * n ≤ 12 * 12 := Nat.mul_le_mul (by omega) (by omega)
 refine q6x hE (by omega) (fun hno H2 f2 => ?_) (fun o H2 hN hF hg f2 => ?_) qal (List.replicate n 0) H1 (by rw [qah]; omega) (NS.start n ms) g2 (Fm.refl _ _)
 ·exact Ok.ret ⟨f1.then f2 fun c hc h => by omega, Or.inr ⟨rfl, hno⟩⟩
 ·unfold qbz
  have := f2.nx
  exact Ok.ret ⟨f1.then f2 fun c hc h => by omega, Or.inl ⟨_, o, rfl, hg, by omega, hN, hF⟩⟩
end Go.Di
end
section
/-
 Contracts: the numbers of a graph, as the program reckons them.
-/
namespace Go.Di
open Go.Ev Go.Di.T Go.Sort
variable {C : Nat → Ev.Call} {LA LO : LP}
theorem maxN (a b : Nat) : max (Int.ofNat a) (Int.ofNat b) = Int.ofNat (max a b) := by simp only [Int.ofNat_eq_natCast]; omega
theorem qp7 {call : Ev.Call} {H : Hp} {v : AV} {l : List Nat} (hv : Rl H v (nats l)) (hl : l.length < 900000) {q : AV → Hp → R1} {Q : AV → Hp → Prop} (hq : Ok (q (.int .i64 (.ofNat (maxL l))) H) Q) :
  ∀ (f i : Nat), l.length - i < f → i ≤ l.length → Ok (qhh call q v (.int .i64 (.ofNat l.length)) f (.int .i64 (.ofNat (maxL (l.take i)))) (.int .i64 (.ofNat i)) H) Q
 | 0, i, h, _ => by omega
 | f + 1, i, h, hi => by
  show Ok (qqw call _ _ _ (qhh call _ _ _ f) _ _ H) Q
  unfold qqw
  by_cases hlt : i < l.length
  ·obtain ⟨b, o, e1, _, e2⟩ := hv.at' i (by rw [qav]; exact hlt)
   rw [qiq] at e2
   have hm := maxN (maxL (l.take i)) l[i]
   have hs : maxL (l.take (i + 1)) = max (maxL (l.take i)) l[i] := by
    unfold maxL
    rw [List.take_succ_eq_append_getElem hlt, List.foldl_append]; rfl
   simp (disch := first | omega | exact ti rfl | (simp only [np, nq]; first | done | omega)) only [go_sem, reduceAdd, reduceMul, reduceSub, reduceLeDiff, reduceEqDiff, reduceShiftRight, reduceAnd, hlt]
   unfold qqu
   simp (disch := first | omega | exact ti rfl | (simp only [np, nq]; first | done | omega)) only [go_sem, reduceAdd, reduceMul, reduceSub, reduceLeDiff, reduceEqDiff, reduceShiftRight, reduceAnd, e1, e2, qyq, hm]
   unfold qqv
   simp (disch := first | omega | exact ti rfl | (simp only [np, nq]; first | done | omega)) only [go_sem, reduceAdd, reduceMul, reduceSub, reduceLeDiff, reduceEqDiff, reduceShiftRight, reduceAnd]
   rw [← hs]
   exact qp7 hv hl hq f (i + 1) (by omega) (by omega)
  ·simp (disch := first | omega | exact ti rfl | (simp only [np, nq]; first | done | omega)) only [go_sem, reduceAdd, reduceMul, reduceSub, reduceLeDiff, reduceEqDiff, reduceShiftRight, reduceAnd, hlt]
   have : i = l.length := by omega
   subst this
   rw [List.take_length]
   exact hq
theorem zbp (hY : qgi C) {k : Nat} (hk : 1 ≤ k) {H : Hp} {v : AV} {l : List Nat} (hv : Rl H v (nats l)) (hl : l.length < 900000) :
  C k (.f qjl) [v] H = .ok (.int .i64 (.ofNat (maxL l))) H := by
 obtain ⟨j, rfl⟩ : ∃ j, k = j + 1 := ⟨k - 1, by omega⟩
 have key : Ok (C (j + 1) (.f qjl) [v] H) fun r H' => r = .int .i64 (.ofNat (maxL l)) ∧ H' = H := by
  rw [(hY j).stGre]
  unfold stGre qws
  have e0 := hv.len
  rw [qav] at e0
  simp (disch := first | omega | exact ti rfl | (simp only [np, nq]; first | done | omega)) only [go_sem, reduceAdd, reduceMul, reduceSub, reduceLeDiff, reduceEqDiff, reduceShiftRight, reduceAnd, e0]
  unfold qqx
  rw [qaq]
  refine qp7 hv hl ?_ qal 0 (by rw [qah]; omega) (Nat.zero_le _)
  unfold qfq
  exact Ok.ret ⟨rfl, rfl⟩
 obtain ⟨r, H', h, rfl, rfl⟩ := key
 exact h
theorem step_ok (hY : qgi C) {k : Nat} (hk : 1 ≤ k) (e : Edge) (H : Hp) :
  Ok (C k (.f qls) [.agg e.cells] H) fun r H' => r = .int .i64 (.ofNat (stN e)) ∧ Fm No H H' := by
 obtain ⟨j, rfl⟩ : ∃ j, k = j + 1 := ⟨k - 1, by omega⟩
 rw [(hY j).stStp]
 unfold stStp qwq Edge.cells stN
 cases hs : e.s with
 | true =>
  simp (disch := first | omega | exact ti rfl | (simp only [np, nq]; first | done | omega)) only [go_sem, reduceAdd, reduceMul, reduceSub, reduceLeDiff, reduceEqDiff, reduceShiftRight, reduceAnd, hs]
  exact Ok.ret ⟨rfl, by (repeat (first | exact Fm.refl _ _ | assumption | refine Fm.push ?_ _ | refine Fm.up2 ?_ (by (first | omega | (simp only [np, nq]; omega))) | refine Fm.put_new ?_ _ _ (by (first | omega | (simp only [np, nq]; omega)))))⟩
 | false =>
  simp (disch := first | omega | exact ti rfl | (simp only [np, nq]; first | done | omega)) only [go_sem, reduceAdd, reduceMul, reduceSub, reduceLeDiff, reduceEqDiff, reduceShiftRight, reduceAnd, hs]
  unfold qqt
  exact Ok.ret ⟨rfl, by (repeat (first | exact Fm.refl _ _ | assumption | refine Fm.push ?_ _ | refine Fm.up2 ?_ (by (first | omega | (simp only [np, nq]; omega))) | refine Fm.put_new ?_ _ _ (by (first | omega | (simp only [np, nq]; omega)))))⟩
theorem zcj {es : List Edge} {ins o : List Nat} {i c : Nat} (hc : c < es.length) (h1 : ins.getD es[c].f 0 = i) (h2 : ¬ ins.getD es[c].t 0 = i) : asks (es.take (c + 1)) ins o i = asks (es.take c) ins o i ++ [o.getD es[c].t 0 + stN es[c]] := by
 unfold asks
 rw [List.take_succ_eq_append_getElem hc, List.filter_append, List.map_append]
 have : List.filter (fun e => decide (ins.getD e.f 0 = i) && !decide (ins.getD e.t 0 = i)) [es[c]] = [es[c]] := by
  rw [List.filter_cons, decide_eq_true h1, decide_eq_false h2]; rfl
 rw [this]; rfl
theorem zf4 {es : List Edge} {ins o : List Nat} {i c : Nat} (hc : c < es.length) (h : ¬ (ins.getD es[c].f 0 = i ∧ ¬ ins.getD es[c].t 0 = i)) : asks (es.take (c + 1)) ins o i = asks (es.take c) ins o i := by
 unfold asks
 rw [List.take_succ_eq_append_getElem hc, List.filter_append, List.map_append]
 have : List.filter (fun e => decide (ins.getD e.f 0 = i) && !decide (ins.getD e.t 0 = i)) [es[c]] = [] := by
  rw [List.filter_cons]
  by_cases h1 : ins.getD es[c].f 0 = i
  ·have h2 : ins.getD es[c].t 0 = i := Classical.byContradiction fun g => h ⟨h1, g⟩
   rw [decide_eq_true h1, decide_eq_true h2]; rfl
  ·rw [decide_eq_false h1]; rfl
 rw [this]; simp
theorem q9v (es : List Edge) (ins o : List Nat) (i : Nat) : (asks es ins o i).length ≤ es.length := by
 unfold asks
 rw [List.length_map]
 exact List.length_filter_le _ _
theorem qni (hY : qgi C) {j : Nat} {H1 : Hp} {n c ob i : Nat} {gv lv iv : AV} {es : List Edge} {ins o : List Nat} (hj : 1 ≤ j) (hg : IsE H1 gv es) (hlen : es.length < 200000) (hE : ∀ e ∈ es, e.f < n ∧ e.t < n) (hc : H1.get c = qaa 0 [lv, iv]) (hcl : c < H1.nx) (hiv : Gl 1 H1 iv n (nats ins)) (hob : H1.get ob = qaa 0 (nats o)) (hobl : ob < H1.nx) (hol : o.length = n) (hos : ∀ x, x < n → o.getD x 0 ≤ 1000)
  {q : AV → Hp → R1} {Q : AV → Hp → Prop} (hq : ∀ w H, Gl 1 H w (asks es ins o i).length (nats (asks es ins o i)) → Fm No H1 H → (∀ b, In w b → H1.nx ≤ b) → Ok (q w H) Q) :
  ∀ (f k : Nat) (w : AV) (H : Hp), es.length - k < f → k ≤ es.length → Gl 1 H w (asks (es.take k) ins o i).length (nats (asks (es.take k) ins o i)) → (∀ b, In w b → H1.nx ≤ b) → Fm No H1 H →
   Ok (qdb (C j) q (.ptr c 0) (.sl ob 0 n n true) (.int .i64 (.ofNat i)) gv (.int .i64 (.ofNat es.length)) f w (.int .i64 (.ofNat k)) H) Q
 | 0, k, w, H, h, _, _, _, _ => by omega
 | f + 1, k, w, H, h, hk, hw, hnew, hF => by
  show Ok (qmb (C j) _ _ _ _ _ _ (qdb (C j) _ _ _ _ _ _ f) _ _ H) Q
  unfold qmb
  by_cases hlt : k < es.length
  ·obtain ⟨b, p, e1, e2, e3⟩ := (hg.fm hF).at hlt
   obtain ⟨r1, r2⟩ := hE es[k] (List.getElem_mem _)
   have hil : ins.length = n := by have := hiv.len; rw [qav] at this; omega
   obtain ⟨b1, o1, c1, c2, _, c3⟩ := (hiv.no hF).at (qkc ins es[k].f (by omega))
   obtain ⟨b2, o2, c4, c5, _, c6⟩ := (hiv.no hF).at (qkc ins es[k].t (by omega))
   have k1 : H.get c = qaa 0 [lv, iv] := (hF.keep hcl).trans hc
   have hcH : c < H.nx := Nat.lt_of_lt_of_le hcl hF.nx
   have k2 : H.get ob = qaa 0 (nats o) := (hF.keep hobl).trans hob
   have hobH : ob < H.nx := Nat.lt_of_lt_of_le hobl hF.nx
   have wfl := qb9 hw.flat 63
   simp (disch := first | omega | exact ti rfl | (simp only [np, nq]; first | done | omega)) only [go_sem, reduceAdd, reduceMul, reduceSub, reduceLeDiff, reduceEqDiff, reduceShiftRight, reduceAnd, hlt]
   rw [qk8]
   unfold qcu
   have fx : Fm No H ((qak H (qaa 0 [.int .i64 (.ofNat 0), .int .i64 (.ofNat 0), .bool false])).put H.nx (qaa 0 es[k].cells)) := by (repeat (first | exact Fm.refl _ _ | assumption | refine Fm.push ?_ _ | refine Fm.up2 ?_ (by (first | omega | (simp only [np, nq]; omega))) | refine Fm.put_new ?_ _ _ (by (first | omega | (simp only [np, nq]; omega)))))
   have hle := q9v (es.take k) ins o i
   rw [List.length_take] at hle
   have nopath : ¬ (ins.getD es[k].f 0 = i ∧ ¬ ins.getD es[k].t 0 = i) → Ok (qfb (C j) (qdb (C j) q (.ptr c 0) (.sl ob 0 n n true) (.int .i64 (.ofNat i)) gv (.int .i64 (.ofNat es.length)) f) w (.int .i64 (.ofNat k)) ((qak H (qaa 0 [.int .i64 (.ofNat 0), .int .i64 (.ofNat 0), .bool false])).put H.nx (qaa 0 es[k].cells))) Q := fun hn => by
    unfold qfb
    simp (disch := first | omega | exact ti rfl | (simp only [np, nq]; first | done | omega)) only [go_sem, reduceAdd, reduceMul, reduceSub, reduceLeDiff, reduceEqDiff, reduceShiftRight, reduceAnd]
    exact qni hY hj hg hlen hE hc hcl hiv hob hobl hol hos hq f (k + 1) w _ (by omega) (by omega) (by rw [zf4 hlt hn]; exact hw.no fx) hnew (hF.trans fx)
   by_cases h1 : ins.getD es[k].f 0 = i
   ·by_cases h2 : ins.getD es[k].t 0 = i
    ·simp (disch := first | omega | exact ti rfl | (simp only [np, nq]; first | done | omega)) only [go_sem, reduceAdd, reduceMul, reduceSub, reduceLeDiff, reduceEqDiff, reduceShiftRight, reduceAnd, e1, e3, Edge.cells, k1, c1, c3, c4, c6, h1, h2]
     have := nopath fun h => h.2 h2
     unfold Edge.cells at this
     exact this
    ·have v4 := qkc o es[k].t (by omega)
     have ho4 := hos es[k].t r2
     simp (disch := first | omega | exact ti rfl | (simp only [np, nq]; first | done | omega)) only [go_sem, reduceAdd, reduceMul, reduceSub, reduceLeDiff, reduceEqDiff, reduceShiftRight, reduceAnd, e1, e3, Edge.cells, k1, k2, c1, c3, c4, c6, h1, h2, v4]
     generalize hHx : (Hp.mk ((qak H (qaa 0 [.int .i64 (.ofNat 0), .int .i64 (.ofNat 0), .bool false])).put H.nx (qaa 0 [.int .i64 (.ofNat es[k].f), .int .i64 (.ofNat es[k].t), .bool es[k].s])).t (H.nx + 1 + 12)) = Hx at *
     have fx : Fm No H Hx := by rw [← hHx]; exact Fm.up2 fx (by omega)
     have nx : Hx.nx = H.nx + 1 + 12 := by rw [← hHx]
     have kx : Hx.get H.nx = qaa 0 [.int .i64 (.ofNat es[k].f), .int .i64 (.ofNat es[k].t), .bool es[k].s] := by rw [← hHx]; exact qac _ _ _
     refine Ok.deO (step_ok hY (k := j) hj es[k] Hx) ?_
     rintro r H2 ⟨rfl, f2⟩
     have kx2 : H2.get H.nx = qaa 0 [.int .i64 (.ofNat es[k].f), .int .i64 (.ofNat es[k].t), .bool es[k].s] := (f2.keep (by omega)).trans kx
     have k22 : H2.get ob = qaa 0 (nats o) := ((fx.trans f2).keep hobH).trans k2
     have hst : stN es[k] ≤ 1 := by unfold stN; split <;> omega
     simp (disch := first | omega | exact ti rfl | (simp only [np, nq]; first | done | omega)) only [go_sem, reduceAdd, reduceMul, reduceSub, reduceLeDiff, reduceEqDiff, reduceShiftRight, reduceAnd, kx2, k22, v4]
     generalize hz : o.getD es[k].t 0 + stN es[k] = z at *
     have fP : Fm No H (H2.put (H.nx + 1 + 9) (qaa 0 [AV.int .i64 (.ofNat z)])) := (fx.trans f2).put_new _ _ (by omega)
     have hgP : Gl 1 (H2.put (H.nx + 1 + 9) (qaa 0 [AV.int .i64 (.ofNat z)])) w _ _ := hw.no fP
     obtain ⟨H3, a1, a2, _, a4, a5⟩ := hgP.append (w := 8) (k := 1) (x := [AV.int .i64 (.ofNat z)]) (by omega) rfl (by omega) (by omega)
     refine Ok.deE a1 ?_
     simp (disch := first | omega | exact ti rfl | (simp only [np, nq]; first | done | omega)) only [go_sem, reduceAdd, reduceMul, reduceSub, reduceLeDiff, reduceEqDiff, reduceShiftRight, reduceAnd]
     unfold qfb
     simp (disch := first | omega | exact ti rfl | (simp only [np, nq]; first | done | omega)) only [go_sem, reduceAdd, reduceMul, reduceSub, reduceLeDiff, reduceEqDiff, reduceShiftRight, reduceAnd]
     have hs := zcj (o := o) hlt h1 h2
     rw [hz] at hs
     have e10 : nats (asks (es.take k) ins o i) ++ [AV.int .i64 (.ofNat z)] = nats (asks (es.take (k + 1)) ins o i) := by rw [hs]; simp [nats]
     have hml : (asks (es.take (k + 1)) ins o i).length = (asks (es.take k) ins o i).length + 1 := by rw [hs, List.length_append]; rfl
     rw [e10, ← hml] at a2
     rw [← hml]
     have hn1 := hF.nx
     have hn2 := f2.nx
     have hpn : (H2.put (H.nx + 1 + 9) (qaa 0 [AV.int .i64 (.ofNat z)])).nx = H2.nx := rfl
     refine qni hY hj hg hlen hE hc hcl hiv hob hobl hol hos hq f (k + 1) _ H3 (by omega) (by omega) a2 (fun b hb => ?_) ((hF.trans fP).then a4 fun c hc h => by have := hnew c h; omega)
     obtain ⟨_, _, _, _, h⟩ := hb
     cases h
     omega
   ·simp (disch := first | omega | exact ti rfl | (simp only [np, nq]; first | done | omega)) only [go_sem, reduceAdd, reduceMul, reduceSub, reduceLeDiff, reduceEqDiff, reduceShiftRight, reduceAnd, e1, e3, Edge.cells, k1, c1, c3, h1]
    have := nopath fun h => h1 h.1
    unfold Edge.cells at this
    exact this
  ·simp (disch := first | omega | exact ti rfl | (simp only [np, nq]; first | done | omega)) only [go_sem, reduceAdd, reduceMul, reduceSub, reduceLeDiff, reduceEqDiff, reduceShiftRight, reduceAnd, hlt]
   have : k = es.length := by omega
   subst this
   rw [List.take_length] at hw
   exact hq w H hw hF hnew
end Go.Di
end
section
/-
 Contracts: the numbers of a graph, whole.
-/
namespace Go.Di
open Go.Ev Go.Di.T Go.Sort
variable {C : Nat → Ev.Call} {LA LO : LP}
theorem qu7 (hY : qgi C) {j : Nat} (hj : 1 ≤ j) {H1 : Hp} {n ob : Nat} {w cw : AV} {l c o : List Nat} (hw : Gl 1 H1 w l.length (nats l)) (hl : l.length < 900000) (hwo : ∀ b, In w b → b ≠ ob) (hc : Gl 1 H1 cw c.length (nats c)) (hcl : c.length < 900000) (hco : ∀ b, In cw b → b ≠ ob) (hcn : ∀ x ∈ c, x < n) (hol : o.length = n)
  {q : Hp → R1} {Q : AV → Hp → Prop} (hq : ∀ H, H.get ob = qaa 0 (nats (qh5 o (maxL l) c)) → Fm (fun b => b = ob) H1 H → Ok (q H) Q) :
  ∀ (f k : Nat) (H : Hp), c.length - k < f → k ≤ c.length → H.get ob = qaa 0 (nats (qh5 o (maxL l) (c.take k))) → Fm (fun b => b = ob) H1 H →
   Ok (qfa (C j) q (.sl ob 0 n n true) w cw (.int .i64 (.ofNat c.length)) f (.int .i64 (.ofNat k)) H) Q
 | 0, k, H, h, _, _, _ => by omega
 | f + 1, k, H, h, hk, hg, hF => by
  show Ok (qmc (C j) _ _ _ _ _ (qfa (C j) _ _ _ _ _ f) _ H) Q
  unfold qmc
  by_cases hlt : k < c.length
  ·have hcH : Gl 1 H cw c.length (nats c) := hc.fm hF hco
   have hwH : Rl H w (nats l) := (hw.fm hF hwo).rl
   obtain ⟨b, p, e1, _, _, e3⟩ := hcH.at (show (nats c)[k]? = some (.int .i64 (.ofNat c[k])) from qf5 c k hlt)
   have hx := hcn c[k] (List.getElem_mem _)
   have hgr := zbp hY (k := j) hj hwH hl
   have hfl : (qh5 o (maxL l) (c.take k)).length = n := by rw [qn5, hol]
   have hst := qjh (qh5 o (maxL l) (c.take k)) c[k] (maxL l) (by omega)
   have hle : c[k] + 1 ≤ (nats (qh5 o (maxL l) (c.take k))).length := by rw [qav]; omega
   have hsn : (qh5 o (maxL l) (c.take k)).set c[k] (maxL l) = qh5 o (maxL l) (c.take (k + 1)) := by rw [List.take_succ_eq_append_getElem hlt, qqa]
   simp (disch := first | omega | exact ti rfl | (simp only [np, nq]; first | done | omega)) only [go_sem, reduceAdd, reduceMul, reduceSub, reduceLeDiff, reduceEqDiff, reduceShiftRight, reduceAnd, hlt]
   unfold ql9
   simp (disch := first | omega | exact ti rfl | (simp only [np, nq]; first | done | omega)) only [go_sem, reduceAdd, reduceMul, reduceSub, reduceLeDiff, reduceEqDiff, reduceShiftRight, reduceAnd, e1, e3, hgr, hg, hst, hle, Nat.mul_one, Nat.zero_add, List.length_cons, List.length_nil]
   unfold qma
   simp (disch := first | omega | exact ti rfl | (simp only [np, nq]; first | done | omega)) only [go_sem, reduceAdd, reduceMul, reduceSub, reduceLeDiff, reduceEqDiff, reduceShiftRight, reduceAnd]
   rw [hsn]
   exact qu7 hY hj hw hl hwo hc hcl hco hcn hol hq f (k + 1) _ (by omega) (by omega) (qac _ _ _) (hF.put _ _ fun _ => rfl)
  ·simp (disch := first | omega | exact ti rfl | (simp only [np, nq]; first | done | omega)) only [go_sem, reduceAdd, reduceMul, reduceSub, reduceLeDiff, reduceEqDiff, reduceShiftRight, reduceAnd, hlt]
   have : k = c.length := by omega
   subst this
   rw [List.take_length] at hg
   exact hq H hg hF
theorem qu8 (hY : qgi C) {j : Nat} (hj : 1 ≤ j) {HB H0 H1 : Hp} {n a0 c : Nat} {gv lv iv : AV} {os : List AV} {es : List Edge} {ins : List Nat} {res : List (List Nat)} (hn : n ≤ 256) (hg : IsE H0 gv es) (hlen : es.length < 200000) (hE : ∀ e ∈ es, e.f < n ∧ e.t < n) (ha : H0.get a0 = qaa 0 [.int .i64 (.ofNat n), gv]) (hal0 : a0 < H0.nx) (hc : H0.get c = qaa 0 [lv, iv]) (hcl : c < H0.nx) (hCR : CR HB H0 n lv iv os res ins) (hN : Nm n res ins) (hlt : ∀ o ∈ res, ∀ x ∈ o, x < n) (hd : ∀ e ∈ es, ins.getD e.t 0 ≤ ins.getD e.f 0) (hLn : res.length ≤ n) (hol : ∀ o ∈ res, o.length ≤ n) (h01 : Fm No H0 H1) (hx1 : H0.nx < H1.nx)
  {q : Hp → R1} {Q : AV → Hp → Prop} (hq : ∀ o H, OutI n es ins res.length o → H.get H0.nx = qaa 0 (nats o) → Fm (fun b => b = H0.nx) H1 H → Ok (q H) Q) :
  ∀ (f i : Nat) (o : List Nat) (H : Hp), res.length - i < f → i ≤ res.length → OutI n es ins i o → H.get H0.nx = qaa 0 (nats o) → Fm (fun b => b = H0.nx) H1 H →
   Ok (qba (C j) q (.ptr a0 0) (.ptr c 0) (.sl H0.nx 0 n n true) lv (.int .i64 (.ofNat res.length)) f (.int .i64 (.ofNat i)) H) Q
 | 0, i, o, H, h, _, _, _, _ => by omega
 | f + 1, i, o, H, h, hi, hO, hgo, hF => by
  show Ok (qgn (C j) _ _ _ _ _ _ (qba (C j) _ _ _ _ _ _ f) _ H) Q
  unfold qgn
  by_cases hil : i < res.length
  ·have kp : ∀ b, b < H0.nx → H.get b = H0.get b := fun b hb => (hF.get b (by omega) (by omega)).trans (h01.keep hb)
   have hnx : H0.nx ≤ H.nx := by have := hF.nx; omega
   have hosl := hCR.len
   have gE : IsE H gv es := hg.keep hnx fun b hb hlt => kp b hlt
   have gI : Gl 1 H iv n (nats ins) := hCR.gi.keep hnx fun b hb hlt => kp b hlt
   have gL : Gl 1 H lv os.length os := hCR.gl.keep hnx fun b hb hlt => kp b hlt
   obtain ⟨c1, _, _⟩ := hCR.at' i (os[i]'(by omega)) (res[i]'hil) (by simp) (by simp)
   have gC : Gl 1 H (os[i]'(by omega)) (res[i]'hil).length (nats (res[i]'hil)) := c1.keep hnx fun b hb hlt => kp b hlt
   have hci : ∀ b, In (os[i]'(by omega)) b → b < H0.nx := fun b hb => c1.lt hb
   obtain ⟨b1, o1, e1, _, _, e2⟩ := gL.at (i := i) (x := os[i]'(by omega)) (by simp)
   have hcm : ∀ x, x < n → (x ∈ res[i]'hil ↔ ins.getD x 0 = i) := fun x hx => by
    constructor
    ·intro h; exact hN.is i _ x (List.getElem?_eq_getElem hil) h
    ·intro h
     obtain ⟨j', o', h1, h2⟩ := hN.all x hx
     have := hN.is j' o' x h1 h2
     rw [h] at this
     subst this
     rw [List.getElem?_eq_getElem hil] at h1
     cases h1; exact h2
   have hcn := hlt _ (List.getElem_mem hil)
   have hcle := hol _ (List.getElem_mem hil)
   have k1 : H.get a0 = qaa 0 [.int .i64 (.ofNat n), gv] := (kp a0 hal0).trans ha
   have k2 : H.get c = qaa 0 [lv, iv] := (kp c hcl).trans hc
   have e0 := gE.len
   generalize os[i]'(by omega) = cw at *
   generalize res[i]'hil = co at *
   simp (disch := first | omega | exact ti rfl | (simp only [np, nq]; first | done | omega)) only [go_sem, reduceAdd, reduceMul, reduceSub, reduceLeDiff, reduceEqDiff, reduceShiftRight, reduceAnd, hil]
   unfold ql7
   simp (disch := first | omega | exact ti rfl | (simp only [np, nq]; first | done | omega)) only [go_sem, reduceAdd, reduceMul, reduceSub, reduceLeDiff, reduceEqDiff, reduceShiftRight, reduceAnd, e1, e2, k1, e0]
   unfold qmd
   rw [qaq]
   have hbd : ∀ x, x < n → o.getD x 0 ≤ 1000 := fun x hx => by
    have h1 := hO.bd x hx
    have h2 := hN.lt hx
    omega
   refine qni hY hj gE hlen hE k2 (Nat.lt_of_lt_of_le hcl hnx) gI hgo (by have := hF.nx; omega) hO.len hbd (fun w H2 hw f2 hnew => ?_) qal 0 .nilsl H (by rw [qah]; omega) (Nat.zero_le _) (by simpa [asks, nats] using Gl.nil 1 H) (fun b hb => by obtain ⟨_, _, _, _, h⟩ := hb; cases h) (Fm.refl _ _)
   unfold qdc
   have gC2 := gC.no f2
   have e3 := gC2.lenV
   simp (disch := first | omega | exact ti rfl | (simp only [np, nq]; first | done | omega)) only [go_sem, reduceAdd, reduceMul, reduceSub, reduceLeDiff, reduceEqDiff, reduceShiftRight, reduceAnd, e3]
   unfold qme
   rw [qaq]
   have hal := q9v es ins o i
   have hobH : H0.nx < H.nx := by have := hF.nx; omega
   refine qu7 hY hj (H1 := H2) (o := o) hw (by omega) (fun b hb => by have := hnew b hb; omega) gC2 (by omega) (fun b hb => by have := hci b hb; omega) hcn hO.len (fun H3 g3 f3 => ?_) qal 0 H2 (by rw [qah]; omega) (Nat.zero_le _) ((f2.keep hobH).trans hgo) (Fm.refl _ _)
   unfold qd0
   simp (disch := first | omega | exact ti rfl | (simp only [np, nq]; first | done | omega)) only [go_sem, reduceAdd, reduceMul, reduceSub, reduceLeDiff, reduceEqDiff, reduceShiftRight, reduceAnd]
   exact qu8 hY hj hn hg hlen hE ha hal0 hc hcl hCR hN hlt hd hLn hol h01 hx1 hq f (i + 1) _ H3 (by omega) (by omega) (hO.step hE hcm hd) g3 ((hF.then f2 fun _ _ h => h.elim).then f3 fun _ _ h => h)
  ·simp (disch := first | omega | exact ti rfl | (simp only [np, nq]; first | done | omega)) only [go_sem, reduceAdd, reduceMul, reduceSub, reduceLeDiff, reduceEqDiff, reduceShiftRight, reduceAnd, hil]
   have : i = res.length := by omega
   subst this
   exact hq o H hO hgo hF
theorem za7 {n : Nat} {es : List Edge} (hE : ∀ e ∈ es, e.f < n ∧ e.t < n) {res : List (List Nat)} {ins : List Nat} (hF : OrdF n (qbc es) [] res) (h : Nm n res ins) : ∀ e ∈ es, ins.getD e.t 0 ≤ ins.getD e.f 0 := fun e he => by
 obtain ⟨l1, l2⟩ := hE e he
 obtain ⟨j, o, h1, h2⟩ := h.all e.f l1
 rcases qu1 hF h1 h2 l2 (qcn.2 ⟨e, he, rfl, rfl⟩) with g | ⟨j', c', g1, g2, g3⟩
 ·simp at g
 ·rw [h.is j o e.f h1 h2, h.is j' c' e.t g2 g3]; exact g1
theorem zeu {n : Nat} {adj : Nat → List Nat} {res : List (List Nat)} {ins : List Nat} (hF : OrdF n adj [] res) (hi : ∀ (j : Nat) (o : List Nat) (x : Nat), res[j]? = some o → x ∈ o → ins[x]? = some j) : Nm n res ins := ⟨fun j o y h1 h2 => by
  rw [List.getD_eq_getElem?_getD, hi j o y h1 h2]; rfl, fun y hy => by
  obtain ⟨z1, z2, z3, z4, z5⟩ := hF.all
  obtain ⟨o, ho, hyo⟩ := List.mem_flatten.1 (z3 y hy)
  obtain ⟨j, hj⟩ := List.mem_iff_getElem?.1 ho
  exact ⟨j, o, hj, hyo⟩⟩
theorem qqk (hC : qa7 C) (hY : qgi C) (hO : qcq C) (hS : qce C) (hR : qco LA LO C) {k : Nat} (hk : 1002 ≤ k) {n : Nat} {es : List Edge} (hE : qe8 n es) (hn : n ≤ 256) (hlen : es.length < 900) {gv : AV} {H : Hp} (hg : IsE H gv es) :
  Ok (C k (.f qlt) [.agg [.int .i64 (.ofNat n), gv]] H) fun r H' => Fm No H H' ∧
   ((∃ w o, r = .tup [w, .int .i64 (.ofNat 0)] ∧ Gl 1 H' w n (nats o) ∧ capV w = .val (.int .i64 (.ofNat n)) ∧ Fit n es o ∧ Lst n es o ∧ ∀ x, x < n → o.getD x 0 < n) ∨
    (r = .tup [.nilsl, .int .i64 (.ofNat 12)] ∧ ∃ e ∈ es, e.s = true ∧ Rc (qbc es) e.t e.f)) := by
 obtain ⟨j, rfl⟩ : ∃ j, k = j + 1 := ⟨k - 1, by omega⟩
 rw [(hY j).stNum]
 unfold stNum qwr
 simp (disch := first | omega | exact ti rfl | (simp only [np, nq]; first | done | omega)) only [go_sem, reduceAdd, reduceMul, reduceSub, reduceLeDiff, reduceEqDiff, reduceShiftRight, reduceAnd]
 have f0 : Fm No H (qak H (qaa 0 [.int .i64 (.ofNat n), gv])) := by (repeat (first | exact Fm.refl _ _ | assumption | refine Fm.push ?_ _ | refine Fm.up2 ?_ (by (first | omega | (simp only [np, nq]; omega))) | refine Fm.put_new ?_ _ _ (by (first | omega | (simp only [np, nq]; omega)))))
 refine Ok.ve (zga hC hO hS hR (k := j) (by omega) hE hn (by omega) (hg.fm f0)) ?_
 rintro r H1 ⟨lv, iv, os, ins2, out, ins, res, rfl, hOrd, hCR, f1⟩
 have hF := hOrd.ord hE.rng
 have n1 : H.nx + 1 ≤ H1.nx := f1.nx
 have g1 : H1.get H.nx = qaa 0 [.int .i64 (.ofNat n), gv] := (f1.keep (by (first | omega | (simp only [np, nq]; omega)))).trans (qaj _ _)
 have es3 : ∀ x y a b : AV, setL [a, b] 0 [x, y] = [x, y] := fun _ _ _ _ => rfl
 have fa : Fm No H1 ((qak H1 (qaa 0 [.nilsl, .nilsl])).put H1.nx (qaa 0 [lv, iv])) := by (repeat (first | exact Fm.refl _ _ | assumption | refine Fm.push ?_ _ | refine Fm.up2 ?_ (by (first | omega | (simp only [np, nq]; omega))) | refine Fm.put_new ?_ _ _ (by (first | omega | (simp only [np, nq]; omega)))))
 simp (disch := first | omega | exact ti rfl | (simp only [np, nq]; first | done | omega)) only [go_sem, reduceAdd, reduceMul, reduceSub, reduceLeDiff, reduceEqDiff, reduceShiftRight, reduceAnd, es3, List.length_cons, List.length_nil]
 generalize hH2 : (qak H1 (qaa 0 [AV.nilsl, AV.nilsl])).put H1.nx (qaa 0 [lv, iv]) = H2 at *
 have c2 : H2.get H1.nx = qaa 0 [lv, iv] := by rw [← hH2, qac]
 have n2 : H2.nx = H1.nx + 1 := by rw [← hH2]; rfl
 have g2 : H2.get H.nx = qaa 0 [.int .i64 (.ofNat n), gv] := (fa.keep (by omega)).trans g1
 rw [qk6]
 unfold qcs
 simp (disch := first | omega | exact ti rfl | (simp only [np, nq]; first | done | omega)) only [go_sem, reduceAdd, reduceMul, reduceSub, reduceLeDiff, reduceEqDiff, reduceShiftRight, reduceAnd, g2]
 refine Ok.ve (zcq hC hO hS hR (k := j) (by omega) hE hn hlen (((hg.fm f0).fm f1).fm fa)) ?_
 rintro r H3 ⟨wx, res3, ins3, R3, rfl, hF3, hin3, hasc3, hmem3, hx3, hcx3, hRl, f3⟩
 have hrr := hF3.uniq hF
 subst hrr
 have n3 := f3.nx
 have f03 := ((f0.trans f1).trans fa).trans f3
 have e0 := hx3.len
 rw [qav] at e0
 have hN := zeu hF hCR.ins
 have hN3 := zeu hF hin3
 by_cases hm : R3 = []
 ·subst hm
  have e0' : lenSl wx = .val (.int .i64 (.ofNat 0)) := e0
  simp (disch := first | omega | exact ti rfl | (simp only [np, nq]; first | done | omega)) only [go_sem, reduceAdd, reduceMul, reduceSub, reduceLeDiff, reduceEqDiff, reduceShiftRight, reduceAnd, e0', Nat.lt_irrefl]
  rw [qk7]
  unfold qct
  have g3 : H3.get H.nx = qaa 0 [.int .i64 (.ofNat n), gv] := (f3.keep (by omega)).trans g2
  have c3 : H3.get H1.nx = qaa 0 [lv, iv] := (f3.keep (by omega)).trans c2
  have hd := za7 hE.rng hF hN
  have nomix : ∀ e ∈ es, e.s = true → ins2.getD e.f 0 ≠ ins2.getD e.t 0 := fun e he hs h => by
   obtain ⟨l1, l2⟩ := hE.rng e he
   rw [hN.same hN3 l1, hN.same hN3 l2] at h
   have := (hmem3 _).2 (q0n.2 ⟨e, he, hs, h, rfl⟩)
   cases this
  have hL := za8 hF
  have hCR3 := hCR.no (fa.trans f3)
  obtain ⟨z1, z2, z3, z4, z5⟩ := hF.all
  have elv := hCR3.gl.lenV
  rw [hCR3.len] at elv
  by_cases h0 : 0 < n
  ·have mk := qdh [.int .i64 (.ofNat 0)] 8 H3.nx n (by omega) (by omega)
   rw [qch, qln] at mk
   simp (disch := first | omega | exact ti rfl | (simp only [np, nq]; first | done | omega)) only [go_sem, reduceAdd, reduceMul, reduceSub, reduceLeDiff, reduceEqDiff, reduceShiftRight, reduceAnd, g3, h0, mk]
   rw [qgm]
   unfold qcc
   have c4 : (qak H3 (qaa 0 (nats (List.replicate n 0)))).get H1.nx = qaa 0 [lv, iv] := by rw [qbb _ _ _ (by omega)]; exact c3
   simp (disch := first | omega | exact ti rfl | (simp only [np, nq]; first | done | omega)) only [go_sem, reduceAdd, reduceMul, reduceSub, reduceLeDiff, reduceEqDiff, reduceShiftRight, reduceAnd, c4, elv]
   unfold qi5
   rw [qaq]
   refine qu8 hY (j := j) (by omega) (HB := qak H (qaa 0 [.int .i64 (.ofNat n), gv])) (H0 := H3) (H1 := qak H3 (qaa 0 (nats (List.replicate n 0)))) hn (hg.fm f03) (by omega) hE.rng g3 (by omega) c3 (by omega) hCR3 hN (fun o ho x hx => z2 x (List.mem_flatten.2 ⟨o, ho, hx⟩)) hd hL (fun o ho => ?_) ((Fm.refl _ _).push _) (Nat.lt_succ_self _) (fun o H4 hO4 g4 f4 => ?_) qal 0 (List.replicate n 0) _ (by rw [qah]; omega) (Nat.zero_le _) (OutI.start n es ins2) (qaj _ _) (Fm.refl _ _)
   ·have : o.length ≤ res3.flatten.length := (List.sublist_flatten_of_mem ho).length_le
    omega
   ·unfold qbg
    obtain ⟨d1, d2, d3⟩ := hO4.done hE.rng hN hF hd nomix
    have n4 := f4.nx
    have n4' : H3.nx + 1 ≤ H4.nx := n4
    refine Ok.ret ⟨(f03.push _).then f4 fun c hc h => by have := f03.nx; omega, Or.inl ⟨_, o, rfl, ⟨by rw [qav, hO4.len, Nat.mul_one], .inr ⟨H3.nx, 0, true, 0, _, rfl, g4, Nat.zero_le _, List.drop_zero, Or.inl rfl, by omega⟩⟩, rfl, d1, d2, fun x hx => ?_⟩⟩
    have h1 := d3 x hx
    have h2 := hN.lt hx
    omega
  ·have hn0 : n = 0 := by omega
   subst hn0
   simp (disch := first | omega | exact ti rfl | (simp only [np, nq]; first | done | omega)) only [go_sem, reduceAdd, reduceMul, reduceSub, reduceLeDiff, reduceEqDiff, reduceShiftRight, reduceAnd, g3, Nat.lt_irrefl]
   rw [qgm]
   unfold qcc
   have hr0 : res3 = [] := List.length_eq_zero_iff.1 (by omega)
   subst hr0
   have elv' : lenSl lv = .val (.int .i64 (.ofNat 0)) := elv
   simp (disch := first | omega | exact ti rfl | (simp only [np, nq]; first | done | omega)) only [go_sem, reduceAdd, reduceMul, reduceSub, reduceLeDiff, reduceEqDiff, reduceShiftRight, reduceAnd, c3, elv', Nat.lt_irrefl]
   unfold qi5
   rw [qaq]
   show Ok (qgn (C j) _ _ _ _ _ _ (qba (C j) _ _ _ _ _ _ 999999) _ H3) _
   unfold qgn
   simp (disch := first | omega | exact ti rfl | (simp only [np, nq]; first | done | omega)) only [go_sem, reduceAdd, reduceMul, reduceSub, reduceLeDiff, reduceEqDiff, reduceShiftRight, reduceAnd, Nat.lt_irrefl]
   unfold qbg
   have hes : es = [] := by
    rcases List.eq_nil_or_concat es with h | ⟨l, e, h⟩
    ·exact h
    ·have := hE.rng e (by rw [h]; simp)
     omega
   exact Ok.ret ⟨f03, Or.inl ⟨_, [], rfl, Gl.nil _ _, rfl, ⟨rfl, fun e he => by rw [hes] at he; cases he⟩, fun S _ x hx => absurd hx (Nat.not_lt_zero _), fun x hx => absurd hx (Nat.not_lt_zero _)⟩⟩
 ·have hp : 0 < R3.length := List.length_pos_iff.2 hm
  simp (disch := first | omega | exact ti rfl | (simp only [np, nq]; first | done | omega)) only [go_sem, reduceAdd, reduceMul, reduceSub, reduceLeDiff, reduceEqDiff, reduceShiftRight, reduceAnd, e0, hp]
  obtain ⟨x, hx⟩ := List.exists_mem_of_ne_nil R3 hm
  obtain ⟨e, he, hs, h1, _⟩ := q0n.1 ((hmem3 x).1 hx)
  obtain ⟨l1, l2⟩ := hE.rng e he
  exact Ok.ret ⟨f03, Or.inr ⟨rfl, e, he, hs, ((hN3.eq hF l1 l2).1 h1).2⟩⟩
end Go.Di
end
section
/-
 Contracts: a way round with a negative edge, in the code.
-/
namespace Go.Di
open Go.Ev Go.Di.T Go.Sort
variable {C : Nat → Ev.Call} {LA LO : LP}
theorem app1 {H : Hp} {b : Nat} {x : AV} {l : List AV} (hg : H.get b = qaa 0 [x]) (hb : b < H.nx) {k : Nat} (hk : l.length = k) (hl : k ≤ 1000000) :
  ∃ w H', qay 1 8 H (.sl b 0 1 1 true) (some ⟨k, l⟩) = .ok w H' ∧ Gl 1 H' w (k + 1) (x :: l) ∧ Fm (fun c => c = b) H H' ∧ (∀ c, In w c → b ≤ c) ∧ H.nx ≤ H'.nx := by
 have g : Gl 1 H (.sl b 0 1 1 true) 1 [x] := ⟨rfl, .inr ⟨b, 0, true, 0, _, rfl, hg, Nat.zero_le _, rfl, .inl rfl, hb⟩⟩
 by_cases h0 : k = 0
 ·subst h0
  have := List.length_eq_zero_iff.1 hk
  subst this
  refine ⟨_, H.put b (qaa 0 [x]), ?_, ⟨rfl, .inr ⟨b, 0, true, 0, _, rfl, qac _ _ _, Nat.zero_le _, rfl, .inl rfl, hb⟩⟩, (Fm.refl _ _).put b _ fun _ => rfl, fun c hc => ?_, Nat.le_refl _⟩
  ·show storeAt H b (0 + 1 * 1) [] (.sl b 0 1 1 true) = _
   exact qcr _ _ _ _ _ _ _ hg (by simp)
  ·obtain ⟨_, _, _, _, e⟩ := hc; cases e; exact Nat.le_refl _
 ·obtain ⟨H', a1, a2, _, a4, a5⟩ := g.append (w := 8) (k := k) (x := l) (by omega) (by omega) (by omega) (by omega)
  rw [show 1 + k = k + 1 by omega] at a1 a2
  refine ⟨_, H', a1, a2, a4.mono fun c _ hc => ?_, fun c hc => ?_, by omega⟩
  ·obtain ⟨_, _, _, _, e⟩ := hc; cases e; rfl
  ·obtain ⟨_, _, _, _, e⟩ := hc; cases e; omega
def zdr (es : List Edge) (p : Edge → Bool) (i : Nat) : Prop := ∃ h : i < es.length, p es[i] = true ∧ (es.take i).any p = false
theorem qqn {call : Ev.Call} {f : FuncId} {caps : List AV} {es : List Edge} {p : Edge → Bool} {H0 : Hp} {w : AV} (hw : IsE H0 w es) (hlen : es.length < 900000) (hf : CloE call H0 f caps es p) {q1 : AV → Hp → R1} {q2 : Hp → R1} {Q : AV → Hp → Prop}
  (hq1 : ∀ i H, zdr es p i → Fm No H0 H → Ok (q1 (.int .i64 (.ofNat i)) H) Q) (hq2 : ∀ H, es.any p = false → Fm No H0 H → Ok (q2 H) Q) :
  ∀ (k i : Nat) (H : Hp), es.length - i < k → i ≤ es.length → (es.take i).any p = false → Fm No H0 H →
   Ok (qj1 call q1 q2 w (.fn f [] caps) (.int .i64 (.ofNat es.length)) k (.int .i64 (.ofNat i)) H) Q
 | 0, i, H, h, _, _, _ => by omega
 | k + 1, i, H, h, hi, ha, hF => by
  show Ok (qw4 call _ _ _ _ _ (qj1 call _ _ _ _ _ k) _ H) Q
  unfold qw4
  by_cases hlt : i < es.length
  ·obtain ⟨b, o, e1, e2, e3⟩ := (hw.fm hF).at hlt
   simp (disch := first | omega | exact ti rfl | (simp only [np, nq]; first | done | omega)) only [go_sem, reduceAdd, reduceMul, reduceSub, reduceLeDiff, reduceEqDiff, reduceShiftRight, reduceAnd, hlt]
   unfold qw2
   simp (disch := first | omega | exact ti rfl | (simp only [np, nq]; first | done | omega)) only [go_sem, reduceAdd, reduceMul, reduceSub, reduceLeDiff, reduceEqDiff, reduceShiftRight, reduceAnd, e1, e3]
   have hs : (es.take (i + 1)).any p = p es[i] := by
    rw [List.take_succ_eq_append_getElem hlt, List.any_append, ha]; simp
   have hcl := hf es[i] (List.getElem_mem _) H hF
   refine Ok.ve hcl ?_
   rintro v H' ⟨rfl, f'⟩
   cases hp : p es[i] with
   | true =>
    simp (disch := first | omega | exact ti rfl | (simp only [np, nq]; first | done | omega)) only [go_sem, reduceAdd, reduceMul, reduceSub, reduceLeDiff, reduceEqDiff, reduceShiftRight, reduceAnd]
    exact hq1 i H' ⟨hlt, hp, ha⟩ (hF.trans f')
   | false =>
    simp (disch := first | omega | exact ti rfl | (simp only [np, nq]; first | done | omega)) only [go_sem, reduceAdd, reduceMul, reduceSub, reduceLeDiff, reduceEqDiff, reduceShiftRight, reduceAnd]
    unfold qw3
    simp (disch := first | omega | exact ti rfl | (simp only [np, nq]; first | done | omega)) only [go_sem, reduceAdd, reduceMul, reduceSub, reduceLeDiff, reduceEqDiff, reduceShiftRight, reduceAnd]
    exact qqn hw hlen hf hq1 hq2 k (i + 1) H' (by omega) (by omega) (hs.trans hp) (hF.trans f')
  ·simp (disch := first | omega | exact ti rfl | (simp only [np, nq]; first | done | omega)) only [go_sem, reduceAdd, reduceMul, reduceSub, reduceLeDiff, reduceEqDiff, reduceShiftRight, reduceAnd, hlt]
   have : i = es.length := by omega
   subst this
   rw [List.take_length] at ha
   exact hq2 H ha hF
theorem zct (hC : qa7 C) {j : Nat} {f : FuncId} {caps : List AV} {es : List Edge} {p : Edge → Bool} {H0 : Hp} {w : AV} (hw : IsE H0 w es) (hlen : es.length < 900000) (hf : CloE (C j) H0 f caps es p) :
  Ok (C (j + 1) (.f qsk) [w, .fn f [] caps] H0) fun v H' => ((∃ i, v = .int .i64 (.ofNat i) ∧ zdr es p i) ∨ (v = .int .i64 (.negSucc 0) ∧ es.any p = false)) ∧ Fm No H0 H' := by
 rw [(hC j).sIxF]
 unfold sIxF q5d
 have e0 := hw.len
 simp (disch := first | omega | exact ti rfl | (simp only [np, nq]; first | done | omega)) only [go_sem, reduceAdd, reduceMul, reduceSub, reduceLeDiff, reduceEqDiff, reduceShiftRight, reduceAnd, e0]
 unfold qw5
 rw [qaq]
 refine qqn hw hlen hf (fun i H hp hF => Ok.ret ⟨Or.inl ⟨i, rfl, hp⟩, hF⟩) (fun H ha hF => ?_) qal 0 H0 (by rw [qah]; omega) (Nat.zero_le _) (by simp) (Fm.refl _ _)
 unfold qig
 exact Ok.ret ⟨Or.inr ⟨rfl, ha⟩, hF⟩
theorem zdu (hY : qgi C) {j : Nat} {H0 : Hp} {c n : Nat} {lv iv : AV} {ins : List Nat} {es : List Edge} (hE : ∀ e ∈ es, e.f < n ∧ e.t < n) (hi : Gl 1 H0 iv n (nats ins)) (hg : H0.get c = qaa 0 [lv, iv]) (hc : c < H0.nx) :
  CloE (C (j + 1)) H0 qjk [.ptr c 0] es (mixP ins) := by
 intro e he H hF
 show Ok (C (j + 1) (.f qjk) [.agg e.cells, .ptr c 0] H) _
 rw [(hY j).stWiA]
 unfold stWiA qwp Edge.cells
 obtain ⟨r1, r2⟩ := hE e he
 have hil : ins.length = n := by have := hi.len; rw [qav] at this; omega
 obtain ⟨b1, o1, e1, e2, _, e3⟩ := (hi.no hF).at (qkc ins e.f (by omega))
 obtain ⟨b2, o2, e4, e5, _, e6⟩ := (hi.no hF).at (qkc ins e.t (by omega))
 have g1 : H.get c = qaa 0 [lv, iv] := (hF.keep hc).trans hg
 have hcH : c < H.nx := Nat.lt_of_lt_of_le hc hF.nx
 cases hs : e.s with
 | true =>
  simp (disch := first | omega | exact ti rfl | (simp only [np, nq]; first | done | omega)) only [go_sem, reduceAdd, reduceMul, reduceSub, reduceLeDiff, reduceEqDiff, reduceShiftRight, reduceAnd, g1, e1, e3, e4, e6, hs]
  refine Ok.ret ⟨?_, by (repeat (first | exact Fm.refl _ _ | assumption | refine Fm.push ?_ _ | refine Fm.up2 ?_ (by (first | omega | (simp only [np, nq]; omega))) | refine Fm.put_new ?_ _ _ (by (first | omega | (simp only [np, nq]; omega)))))⟩
  unfold mixP
  rw [hs, Bool.true_and]
 | false =>
  simp (disch := first | omega | exact ti rfl | (simp only [np, nq]; first | done | omega)) only [go_sem, reduceAdd, reduceMul, reduceSub, reduceLeDiff, reduceEqDiff, reduceShiftRight, reduceAnd, g1, hs]
  refine Ok.ret ⟨?_, by (repeat (first | exact Fm.refl _ _ | assumption | refine Fm.push ?_ _ | refine Fm.up2 ?_ (by (first | omega | (simp only [np, nq]; omega))) | refine Fm.put_new ?_ _ _ (by (first | omega | (simp only [np, nq]; omega)))))⟩
  unfold mixP
  rw [hs, Bool.false_and]
end Go.Di
end
section
/-
 Contracts: a way round with a negative edge, in the code, whole.
-/
namespace Go.Di
open Go.Ev Go.Di.T Go.Sort
variable {C : Nat → Ev.Call} {LA LO : LP}
def RM (n : Nat) (ms : List Nat) (e : Edge) : Prop := e.s = true ∧ ¬ (dist n ms).getD (e.t * n + e.f) 0 < 0
def qo5 (n : Nat) (ms : List Nat) : Option (List Nat) → Prop
 | none => ∀ e ∈ qan n ms, ¬ RM n ms e
 | some s => ∃ (i : Nat) (e : Edge) (l : List Nat), (qan n ms)[i]? = some e ∧ RM n ms e ∧ (∀ e' ∈ (qan n ms).take i, ¬ RM n ms e') ∧ Gp n ms (dist n ms) e.f e.t l ∧ l.length < 1000 ∧ s = e.f :: (e.t :: l).dropLast
theorem Gp.uniq {n : Nat} {ms : List Nat} {d : List Int} {b : Nat} : ∀ {a : Nat} {l l' : List Nat}, Gp n ms d b a l → Gp n ms d b a l' → l = l'
 | _, _, _, .nil, .nil => rfl
 | _, _, _, .nil, .cons h _ _ => absurd rfl h
 | _, _, _, .cons h _ _, .nil => absurd rfl h
 | _, _, _, .cons (x := x) _ h1 g1, .cons (x := y) _ h2 g2 => by
  have : x = y := by
   rcases Nat.lt_trichotomy x y with h | h | h
   ·exact absurd h1.is (h2.least x h)
   ·exact h
   ·exact absurd h2.is (h1.least y h)
  subst this
  rw [Gp.uniq g1 g2]
theorem q3a {n : Nat} {ms : List Nat} : ∀ {r r' : Option (List Nat)}, qo5 n ms r → qo5 n ms r' → r = r'
 | none, none, _, _ => rfl
 | none, some _, h, ⟨_, e, _, h1, h2, _⟩ => absurd h2 (h e (List.mem_of_getElem? h1))
 | some _, none, ⟨_, e, _, h1, h2, _⟩, h => absurd h2 (h e (List.mem_of_getElem? h1))
 | some _, some _, ⟨i, e, l, h1, h2, h3, h4, _, h5⟩, ⟨i', e', l', g1, g2, g3, g4, _, g5⟩ => by
  have : i = i' := by
   have key : ∀ {i i' : Nat} {e : Edge}, (qan n ms)[i]? = some e → RM n ms e → (∀ e' ∈ (qan n ms).take i', ¬ RM n ms e') → ¬ i < i' := fun {i i' e} a b c h =>
    c e (List.mem_of_getElem? (i := i) (by rw [List.getElem?_take, if_pos h]; exact a)) b
   have := key h1 h2 g3
   have := key g1 g2 h3
   omega
  subst this
  rw [h1] at g1
  cases g1
  rw [Gp.uniq h4 g4] at h5
  rw [h5, g5]
theorem q5n {n : Nat} {ms : List Nat} (hl : ms.length = n * n) {res : List (List Nat)} {ins : List Nat} (hN : Nm n res ins) (hF : OrdF n (qbc (qan n ms)) [] res) {e : Edge} (he : e ∈ qan n ms) : mixP ins e = true ↔ RM n ms e := by
 obtain ⟨l1, l2⟩ := (qdr n ms).rng e he
 have h0 : Rc (qbc (qan n ms)) e.f e.t := .step (.refl _) (qcn.2 ⟨e, he, rfl, rfl⟩)
 have h1 := (qyu hl).2 e.t e.f l2 l1
 have h2 := hN.eq hF l1 l2
 unfold mixP RM
 rw [Bool.and_eq_true, decide_eq_true_eq, h2]
 constructor
 ·rintro ⟨a, _, b⟩
  exact ⟨a, Int.not_lt.2 (h1.2 b)⟩
 ·rintro ⟨a, b⟩
  exact ⟨a, h0, h1.1 (Int.not_lt.1 b)⟩
theorem Gs.rd {H : Hp} {b o n m : Nat} {e : Bool} {l : List AV} (h : Gs 1 H (.sl b o n m e) n l) : qbi (H.get b) o (n * 1) = some l := by
 rcases h.is with ⟨h, _⟩ | ⟨b', o', m', e', q, L, hv, h0, h1, h2, h3, h4, h5⟩
 ·cases h
 ·cases hv
  rw [h1, qd1, if_pos (by omega), h3]
theorem qqh (hC : qa7 C) (hY : qgi C) (hO : qcq C) (hS : qce C) (hR : qco LA LO C) {k : Nat} (hk : 1002 ≤ k) {n : Nat} {ms : List Nat} (hM : MOk n ms) (hP : qjv n ms) (hn : n ≤ 256) (hlen : (qan n ms).length < 900) {gv : AV} {H : Hp} (hg : IsE H gv (qan n ms)) :
  Ok (C k (.f qlr) [.agg [.int .i64 (.ofNat n), gv]] H) fun r H' => Fm No H H' ∧
   ((r = .tup [.nilsl, .int .i64 (.ofNat 8)] ∧ qo5 n ms none) ∨
    ∃ w s, r = .tup [w, .int .i64 (.ofNat 0)] ∧ Gl 1 H' w s.length (nats s) ∧ capV w = .val (.int .i64 (.ofNat s.length)) ∧ s.length ≤ 1001 ∧ qo5 n ms (some s)) := by
 obtain ⟨j, rfl⟩ : ∃ j, k = j + 3 := ⟨k - 3, by omega⟩
 rw [(hY (j + 2)).stWit]
 have hE := qdr n ms
 have hl := hM.len
 unfold stWit qwo
 simp (disch := first | omega | exact ti rfl | (simp only [np, nq]; first | done | omega)) only [go_sem, reduceAdd, reduceMul, reduceSub, reduceLeDiff, reduceEqDiff, reduceShiftRight, reduceAnd]
 have f0 : Fm No H (qak H (qaa 0 [.int .i64 (.ofNat n), gv])) := by (repeat (first | exact Fm.refl _ _ | assumption | refine Fm.push ?_ _ | refine Fm.up2 ?_ (by (first | omega | (simp only [np, nq]; omega))) | refine Fm.put_new ?_ _ _ (by (first | omega | (simp only [np, nq]; omega)))))
 refine Ok.ve (zga hC hO hS hR (k := j + 2) (by omega) hE hn (by omega) (hg.fm f0)) ?_
 rintro r H1 ⟨lv, iv, os, ins2, out, ins, res, rfl, hOrd, hCR, f1⟩
 have hF := hOrd.ord hE.rng
 have hN := zeu hF hCR.ins
 have n1 : H.nx + 1 ≤ H1.nx := f1.nx
 have g1 : H1.get H.nx = qaa 0 [.int .i64 (.ofNat n), gv] := (f1.keep (by (first | omega | (simp only [np, nq]; omega)))).trans (qaj _ _)
 have es3 : ∀ x y a b : AV, setL [a, b] 0 [x, y] = [x, y] := fun _ _ _ _ => rfl
 have fa : Fm No H1 ((qak H1 (qaa 0 [.nilsl, .nilsl])).put H1.nx (qaa 0 [lv, iv])) := by (repeat (first | exact Fm.refl _ _ | assumption | refine Fm.push ?_ _ | refine Fm.up2 ?_ (by (first | omega | (simp only [np, nq]; omega))) | refine Fm.put_new ?_ _ _ (by (first | omega | (simp only [np, nq]; omega)))))
 simp (disch := first | omega | exact ti rfl | (simp only [np, nq]; first | done | omega)) only [go_sem, reduceAdd, reduceMul, reduceSub, reduceLeDiff, reduceEqDiff, reduceShiftRight, reduceAnd, es3, List.length_cons, List.length_nil]
 generalize hH2 : (qak H1 (qaa 0 [AV.nilsl, AV.nilsl])).put H1.nx (qaa 0 [lv, iv]) = H2 at *
 have c2 : H2.get H1.nx = qaa 0 [lv, iv] := by rw [← hH2, qac]
 have n2 : H2.nx = H1.nx + 1 := by rw [← hH2]; rfl
 have g2 : H2.get H.nx = qaa 0 [.int .i64 (.ofNat n), gv] := (fa.keep (by omega)).trans g1
 have hg2 : IsE H2 gv (qan n ms) := ((hg.fm f0).fm f1).fm fa
 unfold ql3
 simp (disch := first | omega | exact ti rfl | (simp only [np, nq]; first | done | omega)) only [go_sem, reduceAdd, reduceMul, reduceSub, reduceLeDiff, reduceEqDiff, reduceShiftRight, reduceAnd, g2]
 refine Ok.ve (zct hC (j := j + 1) hg2 (by omega) (zdu (j := j) hY hE.rng (hCR.gi.no fa) c2 (by omega))) ?_
 rintro v H3 ⟨hcase, f3⟩
 have f03 := ((f0.trans f1).trans fa).trans f3
 rcases hcase with ⟨i, rfl, hi, hp, ha⟩ | ⟨rfl, ha⟩
 ·simp (disch := first | omega | exact ti rfl | (simp only [np, nq]; first | done | omega)) only [go_sem, reduceAdd, reduceMul, reduceSub, reduceLeDiff, reduceEqDiff, reduceShiftRight, reduceAnd, Nat.not_lt_zero]
  unfold ql4
  have hg3 := hg2.fm f3
  obtain ⟨b, o, e1, _, e3⟩ := hg3.at hi
  have g3 : H3.get H.nx = qaa 0 [.int .i64 (.ofNat n), gv] := (f3.keep (by omega)).trans g2
  have h3 : H.nx < H3.nx := by have := f3.nx; omega
  have hmem : (qan n ms)[i] ∈ qan n ms := List.getElem_mem _
  have hrm := (q5n hl hN hF hmem).1 hp
  have hno : ∀ e' ∈ (qan n ms).take i, ¬ RM n ms e' := fun e' he' h => by
   have := List.any_eq_false.1 ha e' he'
   exact this ((q5n hl hN hF (List.mem_of_mem_take he')).2 h)
  have hat : (qan n ms)[i]? = some (qan n ms)[i] := List.getElem?_eq_getElem hi
  obtain ⟨l1, l2⟩ := hE.rng _ hmem
  generalize (qan n ms)[i] = e at *
  have fb : Fm No H3 ((qak H3 (qaa 0 [.int .i64 (.ofNat 0), .int .i64 (.ofNat 0), .bool false])).put H3.nx (qaa 0 e.cells)) := by (repeat (first | exact Fm.refl _ _ | assumption | refine Fm.push ?_ _ | refine Fm.up2 ?_ (by (first | omega | (simp only [np, nq]; omega))) | refine Fm.put_new ?_ _ _ (by (first | omega | (simp only [np, nq]; omega)))))
  simp (disch := first | omega | exact ti rfl | (simp only [np, nq]; first | done | omega)) only [go_sem, reduceAdd, reduceMul, reduceSub, reduceLeDiff, reduceEqDiff, reduceShiftRight, reduceAnd, g3, e1, e3, Edge.cells]
  unfold Edge.cells at fb
  obtain ⟨m, hW, _, hWb⟩ := hP.walk e.t l2
  obtain ⟨w1, w2⟩ := hWb e.f l1
  have hnn := fun h => hrm.2 (w1.1 h)
  obtain ⟨l, l', z1, z2, z3, z4⟩ := w2 hrm.2
  refine Ok.ve (zf8 hC (k := j + 2) (by omega) (hg3.fm fb) hW l2 l1 (Q := fun r H' => ∃ w, r = .tup [w, .int .i64 (.ofNat 0)] ∧ Fm No _ H' ∧ Gl 1 H' w (l.length + 1) (nats (e.t :: l')) ∧ ∀ b, In w b → H3.nx + 1 ≤ b) (fun h => absurd h hnn) (fun _ => ⟨l, z1, z2, fun H' w a1 a2 a3 a4 => ⟨w, rfl, a1, by rw [← z4]; exact a2, a4⟩⟩)) ?_
  rintro r H4 ⟨w, rfl, f4, gw, hwn⟩
  have hll : l'.length = l.length := by have := congrArg List.length z4; simpa using this.symm
  have n4 := f4.nx
  have n4' : H3.nx + 1 ≤ H4.nx := n4
  have g4 : H4.get H3.nx = qaa 0 [.int .i64 (.ofNat e.f), .int .i64 (.ofNat e.t), .bool e.s] := (f4.keep (by (first | omega | (simp only [np, nq]; omega)))).trans (qac _ _ _)
  have elw := gw.lenV
  obtain ⟨wb, wo, wm, we, u1, u2, u3⟩ := gw.gs.upto (k := l.length) (by omega) (by omega)
  have u1' : qa8 1 w none (some (.int .i64 (.ofNat (l.length + 1 - 1)))) none = .val (.sl wb wo l.length wm we) := by rw [Nat.add_sub_cancel]; exact u1
  have hwb : wb < H4.nx := u2.lt ⟨_, _, _, _, rfl⟩
  have hdl : (nats (e.t :: l')).take (l.length * 1) = nats (e.t :: l').dropLast := by
   unfold nats
   rw [← List.map_take, List.dropLast_eq_take, List.length_cons, hll]
   simp
  rw [hdl] at u2
  have hdn : (nats (e.t :: l').dropLast).length = l.length := by rw [qav, List.length_dropLast, List.length_cons, hll]; rfl
  have rd1 := u2.rd
  have rd2 := rd1
  rw [Nat.mul_one] at rd2
  simp (disch := first | omega | exact ti rfl | (simp only [np, nq]; first | done | omega)) only [go_sem, reduceAdd, reduceMul, reduceSub, reduceLeDiff, reduceEqDiff, reduceShiftRight, reduceAnd, g4, elw, u1', rd1, rd2, hwb]
  have hdl2 : l.length < 1000 := z2
  obtain ⟨w5, H5, a1, a2, a3, a4, a5⟩ := app1 (H := (Hp.mk H4.t (H4.nx + 12)).put (H4.nx + 2) (qaa 0 [AV.int .i64 (.ofNat e.f)])) (qac _ _ _) (by (first | omega | (simp only [np, nq]; omega))) (l := nats (e.t :: l').dropLast) hdn (by omega)
  refine Ok.deE a1 ?_
  have fP : Fm No H4 ((Hp.mk H4.t (H4.nx + 12)).put (H4.nx + 2) (qaa 0 [AV.int .i64 (.ofNat e.f)])) := by (repeat (first | exact Fm.refl _ _ | assumption | refine Fm.push ?_ _ | refine Fm.up2 ?_ (by (first | omega | (simp only [np, nq]; omega))) | refine Fm.put_new ?_ _ _ (by (first | omega | (simp only [np, nq]; omega)))))
  have f5 : Fm No H4 H5 := fP.then a3 fun c hc h => by omega
  have g5 : H5.get H3.nx = qaa 0 [.int .i64 (.ofNat e.f), .int .i64 (.ofNat e.t), .bool e.s] := (f5.keep (by omega)).trans g4
  simp (disch := first | omega | exact ti rfl | (simp only [np, nq]; first | done | omega)) only [go_sem, reduceAdd, reduceMul, reduceSub, reduceLeDiff, reduceEqDiff, reduceShiftRight, reduceAnd, g5]
  obtain ⟨w6, b1, b2, b3, b4⟩ := qzn hC (k := j + 2) (by omega) a2
  refine Ok.deE b1 ?_
  simp (disch := first | omega | exact ti rfl | (simp only [np, nq]; first | done | omega)) only [go_sem, reduceAdd, reduceMul, reduceSub, reduceLeDiff, reduceEqDiff, reduceShiftRight, reduceAnd, g5]
  have hsl : (e.f :: (e.t :: l').dropLast).length = l.length + 1 := by rw [List.length_cons, List.length_dropLast, List.length_cons, hll]; rfl
  refine Ok.ret ⟨((f03.trans fb).trans f4).trans f5, Or.inr ⟨w6, e.f :: (e.t :: l').dropLast, rfl, by rw [hsl]; exact b2, by rw [hsl]; exact b3, by omega, i, e, l', hat, hrm, hno, z3, by omega, rfl⟩⟩
 ·simp (disch := first | omega | exact ti rfl | (simp only [np, nq]; first | done | omega)) only [go_sem, reduceAdd, reduceMul, reduceSub, reduceLeDiff, reduceEqDiff, reduceShiftRight, reduceAnd]
  exact Ok.ret ⟨f03, Or.inl ⟨rfl, fun e he h => by
   have := List.any_eq_false.1 ha e he
   exact this ((q5n hl hN hF he).2 h)⟩⟩
end Go.Di
end
section
/-
 Contracts: a way round with a negative edge, in the reference.
-/
namespace Go.Di
open Go.Ev Go.Di.T Go.Sort
variable {C : Nat → Ev.Call} {LA LO : LP}
theorem Gl.before {H : Hp} {v : AV} {a k : Nat} {l : List Nat} (h : Gl 1 H v (k + 1) (nats (a :: l))) (hl : l.length = k) :
  ∃ b o m e, qa8 1 v none (some (.int .i64 (.ofNat (k + 1 - 1)))) none = .val (.sl b o k m e) ∧ qbi (H.get b) o (k * 1) = some (nats (a :: l).dropLast) ∧ b < H.nx := by
 obtain ⟨wb, wo, wm, we, u1, u2, u3⟩ := h.gs.upto (k := k) (by omega) (by omega)
 refine ⟨wb, wo, wm, we, by rw [Nat.add_sub_cancel]; exact u1, ?_, u2.lt ⟨_, _, _, _, rfl⟩⟩
 have hdl : (nats (a :: l)).take (k * 1) = nats (a :: l).dropLast := by
  unfold nats
  rw [← List.map_take, List.dropLast_eq_take, List.length_cons, hl]
  simp
 rw [hdl] at u2
 exact u2.rd
theorem q5m {n : Nat} {ms : List Nat} (t : T3) : RM n ms (toE t) ↔ t.s = 1 ∧ ¬ (dist n ms).getD (t.t * n + t.f) 0 < 0 := by
 unfold RM toE
 rw [decide_eq_true_eq]
theorem qzq (hC : qa7 C) {j : Nat} (hj : 2 ≤ j) {H1 : Hp} {n mb a0 db : Nat} {w : AV} {ms : List Nat} (hM : MOk n ms) (hP : qjv n ms) (hw : Gl 3 H1 w (eM n ms n).length (qcb (eM n ms n))) (hlen : (eM n ms n).length < 900000)
  (ha : H1.get a0 = qaa 0 [.int .i64 (.ofNat n), .sl mb 0 (n * n) (n * n) true]) (hal : a0 < H1.nx) (hm : H1.get mb = qaa 0 (nats ms)) (hml : mb < H1.nx) (hd : H1.get db = qaa 0 (ints (dist n ms))) (hdl : db < H1.nx)
  {q1 : AV → Hp → R1} {q2 : Hp → R1} {Q : AV → Hp → Prop} (hq1 : ∀ v s H, Gl 1 H v s.length (nats s) → s.length ≤ 1001 → qo5 n ms (some s) → Fm No H1 H → Ok (q1 v H) Q) (hq2 : ∀ H, qo5 n ms none → Fm No H1 H → Ok (q2 H) Q) :
  ∀ (k i : Nat) (H : Hp), (eM n ms n).length - i < k → i ≤ (eM n ms n).length → (∀ t ∈ (eM n ms n).take i, ¬ RM n ms (toE t)) → Fm No H1 H →
   Ok (qii (C j) q1 q2 (.ptr a0 0) (.sl db 0 (n * n) (n * n) true) w k (.int .i64 (.ofNat i)) H) Q
 | 0, i, H, h, _, _, _ => by omega
 | k + 1, i, H, h, hi, hno, hF => by
  show Ok (qxg (C j) _ _ _ _ _ (qii (C j) _ _ _ _ _ k) _ H) Q
  unfold qxg
  have e0 := hw.lenV
  by_cases hlt : i < (eM n ms n).length
  ·obtain ⟨b, o, e1, e2, e3, e4, e5, e6⟩ := zf7 (hw.no hF) hlt
   have hmem : (eM n ms n)[i] ∈ eM n ms n := List.getElem_mem _
   have hat : (eM n ms n)[i]? = some (eM n ms n)[i] := List.getElem?_eq_getElem hlt
   have htk := List.take_succ_eq_append_getElem hlt
   obtain ⟨r1, r2, r3, _⟩ := qic hmem
   simp (disch := first | omega | exact ti rfl | (simp only [np, nq]; first | done | omega)) only [go_sem, reduceAdd, reduceMul, reduceSub, reduceLeDiff, reduceEqDiff, reduceShiftRight, reduceAnd, e0, hlt]
   unfold qrn
   generalize (eM n ms n)[i] = t at *
   have hn := hM.hn
   have hsq := qmg hn
   have i1 := qcl r2 r1
   have hdn := q09 (n := n) (ms := ms) hM.len
   have gA := qea (dist n ms) (t.t * n + t.f) (by omega)
   have k1 : H.get a0 = qaa 0 [.int .i64 (.ofNat n), .sl mb 0 (n * n) (n * n) true] := (hF.keep hal).trans ha
   have k2 : H.get db = qaa 0 (ints (dist n ms)) := (hF.keep hdl).trans hd
   have nope : ¬ RM n ms (toE t) → Ok (qrm (C j) (qii (C j) q1 q2 (.ptr a0 0) (.sl db 0 (n * n) (n * n) true) w k) (.int .i64 (.ofNat i)) H) Q := fun hne => by
    unfold qrm
    simp (disch := first | omega | exact ti rfl | (simp only [np, nq]; first | done | omega)) only [go_sem, reduceAdd, reduceMul, reduceSub, reduceLeDiff, reduceEqDiff, reduceShiftRight, reduceAnd]
    refine qzq hC hj hM hP hw hlen ha hal hm hml hd hdl hq1 hq2 k (i + 1) H (by omega) (by omega) (fun t' ht' => ?_) hF
    rw [htk] at ht'
    rcases List.mem_append.1 ht' with h | h
    ·exact hno t' h
    ·rw [List.mem_singleton] at h; subst h; exact hne
   by_cases hs : t.s = 1
   ·by_cases hneg : Int.ofNat 0 ≤ (dist n ms).getD (t.t * n + t.f) 0
    ·have hrm : RM n ms (toE t) := (q5m t).2 ⟨hs, Int.not_lt.2 hneg⟩
     obtain ⟨m, hW, _, hWb⟩ := hP.walk t.t r2
     obtain ⟨w1, w2⟩ := hWb t.f r1
     obtain ⟨l, l', z1, z2, z3, z4⟩ := w2 (Int.not_lt.2 hneg)
     have hll : l'.length = l.length := by have := congrArg List.length z4; simpa using this.symm
     simp (disch := first | omega | exact ti rfl | (simp only [np, nq]; first | done | omega)) only [go_sem, reduceAdd, reduceMul, reduceSub, reduceLeDiff, reduceEqDiff, reduceShiftRight, reduceAnd, e1, e4, e5, e6, k1, k2, gA, hs, hneg]
     have hIs : IsM H (.agg [.int .i64 (.ofNat n), .sl mb 0 (n * n) (n * n) true]) mb n ms := ⟨rfl, Nat.lt_of_lt_of_le hml hF.nx, (hF.keep hml).trans hm, hM⟩
     refine Ok.ve (q2f hC (k := j) (by omega) hIs hP.bnd hP.bnd2 hdn r2 r1 (Q := fun v H' => Gl 1 H' v (l'.length + 1) (nats (t.t :: l')) ∧ Fm No H H') (fun h => absurd h (Int.not_lt.2 hneg)) (fun _ => ⟨l', z3, by omega, fun v H' a1 a2 a3 => ⟨a1, a2⟩⟩)) ?_
     rintro v H4 ⟨gv, f4⟩
     have elv := gv.lenV
     obtain ⟨wb, wo, wm, we, u1, u2, u3⟩ := gv.before rfl
     have u2' := u2
     rw [Nat.mul_one] at u2'
     have hdn2 : (nats (t.t :: l').dropLast).length = l'.length := by rw [qav, List.length_dropLast, List.length_cons]; rfl
     have fP : Fm No H4 (qak H4 (qaa 0 [AV.int .i64 (.ofNat t.f)])) := by (repeat (first | exact Fm.refl _ _ | assumption | refine Fm.push ?_ _ | refine Fm.up2 ?_ (by (first | omega | (simp only [np, nq]; omega))) | refine Fm.put_new ?_ _ _ (by (first | omega | (simp only [np, nq]; omega)))))
     simp (disch := first | omega | exact ti rfl | (simp only [np, nq]; first | done | omega)) only [go_sem, reduceAdd, reduceMul, reduceSub, reduceLeDiff, reduceEqDiff, reduceShiftRight, reduceAnd, elv, u1, u2, u2', u3]
     obtain ⟨w5, H5, a1, a2, a3, a4, a5⟩ := app1 (H := qak H4 (qaa 0 [AV.int .i64 (.ofNat t.f)])) (b := H4.nx) (qaj _ _) (by (first | omega | (simp only [np, nq]; omega))) (l := nats (t.t :: l').dropLast) hdn2 (by omega)
     refine Ok.veE a1 ?_
     have hsl : (t.f :: (t.t :: l').dropLast).length = l'.length + 1 := by rw [List.length_cons, List.length_dropLast, List.length_cons]; rfl
     refine hq1 w5 (t.f :: (t.t :: l').dropLast) H5 (by rw [hsl]; exact a2) (by omega) ⟨i, toE t, l', ?_, hrm, fun e' he' => ?_, z3, by omega, rfl⟩ ((hF.trans f4).trans (fP.then a3 fun c hc h => by omega))
     ·unfold qan
      rw [List.getElem?_map, hat]; rfl
     ·unfold qan at he'
      rw [← List.map_take] at he'
      obtain ⟨t', h1, rfl⟩ := List.mem_map.1 he'
      exact hno t' h1
    ·simp (disch := first | omega | exact ti rfl | (simp only [np, nq]; first | done | omega)) only [go_sem, reduceAdd, reduceMul, reduceSub, reduceLeDiff, reduceEqDiff, reduceShiftRight, reduceAnd, e1, e4, e5, e6, k1, k2, gA, hs, hneg]
     exact nope fun h => hneg (Int.not_lt.1 ((q5m t).1 h).2)
   ·simp (disch := first | omega | exact ti rfl | (simp only [np, nq]; first | done | omega)) only [go_sem, reduceAdd, reduceMul, reduceSub, reduceLeDiff, reduceEqDiff, reduceShiftRight, reduceAnd, e1, e4, e5, e6, hs]
    exact nope fun h => hs ((q5m t).1 h).1
  ·simp (disch := first | omega | exact ti rfl | (simp only [np, nq]; first | done | omega)) only [go_sem, reduceAdd, reduceMul, reduceSub, reduceLeDiff, reduceEqDiff, reduceShiftRight, reduceAnd, e0, hlt]
   have : i = (eM n ms n).length := by omega
   subst this
   rw [List.take_length] at hno
   refine hq2 H (fun e he => ?_) hF
   obtain ⟨t, ht, rfl⟩ := List.mem_map.1 he
   exact hno t ht
theorem q5u (hC : qa7 C) (hY : qgi C) {k : Nat} (hk : 3 ≤ k) {n mb : Nat} {ms : List Nat} {mv : AV} {H : Hp} (hM : IsM H mv mb n ms) (hP : qjv n ms) (hlen : (eM n ms n).length < 900000) :
  Ok (C k (.f qso) [mv] H) fun r H' => Fm No H H' ∧ ((r = .nilsl ∧ qo5 n ms none) ∨ ∃ s, Gl 1 H' r s.length (nats s) ∧ s.length ≤ 1001 ∧ qo5 n ms (some s)) := by
 obtain ⟨j, rfl⟩ : ∃ j, k = j + 1 := ⟨k - 1, by omega⟩
 rw [(hY j).rWit]
 unfold rWit q54
 have hv := hM.hv
 subst hv
 have f0 : Fm No H (qak H (qaa 0 [.int .i64 (.ofNat n), .sl mb 0 (n * n) (n * n) true])) := by (repeat (first | exact Fm.refl _ _ | assumption | refine Fm.push ?_ _ | refine Fm.up2 ?_ (by (first | omega | (simp only [np, nq]; omega))) | refine Fm.put_new ?_ _ _ (by (first | omega | (simp only [np, nq]; omega)))))
 simp (disch := first | omega | exact ti rfl | (simp only [np, nq]; first | done | omega)) only [go_sem, reduceAdd, reduceMul, reduceSub, reduceLeDiff, reduceEqDiff, reduceShiftRight, reduceAnd]
 refine Ok.ve (qox hC (k := j) (by omega) (hM.fm f0) hP.bnd) ?_
 rintro r H1 ⟨rfl, d1, d2, f1⟩
 have k1 : H1.get H.nx = qaa 0 [.int .i64 (.ofNat n), .sl mb 0 (n * n) (n * n) true] := (f1.keep (by (first | omega | (simp only [np, nq]; omega)))).trans (qaj _ _)
 have n1 := f1.nx
 have n1' : H.nx + 1 ≤ H1.nx := n1
 simp (disch := first | omega | exact ti rfl | (simp only [np, nq]; first | done | omega)) only [go_sem, reduceAdd, reduceMul, reduceSub, reduceLeDiff, reduceEqDiff, reduceShiftRight, reduceAnd, k1]
 refine Ok.ve (q1l hC (k := j) (by omega) ((hM.fm f0).fm f1)) ?_
 rintro w H2 ⟨gw, f2, hwn⟩
 have hM2 := ((hM.fm f0).fm f1).fm f2
 unfold qxh
 rw [qaq]
 refine qzq hC (j := j) (by omega) (H1 := H2) hM.ok hP gw hlen ((f2.keep (by omega)).trans k1) (by have := f2.nx; omega) hM2.get hM2.lt ((f2.keep d2).trans d1) (Nat.lt_of_lt_of_le d2 f2.nx) (fun v s H3 a1 a2 a3 f3 => ?_) (fun H3 a3 f3 => ?_) qal 0 H2 (by rw [qah]; omega) (Nat.zero_le _) (fun t ht => by simp at ht) (Fm.refl _ _)
 ·exact Ok.ret ⟨((f0.trans f1).trans f2).trans f3, Or.inr ⟨s, a1, a2, a3⟩⟩
 ·unfold qij
  exact Ok.ret ⟨((f0.trans f1).trans f2).trans f3, Or.inl ⟨rfl, a3⟩⟩
end Go.Di
end
section
/-
 The law StrataNumbers.
-/
namespace Go.Di
open Go.Ev Go.Di.T Go.Sort
variable {C : Nat → Ev.Call} {LA LO : LP}
theorem qnn {call : Ev.Call} {H : Hp} {v w : AV} {l : List AV} (hv : Rl H v l) (hw : Rl H w l) (hint : ∀ x ∈ l, ∃ z : Int, x = .int .i64 z) (hl : l.length < 900000) {q1 : AV → Hp → R1} {q2 : Hp → R1} {Q : AV → Hp → Prop} (hq : Ok (q2 H) Q) :
  ∀ (k i : Nat), l.length - i < k → i ≤ l.length → Ok (qpn call q1 q2 v w k (.int .i64 (.ofNat i)) H) Q
 | 0, i, h, _ => by omega
 | k + 1, i, h, hi => by
  show Ok (q64 call _ _ _ _ (qpn call _ _ _ _ k) _ H) Q
  unfold q64
  have e0 := hw.len
  by_cases hil : i < l.length
  ·obtain ⟨b1, o1, e1, _, e2⟩ := hv.at' i hil
   obtain ⟨b2, o2, e3, _, e4⟩ := hw.at' i hil
   obtain ⟨z, hz⟩ := hint l[i] (List.getElem_mem _)
   rw [hz] at e2 e4
   simp (disch := first | omega | exact ti rfl | (simp only [np, nq]; first | done | omega)) only [go_sem, reduceAdd, reduceMul, reduceSub, reduceLeDiff, reduceEqDiff, reduceShiftRight, reduceAnd, e0, hil]
   unfold q62
   simp (disch := first | omega | exact ti rfl | (simp only [np, nq]; first | done | omega)) only [go_sem, reduceAdd, reduceMul, reduceSub, reduceLeDiff, reduceEqDiff, reduceShiftRight, reduceAnd, e1, e2, e3, e4]
   unfold q63
   simp (disch := first | omega | exact ti rfl | (simp only [np, nq]; first | done | omega)) only [go_sem, reduceAdd, reduceMul, reduceSub, reduceLeDiff, reduceEqDiff, reduceShiftRight, reduceAnd]
   exact qnn hv hw hint hl hq k (i + 1) (by omega) (by omega)
  ·simp (disch := first | omega | exact ti rfl | (simp only [np, nq]; first | done | omega)) only [go_sem, reduceAdd, reduceMul, reduceSub, reduceLeDiff, reduceEqDiff, reduceShiftRight, reduceAnd, e0, hil]
   exact hq
theorem qjj (hY : qgi C) {k : Nat} (hk : 1 ≤ k) {H : Hp} {v w : AV} {l : List AV} (hv : Rl H v l) (hw : Rl H w l) (hint : ∀ x ∈ l, ∃ z : Int, x = .int .i64 z) (hl : l.length < 900000) (hc : capV v = .val (.int .i64 (.ofNat l.length))) (z : Int) :
  Ok (C k (.f qg6) [v, .int .i64 z, w, .int .i64 z] H) fun r H' => r = .bool true ∧ H' = H := by
 obtain ⟨j, rfl⟩ : ∃ j, k = j + 1 := ⟨k - 1, by omega⟩
 rw [(hY j).lwT]
 unfold lwT zex
 have e1 := hv.len
 have e2 := hw.len
 simp (disch := first | omega | exact ti rfl | (simp only [np, nq]; first | done | omega)) only [go_sem, reduceAdd, reduceMul, reduceSub, reduceLeDiff, reduceEqDiff, reduceShiftRight, reduceAnd, e1, e2, hc]
 unfold qx2 q65
 rw [qaq]
 refine qnn hv hw hint hl ?_ qal 0 (by rw [qah]; omega) (Nat.zero_le _)
 unfold qnm
 exact Ok.ret ⟨rfl, rfl⟩
theorem Gp.last {n : Nat} {ms : List Nat} {d : List Int} {b : Nat} : ∀ {a : Nat} {l : List Nat}, Gp n ms d b a l → (a :: l).dropLast ++ [b] = a :: l
 | _, _, .nil => rfl
 | a, _, .cons (x := x) (l := l) _ _ h => by
  show a :: (x :: l).dropLast ++ [b] = _
  rw [List.cons_append, h.last]
theorem Gp.adj {n : Nat} {ms : List Nat} {d : List Int} {b : Nat} : ∀ {a : Nat} {l : List Nat}, a < n → Gp n ms d b a l → ∀ (i x y : Nat), (a :: l)[i]? = some x → (a :: l)[i + 1]? = some y → x < n ∧ y < n ∧ 0 < ms.getD (x * n + y) 0
 | _, _, _, .nil, i, x, y, _, h => by simp at h
 | a, _, ha, .cons (x := z) _ h1 h2, 0, x, y, g1, g2 => by
  cases g1; cases g2
  exact ⟨ha, h1.lt, h1.is.1⟩
 | a, _, ha, .cons (x := z) _ h1 h2, i + 1, x, y, g1, g2 => Gp.adj h1.lt h2 i x y g1 g2
theorem q4f {n : Nat} {ms s : List Nat} (h : qo5 n ms (some s)) : 0 < s.length ∧ ∀ i, i < s.length → s.getD i 0 < n ∧ s.getD ((i + 1) % s.length) 0 < n ∧ 0 < ms.getD (s.getD i 0 * n + s.getD ((i + 1) % s.length) 0) 0 ∧ (i = 0 → 1 < ms.getD (s.getD i 0 * n + s.getD ((i + 1) % s.length) 0) 0) := by
 obtain ⟨i0, e, l, h1, h2, h3, h4, h5, rfl⟩ := h
 have hmem := List.mem_of_getElem? h1
 obtain ⟨l1, l2⟩ := (qdr n ms).rng e hmem
 have hst : 1 < ms.getD (e.f * n + e.t) 0 := by
  obtain ⟨t, ht, rfl⟩ := List.mem_map.1 hmem
  exact eM_s ht (of_decide_eq_true h2.1)
 have hfull : (e.f :: (e.t :: l).dropLast) ++ [e.f] = e.f :: e.t :: l := by rw [List.cons_append, h4.last]
 generalize hs : e.f :: (e.t :: l).dropLast = s at *
 have hp : 0 < s.length := by rw [← hs]; exact Nat.succ_pos _
 have h0 : s.getD 0 0 = e.f := by rw [← hs]; rfl
 refine ⟨hp, fun i hi => ?_⟩
 have ha : (e.f :: e.t :: l)[i]? = some (s.getD i 0) := by
  rw [← hfull, List.getElem?_append_left hi, List.getD_eq_getElem?_getD, List.getElem?_eq_getElem hi]; rfl
 have hb : (e.f :: e.t :: l)[i + 1]? = some (s.getD ((i + 1) % s.length) 0) := by
  rw [← hfull]
  by_cases hlt : i + 1 < s.length
  ·rw [Nat.mod_eq_of_lt hlt, List.getElem?_append_left hlt, List.getD_eq_getElem?_getD, List.getElem?_eq_getElem hlt]; rfl
  ·have e1 : i + 1 = s.length := by omega
   rw [e1, Nat.mod_self, h0, List.getElem?_append_right (Nat.le_refl _), Nat.sub_self]; rfl
 generalize s.getD i 0 = x at *
 generalize s.getD ((i + 1) % s.length) 0 = y at *
 cases i with
 | zero =>
  cases ha; cases hb
  exact ⟨l1, l2, by omega, fun _ => hst⟩
 | succ i =>
  obtain ⟨a1, a2, a3⟩ := h4.adj l2 i x y ha hb
  exact ⟨a1, a2, a3, fun h => by omega⟩
theorem qwc {call : Ev.Call} {H : Hp} {n g mb : Nat} {w : AV} {ms s : List Nat} (hM : MOk n ms) (hn : n < 13) (hg : H.get g = qaa 0 [.int .i64 (.ofNat n), .sl mb 0 (n * n) (n * n) true]) (hm : H.get mb = qaa 0 (nats ms)) (hw : Gl 1 H w s.length (nats s)) (hl : s.length ≤ 1001) (hb : qo5 n ms (some s))
  {q1 : AV → Hp → R1} {q2 : Hp → R1} {Q : AV → Hp → Prop} (hq : Ok (q2 H) Q) :
  ∀ (k i : Nat), s.length - i < k → i ≤ s.length → Ok (qd9 call q1 q2 (.ptr g 0) w k (.int .i64 (.ofNat i)) H) Q
 | 0, i, h, _ => by omega
 | k + 1, i, h, hi => by
  show Ok (q69 call _ _ _ _ (qd9 call _ _ _ _ k) _ H) Q
  unfold q69
  have e0 := hw.lenV
  by_cases hil : i < s.length
  ·obtain ⟨_, hb2⟩ := q4f hb
   obtain ⟨r1, r2, r3, r4⟩ := hb2 i hil
   have hmod : (i + 1) % s.length < s.length := Nat.mod_lt _ (by omega)
   have v1 := qkc s i hil
   have v2 := qkc s ((i + 1) % s.length) hmod
   obtain ⟨b1, o1, c1, _, _, c2⟩ := hw.at v1
   obtain ⟨b2, o2, c3, _, _, c4⟩ := hw.at v2
   have i1 := qcl r1 r2
   have v3 := qkc ms (s.getD i 0 * n + s.getD ((i + 1) % s.length) 0) (by rw [hM.len]; omega)
   have hsq : n * n ≤ 144 := Nat.mul_le_mul (show n ≤ 12 by omega) (show n ≤ 12 by omega)
   have hsl : 0 < s.length := by omega
   generalize s.getD i 0 = x at *
   generalize s.getD ((i + 1) % s.length) 0 = y at *
   generalize ms.getD (x * n + y) 0 = z at *
   simp (disch := first | omega | exact ti rfl | (simp only [np, nq]; first | done | omega)) only [go_sem, reduceAdd, reduceMul, reduceSub, reduceLeDiff, reduceEqDiff, reduceShiftRight, reduceAnd, e0, hil]
   refine qpz ?_
   unfold qdq
   simp (disch := first | omega | exact ti rfl | (simp only [np, nq]; first | done | omega)) only [go_sem, reduceAdd, reduceMul, reduceSub, reduceLeDiff, reduceEqDiff, reduceShiftRight, reduceAnd]
   refine q26 ?_
   unfold qeq
   simp (disch := first | omega | exact ti rfl | (simp only [np, nq]; first | done | omega)) only [go_sem, reduceAdd, reduceMul, reduceSub, reduceLeDiff, reduceEqDiff, reduceShiftRight, reduceAnd, hg, hm, e0, c1, c2, c3, c4, v3, zc0]
   refine q27 ?_
   unfold qer
   have nxt : Ok (qvd call q1 (qd9 call q1 q2 (.ptr g 0) w k) (.int .i64 (.ofNat i)) (.bool false) H) Q := by
    refine q66 ?_
    unfold qgz
    simp (disch := first | omega | exact ti rfl | (simp only [np, nq]; first | done | omega)) only [go_sem, reduceAdd, reduceMul, reduceSub, reduceLeDiff, reduceEqDiff, reduceShiftRight, reduceAnd]
    refine q67 ?_
    unfold qg0
    simp (disch := first | omega | exact ti rfl | (simp only [np, nq]; first | done | omega)) only [go_sem, reduceAdd, reduceMul, reduceSub, reduceLeDiff, reduceEqDiff, reduceShiftRight, reduceAnd]
    exact qwc hM hn hg hm hw hl hb hq k (i + 1) (by omega) (by omega)
   have z0 : ¬ z = 0 := by omega
   by_cases hi0 : i = 0
   ·have z1 : ¬ z = 1 := by have := r4 hi0; omega
    subst hi0
    simp (disch := first | omega | exact ti rfl | (simp only [np, nq]; first | done | omega)) only [go_sem, reduceAdd, reduceMul, reduceSub, reduceLeDiff, reduceEqDiff, reduceShiftRight, reduceAnd, z0, z1]
    exact nxt
   ·simp (disch := first | omega | exact ti rfl | (simp only [np, nq]; first | done | omega)) only [go_sem, reduceAdd, reduceMul, reduceSub, reduceLeDiff, reduceEqDiff, reduceShiftRight, reduceAnd, z0, hi0]
    exact nxt
  ·simp (disch := first | omega | exact ti rfl | (simp only [np, nq]; first | done | omega)) only [go_sem, reduceAdd, reduceMul, reduceSub, reduceLeDiff, reduceEqDiff, reduceShiftRight, reduceAnd, e0, hil]
   refine qpz ?_
   unfold qdq
   simp (disch := first | omega | exact ti rfl | (simp only [np, nq]; first | done | omega)) only [go_sem, reduceAdd, reduceMul, reduceSub, reduceLeDiff, reduceEqDiff, reduceShiftRight, reduceAnd]
   exact hq
end Go.Di
end
section
/-
 The law StrataNumbers, whole.
-/
namespace Go.Di
open Go.Ev Go.Di.T Go.Sort
variable {C : Nat → Ev.Call} {LA LO : LP}
theorem zas (H : Hp) : Rl H .nilsl [] := (Gl.nil 1 H).rl
theorem qt9 {n : Nat} {ms : List Nat} (hl : ms.length = n * n) {e : Edge} (he : e ∈ qan n ms) (hs : e.s = true) (hr : Rc (qbc (qan n ms)) e.t e.f) : RM n ms e := by
 obtain ⟨l1, l2⟩ := (qdr n ms).rng e he
 exact ⟨hs, Int.not_lt.2 (((qyu hl).2 e.t e.f l2 l1).2 hr)⟩
theorem rm_rc {n : Nat} {ms : List Nat} (hl : ms.length = n * n) {e : Edge} (he : e ∈ qan n ms) (h : RM n ms e) : Rc (qbc (qan n ms)) e.t e.f := by
 obtain ⟨l1, l2⟩ := (qdr n ms).rng e he
 exact ((qyu hl).2 e.t e.f l2 l1).1 (Int.not_lt.1 h.2)
theorem qlh (hC : qa7 C) (hY : qgi C) (hO : qcq C) (hS : qce C) (hR : qco LA LO C) {k : Nat} (hk : 1500 ≤ k) (hlive : ∀ k H, 1 ≤ k → C k (.f qc9) [] H = .ok (.bool true) H) {call : Ev.Call} (hcall : call = C k) {N cnt : Nat} {v : AV} {H : Hp} (hv : Arg3 H v cnt) :
  Ok (lwN call (.agg [.int .u8 (.ofNat N), v]) H) fun r _ => r = .bool true := by
 subst hcall
 unfold lwN zey
 have fH : Fm No H (qak H (qaa 0 [.int .u8 (.ofNat N), v])) := by (repeat (first | exact Fm.refl _ _ | assumption | refine Fm.push ?_ _ | refine Fm.up2 ?_ (by (first | omega | (simp only [np, nq]; omega))) | refine Fm.put_new ?_ _ _ (by (first | omega | (simp only [np, nq]; omega)))))
 simp (disch := first | omega | exact ti rfl | (simp only [np, nq]; first | done | omega)) only [go_sem, reduceAdd, reduceMul, reduceSub, reduceLeDiff, reduceEqDiff, reduceShiftRight, reduceAnd]
 refine Ok.ve (qzm hC (by omega) (hv.fm fH)) ?_
 rintro r H1 ⟨mb, ms, hM, hmb, f1⟩
 generalize hn : N % 13 = n at *
 have hn13 : n < 13 := by omega
 have hr := hM.hv
 subst hr
 have hP := q2n hn13 hM.ok
 have hl := hM.ok.len
 simp (disch := first | omega | exact ti rfl | (simp only [np, nq]; first | done | omega)) only [go_sem, reduceAdd, reduceMul, reduceSub, reduceLeDiff, reduceEqDiff, reduceShiftRight, reduceAnd]
 have fa : Fm No H1 ((qak H1 (qaa 0 [.int .i64 (.ofNat 0), .nilsl])).put H1.nx (qaa 0 [.int .i64 (.ofNat n), .sl mb 0 (n * n) (n * n) true])) := by (repeat (first | exact Fm.refl _ _ | assumption | refine Fm.push ?_ _ | refine Fm.up2 ?_ (by (first | omega | (simp only [np, nq]; omega))) | refine Fm.put_new ?_ _ _ (by (first | omega | (simp only [np, nq]; omega)))))
 refine q2y ?_
 unfold qel
 simp (disch := first | omega | exact ti rfl | (simp only [np, nq]; first | done | omega)) only [go_sem, reduceAdd, reduceMul, reduceSub, reduceLeDiff, reduceEqDiff, reduceShiftRight, reduceAnd]
 refine Ok.ve (zcs hC (by omega) (hM.fm fa)) ?_
 rintro r H2 ⟨w, rfl, hG, f2, hw⟩
 simp (disch := first | omega | exact ti rfl | (simp only [np, nq]; first | done | omega)) only [go_sem, reduceAdd, reduceMul, reduceSub, reduceLeDiff, reduceEqDiff, reduceShiftRight, reduceAnd]
 have n2 : H1.nx + 1 ≤ H2.nx := f2.nx
 have m2 : H2.get H1.nx = qaa 0 [.int .i64 (.ofNat n), .sl mb 0 (n * n) (n * n) true] := (f2.keep (by (first | omega | (simp only [np, nq]; omega)))).trans (qac _ _ _)
 have fb : Fm No H2 ((qak H2 (qaa 0 [.int .i64 (.ofNat 0), .nilsl])).put H2.nx (qaa 0 [.int .i64 (.ofNat n), w])) := by (repeat (first | exact Fm.refl _ _ | assumption | refine Fm.push ?_ _ | refine Fm.up2 ?_ (by (first | omega | (simp only [np, nq]; omega))) | refine Fm.put_new ?_ _ _ (by (first | omega | (simp only [np, nq]; omega)))))
 have hE := qdr n ms
 have hlen : (qan n ms).length < 900 := by
  have h1 := qvz n ms n
  have h2 : n * n ≤ 12 * 12 := Nat.mul_le_mul (by omega) (by omega)
  unfold qan
  rw [List.length_map]
  omega
 refine q20 ?_
 unfold qem
 simp (disch := first | omega | exact ti rfl | (simp only [np, nq]; first | done | omega)) only [go_sem, reduceAdd, reduceMul, reduceSub, reduceLeDiff, reduceEqDiff, reduceShiftRight, reduceAnd, m2]
 have hM2 := (hM.fm fa).fm f2
 refine Ok.ve (qrc hY (k := k) (by omega) (hM2.fm fb) hn13) ?_
 rintro r H3 ⟨f3, hcase⟩
 have n3 : H2.nx + 1 ≤ H3.nx := f3.nx
 have m3 : H3.get H1.nx = qaa 0 [.int .i64 (.ofNat n), .sl mb 0 (n * n) (n * n) true] := ((fb.trans f3).keep (by omega)).trans m2
 have g3 : H3.get H2.nx = qaa 0 [.int .i64 (.ofNat n), w] := (f3.keep (by (first | omega | (simp only [np, nq]; omega)))).trans (qac _ _ _)
 have hG3 : IsE H3 w (qan n ms) := GlE.isE (Gl.no hG (fb.trans f3))
 have hM3 := (hM2.fm fb).fm f3
 have hFL := fun o : List Nat => fun h : o.length = n => zbt (n := n) (ms := ms) h hM.ok.le
 rcases hcase with ⟨ob, o, rfl, gob, hob, hNS, hFM⟩ | ⟨rfl, hex⟩
 ·have fit := (hFL o hNS.len).1 hFM
  have lst : Lst n (qan n ms) o := fun S hS x hx => hNS.lst S hS.1 ((hFL S hS.1).2 hS) x hx
  simp (disch := first | omega | exact ti rfl | (simp only [np, nq]; first | done | omega)) only [go_sem, reduceAdd, reduceMul, reduceSub, reduceLeDiff, reduceEqDiff, reduceShiftRight, reduceAnd]
  refine qpq ?_
  unfold qdn
  simp (disch := first | omega | exact ti rfl | (simp only [np, nq]; first | done | omega)) only [go_sem, reduceAdd, reduceMul, reduceSub, reduceLeDiff, reduceEqDiff, reduceShiftRight, reduceAnd, g3]
  refine Ok.ve (qqk hC hY hO hS hR (k := k) (by omega) hE (by omega) hlen hG3) ?_
  rintro r H4 ⟨f4, hcase⟩
  rcases hcase with ⟨w1, o1, rfl, gw1, cap1, fit1, lst1, lt1⟩ | ⟨rfl, e, he, hs, hr⟩
  ·have ho := zbs fit1 lst1 fit lst
   subst ho
   have n4 := f4.nx
   have g4 : H4.get H2.nx = qaa 0 [.int .i64 (.ofNat n), w] := (f4.keep (by omega)).trans g3
   simp (disch := first | omega | exact ti rfl | (simp only [np, nq]; first | done | omega)) only [go_sem, reduceAdd, reduceMul, reduceSub, reduceLeDiff, reduceEqDiff, reduceShiftRight, reduceAnd]
   refine qps ?_
   unfold qdo
   simp (disch := first | omega | exact ti rfl | (simp only [np, nq]; first | done | omega)) only [go_sem, reduceAdd, reduceMul, reduceSub, reduceLeDiff, reduceEqDiff, reduceShiftRight, reduceAnd, g4]
   refine Ok.ve (qqh hC hY hO hS hR (k := k) (by omega) hM.ok hP (by omega) hlen (hG3.fm f4)) ?_
   rintro r H5 ⟨f5, hcase⟩
   rcases hcase with ⟨rfl, hw0⟩ | ⟨w2, s, rfl, _, _, _, hw0⟩
   ·simp (disch := first | omega | exact ti rfl | (simp only [np, nq]; first | done | omega)) only [go_sem, reduceAdd, reduceMul, reduceSub, reduceLeDiff, reduceEqDiff, reduceShiftRight, reduceAnd]
    refine qpu ?_
    unfold qdp
    have hol := fit1.1
    have gr : Gl 1 H3 (.sl ob 0 n n true) n (nats o1) := ⟨by rw [qav, hol, Nat.mul_one], .inr ⟨ob, 0, true, 0, _, rfl, gob, Nat.zero_le _, List.drop_zero, Or.inl rfl, hob⟩⟩
    have e1 : C k (.f qg6) [w1, .int .i64 (.ofNat 0), .sl ob 0 n n true, .int .i64 (.ofNat 0)] H5 = .ok (.bool true) H5 := by
     obtain ⟨r, H', h1, rfl, rfl⟩ := qjj hY (k := k) (by omega) (gw1.no f5).rl ((gr.no f4).no f5).rl (q0m o1) (by rw [qav]; omega) (by rw [qav, hol]; exact cap1) (Int.ofNat 0)
     exact h1
    have e2 : C k (.f qg6) [.nilsl, .int .i64 (.ofNat 8), .nilsl, .int .i64 (.ofNat 8)] H5 = .ok (.bool true) H5 := by
     obtain ⟨r, H', h1, rfl, rfl⟩ := qjj hY (k := k) (by omega) (zas H5) (zas H5) (fun x hx => by cases hx) (by simp) rfl (Int.ofNat 8)
     exact h1
    have hlv := hlive k H5 (by omega)
    simp (disch := first | omega | exact ti rfl | (simp only [np, nq]; first | done | omega)) only [go_sem, reduceAdd, reduceMul, reduceSub, reduceLeDiff, reduceEqDiff, reduceShiftRight, reduceAnd, e1, e2, hlv]
    exact Ok.ret rfl
   ·exfalso
    obtain ⟨i, e, l, h1, h2, _⟩ := hw0
    have he := List.mem_of_getElem? h1
    exact qvo fit he h2.1 (rm_rc hl he h2)
  ·exact absurd (qvo fit he hs hr) id
 ·simp (disch := first | omega | exact ti rfl | (simp only [np, nq]; first | done | omega)) only [go_sem, reduceAdd, reduceMul, reduceSub, reduceLeDiff, reduceEqDiff, reduceShiftRight, reduceAnd]
  refine qpq ?_
  unfold qdn
  simp (disch := first | omega | exact ti rfl | (simp only [np, nq]; first | done | omega)) only [go_sem, reduceAdd, reduceMul, reduceSub, reduceLeDiff, reduceEqDiff, reduceShiftRight, reduceAnd, g3]
  refine Ok.ve (qqk hC hY hO hS hR (k := k) (by omega) hE (by omega) hlen hG3) ?_
  rintro r H4 ⟨f4, hcase⟩
  rcases hcase with ⟨w1, o1, rfl, gw1, cap1, fit1, lst1, lt1⟩ | ⟨rfl, e, he, hs, hr⟩
  ·exfalso
   obtain ⟨x, hx, h1⟩ := hex o1 fit1.1 ((hFL o1 fit1.1).2 fit1)
   have := lt1 x hx
   omega
  ·have hrm := qt9 hl he hs hr
   have n4 := f4.nx
   have g4 : H4.get H2.nx = qaa 0 [.int .i64 (.ofNat n), w] := (f4.keep (by omega)).trans g3
   have m4 : H4.get H1.nx = qaa 0 [.int .i64 (.ofNat n), .sl mb 0 (n * n) (n * n) true] := (f4.keep (by omega)).trans m3
   simp (disch := first | omega | exact ti rfl | (simp only [np, nq]; first | done | omega)) only [go_sem, reduceAdd, reduceMul, reduceSub, reduceLeDiff, reduceEqDiff, reduceShiftRight, reduceAnd]
   refine qps ?_
   unfold qdo
   simp (disch := first | omega | exact ti rfl | (simp only [np, nq]; first | done | omega)) only [go_sem, reduceAdd, reduceMul, reduceSub, reduceLeDiff, reduceEqDiff, reduceShiftRight, reduceAnd, g4]
   refine Ok.ve (qqh hC hY hO hS hR (k := k) (by omega) hM.ok hP (by omega) hlen (hG3.fm f4)) ?_
   rintro r H5 ⟨f5, hcase⟩
   rcases hcase with ⟨rfl, hw0⟩ | ⟨w2, s, rfl, gw2, cap2, hsl, hw0⟩
   ·exact absurd hrm (hw0 e he)
   ·simp (disch := first | omega | exact ti rfl | (simp only [np, nq]; first | done | omega)) only [go_sem, reduceAdd, reduceMul, reduceSub, reduceLeDiff, reduceEqDiff, reduceShiftRight, reduceAnd]
    refine qpu ?_
    unfold qdp
    simp (disch := first | omega | exact ti rfl | (simp only [np, nq]; first | done | omega)) only [go_sem, reduceAdd, reduceMul, reduceSub, reduceLeDiff, reduceEqDiff, reduceShiftRight, reduceAnd]
    refine q21 ?_
    unfold qen
    have n5 := f5.nx
    have m5 : H5.get H1.nx = qaa 0 [.int .i64 (.ofNat n), .sl mb 0 (n * n) (n * n) true] := (f5.keep (by omega)).trans m4
    have e2 : C k (.f qg6) [.nilsl, .int .i64 (.ofNat 12), .nilsl, .int .i64 (.ofNat 12)] H5 = .ok (.bool true) H5 := by
     obtain ⟨r, H', h1, rfl, rfl⟩ := qjj hY (k := k) (by omega) (zas H5) (zas H5) (fun x hx => by cases hx) (by simp) rfl (Int.ofNat 12)
     exact h1
    have hM5 := (hM3.fm f4).fm f5
    obtain ⟨r6, H6, e3, f6, hcase6⟩ := q5u hC hY (k := k) (by omega) hM5 hP (by have := hlen; unfold qan at this; rw [List.length_map] at this; omega)
    rcases hcase6 with ⟨rfl, hw6⟩ | ⟨s6, gr6, hs6, hw6⟩
    ·exact absurd hrm (hw6 e he)
    ·have hss : s = s6 := Option.some.inj (q3a hw0 hw6)
     subst hss
     have gw6 := gw2.no f6
     have e4 : C k (.f qg6) [w2, .int .i64 (.ofNat 0), r6, .int .i64 (.ofNat 0)] H6 = .ok (.bool true) H6 := by
      obtain ⟨r, H', h1, rfl, rfl⟩ := qjj hY (k := k) (by omega) gw6.rl gr6.rl (q0m s) (by rw [qav]; omega) (by rw [qav]; exact cap2) (Int.ofNat 0)
      exact h1
     have n6 := f6.nx
     have m6 : H6.get H1.nx = qaa 0 [.int .i64 (.ofNat n), .sl mb 0 (n * n) (n * n) true] := (f6.keep (by omega)).trans m5
     have elw := gw6.lenV
     obtain ⟨hp, _⟩ := q4f hw0
     have hp0 : ¬ s.length = 0 := by omega
     simp (disch := first | omega | exact ti rfl | (simp only [np, nq]; first | done | omega)) only [go_sem, reduceAdd, reduceMul, reduceSub, reduceLeDiff, reduceEqDiff, reduceShiftRight, reduceAnd, e2, m5, e3, e4, elw, hp0]
     refine q23 ?_
     unfold qeo
     simp (disch := first | omega | exact ti rfl | (simp only [np, nq]; first | done | omega)) only [go_sem, reduceAdd, reduceMul, reduceSub, reduceLeDiff, reduceEqDiff, reduceShiftRight, reduceAnd]
     refine q25 ?_
     unfold qep q7a
     rw [qaq]
     have hM6 := hM5.fm f6
     refine qwc hM.ok hn13 m6 hM6.get gw6 hsl hw0 ?_ qal 0 (by rw [qah]; omega) (Nat.zero_le _)
     refine q68 ?_
     unfold qg1
     have hlv := hlive k H6 (by omega)
     simp (disch := first | omega | exact ti rfl | (simp only [np, nq]; first | done | omega)) only [go_sem, reduceAdd, reduceMul, reduceSub, reduceLeDiff, reduceEqDiff, reduceShiftRight, reduceAnd, hlv]
     exact Ok.ret rfl
end Go.Di
end
