/-
 For countersignlaw18.StrataKnown: the law. No conditions beyond those that each theorem states.
-/
import Derived.Test.YtiickhlaamgljaaGreatCompE
set_option linter.unusedSimpArgs false
set_option linter.unusedVariables false
open Nat (reduceAdd reduceMul reduceSub reduceLeDiff reduceEqDiff reduceShiftRight reduceAnd)
section
/-
 Numbers of nodes are those of their components.
-/
namespace Go.Di
open Go.Ev Go.Di.T Go.Sort
theorem eR_s {n : Nat} {ms : List Nat} {i : Nat} {e : T3} : ∀ {k : Nat}, e ∈ eR n ms i k → e.s = 1 → 1 < ms.getD (i * n + e.t) 0
 | 0, h, _ => by cases h
 | k + 1, h, hs => by
  rcases List.mem_append.1 h with h | h
  ·exact eR_s h hs
  ·unfold ent at h
   rcases List.mem_append.1 h with h | h
   ·split at h
    ·rw [List.mem_singleton] at h; subst h; cases hs
    ·cases h
   ·split at h
    ·rw [List.mem_singleton] at h; subst h; assumption
    ·cases h
theorem eM_s {n : Nat} {ms : List Nat} {e : T3} : ∀ {i : Nat}, e ∈ eM n ms i → e.s = 1 → 1 < ms.getD (e.f * n + e.t) 0
 | 0, h, _ => by cases h
 | i + 1, h, hs => by
  rcases List.mem_append.1 h with h | h
  ·exact eM_s h hs
  ·rw [(qnc h).1]; exact eR_s h hs
theorem q61 {n : Nat} {ms : List Nat} {i j : Nat} (h : 1 < ms.getD (i * n + j) 0) : ∀ {k : Nat}, j < k → (⟨i, j, 1⟩ : T3) ∈ eR n ms i k
 | 0, hj => by omega
 | k + 1, hj => by
  by_cases e : j = k
  ·subst e
   exact List.mem_append_right _ (List.mem_append_right _ (by rw [if_pos h]; exact List.mem_singleton.2 rfl))
  ·exact List.mem_append_left _ (q61 h (show j < k by omega))
theorem q62 {n : Nat} {ms : List Nat} {i j : Nat} (h : 1 < ms.getD (i * n + j) 0) (hj : j < n) : ∀ {m : Nat}, i < m → (⟨i, j, 1⟩ : T3) ∈ eM n ms m
 | 0, hi => by omega
 | m + 1, hi => by
  by_cases e : i = m
  ·subst e
   exact List.mem_append_right _ (q61 h hj)
  ·exact List.mem_append_left _ (q62 h hj (show i < m by omega))
theorem qq9 {n : Nat} {adj : Nat → List Nat} : ∀ {R pre : List (List Nat)} {c : List Nat}, OrdF n adj pre R → c ∈ R → ∃ i, q7c n adj i c
 | [], _, _, _, h => by cases h
 | d :: R, pre, c, ⟨⟨i, _, hc⟩, h2⟩, h => by
  rcases List.mem_cons.1 h with rfl | h
  ·exact ⟨i, hc⟩
  ·exact qq9 h2 h
theorem q0e {n : Nat} {adj : Nat → List Nat} {res : List (List Nat)} (h : OrdF n adj [] res) {o : List Nat} (ho : o ∈ res) {x y : Nat} (hx : x ∈ o) (hy : y < n) : y ∈ o ↔ Rc adj x y ∧ Rc adj y x := by
 obtain ⟨i, _, hc⟩ := qq9 h ho
 obtain ⟨_, h1, h2⟩ := (hc x).1 hx
 rw [hc y]
 exact ⟨fun g => ⟨h2.trans g.2.1, g.2.2.trans h1⟩, fun g => ⟨hy, h1.trans g.1, g.2.trans h2⟩⟩
structure Nm (n : Nat) (res : List (List Nat)) (ins : List Nat) : Prop where
 is : ∀ (j : Nat) (o : List Nat) (x : Nat), res[j]? = some o → x ∈ o → ins.getD x 0 = j
 all : ∀ x, x < n → ∃ (j : Nat) (o : List Nat), res[j]? = some o ∧ x ∈ o
theorem Nm.lt {n : Nat} {res : List (List Nat)} {ins : List Nat} (h : Nm n res ins) {x : Nat} (hx : x < n) : ins.getD x 0 < res.length := by
 obtain ⟨j, o, h1, h2⟩ := h.all x hx
 rw [h.is j o x h1 h2]
 exact (List.getElem?_eq_some_iff.1 h1).1
theorem Nm.eq {n : Nat} {adj : Nat → List Nat} {res : List (List Nat)} {ins : List Nat} (h : Nm n res ins) (hF : OrdF n adj [] res) {x y : Nat} (hx : x < n) (hy : y < n) : ins.getD x 0 = ins.getD y 0 ↔ Rc adj x y ∧ Rc adj y x := by
 obtain ⟨j, o, h1, h2⟩ := h.all x hx
 obtain ⟨j', o', h3, h4⟩ := h.all y hy
 rw [h.is j o x h1 h2, h.is j' o' y h3 h4, ← q0e hF (List.mem_of_getElem? h1) h2 hy]
 constructor
 ·rintro rfl
  rw [h1] at h3
  cases h3
  exact h4
 ·intro hyo
  rw [← h.is j o y h1 hyo, h.is j' o' y h3 h4]
theorem Nm.same {n : Nat} {res : List (List Nat)} {ins ins' : List Nat} (h : Nm n res ins) (h' : Nm n res ins') {x : Nat} (hx : x < n) : ins.getD x 0 = ins'.getD x 0 := by
 obtain ⟨j, o, h1, h2⟩ := h.all x hx
 rw [h.is j o x h1 h2, h'.is j o x h1 h2]
theorem CR.no {HB H H' : Hp} {n : Nat} {lv iv : AV} {os : List AV} {res : List (List Nat)} {ins : List Nat} (h : CR HB H n lv iv os res ins) (ff : Fm No H H') : CR HB H' n lv iv os res ins :=
 ⟨h.gl.no ff, h.cap, h.len, fun j w o h1 h2 => by
  obtain ⟨a1, a2, a3⟩ := h.at' j w o h1 h2
  exact ⟨a1.no ff, a2, a3⟩, h.gi.no ff, h.capi, h.ins, h.new⟩
end Go.Di
end
section
/-
 Contracts: doubles taken out of an ascending list.
-/
namespace Go.Di
open Go.Ev Go.Di.T Go.Sort
variable {C : Nat → Ev.Call}
theorem rdP {H : Hp} {b q : Nat} {P : List AV} {M : List Nat} (hg : H.get b = qaa q (P ++ nats M)) {i : Nat} (h : i < M.length) : qa9 (H.get b) (P.length + i) = .val (.int .i64 (.ofNat M[i])) := by
 rw [hg, qb7, List.getElem?_append_right (by omega), Nat.add_sub_cancel_left]
 unfold nats
 rw [List.getElem?_map, List.getElem?_eq_getElem h]; rfl
theorem setP (P : List AV) (M : List Nat) {i : Nat} (x : Nat) (h : i < M.length) : setL (P ++ nats M) (P.length + i) [.int .i64 (.ofNat x)] = P ++ nats (M.set i x) := by
 have hn : (nats M).length = M.length := qaw M
 unfold setL
 rw [List.take_append, List.take_of_length_le (by omega), List.drop_append, List.drop_eq_nil_of_le (by simp; omega)]
 rw [show P.length + i - P.length = i by omega, show P.length + i + [AV.int .i64 (.ofNat x)].length - P.length = i + 1 by simp; omega]
 have : nats (M.set i x) = (nats M).set i (.int .i64 (.ofNat x)) := by unfold nats; rw [List.map_set]
 rw [this, List.set_eq_take_append_cons_drop, if_pos (by omega)]
 simp
theorem zb5 (P : List AV) (M : List Nat) {k n : Nat} (hl : M.length = n) (h : k ≤ n) : setL (P ++ nats M) (P.length + k) (reps [.int .i64 (.ofNat 0)] (n - k)) = P ++ nats (M.take k ++ List.replicate (n - k) 0) := by
 have hn : (nats M).length = n := by rw [qaw, hl]
 have hr : reps [.int .i64 (.ofNat 0)] (n - k) = nats (List.replicate (n - k) 0) := by rw [qds]; unfold nats; rw [List.map_replicate]
 have hr2 : (nats (List.replicate (n - k) 0)).length = n - k := by rw [qaw, List.length_replicate]
 unfold setL
 rw [hr, hr2, List.take_append, List.take_of_length_le (by omega), List.drop_append, List.drop_eq_nil_of_le (by omega)]
 rw [show P.length + k - P.length = k by omega, List.drop_eq_nil_of_le (by omega)]
 have : nats (M.take k ++ List.replicate (n - k) 0) = (nats M).take k ++ nats (List.replicate (n - k) 0) := by unfold nats; rw [List.map_append, List.map_take]
 rw [this]
 simp
structure Cp (l M : List Nat) (k p : Nat) : Prop where
 len : M.length = l.length
 lt : k < p
 le : p ≤ l.length
 same : M.drop k = l.drop k
 asc : (M.take k).Pairwise (· < ·)
 mem : ∀ x, x ∈ M.take k ↔ x ∈ l.take p
theorem Cp.at {l M : List Nat} {k p i : Nat} (h : Cp l M k p) (hi : k ≤ i) (hil : i < l.length) : M[i]'(by rw [h.len]; exact hil) = l[i] := by
 have h1 : (M.drop k)[i - k]? = (l.drop k)[i - k]? := by rw [h.same]
 rw [List.getElem?_drop, List.getElem?_drop, show k + (i - k) = i by omega, List.getElem?_eq_getElem hil, List.getElem?_eq_getElem (by rw [h.len]; exact hil)] at h1
 exact Option.some.inj h1
theorem qdf {l : List Nat} {p : Nat} (h : p < l.length) : l.take (p + 1) = l.take p ++ [l[p]] := List.take_succ_eq_append_getElem h
theorem qjw {l : List Nat} {p x : Nat} (h : x ∈ l.take p) : ∃ i, ∃ (hi : i < l.length), i < p ∧ l[i] = x := by
 obtain ⟨i, hi, e⟩ := List.mem_iff_getElem.1 h
 rw [List.length_take] at hi
 exact ⟨i, by omega, by omega, by rw [← e]; simp⟩
theorem Cp.eq {l M : List Nat} {k p : Nat} (h : Cp l M k p) (hp : p < l.length) (he : l[p] = l[p - 1]'(by omega)) : Cp l M k (p + 1) := by
 refine ⟨h.len, by have := h.lt; omega, hp, h.same, h.asc, fun x => (h.mem x).trans ?_⟩
 rw [qdf hp, List.mem_append, List.mem_singleton]
 refine ⟨Or.inl, fun hx => hx.elim id fun hx => ?_⟩
 have h0 := h.lt
 rw [hx, he]
 have : l.take p = l.take (p - 1) ++ [l[p - 1]'(by omega)] := by
  have := qdf (l := l) (p := p - 1) (by omega)
  rwa [show p - 1 + 1 = p by omega] at this
 exact this ▸ List.mem_append_right _ (List.mem_singleton.2 rfl)
theorem Cp.ne {l M : List Nat} {k p : Nat} (h : Cp l M k p) (hs : l.Pairwise (· ≤ ·)) (hp : p < l.length) (he : ¬ l[p] = l[p - 1]'(by omega)) : Cp l (M.set k l[p]) (k + 1) (p + 1) := by
 have h0 := h.lt
 have hml := h.len
 have ht : (M.set k l[p]).take (k + 1) = M.take k ++ [l[p]] := by
  rw [qdf (l := M.set k l[p]) (p := k) (by rw [List.length_set]; omega), List.getElem_set_self, List.take_set_of_le (Nat.le_refl k)]
 refine ⟨by rw [List.length_set, hml], by omega, hp, ?_, ?_, fun x => ?_⟩
 ·rw [List.drop_set_of_lt (by omega)]
  have := congrArg (List.drop 1) h.same
  rwa [List.drop_drop, List.drop_drop] at this
 ·rw [ht, List.pairwise_append]
  refine ⟨h.asc, List.pairwise_singleton _ _, fun a ha b hb => ?_⟩
  rw [List.mem_singleton] at hb
  subst hb
  obtain ⟨i, hi, hip, rfl⟩ := qjw ((h.mem a).1 ha)
  have hs' := List.pairwise_iff_getElem.1 hs
  have a1 : l[p - 1]'(by omega) ≤ l[p] := hs' (p - 1) p (by omega) hp (by omega)
  have a2 : l[i] ≤ l[p - 1]'(by omega) := by
   rcases Nat.lt_or_ge i (p - 1) with h2 | h2
   ·exact hs' i (p - 1) hi (by omega) h2
   ·have : i = p - 1 := by omega
    subst this; exact Nat.le_refl _
  omega
 ·rw [ht, qdf hp, List.mem_append, List.mem_append, h.mem x]
theorem qip {call : Ev.Call} {b o n q : Nat} {e : Bool} {P : List AV} {l : List Nat} (hs : l.Pairwise (· ≤ ·)) (hP : P.length = o) (hl : l.length = n) (hn : n < 900) {c0 : Nat} (hc0 : c0 < n) {H1 : Hp} {q2 : AV → Hp → R1} {Q : AV → Hp → Prop}
  (hq : ∀ M k H, Cp l M k n → H.get b = qaa q (P ++ nats M) → Fm (fun c => c = b) H1 H → Ok (q2 (.int .i64 (.ofNat k)) H) Q) :
  ∀ (f k k2 : Nat) (M : List Nat) (H : Hp), n - (c0 + k2) < f → 1 ≤ k2 → Cp l M k (c0 + k2) → H.get b = qaa q (P ++ nats M) → Fm (fun c => c = b) H1 H →
   Ok (qbw call q2 (.sl b o n n e) (.sl b (o + c0) (n - c0) (n - c0) e) f (.int .i64 (.ofNat k)) (.int .i64 (.ofNat k2)) H) Q
 | 0, k, k2, M, H, h, _, _, _, _ => by omega
 | f + 1, k, k2, M, H, h, h1, hC, hg, hF => by
  show Ok (qez call _ _ _ (qbw call _ _ _ f) _ _ H) Q
  unfold qez
  have hlt := hC.lt
  have hle := hC.le
  have hml := hC.len
  by_cases hk : k2 < n - c0
  ·have e1 := rdP hg (i := c0 + k2) (by omega)
   have e2 := rdP hg (i := c0 + (k2 - 1)) (by omega)
   rw [hC.at (by omega) (by omega), hP, ← Nat.add_assoc] at e1
   rw [hC.at (by omega) (by omega), hP, ← Nat.add_assoc] at e2
   simp (disch := first | omega | exact ti rfl | (simp only [np, nq]; first | done | omega)) only [go_sem, reduceAdd, reduceMul, reduceSub, reduceLeDiff, reduceEqDiff, reduceShiftRight, reduceAnd, hk]
   unfold qey
   have hpe : l[c0 + k2 - 1]'(by omega) = l[c0 + (k2 - 1)]'(by omega) := by congr 1; omega
   by_cases he : l[c0 + k2]'(by omega) = l[c0 + k2 - 1]'(by omega)
   ·rw [he, hpe] at e1
    simp (disch := first | omega | exact ti rfl | (simp only [np, nq]; first | done | omega)) only [go_sem, reduceAdd, reduceMul, reduceSub, reduceLeDiff, reduceEqDiff, reduceShiftRight, reduceAnd, Nat.mul_one, e1, e2]
    unfold qb9
    simp (disch := first | omega | exact ti rfl | (simp only [np, nq]; first | done | omega)) only [go_sem, reduceAdd, reduceMul, reduceSub, reduceLeDiff, reduceEqDiff, reduceShiftRight, reduceAnd]
    exact qip hs hP hl hn hc0 hq f k (k2 + 1) M H (by omega) (by omega) (hC.eq (by omega) he) hg hF
   ·have he' : ¬ l[c0 + k2]'(by omega) = l[c0 + (k2 - 1)]'(by omega) := by rw [← hpe]; exact he
    have e3 := setP P M (i := k) (l[c0 + k2]'(by omega)) (by omega)
    rw [hP] at e3
    have e4 : ∀ x : AV, qgk (qaa q (P ++ nats M)) (o + k) [x] = some (qaa q (setL (P ++ nats M) (o + k) [x])) := fun x => by
     rw [qhc, if_pos]
     rw [List.length_append, qaw]; simp only [List.length_cons, List.length_nil]; omega
    simp (disch := first | omega | exact ti rfl | (simp only [np, nq]; first | done | omega)) only [go_sem, reduceAdd, reduceMul, reduceSub, reduceLeDiff, reduceEqDiff, reduceShiftRight, reduceAnd, Nat.mul_one, e1, e2, he']
    rw [hg] at *
    simp (disch := first | omega | exact ti rfl | (simp only [np, nq]; first | done | omega)) only [go_sem, reduceAdd, reduceMul, reduceSub, reduceLeDiff, reduceEqDiff, reduceShiftRight, reduceAnd, e4, e3]
    unfold qb9
    simp (disch := first | omega | exact ti rfl | (simp only [np, nq]; first | done | omega)) only [go_sem, reduceAdd, reduceMul, reduceSub, reduceLeDiff, reduceEqDiff, reduceShiftRight, reduceAnd]
    exact qip hs hP hl hn hc0 hq f (k + 1) (k2 + 1) _ _ (by omega) (by omega) (hC.ne hs (by omega) he) (qac _ _ _) (hF.put _ _ fun _ => rfl)
  ·simp (disch := first | omega | exact ti rfl | (simp only [np, nq]; first | done | omega)) only [go_sem, reduceAdd, reduceMul, reduceSub, reduceLeDiff, reduceEqDiff, reduceShiftRight, reduceAnd, hk]
   have : c0 + k2 = n := by omega
   rw [this] at hC
   exact hq M k H hC hg hF
theorem qlz {call : Ev.Call} {b o n q : Nat} {e : Bool} {P : List AV} {l : List Nat} (hs : l.Pairwise (· ≤ ·)) (hP : P.length = o) (hl : l.length = n) (hn : n < 900) {H : Hp} (hg : H.get b = qaa q (P ++ nats l)) (hb : b < H.nx) (heq : e = true ∨ q = 1) {q2 : Hp → R1} {Q : AV → Hp → Prop}
  (hq : ∀ k R H', k ≤ n → R.length = k → R.Pairwise (· < ·) → (∀ x, x ∈ R ↔ x ∈ l) → Gs 1 H' (.sl b o k n e) k (nats R) → Fm (fun c => c = b) H H' → Q (.sl b o k n e) H') (hq2 : l.Pairwise (· < ·) → Ok (q2 H) Q) :
  ∀ (f k : Nat), n - k < f → 1 ≤ k → k ≤ n → (l.take k).Pairwise (· < ·) →
   Ok (qb5 call (fun x H => .ok x H) q2 (.sl b o n n e) f (.int .i64 (.ofNat k)) H) Q
 | 0, k, h, _, _, _ => by omega
 | f + 1, k, h, h1, hk, ha => by
  show Ok (qfm call _ _ _ (qb5 call _ _ _ f) _ H) Q
  unfold qfm
  by_cases hlt : k < n
  ·have e1 := rdP hg (i := k) (by omega)
   have e2 := rdP hg (i := k - 1) (by omega)
   rw [hP] at e1 e2
   simp (disch := first | omega | exact ti rfl | (simp only [np, nq]; first | done | omega)) only [go_sem, reduceAdd, reduceMul, reduceSub, reduceLeDiff, reduceEqDiff, reduceShiftRight, reduceAnd, hlt]
   unfold qex
   by_cases he : l[k]'(by omega) = l[k - 1]'(by omega)
   ·rw [he] at e1
    have e3 := qh7 1 b o n n e (a := k) (by omega) (Nat.le_refl _) hlt
    rw [Nat.mul_one] at e3
    simp (disch := first | omega | exact ti rfl | (simp only [np, nq]; first | done | omega)) only [go_sem, reduceAdd, reduceMul, reduceSub, reduceLeDiff, reduceEqDiff, reduceShiftRight, reduceAnd, Nat.mul_one, e1, e2, e3]
    unfold qe0
    rw [qas]
    have hC0 : Cp l l k (k + 1) := by
     refine ⟨rfl, by omega, by omega, rfl, ha, fun x => ?_⟩
     rw [qdf (p := k) (by omega), List.mem_append, List.mem_singleton]
     refine ⟨Or.inl, fun hx => hx.elim id fun hx => ?_⟩
     have : l.take k = l.take (k - 1) ++ [l[k - 1]'(by omega)] := by
      have := qdf (l := l) (p := k - 1) (by omega)
      rwa [show k - 1 + 1 = k by omega] at this
     rw [hx, he]
     exact this ▸ List.mem_append_right _ (List.mem_singleton.2 rfl)
    refine qip (H1 := H) hs hP hl hn (c0 := k) hlt (fun M k' H' hC hg' hF => ?_) qao k 1 l H (by rw [qal]; omega) (Nat.le_refl 1) hC0 hg (Fm.refl _ _)
    unfold qbk
    have c1 := hC.lt
    have c2 := hC.len
    have s1 := qh7 1 b o n n e (a := k') (by omega) (Nat.le_refl _) c1
    rw [Nat.mul_one] at s1
    have s2 := qu4 1 b o n n e (k := k') (by omega) (Nat.le_refl _) (by omega)
    have cl := zb5 P M (k := k') (n := n) (by omega) (by omega)
    rw [hP] at cl
    have hlen0 : (reps [.int .i64 (.ofNat 0)] (n - k')).length = n - k' := by rw [qds, List.length_replicate]
    have s3 : ql2 [.int .i64 (.ofNat 0)] H' (.sl b (o + k') (n - k') (n - k') e) = .ok .undef (H'.put b (qaa q (P ++ nats (M.take k' ++ List.replicate (n - k') 0)))) := by
     show (bif Nat.beq (n - k') 0 then _ else storeAt H' b (o + k') (reps [.int .i64 (.ofNat 0)] (n - k')) .undef) = _
     rw [beq_eq, decide_eq_false (by omega), cond_false, qcd _ _ _ _ _ _ _ hg' (by rw [hlen0, List.length_append, qaw]; omega), cl]
    simp (disch := first | omega | exact ti rfl | (simp only [np, nq]; first | done | omega)) only [go_sem, reduceAdd, reduceMul, reduceSub, reduceLeDiff, reduceEqDiff, reduceShiftRight, reduceAnd, s1, s2, s3]
    have ht : (M.take k').length = k' := by rw [List.length_take]; omega
    refine Ok.ret (hq k' (M.take k') _ (by omega) ht hC.asc (fun x => by rw [hC.mem x, ← hl, List.take_length]) ?_ (hF.put _ _ fun _ => rfl))
    refine ⟨by rw [qaw, ht, Nat.mul_one], .inr ⟨b, o, n, e, q, _, rfl, by omega, qac _ _ _, ?_, ?_, heq, Nat.lt_of_lt_of_le hb hF.nx⟩⟩
    ·rw [List.length_append, qaw, List.length_append, ht, List.length_replicate]; omega
    ·rw [List.drop_append_of_le_length (by omega), List.drop_eq_nil_of_le (by omega), List.nil_append, Nat.mul_one]
     unfold nats
     rw [← List.map_take, List.take_append_of_le_length (by omega), List.take_of_length_le (by omega)]
   ·simp (disch := first | omega | exact ti rfl | (simp only [np, nq]; first | done | omega)) only [go_sem, reduceAdd, reduceMul, reduceSub, reduceLeDiff, reduceEqDiff, reduceShiftRight, reduceAnd, Nat.mul_one, e1, e2, he]
    unfold qfl
    simp (disch := first | omega | exact ti rfl | (simp only [np, nq]; first | done | omega)) only [go_sem, reduceAdd, reduceMul, reduceSub, reduceLeDiff, reduceEqDiff, reduceShiftRight, reduceAnd]
    refine qlz hs hP hl hn hg hb heq hq hq2 f (k + 1) (by omega) (by omega) (by omega) ?_
    rw [qdf (p := k) (by omega), List.pairwise_append]
    refine ⟨ha, List.pairwise_singleton _ _, fun a ha' c hc => ?_⟩
    rw [List.mem_singleton] at hc
    subst hc
    obtain ⟨i, hi, hip, rfl⟩ := qjw ha'
    have hs' := List.pairwise_iff_getElem.1 hs
    have a1 : l[k - 1]'(by omega) ≤ l[k]'(by omega) := hs' (k - 1) k (by omega) (by omega) (by omega)
    have a2 : l[i] ≤ l[k - 1]'(by omega) := by
     rcases Nat.lt_or_ge i (k - 1) with h2 | h2
     ·exact hs' i (k - 1) hi (by omega) h2
     ·have : i = k - 1 := by omega
      subst this; exact Nat.le_refl _
    omega
  ·simp (disch := first | omega | exact ti rfl | (simp only [np, nq]; first | done | omega)) only [go_sem, reduceAdd, reduceMul, reduceSub, reduceLeDiff, reduceEqDiff, reduceShiftRight, reduceAnd, hlt]
   have : k = n := by omega
   subst this
   rw [← hl, List.take_length] at ha
   exact hq2 ha
theorem qyi (hO : qc0 C) {k : Nat} (hk : 1 ≤ k) {n : Nat} {v : AV} {l : List Nat} {H : Hp} (hs : l.Pairwise (· ≤ ·)) (hn : n < 900) (hv : Gl 1 H v n (nats l)) :
  Ok (C k (.f qdt) [v] H) fun r H' => ∃ R : List Nat, R.Pairwise (· < ·) ∧ (∀ x, x ∈ R ↔ x ∈ l) ∧ Gs 1 H' r R.length (nats R) ∧ (∀ b, In r b → In v b) ∧ Fm (In v) H H' := by
 obtain ⟨j, rfl⟩ : ∃ j, k = j + 1 := ⟨k - 1, by omega⟩
 have hln : l.length = n := by have := hv.len; rw [qaw] at this; omega
 rw [(hO j).o_Compact]
 unfold o_Compact qg3
 have e0 := hv.lenV
 by_cases h2 : n < 2
 ·simp (disch := first | omega | exact ti rfl | (simp only [np, nq]; first | done | omega)) only [go_sem, reduceAdd, reduceMul, reduceSub, reduceLeDiff, reduceEqDiff, reduceShiftRight, reduceAnd, e0, h2]
  refine Ok.ret ⟨l, ?_, fun x => Iff.rfl, by rw [hln]; exact hv.gs, fun b h => h, Fm.refl _ _⟩
  match l, hln with
  | [], _ => exact List.Pairwise.nil
  | [x], _ => exact List.pairwise_singleton _ _
  | x :: y :: t, h => simp at h; omega
 ·rcases hv.is with ⟨_, h0⟩ | ⟨b, o, e, q, L, rfl, g1, g2, g3, g4, g5⟩
  ·omega
  have hP : (L.take o).length = o := by rw [List.length_take]; omega
  have hg : H.get b = qaa q (L.take o ++ nats l) := by rw [g1, ← g3, List.take_append_drop]
  simp (disch := first | omega | exact ti rfl | (simp only [np, nq]; first | done | omega)) only [go_sem, reduceAdd, reduceMul, reduceSub, reduceLeDiff, reduceEqDiff, reduceShiftRight, reduceAnd, e0, h2]
  unfold qew qfn
  rw [qas]
  have hin : ∀ c, c = b → In (.sl b o n n e) c := fun c hc => by subst hc; exact ⟨_, _, _, _, rfl⟩
  refine qlz hs hP hln hn hg g5 g4 (fun k R H' hk hR ha hm hG hF => ?_) (fun ha => ?_) qao 1 (by rw [qal]; omega) (Nat.le_refl 1) (by omega) ?_
  ·refine ⟨R, ha, hm, by rw [hR]; exact hG, fun c hc => ?_, hF.mono fun c _ hc => hin c hc⟩
   obtain ⟨_, _, _, _, h'⟩ := hc
   cases h'
   exact ⟨_, _, _, _, rfl⟩
  ·unfold qbs
   exact Ok.ret ⟨l, ha, fun x => Iff.rfl, by rw [hln]; exact hv.gs, fun b h => h, Fm.refl _ _⟩
  ·match l, hln with
   | [], h => simp at h; omega
   | x :: t, _ => simp
theorem Gs.clip {n : Nat} {H : Hp} {v : AV} {l : List AV} (h : Gs 1 H v n l) : ∃ w, qa8 1 v none (some (.int .i64 (.ofNat n))) (some (.int .i64 (.ofNat n))) = .val w ∧ Rl H w l ∧ capV w = .val (.int .i64 (.ofNat n)) ∧ (∀ b, In w b → In v b) := by
 rcases h.is with ⟨rfl, rfl⟩ | ⟨b, o, m, e, q, L, rfl, h0, h1, h2, h3, h4, h5⟩
 ·exact ⟨.nilsl, rfl, h.rl, rfl, fun b h => h⟩
 ·have e1 : qa8 1 (.sl b o n m e) none (some (.int .i64 (.ofNat n))) (some (.int .i64 (.ofNat n))) = mkSl b o 1 ⟨0, n, n⟩ true := by
   show (match bounds n m none (some (.int .i64 (.ofNat n))) (some (.int .i64 (.ofNat n))) with | some bd => mkSl b o 1 bd true | none => R0.bad) = _
   have : bounds n m none (some (.int .i64 (.ofNat n))) (some (.int .i64 (.ofNat n))) = some ⟨0, n, n⟩ := by
    show (match (bif Nat.ble n m then some n else none) with | none => none | some m => match (bif Nat.ble n m then some n else none) with | none => none | some h => match (some 0 : Option Nat) with | none => none | some l => some (Bd.mk l h m)) = _
    rw [ble_eq, decide_eq_true h0]; simp only [cond_true, ble_eq, decide_eq_true (Nat.le_refl n)]
   rw [this]
  have hrl := h.rl
  have hG : ∀ e', Gs 1 H (.sl b o n m e') n l → Rl H (.sl b o n n true) l := fun e' g => by
   have r := g.rl
   exact ⟨r.len, fun i hi => by
    obtain ⟨b', o', a1, a2, a3⟩ := r.at' i hi
    exact ⟨b', o', by have hll := h.len; rw [qfc _ _ _ _ _ _ _ _ (by omega)] at a1 ⊢; exact a1, a2, a3⟩⟩
  rw [e1]
  unfold mkSl
  simp only [beq_eq]
  by_cases hn : n = 0
  ·subst hn
   exact ⟨.sl b o 0 0 true, rfl, hG e h, rfl, fun c hc => by obtain ⟨_, _, _, _, h'⟩ := hc; cases h'; exact ⟨_, _, _, _, rfl⟩⟩
  ·rw [decide_eq_false hn]
   refine ⟨.sl b o n n true, ?_, hG e h, rfl, fun c hc => by obtain ⟨_, _, _, _, h'⟩ := hc; cases h'; exact ⟨_, _, _, _, rfl⟩⟩
   show R0.val (.sl b (o + 0 * 1) (n - 0) (n - 0) true) = _
   rw [Nat.zero_mul, Nat.add_zero, Nat.sub_zero]
theorem q6g (hC : qbe C) {k : Nat} (hk : 1 ≤ k) {n : Nat} {H : Hp} {v : AV} {l : List AV} (h : Gs 1 H v n l) :
  ∃ w, C k (.f qfs) [v] H = .ok w H ∧ Rl H w l ∧ capV w = .val (.int .i64 (.ofNat n)) ∧ (∀ b, In w b → In v b) := by
 obtain ⟨j, rfl⟩ : ∃ j, k = j + 1 := ⟨k - 1, by omega⟩
 obtain ⟨w, e, h1, h2, h3⟩ := h.clip
 refine ⟨w, ?_, h1, h2, h3⟩
 rw [(hC j).sClp]
 unfold sClp qva
 simp (disch := first | omega | exact ti rfl | (simp only [np, nq]; first | done | omega)) only [go_sem, reduceAdd, reduceMul, reduceSub, reduceLeDiff, reduceEqDiff, reduceShiftRight, reduceAnd, h.lenV, e]
end Go.Di
end
section
/-
 Contracts: mixed components.
-/
namespace Go.Di
open Go.Ev Go.Di.T Go.Sort
variable {C : Nat → Ev.Call} {LA LO : LP}
theorem q3r (hO : qc0 C) (hS : qcb C) {k : Nat} (hk : 5 ≤ k) (H : Hp) : C k (.f qdh) [.nilsl] H = .ok (.tup []) H := by
 obtain ⟨k, rfl⟩ : ∃ j, k = j + 1 := ⟨k - 1, by omega⟩
 exact (hO k).srtN H
def mixP (ins : List Nat) (e : Edge) : Bool := e.s && decide (ins.getD e.f 0 = ins.getD e.t 0)
def mixL (ins : List Nat) (es : List Edge) : List Nat := (es.filter (mixP ins)).map fun e => ins.getD e.f 0
theorem q0k (ins : List Nat) (es : List Edge) {i : Nat} (h : i < es.length) : mixL ins (es.take (i + 1)) = mixL ins (es.take i) ++ (if mixP ins es[i] then [ins.getD es[i].f 0] else []) := by
 unfold mixL
 rw [List.take_succ_eq_append_getElem h, List.filter_append, List.map_append]
 congr 1
 cases hh : mixP ins es[i] <;> simp [hh]
theorem q0l (ins : List Nat) (es : List Edge) : (mixL ins es).length ≤ es.length := by
 unfold mixL
 rw [List.length_map]
 exact List.length_filter_le _ _
theorem qvs {ins : List Nat} {es : List Edge} {x : Nat} : x ∈ mixL ins es ↔ ∃ e ∈ es, e.s = true ∧ ins.getD e.f 0 = ins.getD e.t 0 ∧ ins.getD e.f 0 = x := by
 unfold mixL mixP
 rw [List.mem_map]
 constructor
 ·rintro ⟨e, he, rfl⟩
  rw [List.mem_filter, Bool.and_eq_true, decide_eq_true_eq] at he
  exact ⟨e, he.1, he.2.1, he.2.2, rfl⟩
 ·rintro ⟨e, he, h1, h2, h3⟩
  exact ⟨e, List.mem_filter.2 ⟨he, by rw [Bool.and_eq_true, decide_eq_true_eq]; exact ⟨h1, h2⟩⟩, h3⟩
theorem qgi {call : Ev.Call} {H1 : Hp} {n c : Nat} {lv iv w : AV} {es : List Edge} {ins : List Nat} (hlen : es.length < 200000) (hE : ∀ e ∈ es, e.f < n ∧ e.t < n) (hw : IsE H1 w es) (hi : Gl 1 H1 iv n (nats ins)) (hc : H1.get c = qaa 0 [lv, iv]) (hcl : c < H1.nx) {q : AV → Hp → R1} {Q : AV → Hp → Prop}
  (hq : ∀ v H, Gl 1 H v (mixL ins es).length (nats (mixL ins es)) → Fm No H1 H → (∀ b, In v b → H1.nx ≤ b) → Ok (q v H) Q) :
  ∀ (k i : Nat) (v : AV) (H : Hp), es.length - i < k → i ≤ es.length → Gl 1 H v (mixL ins (es.take i)).length (nats (mixL ins (es.take i))) → (∀ b, In v b → H1.nx ≤ b) → Fm No H1 H →
   Ok (qgg call q (.ptr c 0) w (.int .i64 (.ofNat es.length)) k v (.int .i64 (.ofNat i)) H) Q
 | 0, i, v, H, h, _, _, _, _ => by omega
 | k + 1, i, v, H, h, hil, hg, hnew, hF => by
  show Ok (qp7 call _ _ _ _ (qgg call _ _ _ _ k) _ _ H) Q
  unfold qp7
  by_cases hlt : i < es.length
  ·simp (disch := first | omega | exact ti rfl | (simp only [np, nq]; first | done | omega)) only [go_sem, reduceAdd, reduceMul, reduceSub, reduceLeDiff, reduceEqDiff, reduceShiftRight, reduceAnd, hlt]
   unfold qp6
   have hw' : IsE H w es := hw.fm hF
   have hi' : Gl 1 H iv n (nats ins) := hi.no hF
   have hc' : H.get c = qaa 0 [lv, iv] := (hF.keep hcl).trans hc
   have hcH : c < H.nx := Nat.lt_of_lt_of_le hcl hF.nx
   have hil : ins.length = n := by have := hi.len; rw [qaw] at this; omega
   obtain ⟨b, o1, e1, e2, e3⟩ := hw'.at hlt
   obtain ⟨r1, r2⟩ := hE es[i] (List.getElem_mem _)
   have gi : ∀ x, x < n → (nats ins)[x]? = some (.int .i64 (.ofNat (ins.getD x 0))) := fun x hx => by
    unfold nats
    rw [List.getElem?_map, List.getD_eq_getElem?_getD, List.getElem?_eq_getElem (by omega)]; rfl
   obtain ⟨b1, o2, e4, e5, _, e6⟩ := hi'.at (gi _ r1)
   obtain ⟨b2, o3, e7, e8, _, e9⟩ := hi'.at (gi _ r2)
   have hm := q0k ins es hlt
   have hle := q0l ins (es.take i)
   rw [List.length_take] at hle
   have fe : Fm No H ((qan H (qaa 0 [.int .i64 (.ofNat 0), .int .i64 (.ofNat 0), .bool false])).put H.nx (qaa 0 [.int .i64 (.ofNat es[i].f), .int .i64 (.ofNat es[i].t), .bool es[i].s])) := by (repeat (first | exact Fm.refl _ _ | assumption | refine Fm.push ?_ _ | refine Fm.up2 ?_ (by (first | omega | (simp only [np, nq]; omega))) | refine Fm.put_new ?_ _ _ (by (first | omega | (simp only [np, nq]; omega)))))
   cases hs : es[i].s with
   | false =>
    have hp : mixP ins es[i] = false := by unfold mixP; rw [hs]; rfl
    rw [hs] at fe
    rw [hp] at hm
    simp (disch := first | omega | exact ti rfl | (simp only [np, nq]; first | done | omega)) only [go_sem, reduceAdd, reduceMul, reduceSub, reduceLeDiff, reduceEqDiff, reduceShiftRight, reduceAnd, e1, e3, Edge.cells, hs]
    unfold qgh
    simp (disch := first | omega | exact ti rfl | (simp only [np, nq]; first | done | omega)) only [go_sem, reduceAdd, reduceMul, reduceSub, reduceLeDiff, reduceEqDiff, reduceShiftRight, reduceAnd]
    rw [if_neg (by simp), List.append_nil] at hm
    refine qgi hlen hE hw hi hc hcl hq k (i + 1) v _ (by omega) (by omega) (by rw [hm]; exact hg.no fe) hnew (hF.trans fe)
   | true =>
    rw [hs] at fe
    by_cases he : ins.getD es[i].f 0 = ins.getD es[i].t 0
    ·have hp : mixP ins es[i] = true := by unfold mixP; rw [hs, decide_eq_true he]; rfl
     rw [hp, if_pos rfl] at hm
     have hml : (mixL ins (es.take (i + 1))).length = (mixL ins (es.take i)).length + 1 := by rw [hm, List.length_append]; rfl
     have he1 := e4
     have he2 := e6
     generalize hH2 : (qan H (qaa 0 [.int .i64 (.ofNat 0), .int .i64 (.ofNat 0), .bool false])).put H.nx (qaa 0 [.int .i64 (.ofNat es[i].f), .int .i64 (.ofNat es[i].t), .bool true]) = H2 at *
     have hx2 : H2.get H.nx = qaa 0 [.int .i64 (.ofNat es[i].f), .int .i64 (.ofNat es[i].t), .bool true] := by rw [← hH2, qac]
     have hc2 : H2.get c = qaa 0 [lv, iv] := (fe.keep hcH).trans hc'
     have e6' : qa9 (H2.get b1) o2 = .val (.int .i64 (.ofNat (ins.getD es[i].f 0))) := by rw [fe.keep e5]; exact e6
     have e9' : qa9 (H2.get b2) o3 = .val (.int .i64 (.ofNat (ins.getD es[i].t 0))) := by rw [fe.keep e8]; exact e9
     have hgP : Gl 1 (qan H2 (qaa 0 [.int .i64 (.ofNat (ins.getD es[i].f 0))])) v (mixL ins (es.take i)).length (nats (mixL ins (es.take i))) := (hg.no fe).no ((Fm.refl _ _).push _)
     obtain ⟨H', a1, a2, _, a4, a5⟩ := hgP.append (w := 8) (k := 1) (x := [.int .i64 (.ofNat (ins.getD es[i].f 0))]) (by omega) rfl (by omega) (by omega)
     rw [he] at e6'
     rw [he] at a1 a2 a4 hgP
     simp (disch := first | omega | exact ti rfl | (simp only [np, nq]; first | done | omega)) only [go_sem, reduceAdd, reduceMul, reduceSub, reduceLeDiff, reduceEqDiff, reduceShiftRight, reduceAnd, e1, e3, Edge.cells, hs, hH2, hx2, hc2, e4, e6', e7, e9', he, a1]
     unfold qgh
     simp (disch := first | omega | exact ti rfl | (simp only [np, nq]; first | done | omega)) only [go_sem, reduceAdd, reduceMul, reduceSub, reduceLeDiff, reduceEqDiff, reduceShiftRight, reduceAnd]
     have e10 : nats (mixL ins (es.take i)) ++ [.int .i64 (.ofNat (ins.getD es[i].t 0))] = nats (mixL ins (es.take (i + 1))) := by rw [hm, he]; simp [nats]
     rw [e10, ← hml] at a2
     rw [← hml]
     have hn1 := hF.nx
     have hn2 := fe.nx
     have hpn : (qan H2 (qaa 0 [.int .i64 (.ofNat (ins.getD es[i].t 0))])).nx = H2.nx + 1 := rfl
     refine qgi hlen hE hw hi hc hcl hq k (i + 1) _ H' (by omega) (by omega) a2 (fun b hb => ?_) (((hF.trans fe).trans ((Fm.refl _ _).push _)).then a4 fun c hc h => by have := hnew c h; omega)
     obtain ⟨_, _, _, _, h⟩ := hb
     cases h
     omega
    ·have hp : mixP ins es[i] = false := by unfold mixP; rw [hs, decide_eq_false he]; rfl
     rw [hp] at hm
     simp (disch := first | omega | exact ti rfl | (simp only [np, nq]; first | done | omega)) only [go_sem, reduceAdd, reduceMul, reduceSub, reduceLeDiff, reduceEqDiff, reduceShiftRight, reduceAnd, e1, e3, Edge.cells, hs, hc', e4, e6, e7, e9, he]
     unfold qgh
     simp (disch := first | omega | exact ti rfl | (simp only [np, nq]; first | done | omega)) only [go_sem, reduceAdd, reduceMul, reduceSub, reduceLeDiff, reduceEqDiff, reduceShiftRight, reduceAnd]
     rw [if_neg (by simp), List.append_nil] at hm
     refine qgi hlen hE hw hi hc hcl hq k (i + 1) v _ (by omega) (by omega) (by rw [hm]; exact hg.no fe) hnew (hF.trans fe)
  ·simp (disch := first | omega | exact ti rfl | (simp only [np, nq]; first | done | omega)) only [go_sem, reduceAdd, reduceMul, reduceSub, reduceLeDiff, reduceEqDiff, reduceShiftRight, reduceAnd, hlt]
   have : i = es.length := by omega
   subst this
   rw [List.take_length] at hg
   exact hq v H hg hF hnew
theorem q6c (hC : qbe C) (hO : qc0 C) (hS : qcb C) (hR : qcc LA LO C) {k : Nat} (hk : 1000 ≤ k) {n : Nat} {es : List Edge} (hE : qb2 n es) (hn : n ≤ 256) (hlen : es.length < 900) {gv : AV} {H : Hp} (hg : IsE H gv es) :
  Ok (C k (.f qo7) [.agg [.int .i64 (.ofNat n), gv]] H) fun r H' => ∃ (w : AV) (res : List (List Nat)) (ins R : List Nat), r = .tup [w, .int .i64 (.ofNat 0)] ∧ OrdF n (qa6 es) [] res ∧ (∀ (j : Nat) (o : List Nat) (x : Nat), res[j]? = some o → x ∈ o → ins[x]? = some j) ∧
   R.Pairwise (· < ·) ∧ (∀ x, x ∈ R ↔ x ∈ mixL ins es) ∧ Rl H' w (nats R) ∧ capV w = .val (.int .i64 (.ofNat R.length)) ∧ R.length ≤ 900 ∧ Fm No H H' := by
 obtain ⟨j, rfl⟩ : ∃ j, k = j + 1 := ⟨k - 1, by omega⟩
 rw [(hC j).cMix]
 unfold cMix q3c
 simp (disch := first | omega | exact ti rfl | (simp only [np, nq]; first | done | omega)) only [go_sem, reduceAdd, reduceMul, reduceSub, reduceLeDiff, reduceEqDiff, reduceShiftRight, reduceAnd]
 have f0 : Fm No H (qan H (qaa 0 [.int .i64 (.ofNat n), gv])) := (Fm.refl _ _).push _
 refine Ok.ve (q9m hC hO hS hR (k := j) (by omega) hE hn (by omega) (hg.fm f0)) ?_
 rintro r H1 ⟨lv, iv, os, ins2, out, ins, res, rfl, hOrd, hCR, f1⟩
 have ford := hOrd.ord hE.rng
 have hg1 : H1.get H.nx = qaa 0 [.int .i64 (.ofNat n), gv] := (f1.keep (by (first | omega | (simp only [np, nq]; omega)))).trans (qak _ _)
 have es3 : ∀ x y : AV, setL [AV.nilsl, AV.nilsl] 0 [x, y] = [x, y] := fun _ _ => rfl
 have n1 : H.nx + 1 ≤ H1.nx := f1.nx
 simp (disch := first | omega | exact ti rfl | (simp only [np, nq]; first | done | omega)) only [go_sem, reduceAdd, reduceMul, reduceSub, reduceLeDiff, reduceEqDiff, reduceShiftRight, reduceAnd, es3, List.length_cons, List.length_nil]
 generalize hH2 : (qan H1 (qaa 0 [AV.nilsl, AV.nilsl])).put H1.nx (qaa 0 [lv, iv]) = H2
 have f2 : Fm No H1 H2 := by rw [← hH2]; exact ((Fm.refl _ _).push _).put_new _ _ (Nat.le_refl _)
 have g2 : H2.get H1.nx = qaa 0 [lv, iv] := by rw [← hH2, qac]
 have l2 : H1.nx < H2.nx := by rw [← hH2]; show H1.nx < H1.nx + 1; omega
 have hg2 : H2.get H.nx = qaa 0 [.int .i64 (.ofNat n), gv] := (f2.keep (by omega)).trans hg1
 have f02 : Fm No H H2 := (f0.trans f1).trans f2
 have hE2 : IsE H2 gv es := hg.fm f02
 rw [qmb]
 unfold qdn
 have e0 := hE2.len
 simp (disch := first | omega | exact ti rfl | (simp only [np, nq]; first | done | omega)) only [go_sem, reduceAdd, reduceMul, reduceSub, reduceLeDiff, reduceEqDiff, reduceShiftRight, reduceAnd, hg2, e0]
 unfold qp8
 rw [qas]
 refine qgi (by omega) hE.rng hE2 (hCR.gi.no f2) g2 l2 (fun v H3 h3 f3 hnew => ?_) qao 0 .nilsl H2 (by rw [qal]; omega) (Nat.zero_le _) (by simpa [mixL, nats] using Gl.nil 1 H2) (fun b hb => by obtain ⟨_, _, _, _, h⟩ := hb; cases h) (Fm.refl _ _)
 unfold qfb
 have hml := q0l ins2 es
 have n2 := f02.nx
 have sorted : Ok (C j (.f qdh) [v] H3) fun r H' => r = .tup [] ∧ ∃ R : List Nat, R.Perm (mixL ins2 es) ∧ R.Pairwise (· ≤ ·) ∧ Gl 1 H' v (mixL ins2 es).length (nats R) ∧ Fm (In v) H3 H' := by
  rcases Nat.eq_zero_or_pos (mixL ins2 es).length with h0 | h0
  ·have hz : mixL ins2 es = [] := List.length_eq_zero_iff.1 h0
   rw [hz] at h3 ⊢
   rcases h3.is with ⟨rfl, _⟩ | ⟨b, o, e, q, L, rfl, g1, g2, g3, g4, g5⟩
   ·exact ⟨_, _, q3r hO hS (by omega) H3, rfl, [], List.Perm.refl _, List.Pairwise.nil, h3, Fm.refl _ _⟩
   ·obtain ⟨j, rfl⟩ : ∃ i, j = i + 1 := ⟨j - 1, by omega⟩
    have g2 : o ≤ L.length := g2
    have hst : storeAt H3 b o [] (.tup []) = .ok (.tup []) (H3.put b (qaa q (setL L o []))) := qcd _ _ _ _ _ _ _ g1 g2
    have hL : setL L o [] = L := by unfold setL; simp
    rw [hL] at hst
    have hs : qqq H3 b o 0 = some (.ok (.tup []) (H3.put b (qaa q L))) := by
     unfold qqq
     have hr : qbf (H3.get b) o 0 = some [] := by rw [g1, qcv, if_pos (show o + 0 ≤ L.length from g2)]; rfl
     rw [hr]
     have hz : qfh [] = [] := by unfold qfh; simp
     simp only [qle, hz, List.map_nil, hst]
     rfl
    refine ⟨_, _, (hO j).srt _ _ _ _ _ _ _ hs, rfl, [], List.Perm.refl _, List.Pairwise.nil, ?_, (Fm.refl _ _).put _ _ fun _ => ⟨_, _, _, _, rfl⟩⟩
    exact ⟨rfl, .inr ⟨b, o, e, q, L, rfl, qac _ _ _, g2, g3, g4, g5⟩⟩
  ·exact qwg hC hO hS (k := j) (by omega) h0 (by omega) h3
 refine Ok.ve sorted ?_
 rintro r H4 ⟨rfl, R, hp, hsd, h4, f4⟩
 refine Ok.ve (qyi hO (k := j) (by omega) hsd (by omega) h4) ?_
 rintro r5 H5 ⟨R5, hasc, hmem, h5, hin, f5⟩
 obtain ⟨w, w1, w2, w3, _⟩ := q6g hC (k := j) (by omega) h5
 simp (disch := first | omega | exact ti rfl | (simp only [np, nq]; first | done | omega)) only [go_sem, reduceAdd, reduceMul, reduceSub, reduceLeDiff, reduceEqDiff, reduceShiftRight, reduceAnd, w1]
 have hR5 : R5.length ≤ 900 := by
  have hnd : R5.Nodup := hasc.imp fun h => Nat.ne_of_lt h
  have : R5.length ≤ R.length := hnd.length_le_of_subset fun x hx => (hmem x).1 hx
  rw [hp.length_eq] at this
  omega
 refine Ok.ret ⟨w, res, ins2, R5, rfl, ford, hCR.ins, hasc, fun x => (hmem x).trans hp.mem_iff, w2, w3, hR5, ((f02.trans f3).then f4 fun c hc h => ?_).then f5 fun c hc h => ?_⟩
 ·have := hnew c h; omega
 ·have := hnew c h; omega
end Go.Di
end
section
/-
 Contracts: whether a list of edges has one that a closure takes.
-/
namespace Go.Di
open Go.Ev Go.Di.T Go.Sort
variable {C : Nat → Ev.Call} {LA LO : LP}
def CloE (call : Ev.Call) (H0 : Hp) (f : FuncId) (caps : List AV) (es : List Edge) (p : Edge → Bool) : Prop :=
 ∀ e ∈ es, ∀ H, Fm No H0 H → Ok (qpu call (.fn f [] caps) [.agg e.cells] H) fun v H' => v = .bool (p e) ∧ Fm No H H'
end Go.Di
end
section
/-
 Contracts: the edges between components.
-/
namespace Go.Di
open Go.Ev Go.Di.T Go.Sort
variable {C : Nat → Ev.Call} {LA LO : LP}
structure CB (H0 : Hp) (n gb c : Nat) (gv lv iv : AV) (es : List Edge) (ins : List Nat) : Prop where
 fe : IsE H0 gv es
 fg : H0.get gb = qaa 0 [.int .i64 (.ofNat n), gv]
 gl : gb < H0.nx
 fc : H0.get c = qaa 0 [lv, iv]
 cl : c < H0.nx
 fi : Gl 1 H0 iv n (nats ins)
 fr : ∀ e ∈ es, e.f < n ∧ e.t < n
 len : es.length < 200000
structure CI (H0 : Hp) (m : Nat) (L : List Edge) (H : Hp) : Prop where
 ex : ∃ v, H.get H0.nx = qaa 0 [.int .i64 (.ofNat m), v] ∧ Gl 3 H v L.length (qej L) ∧ ∀ b, In v b → H0.nx < b
 fm : Fm (fun b => b = H0.nx) H0 H
 lt : H0.nx < H.nx
theorem CI.no {H0 : Hp} {m : Nat} {L : List Edge} {H H' : Hp} (h : CI H0 m L H) (f : Fm No H H') : CI H0 m L H' := by
 obtain ⟨v, h1, h2, h3⟩ := h.ex
 exact ⟨⟨v, (f.keep h.lt).trans h1, h2.no f, h3⟩, h.fm.then f fun _ _ h => h.elim, Nat.lt_of_lt_of_le h.lt f.nx⟩
theorem CB.at {H0 : Hp} {n gb c : Nat} {gv lv iv : AV} {es : List Edge} {ins : List Nat} (h : CB H0 n gb c gv lv iv es ins) {H : Hp} (f : Fm (fun b => b = H0.nx) H0 H) :
  IsE H gv es ∧ H.get gb = qaa 0 [.int .i64 (.ofNat n), gv] ∧ gb < H.nx ∧ H.get c = qaa 0 [lv, iv] ∧ c < H.nx ∧ Gl 1 H iv n (nats ins) := by
 have g1 := h.gl
 have g2 := h.cl
 have g3 := f.nx
 exact ⟨h.fe.keep f.nx fun b hb hlt => f.get b hlt (fun e => by have := h.fe.lt hb; omega), (f.get _ g1 (by omega)).trans h.fg, by omega, (f.get _ g2 (by omega)).trans h.fc, by omega, h.fi.fm f fun b hb e => by have := h.fi.lt hb; omega⟩
end Go.Di
end
section
/-
 Contracts: the graph of the components; simple components.
-/
namespace Go.Di
open Go.Ev Go.Di.T Go.Sort
variable {C : Nat → Ev.Call} {LA LO : LP}
theorem q4r {n : Nat} {adj : Nat → List Nat} {res : List (List Nat)} (h : OrdF n adj [] res) : res.length ≤ n := by
 obtain ⟨z1, z2, z3, z4, z5⟩ := h.all
 have hle : ∀ (o : List (List Nat)), (∀ c ∈ o, c ≠ []) → o.length ≤ o.flatten.length := fun o => by
  induction o with
  | nil => intro _; exact Nat.le_refl _
  | cons c o ih =>
   intro h
   have h1 := ih fun c hc => h c (List.mem_cons_of_mem _ hc)
   have h2 : 0 < c.length := List.length_pos_iff.2 (h c List.mem_cons_self)
   rw [List.flatten_cons, List.length_append, List.length_cons]; omega
 have := hle res z4
 omega
theorem Gl.st {z n : Nat} {H : Hp} {v : AV} {l : List AV} (h : Gl z H v n l) (H' : Hp) (b o : Nat) : qa3 H' (.ptr b o) v = storeAt H' b o [v] .undef := by
 rcases h.is with ⟨rfl, _⟩ | ⟨b, o, e, q, L, rfl, _⟩ <;> rfl
end Go.Di
end
section
/-
 Contracts: the walk through a graph.
-/
namespace Go.Di
open Go.Ev
variable {C : Nat → Ev.Call}
structure Wk where
 f : List Int
 q : List Nat
def qd0 (u : Nat) (s : Wk) (e : Edge) : Wk := if e.f = u ∧ s.f.getD e.t 0 < 0 then ⟨s.f.set e.t (.ofNat e.f), s.q ++ [e.t]⟩ else s
def inner (es : List Edge) (u : Nat) (s : Wk) : Wk := es.foldl (qd0 u) s
def qjn (es : List Edge) (s : Wk) : Wk := match s.q with | [] => s | u :: _ => let t := inner es u s; ⟨t.f, t.q.tail⟩
def qxu (es : List Edge) : Nat → Wk → Prop
 | 0, s => s.q = []
 | k + 1, s => s.q = [] ∨ qxu es k (qjn es s)
def bfs (es : List Edge) : Nat → Wk → List Int
 | 0, s => s.f
 | k + 1, s => match s.q with | [] => s.f | _ :: _ => bfs es k (qjn es s)
theorem IsE.fmS {H H' : Hp} {v : AV} {es : List Edge} (h : IsE H v es) {S : Nat → Prop} (a : Fm S H H') (hs : ∀ b, In v b → ¬ S b) : IsE H' v es := h.keep a.nx fun b hb hlt => a.get b hlt (hs b hb)
theorem qy1 (u : Nat) (s : Wk) (e : Edge) : (qd0 u s e).f.length = s.f.length := by
 unfold qd0; split <;> simp
theorem q7q (u : Nat) (s : Wk) (e : Edge) : ∃ r, (qd0 u s e).q = s.q ++ r := by
 unfold qd0; split
 ·exact ⟨_, rfl⟩
 ·exact ⟨[], by simp⟩
theorem qlf (u : Nat) : ∀ (es : List Edge) (s : Wk), (inner es u s).f.length = s.f.length
 | [], _ => rfl
 | e :: es, s => by
  show (inner es u (qd0 u s e)).f.length = _
  rw [qlf u es, qy1]
theorem q09 (u : Nat) : ∀ (es : List Edge) (s : Wk), ∃ r, (inner es u s).q = s.q ++ r
 | [], s => ⟨[], by simp [inner]⟩
 | e :: es, s => by
  obtain ⟨r1, h1⟩ := q7q u s e
  obtain ⟨r2, h2⟩ := q09 u es (qd0 u s e)
  exact ⟨r1 ++ r2, by show (inner es u (qd0 u s e)).q = _; rw [h2, h1, List.append_assoc]⟩
theorem qvq (l : List Nat) (n : Nat) : nats l ++ [.int .i64 (.ofNat n)] = nats (l ++ [n]) := by simp [nats]
theorem qgj {call : Ev.Call} {n : Nat} {es : List Edge} (hE : ∀ e ∈ es, e.f < n ∧ e.t < n) (hn : n ≤ 256) {v : AV} {fb u : Nat} {H1 : Hp} (hlen : es.length < 1000000) {Q : AV → Hp → Prop} {q15 : AV → Hp → R1}
  (hv : IsE H1 v es) (hvf : ∀ b, In v b → b ≠ fb) (hfb : fb < H1.nx) (s' : Wk)
  (hq : ∀ w H, Gl 1 H w s'.q.length (nats s'.q) → H.get fb = qaa 0 (ints s'.f) → Fm (· = fb) H1 H → (∀ b, In w b → H1.nx ≤ b) → Ok (q15 w H) Q) :
  ∀ (k i : Nat) (s : Wk) (w : AV) (H : Hp), i ≤ es.length → es.length - i < k → inner (es.drop i) u s = s' → s.f.length = 256 → (∃ r, s.q = u :: r) → s.q.length + (es.length - i) < 2000000 →
   Gl 1 H w s.q.length (nats s.q) → H.get fb = qaa 0 (ints s.f) → Fm (· = fb) H1 H → (∀ b, In w b → H1.nx ≤ b) →
   Ok (qgb call q15 (.ptr fb 0) v (.int .i64 (.ofNat es.length)) k w (.int .i64 (.ofNat i)) H) Q
 | 0, i, _, _, _, _, h, _, _, _, _, _, _, _, _ => by omega
 | k + 1, i, s, w, H, hi, hk, hs, hf, ⟨r, hr⟩, hsz, hw, hb, hfm, hwn => by
  show Ok (qpg call _ _ _ _ (qgb call _ _ _ _ k) _ _ H) Q
  unfold qpg
  have fbl : fb < H.nx := Nat.lt_of_lt_of_le hfb hfm.nx
  by_cases hlt : i < es.length
  ·have hd : es.drop i = es[i] :: es.drop (i + 1) := List.drop_eq_getElem_cons hlt
   obtain ⟨b, o1, e1, e2, e3⟩ := (hv.fmS hfm hvf).at hlt
   have hr' := hE es[i] (List.getElem_mem hlt)
   rw [hr] at hw
   obtain ⟨qb, qo, d1, d2, d3, d4⟩ := hw.head
   simp (disch := first | omega | exact ti rfl | (simp only [np, nq]; first | done | omega)) only [go_sem, reduceAdd, reduceMul, reduceSub, reduceLeDiff, reduceEqDiff, reduceShiftRight, reduceAnd, hlt]
   unfold qpe
   have hget : (ints s.f)[es[i].t]? = some (.int .i64 (s.f.getD es[i].t 0)) := by
    rw [qf9 _ _ (by omega)]; simp [List.getD_eq_getElem?_getD, show es[i].t < s.f.length by omega]
   have ht : es[i].t < 256 := by omega
   have hst : inner (es.drop (i + 1)) u (qd0 u s es[i]) = s' := by rw [← hs, hd]; rfl
   have qf : qb ≠ fb := by have := hwn qb d3; omega
   by_cases hu : es[i].f = u
   ·by_cases hneg : s.f.getD es[i].t 0 < Int.ofNat 0
    ·have es' : qd0 u s es[i] = ⟨s.f.set es[i].t (.ofNat es[i].f), s.q ++ [es[i].t]⟩ := by unfold qd0; rw [if_pos ⟨hu, hneg⟩]
     simp (disch := first | omega | exact ti rfl | (simp only [np, nq]; first | done | omega)) only [go_sem, reduceAdd, reduceMul, reduceSub, reduceLeDiff, reduceEqDiff, reduceShiftRight, reduceAnd, e1, e3, Edge.cells, d1, d4, hu, hb, hget, hneg, ht, show es[i].t ≤ 255 by omega, qcp, hf, ints_set]
     have hw0 : Gl 1 H w s.q.length (nats s.q) := by rw [hr]; exact hw
     have fH : Fm (· = fb) H (qan (((qan H (qaa 0 [.int .i64 (.ofNat 0), .int .i64 (.ofNat 0), .bool false])).put H.nx (qaa 0 [.int .i64 (.ofNat u), .int .i64 (.ofNat es[i].t), .bool es[i].s])).put fb (qaa 0 (ints (s.f.set es[i].t (.ofNat u))))) (qaa 0 [.int .i64 (.ofNat es[i].t)])) := by (repeat (first | exact Fm.refl _ _ | assumption | refine Fm.push ?_ _ | refine Fm.up2 ?_ (by (first | omega | (simp only [np, nq]; omega))) | refine Fm.put_new ?_ _ _ (by (first | omega | (simp only [np, nq]; omega))) | refine Fm.put ?_ _ _ (fun _ => rfl)))
     have hwf : ¬ In w fb := fun h => by have := hwn fb h; omega
     obtain ⟨H', e, gl', _, fm', nx'⟩ := (hw0.fm fH (fun b hb h => hwf (h ▸ hb))).append (k := 1) (w := 8) (x := [.int .i64 (.ofNat es[i].t)]) (by omega) rfl (by omega) (by omega)
     refine Ok.veE e ?_
     unfold qgc
     simp (disch := first | omega | exact ti rfl | (simp only [np, nq]; first | done | omega)) only [go_sem, reduceAdd, reduceMul, reduceSub, reduceLeDiff, reduceEqDiff, reduceShiftRight, reduceAnd]
     have fH' : Fm (· = fb) H1 H' := (hfm.then fH fun _ _ h => h).then fm' fun c hc h => by have := hwn c h; omega
     have hb' : H'.get fb = qaa 0 (ints (s.f.set es[i].t (.ofNat u))) := (fm'.get fb (by (first | omega | (simp only [np, nq]; omega))) hwf).trans (by simp (disch := first | omega | exact ti rfl | (simp only [np, nq]; first | done | omega)) only [go_sem, reduceAdd, reduceMul, reduceSub, reduceLeDiff, reduceEqDiff, reduceShiftRight, reduceAnd])
     rw [es', hu] at hst
     rw [qvq] at gl'
     have gl2 : Gl 1 H' (.sl (H.nx + 1 + 1) 0 (s.q.length + 1) (s.q.length + 1) false) (s.q ++ [es[i].t]).length (nats (s.q ++ [es[i].t])) := by
      rw [show (s.q ++ [es[i].t]).length = s.q.length + 1 by simp]; exact gl'
     have hnx := hfm.nx
     exact qgj hE hn hlen hv hvf hfb s' hq k (i + 1) ⟨s.f.set es[i].t (.ofNat u), s.q ++ [es[i].t]⟩ _ H' (by omega) (by omega) hst (by simp; exact hf) ⟨r ++ [es[i].t], by rw [hr]; rfl⟩ (by simp; omega) gl2 hb' fH' (fun b hb => by obtain ⟨o, m, m', y, h⟩ := hb; cases h; (first | omega | (simp only [np, nq]; omega)))
    ·have es' : qd0 u s es[i] = s := by unfold qd0; rw [if_neg (fun h => hneg h.2)]
     simp (disch := first | omega | exact ti rfl | (simp only [np, nq]; first | done | omega)) only [go_sem, reduceAdd, reduceMul, reduceSub, reduceLeDiff, reduceEqDiff, reduceShiftRight, reduceAnd, e1, e3, Edge.cells, d1, d4, hu, hb, hget, hneg, ht]
     unfold qgc
     simp (disch := first | omega | exact ti rfl | (simp only [np, nq]; first | done | omega)) only [go_sem, reduceAdd, reduceMul, reduceSub, reduceLeDiff, reduceEqDiff, reduceShiftRight, reduceAnd]
     have fH : Fm No H ((qan H (qaa 0 [.int .i64 (.ofNat 0), .int .i64 (.ofNat 0), .bool false])).put H.nx (qaa 0 [.int .i64 (.ofNat u), .int .i64 (.ofNat es[i].t), .bool es[i].s])) := by (repeat (first | exact Fm.refl _ _ | assumption | refine Fm.push ?_ _ | refine Fm.up2 ?_ (by (first | omega | (simp only [np, nq]; omega))) | refine Fm.put_new ?_ _ _ (by (first | omega | (simp only [np, nq]; omega)))))
     rw [es'] at hst
     exact qgj hE hn hlen hv hvf hfb s' hq k (i + 1) s w _ (by omega) (by omega) hst hf ⟨r, hr⟩ (by omega) ((by rw [hr]; exact hw : Gl 1 H w s.q.length (nats s.q)).no fH) ((fH.keep fbl).trans hb) (hfm.then fH fun _ _ h => h.elim) hwn
   ·have es' : qd0 u s es[i] = s := by unfold qd0; rw [if_neg (fun h => hu h.1)]
    simp (disch := first | omega | exact ti rfl | (simp only [np, nq]; first | done | omega)) only [go_sem, reduceAdd, reduceMul, reduceSub, reduceLeDiff, reduceEqDiff, reduceShiftRight, reduceAnd, e1, e3, Edge.cells, d1, d4, hu, hb, hget, ht]
    unfold qgc
    simp (disch := first | omega | exact ti rfl | (simp only [np, nq]; first | done | omega)) only [go_sem, reduceAdd, reduceMul, reduceSub, reduceLeDiff, reduceEqDiff, reduceShiftRight, reduceAnd]
    have fH : Fm No H ((qan H (qaa 0 [.int .i64 (.ofNat 0), .int .i64 (.ofNat 0), .bool false])).put H.nx (qaa 0 [.int .i64 (.ofNat es[i].f), .int .i64 (.ofNat es[i].t), .bool es[i].s])) := by (repeat (first | exact Fm.refl _ _ | assumption | refine Fm.push ?_ _ | refine Fm.up2 ?_ (by (first | omega | (simp only [np, nq]; omega))) | refine Fm.put_new ?_ _ _ (by (first | omega | (simp only [np, nq]; omega)))))
    rw [es'] at hst
    exact qgj hE hn hlen hv hvf hfb s' hq k (i + 1) s w _ (by omega) (by omega) hst hf ⟨r, hr⟩ (by omega) ((by rw [hr]; exact hw : Gl 1 H w s.q.length (nats s.q)).no fH) ((fH.keep fbl).trans hb) (hfm.then fH fun _ _ h => h.elim) hwn
  ·have hd : es.drop i = [] := List.drop_eq_nil_of_le (by omega)
   rw [hd] at hs
   simp (disch := first | omega | exact ti rfl | (simp only [np, nq]; first | done | omega)) only [go_sem, reduceAdd, reduceMul, reduceSub, reduceLeDiff, reduceEqDiff, reduceShiftRight, reduceAnd, hlt]
   have : s = s' := hs
   subst this
   exact hq w H hw hb hfm hwn
end Go.Di
end
section
/-
 Contracts: the walk through a graph, whole.
-/
namespace Go.Di
open Go.Ev
variable {C : Nat → Ev.Call}
theorem q36 (u : Nat) (s : Wk) (e : Edge) : (qd0 u s e).q.length ≤ s.q.length + 1 := by
 unfold qd0; split <;> simp
theorem qvu (u : Nat) : ∀ (es : List Edge) (s : Wk), (inner es u s).q.length ≤ s.q.length + es.length
 | [], _ => Nat.le_refl _
 | e :: es, s => by
  show (inner es u (qd0 u s e)).q.length ≤ _
  have h1 := qvu u es (qd0 u s e)
  have h2 := q36 u s e
  simp only [List.length_cons]; omega
theorem qnk {call : Ev.Call} {n : Nat} {es : List Edge} (hE : ∀ e ∈ es, e.f < n ∧ e.t < n) (hn : n ≤ 256) {v : AV} {fb g : Nat} {H1 : Hp} (hlen : es.length < 1000000) {Q : AV → Hp → Prop} {q9 : Hp → R1}
  (hv : IsE H1 v es) (hvf : ∀ b, In v b → b ≠ fb) (hfb : fb < H1.nx) (hg : g < H1.nx) (hgf : g ≠ fb) (hgv : H1.get g = qaa 0 [.int .i64 (.ofNat n), v]) (f' : List Int)
  (hq : ∀ H, H.get fb = qaa 0 (ints f') → Fm (· = fb) H1 H → Ok (q9 H) Q) :
  ∀ (k m : Nat) (s : Wk) (w : AV) (H : Hp), qxu es m s → m < k → bfs es m s = f' → s.f.length = 256 → s.q.length + (m + 1) * es.length < 2000000 →
   lenSl w = .val (.int .i64 (.ofNat s.q.length)) → (s.q ≠ [] → Gl 1 H w s.q.length (nats s.q)) → H.get fb = qaa 0 (ints s.f) → Fm (· = fb) H1 H → (∀ b, In w b → H1.nx ≤ b) →
   Ok (qd4 call q9 (.ptr g 0) (.ptr fb 0) k w H) Q
 | 0, m, _, _, _, _, h, _, _, _, _, _, _, _, _ => by omega
 | k + 1, m, s, w, H, hends, hk, hs, hf, hsz, hl, hw, hb, hfm, hwn => by
  show Ok (qtk call _ _ _ (qd4 call _ _ _ k) _ H) Q
  unfold qtk
  cases hqs : s.q with
  | nil =>
   rw [hqs] at hl
   simp (disch := first | omega | exact ti rfl | (simp only [np, nq]; first | done | omega)) only [go_sem, reduceAdd, reduceMul, reduceSub, reduceLeDiff, reduceEqDiff, reduceShiftRight, reduceAnd, hl, Nat.lt_irrefl]
   have : bfs es m s = s.f := by cases m <;> simp [bfs, hqs]
   rw [this] at hs; subst hs
   exact hq H hb hfm
  | cons u r =>
   obtain ⟨m', rfl⟩ : ∃ m', m = m' + 1 := by
    cases m with
    | zero => have h0 : s.q = [] := hends; rw [hqs] at h0; cases h0
    | succ m' => exact ⟨m', rfl⟩
   have hw := hw (by rw [hqs]; simp)
   rw [hqs] at hl
   simp (disch := first | omega | exact ti rfl | (simp only [np, nq]; first | done | omega)) only [go_sem, reduceAdd, reduceMul, reduceSub, reduceLeDiff, reduceEqDiff, reduceShiftRight, reduceAnd, hl, Nat.zero_lt_succ]
   unfold qpd
   have k1 : H.get g = qaa 0 [.int .i64 (.ofNat n), v] := (hfm.get g hg hgf).trans hgv
   simp (disch := first | omega | exact ti rfl | (simp only [np, nq]; first | done | omega)) only [go_sem, reduceAdd, reduceMul, reduceSub, reduceLeDiff, reduceEqDiff, reduceShiftRight, reduceAnd, k1, (hv.len)]
   unfold qpi
   rw [qas]
   have hmul : (m' + 1 + 1) * es.length = (m' + 1) * es.length + es.length := by rw [Nat.add_mul, Nat.one_mul]
   refine qgj hE hn (u := u) hlen hv hvf hfb (inner es u s) (fun w' H' gl hb' hfm' hwn' => ?_) qao 0 s w H (Nat.zero_le _) (by rw [qal]; omega) rfl hf ⟨r, hqs⟩ (by omega) hw hb hfm hwn
   have hn1 : qjn es s = ⟨(inner es u s).f, (inner es u s).q.tail⟩ := by unfold qjn; rw [hqs]
   obtain ⟨r', hr'⟩ := q09 u es s
   rw [hqs] at hr'
   have hql := qvu u es s
   unfold qe4
   have hlr : (inner es u s).q = u :: (r ++ r') := hr'
   rw [hlr] at gl
   obtain ⟨w2, e2, l2, g2, n2⟩ := gl.tail
   simp (disch := first | omega | exact ti rfl | (simp only [np, nq]; first | done | omega)) only [go_sem, reduceAdd, reduceMul, reduceSub, reduceLeDiff, reduceEqDiff, reduceShiftRight, reduceAnd, e2]
   have hn2 : qjn es s = ⟨(inner es u s).f, r ++ r'⟩ := by rw [hn1, hlr]; rfl
   have hends' : qxu es m' (qjn es s) := by
    rcases hends with h | h
    ·rw [hqs] at h; cases h
    ·exact h
   have hs' : bfs es m' (qjn es s) = f' := by rw [← hs]; simp [bfs, hqs]
   rw [hn2] at hends' hs'
   refine qnk hE hn hlen hv hvf hfb hg hgf hgv f' hq k m' ⟨(inner es u s).f, r ++ r'⟩ w2 H' hends' (by omega) hs' (by rw [← hf]; exact qlf _ _ _) ?_ l2 (fun hne => g2 ?_) hb' hfm' (fun b h => hwn' b (n2 b h))
   ·rw [hlr, List.length_cons] at hql; simp only; omega
   ·cases hrr : r ++ r' with
    | nil => exact absurd hrr hne
    | cons _ _ => simp
theorem qsd {call : Ev.Call} {fb : Nat} {H1 : Hp} {Q : AV → Hp → Prop} {q49 : Hp → R1} (hfb : fb < H1.nx)
  (hq : ∀ H, H.get fb = qaa 0 (ints (List.replicate 256 (-1))) → Fm (· = fb) H1 H → H.nx = H1.nx → Ok (q49 H) Q) :
  ∀ (k i : Nat) (f : List Int) (H : Hp), i ≤ 256 → 256 - i < k → f.length = 256 → (∀ j, j < i → f[j]? = some (-1)) → H.get fb = qaa 0 (ints f) → Fm (· = fb) H1 H → H.nx = H1.nx →
   Ok (qga call q49 (.ptr fb 0) k (.int .i64 (.ofNat i)) H) Q
 | 0, i, _, _, _, h, _, _, _, _, _ => by omega
 | k + 1, i, f, H, hi, hk, hf, hj, hb, hfm, hnx => by
  show Ok (qpf call _ _ (qga call _ _ k) _ H) Q
  unfold qpf
  by_cases hlt : i < 256
  ·simp (disch := first | omega | exact ti rfl | (simp only [np, nq]; first | done | omega)) only [go_sem, reduceAdd, reduceMul, reduceSub, reduceLeDiff, reduceEqDiff, reduceShiftRight, reduceAnd, hlt]
   unfold qpb
   simp (disch := first | omega | exact ti rfl | (simp only [np, nq]; first | done | omega)) only [go_sem, reduceAdd, reduceMul, reduceSub, reduceLeDiff, reduceEqDiff, reduceShiftRight, reduceAnd, hlt, hb, qcp, hf, show i ≤ 255 by omega, ints_set]
   unfold qpc
   simp (disch := first | omega | exact ti rfl | (simp only [np, nq]; first | done | omega)) only [go_sem, reduceAdd, reduceMul, reduceSub, reduceLeDiff, reduceEqDiff, reduceShiftRight, reduceAnd]
   refine qsd hfb hq k (i + 1) (f.set i (.negSucc 0)) _ (by omega) (by omega) (by simp; exact hf) (fun j h => ?_) (qac _ _ _) (by (repeat (first | exact Fm.refl _ _ | assumption | refine Fm.push ?_ _ | refine Fm.up2 ?_ (by (first | omega | (simp only [np, nq]; omega))) | refine Fm.put_new ?_ _ _ (by (first | omega | (simp only [np, nq]; omega))) | refine Fm.put ?_ _ _ (fun _ => rfl)))) hnx
   by_cases hji : j = i
   ·subst hji; rw [List.getElem?_set_self (by omega)]; rfl
   ·rw [List.getElem?_set_ne (fun e => hji e.symm)]; exact hj j (by omega)
  ·simp (disch := first | omega | exact ti rfl | (simp only [np, nq]; first | done | omega)) only [go_sem, reduceAdd, reduceMul, reduceSub, reduceLeDiff, reduceEqDiff, reduceShiftRight, reduceAnd, hlt]
   have hi256 : i = 256 := by omega
   subst hi256
   have : f = List.replicate 256 (-1) := by
    apply List.ext_getElem?
    intro j
    by_cases h : j < 256
    ·rw [hj j h, List.getElem?_replicate, if_pos h]
    ·rw [List.getElem?_eq_none (by omega), List.getElem?_eq_none (by rw [List.length_replicate]; omega)]
   subst this
   exact hq H hb hfm hnx
def qa0 (a : Nat) : Wk := ⟨(List.replicate 256 (-1)).set a (.ofNat a), [a]⟩
theorem q53 (hC : qbe C) {k : Nat} (hk : 1 ≤ k) {n : Nat} {es : List Edge} (hE : ∀ e ∈ es, e.f < n ∧ e.t < n) (hn : n ≤ 256) (hlen : es.length < 1000) {v : AV} {H : Hp} (hv : IsE H v es) {a : Nat} (ha : a < n) (m : Nat) (hm : m < 1000) (hends : qxu es m (qa0 a)) :
  Ok (C k (.f qo3) [.agg [.int .i64 (.ofNat n), v], .int .i64 (.ofNat a)] H) fun r H' => r = .agg (ints (bfs es m (qa0 a))) ∧ (bfs es m (qa0 a)).length = 256 ∧ Fm No H H' := by
 obtain ⟨j, rfl⟩ : ∃ j, k = j + 1 := ⟨k - 1, by omega⟩
 rw [(hC j).gWlk]
 unfold gWlk q1g qph
 simp (disch := first | omega | exact ti rfl | (simp only [np, nq]; first | done | omega)) only [go_sem, reduceAdd, reduceMul, reduceSub, reduceLeDiff, reduceEqDiff, reduceShiftRight, reduceAnd]
 rw [qas]
 have hrep : List.replicate 256 (AV.int .i64 (.ofNat 0)) = ints (List.replicate 256 0) := by simp only [ints, List.map_replicate]; rfl
 rw [hrep]
 have lb : ∀ (m : Nat) (s : Wk), s.f.length = 256 → (bfs es m s).length = 256 := by
  intro m
  induction m with
  | zero => intro s h; exact h
  | succ m ih =>
   intro s h
   cases hq : s.q with
   | nil => simp [bfs, hq]; exact h
   | cons u r =>
    simp only [bfs, hq]
    refine ih _ ?_
    simp only [qjn, hq]
    rw [qlf]; exact h
 refine qsd (H1 := qan (qan (qan H (qaa 0 [.int .i64 (.ofNat n), v])) (qaa 0 (ints (List.replicate 256 0)))) (qaa 0 (ints (List.replicate 256 0)))) (by (first | omega | (simp only [np, nq]; omega))) (fun H2 hb2 f2 nx2 => ?_) qao 0 (List.replicate 256 0) _ (Nat.zero_le _) (by rw [qal]; omega) List.length_replicate (fun j h => by omega) (qak _ _) (Fm.refl _ _) rfl
 unfold qe3
 simp (disch := first | omega | exact ti rfl | (simp only [np, nq]; first | done | omega)) only [go_sem, reduceAdd, reduceMul, reduceSub, reduceLeDiff, reduceEqDiff, reduceShiftRight, reduceAnd, show a < 256 by omega, hb2, qcp, List.length_replicate, show a ≤ 255 by omega, ints_set]
 unfold qtl
 rw [qas, ints_set _ _ _ (by rw [List.length_replicate]; omega)]
 have fH : Fm No H (qan (qan (qan H (qaa 0 [.int .i64 (.ofNat n), v])) (qaa 0 (ints (List.replicate 256 0)))) (qaa 0 (ints (List.replicate 256 0)))) := by (repeat (first | exact Fm.refl _ _ | assumption | refine Fm.push ?_ _ | refine Fm.up2 ?_ (by (first | omega | (simp only [np, nq]; omega))) | refine Fm.put_new ?_ _ _ (by (first | omega | (simp only [np, nq]; omega)))))
 have hvb : ∀ b, In v b → b < H.nx := fun b hb => hv.lt hb
 refine qnk hE hn (H1 := qan (qan (qan H (qaa 0 [.int .i64 (.ofNat n), v])) (qaa 0 (ints (List.replicate 256 0)))) (qaa 0 (ints (List.replicate 256 0)))) (by omega) (hv.fm fH) (fun b hb => by have := hvb b hb; omega) (by (first | omega | (simp only [np, nq]; omega))) (by (first | omega | (simp only [np, nq]; omega))) (by omega) (by simp (disch := first | omega | exact ti rfl | (simp only [np, nq]; first | done | omega)) only [go_sem, reduceAdd, reduceMul, reduceSub, reduceLeDiff, reduceEqDiff, reduceShiftRight, reduceAnd]) (bfs es m (qa0 a)) (fun H3 hb3 f3 => ?_) qao m (qa0 a) _ _ hends (by rw [qal]; omega) rfl (by unfold qa0; rw [List.length_set, List.length_replicate]) ?_ rfl (fun _ => ?_) ?_ ?_ ?_
 ·unfold qdj
  have hl := lb m (qa0 a) (by unfold qa0; rw [List.length_set, List.length_replicate])
  have hr4 : H3.get (H.nx + 1) = qaa 0 (ints (List.replicate 256 0)) := (f3.get _ (by (first | omega | (simp only [np, nq]; omega))) (by omega)).trans (by simp (disch := first | omega | exact ti rfl | (simp only [np, nq]; first | done | omega)) only [go_sem, reduceAdd, reduceMul, reduceSub, reduceLeDiff, reduceEqDiff, reduceShiftRight, reduceAnd])
  have hsl : setL (ints (List.replicate 256 0)) 0 (ints (bfs es m (qa0 a))) = ints (bfs es m (qa0 a)) := qn1 _ _ (by unfold Tr; rw [qcp, qcp, List.length_replicate, hl]; rfl)
  have htk : List.take 256 (ints (bfs es m (qa0 a))) = ints (bfs es m (qa0 a)) := List.take_of_length_le (by rw [qcp, hl]; exact Nat.le_refl _)
  simp (disch := first | omega | exact ti rfl | (simp only [np, nq]; first | done | omega)) only [go_sem, reduceAdd, reduceMul, reduceSub, reduceLeDiff, reduceEqDiff, reduceShiftRight, reduceAnd, hb3, qcp, hl, htk, hr4, hsl, List.length_replicate]
  refine Ok.ret ⟨rfl, trivial, ?_⟩
  have : Fm No H H3 := fH.then f3 fun c hc h => by omega
  (repeat (first | exact Fm.refl _ _ | assumption | refine Fm.push ?_ _ | refine Fm.up2 ?_ (by (first | omega | (simp only [np, nq]; omega))) | refine Fm.put_new ?_ _ _ (by (first | omega | (simp only [np, nq]; omega)))))
 ·have : (qa0 a).q.length = 1 := rfl
  have : (m + 1) * es.length ≤ 1000 * 1000 := Nat.mul_le_mul (by omega) (by omega)
  omega
 ·refine ⟨rfl, .inr ⟨_, 0, true, 0, _, rfl, qak _ _, Nat.zero_le _, rfl, .inl rfl, by (first | omega | (simp only [np, nq]; omega))⟩⟩
 ·exact (qbd _ _ _ (by rw [nq, nx2]; (first | omega | (simp only [np, nq]; omega)))).trans (qac _ _ _)
 ·exact (f2.put _ _ (fun _ => rfl)).push _
 ·intro b hb
  obtain ⟨o, n', m', y, h⟩ := hb
  cases h
  rw [nx2]; exact Nat.le_refl _
end Go.Di
end
section
/-
 Contracts: lists that are cut to size, turned round, compared; what is reached, and paths.
-/
namespace Go.Di
open Go.Ev
variable {C : Nat → Ev.Call}
theorem zao (hC : qbe C) {k : Nat} (hk : 5 ≤ k) {n : Nat} {es : List Edge} (hE : qb2 n es) (hn : n ≤ 256) (hlen : es.length < 1000000) {v : AV} {H : Hp} (hv : IsE H v es) (a : Int) :
  Ok (C k (.f qlj) [.agg [.int .i64 (.ofNat n), v], .int .i64 a] H) fun r H' => r = .int .i64 (.ofNat (if 0 ≤ a ∧ a < n then 0 else 4)) ∧ Fm No H H' := by
 obtain ⟨j, rfl⟩ : ∃ j, k = j + 1 := ⟨k - 1, by omega⟩
 rw [(hC j).gOfN]
 unfold gOfN q1m
 simp (disch := first | omega | exact ti rfl | (simp only [np, nq]; first | done | omega)) only [go_sem, reduceAdd, reduceMul, reduceSub, reduceLeDiff, reduceEqDiff, reduceShiftRight, reduceAnd]
 have fH : Fm No H (qan H (qaa 0 [.int .i64 (.ofNat n), v])) := by (repeat (first | exact Fm.refl _ _ | assumption | refine Fm.push ?_ _ | refine Fm.up2 ?_ (by (first | omega | (simp only [np, nq]; omega))) | refine Fm.put_new ?_ _ _ (by (first | omega | (simp only [np, nq]; omega)))))
 refine Ok.ve (qwk hC (by omega) hE hn hlen (hv.fm fH)) ?_
 rintro r H' ⟨rfl, f'⟩
 have k1 : H'.get H.nx = qaa 0 [.int .i64 (.ofNat n), v] := (f'.keep (by (first | omega | (simp only [np, nq]; omega)))).trans (qak _ _)
 simp (disch := first | omega | exact ti rfl | (simp only [np, nq]; first | done | omega)) only [go_sem, reduceAdd, reduceMul, reduceSub, reduceLeDiff, reduceEqDiff, reduceShiftRight, reduceAnd]
 unfold qtp qtq
 by_cases h1 : a < Int.ofNat 0
 ·simp (disch := first | omega | exact ti rfl | (simp only [np, nq]; first | done | omega)) only [go_sem, reduceAdd, reduceMul, reduceSub, reduceLeDiff, reduceEqDiff, reduceShiftRight, reduceAnd, h1, k1]
  refine Ok.ret ⟨?_, fH.trans f'⟩
  rw [if_neg (by simp only [Int.ofNat_eq_natCast] at h1; omega)]
 ·by_cases h2 : Int.ofNat n ≤ a
  ·simp (disch := first | omega | exact ti rfl | (simp only [np, nq]; first | done | omega)) only [go_sem, reduceAdd, reduceMul, reduceSub, reduceLeDiff, reduceEqDiff, reduceShiftRight, reduceAnd, h1, h2, k1]
   refine Ok.ret ⟨?_, fH.trans f'⟩
   rw [if_neg (by simp only [Int.ofNat_eq_natCast] at h2; omega)]
  ·simp (disch := first | omega | exact ti rfl | (simp only [np, nq]; first | done | omega)) only [go_sem, reduceAdd, reduceMul, reduceSub, reduceLeDiff, reduceEqDiff, reduceShiftRight, reduceAnd, h1, h2, k1]
   refine Ok.ret ⟨?_, fH.trans f'⟩
   rw [if_pos (by simp only [Int.ofNat_eq_natCast] at h1 h2; omega)]
theorem qwj {call : Ev.Call} {H : Hp} {b m : Nat} {e : Bool} {q : Nat} {l : List Int} (h0 : H.get b = qaa q (ints l)) (hl : l.length < 1000000) :
  ∀ (k i : Nat), i ≤ l.length → l.length - i < k → qi0 call (fun x2 H => .ok x2 H) (fun H => qfy call (.int .i64 (.ofNat 0)) H) (.int .i64 (.ofNat 0)) (.sl b 0 l.length m e) (.int .i64 (.ofNat l.length)) k (.int .i64 (.ofNat i)) H = .ok (.int .i64 (orI (l.drop i))) H
 | 0, i, _, h => by omega
 | k + 1, i, hi, hk => by
  show qua call _ _ _ _ _ (qi0 call _ _ _ _ _ k) _ H = _
  unfold qua
  by_cases hlt : i < l.length
  ·simp (disch := omega) only [go_sem, hlt]
   unfold qt8
   have hd : l.drop i = l[i] :: l.drop (i + 1) := List.drop_eq_getElem_cons hlt
   simp (disch := omega) only [go_sem, h0, qf9 _ _ hlt]
   rw [hd]
   show _ = R1.ok (.int .i64 (if l[i] = 0 then orI (l.drop (i + 1)) else l[i])) H
   by_cases hz : l[i] = Int.ofNat 0
   ·have hz' : l[i] = 0 := hz
    simp only [hz', go_sem]
    unfold qt9
    simp (disch := omega) only [go_sem]
    exact qwj h0 hl k (i + 1) (by omega) (by omega)
   ·have hz' : ¬ l[i] = 0 := hz
    simp only [hz, hz', go_sem]
  ·have hd : l.drop i = [] := List.drop_eq_nil_of_le (by omega)
   simp (disch := omega) only [go_sem, hlt]
   rw [hd]; unfold qfy; rfl
theorem zck (hC : qbe C) {k : Nat} (hk : 1 ≤ k) {H : Hp} {b m : Nat} {e : Bool} {q n : Nat} {l : List Int} (hn : l.length = n) (h0 : H.get b = qaa q (ints l)) (hl : l.length < 1000000) :
  C k (.f qo6) [.sl b 0 n m e] H = .ok (.int .i64 (orI l)) H := by
 obtain ⟨j, rfl⟩ : ∃ j, k = j + 1 := ⟨k - 1, by omega⟩
 subst hn
 rw [(hC j).cOrE]
 unfold cOrE q27 qub
 simp only [go_sem]
 rw [qas]
 exact qwj h0 hl _ 0 (Nat.zero_le _) (by rw [qal]; omega)
theorem qwi {call : Ev.Call} {b q n m : Nat} {y : Bool} {l : List Int} (hn : l.length = n) (hlen : n < 1000000) {H0 : Hp} :
  ∀ (k i : Nat) (c : List Int) (H : Hp), i ≤ n - 1 - i + 1 → n - i < k → c.length = n → (∀ p, p < n → c[p]? = if p < i ∨ n - 1 - i < p then l[n - 1 - p]? else l[p]?) → 1 ≤ n → i ≤ n - 1 → H.get b = qaa q (ints c) → Fm (· = b) H0 H →
   Ok (qh8 call (fun H => .ok (.tup []) H) (.sl b 0 n m y) k (.int .i64 (.ofNat i)) (.int .i64 (.ofNat (n - 1 - i))) H) fun v H' => v = .tup [] ∧ H'.get b = qaa q (ints l.reverse) ∧ Fm (· = b) H0 H'
 | 0, i, _, _, _, h, _, _, _, _, _, _ => by omega
 | k + 1, i, c, H, hi, hk, hc, hp, h1, hin, hb, hfm => by
  show Ok (qsu call _ _ (qh8 call _ _ k) _ _ H) _
  unfold qsu
  by_cases hlt : i < n - 1 - i
  ·simp (disch := first | omega | exact ti rfl | (simp only [np, nq]; first | done | omega)) only [go_sem, reduceAdd, reduceMul, reduceSub, reduceLeDiff, reduceEqDiff, reduceShiftRight, reduceAnd, hlt]
   unfold qn6
   have g1 := qf9 c i (by omega)
   have g2 := qf9 c (n - 1 - i) (by omega)
   have hc2 : (c.set i c[n - 1 - i]).length = n := by rw [List.length_set]; exact hc
   simp (disch := first | omega | exact ti rfl | (simp only [np, nq]; first | done | omega)) only [go_sem, reduceAdd, reduceMul, reduceSub, reduceLeDiff, reduceEqDiff, reduceShiftRight, reduceAnd, hb, g1, g2, qcp, hc, show i + 1 ≤ n by omega, show n - 1 - i + 1 ≤ n by omega, ints_set, List.length_set]
   unfold qst
   simp (disch := first | omega | exact ti rfl | (simp only [np, nq]; first | done | omega)) only [go_sem, reduceAdd, reduceMul, reduceSub, reduceLeDiff, reduceEqDiff, reduceShiftRight, reduceAnd]
   rw [show n - 1 - i - 1 = n - 1 - (i + 1) by omega]
   refine qwi hn hlen k (i + 1) ((c.set i c[n - 1 - i]).set (n - 1 - i) c[i]) _ (by omega) (by omega) (by simp; exact hc) (fun p hpn => ?_) h1 (by omega) (qac _ _ _) (by (repeat (first | exact Fm.refl _ _ | assumption | refine Fm.push ?_ _ | refine Fm.up2 ?_ (by (first | omega | (simp only [np, nq]; omega))) | refine Fm.put_new ?_ _ _ (by (first | omega | (simp only [np, nq]; omega))) | refine Fm.put ?_ _ _ (fun _ => rfl))))
   have i1 : c[i]? = some c[i] := List.getElem?_eq_getElem (by omega)
   have i2 : c[n - 1 - i]? = some c[n - 1 - i] := List.getElem?_eq_getElem (by omega)
   rw [hp i (by omega), if_neg (by omega)] at i1
   rw [hp (n - 1 - i) (by omega), if_neg (by omega)] at i2
   by_cases h2 : p = n - 1 - i
   ·subst h2
    rw [List.getElem?_set_self (by simp; omega), if_pos (by omega), ← i1]
    congr 1; omega
   ·rw [List.getElem?_set_ne (fun e => h2 e.symm)]
    by_cases h3 : p = i
    ·subst h3
     rw [List.getElem?_set_self (by omega), if_pos (by omega), ← i2]
    ·rw [List.getElem?_set_ne (fun e => h3 e.symm), hp p hpn]
     by_cases h4 : p < i ∨ n - 1 - i < p
     ·rw [if_pos h4, if_pos (by omega)]
     ·rw [if_neg h4, if_neg (by omega)]
  ·simp (disch := first | omega | exact ti rfl | (simp only [np, nq]; first | done | omega)) only [go_sem, reduceAdd, reduceMul, reduceSub, reduceLeDiff, reduceEqDiff, reduceShiftRight, reduceAnd, hlt]
   refine Ok.ret ⟨rfl, ?_, hfm⟩
   rw [hb]
   congr 2
   apply List.ext_getElem?
   intro p
   by_cases h : p < n
   ·rw [hp p h, List.getElem?_reverse (by omega), hn]
    split
    ·rfl
    ·congr 1; omega
   ·rw [List.getElem?_eq_none (by omega), List.getElem?_eq_none (by rw [List.length_reverse]; omega)]
theorem zci (hC : qbe C) {k : Nat} (hk : 1 ≤ k) {H : Hp} {b q n m : Nat} {y : Bool} {l : List Int} (hn : l.length = n) (h1 : 1 ≤ n) (hlen : n < 1000000) (hb : H.get b = qaa q (ints l)) :
  Ok (C k (.f qoy) [.sl b 0 n m y] H) fun _ H' => H'.get b = qaa q (ints l.reverse) ∧ Fm (· = b) H H' := by
 obtain ⟨j, rfl⟩ : ∃ j, k = j + 1 := ⟨k - 1, by omega⟩
 rw [(hC j).sRvs]
 unfold sRvs qzg qsv
 simp (disch := first | omega | exact ti rfl | (simp only [np, nq]; first | done | omega)) only [go_sem, reduceAdd, reduceMul, reduceSub, reduceLeDiff, reduceEqDiff, reduceShiftRight, reduceAnd]
 rw [qas]
 exact (qwi hn hlen qao 0 l H (by omega) (by rw [qal]; omega) hn (fun p hp => by rw [if_neg (by omega)]) h1 (by omega) hb (Fm.refl _ _)).mono fun v H' h => h.2
inductive Ch (f : List Int) (a : Nat) : List Nat → Prop
 | one : Ch f a [a]
 | cons {x y : Nat} {l : List Nat} : x ≠ a → x < 256 → f[x]? = some (.ofNat y) → Ch f a (y :: l) → Ch f a (x :: y :: l)
theorem qsc {call : Ev.Call} {fb a : Nat} {f : List Int} {H1 : Hp} (hfb : fb < H1.nx) (hbf : H1.get fb = qaa 0 (ints f)) {Q : AV → Hp → Prop} {q9 : AV → Hp → R1} (o : List Nat)
  (hq : ∀ b q n y H, o.length = n → (y = true ∨ q = 1) → H.get b = qaa q (nats o) → b < H.nx → H1.nx ≤ b → Fm No H1 H → Ok (q9 (.sl b 0 n n y) H) Q) :
  ∀ (k : Nat) (l o' : List Nat) (x : Nat) (b q m : Nat) (y : Bool) (H : Hp), Ch f a (x :: l) → l.length < k → o = o' ++ l → o.length < 100000 → (y = true ∨ q = 1) → m = o'.length → H.get b = qaa q (nats o') → b < H.nx → H1.nx ≤ b → Fm No H1 H →
   Ok (qlp call q9 (.int .i64 (.ofNat a)) (.ptr fb 0) k (.sl b 0 o'.length m y) (.int .i64 (.ofNat x)) H) Q
 | 0, _, _, _, _, _, _, _, _, _, h, _, _, _, _, _, _, _, _ => by omega
 | k + 1, l, o', x, b, q, m, y, H, hch, hk, ho, hsz, hy, hm, hb, hbn, hbl, hfm => by
  show Ok (qtn call _ _ _ (qlp call _ _ _ k) _ _ H) Q
  unfold qtn
  cases hch with
  | one =>
   simp (disch := first | omega | exact ti rfl | (simp only [np, nq]; first | done | omega)) only [go_sem, reduceAdd, reduceMul, reduceSub, reduceLeDiff, reduceEqDiff, reduceShiftRight, reduceAnd]
   have : o = o' := by rw [ho, List.append_nil]
   subst this
   subst hm
   exact hq b q _ y H rfl hy hb hbn hbl hfm
  | @cons _ z l' hne hx hf hch' =>
   simp (disch := first | omega | exact ti rfl | (simp only [np, nq]; first | done | omega)) only [go_sem, reduceAdd, reduceMul, reduceSub, reduceLeDiff, reduceEqDiff, reduceShiftRight, reduceAnd, hne]
   unfold qpk
   have hf' : (ints f)[x]? = some (.int .i64 (.ofNat z)) := by
    unfold ints; rw [List.getElem?_map, hf]; rfl
   have k1 : H.get fb = qaa 0 (ints f) := (hfm.keep hfb).trans hbf
   simp (disch := first | omega | exact ti rfl | (simp only [np, nq]; first | done | omega)) only [go_sem, reduceAdd, reduceMul, reduceSub, reduceLeDiff, reduceEqDiff, reduceShiftRight, reduceAnd, hx, k1, hf']
   have gl : Gl 1 (qan H (qaa 0 [.int .i64 (.ofNat z)])) (.sl b 0 o'.length m y) o'.length (nats o') := by
    subst hm
    exact ⟨by simp [nats], .inr ⟨b, 0, y, q, nats o', rfl, (qbd _ _ _ hbn).trans hb, Nat.zero_le _, rfl, hy, by (first | omega | (simp only [np, nq]; omega))⟩⟩
   have hol : o.length = o'.length + (l'.length + 1) := by rw [ho]; simp
   obtain ⟨H', e, gl', hg', fm', nx'⟩ := gl.append (k := 1) (w := 8) (x := [.int .i64 (.ofNat z)]) (by omega) rfl (by omega) (by omega)
   refine Ok.veE e ?_
   have hnx := hfm.nx
   rw [qvq] at hg'
   have hl2 : (o' ++ [z]).length = o'.length + 1 := by simp
   rw [← hl2]
   refine qsc hfb hbf o hq k l' (o' ++ [z]) z _ 1 _ false H' hch' (by simp at hk; omega) (by rw [ho]; simp) hsz (.inr rfl) rfl hg' (by rw [nx']; omega) (by (first | omega | (simp only [np, nq]; omega))) ?_
   have f1 : Fm No H1 (qan H (qaa 0 [.int .i64 (.ofNat z)])) := hfm.push _
   exact f1.then fm' fun c hc h => by obtain ⟨_, _, _, _, h'⟩ := h; cases h'; omega
structure WOk (n : Nat) (es : List Edge) (a m : Nat) : Prop where
 ed : qb2 n es
 n : n ≤ 256
 len : es.length < 1000
 mm : m < 1000
 ends : qxu es m (qa0 a)
def errN (n : Nat) (a : Int) : Int := .ofNat (if 0 ≤ a ∧ a < n then 0 else 4)
theorem q3t (hC : qbe C) {j : Nat} (hj : 5 ≤ j) {n : Nat} {es : List Edge} (hE : qb2 n es) (hn : n ≤ 256) (hlen : es.length < 1000) {v : AV} {H : Hp} (hv : IsE H v es) (a b : Int) {Q : AV → Hp → Prop}
  (hQ : ∀ H2, Fm No H H2 → H2.get H.nx = qaa 0 [.int .i64 (.ofNat n), v] → H.nx < H2.nx → Ok (cd (.bool !decide (orI [errN n a, errN n b] = Int.ofNat 0)) (.ok (.tup [(.nilsl), .int .i64 (orI [errN n a, errN n b])]) H2) (qj1 (C j) (.int .i64 a) (.int .i64 b) (.ptr H.nx 0) H2)) Q) :
  Ok (C (j + 1) (.f qli) [.agg [.int .i64 (.ofNat n), v], .int .i64 a, .int .i64 b] H) Q := by
 rw [(hC j).gPth]
 unfold gPth q1k
 have fH : Fm No H (qan H (qaa 0 [.int .i64 (.ofNat n), v])) := by (repeat (first | exact Fm.refl _ _ | assumption | refine Fm.push ?_ _ | refine Fm.up2 ?_ (by (first | omega | (simp only [np, nq]; omega))) | refine Fm.put_new ?_ _ _ (by (first | omega | (simp only [np, nq]; omega)))))
 have hG := hv.eqG (.ofNat n)
 simp (disch := first | omega | exact ti rfl | (simp only [np, nq]; first | done | omega)) only [go_sem, reduceAdd, reduceMul, reduceSub, reduceLeDiff, reduceEqDiff, reduceShiftRight, reduceAnd]
 have f1 : Fm No H ⟨(qan H (qaa 0 [.int .i64 (.ofNat n), v])).t, H.nx + 1 + 9⟩ := by (repeat (first | exact Fm.refl _ _ | assumption | refine Fm.push ?_ _ | refine Fm.up2 ?_ (by (first | omega | (simp only [np, nq]; omega))) | refine Fm.put_new ?_ _ _ (by (first | omega | (simp only [np, nq]; omega)))))
 refine Ok.deO (zao hC (by omega) hE hn (by omega) (hv.fm f1) a) ?_
 rintro r1 H1 ⟨rfl, g1⟩
 have k1 : H1.get H.nx = qaa 0 [.int .i64 (.ofNat n), v] := (g1.keep (by (first | omega | (simp only [np, nq]; omega)))).trans (by simp (disch := first | omega | exact ti rfl | (simp only [np, nq]; first | done | omega)) only [go_sem, reduceAdd, reduceMul, reduceSub, reduceLeDiff, reduceEqDiff, reduceShiftRight, reduceAnd])
 have n1 := g1.nx
 have n1' : H.nx + 1 + 9 ≤ H1.nx := n1
 simp (disch := first | omega | exact ti rfl | (simp only [np, nq]; first | done | omega)) only [go_sem, reduceAdd, reduceMul, reduceSub, reduceLeDiff, reduceEqDiff, reduceShiftRight, reduceAnd, k1, hG]
 refine Ok.deO (zao hC (by omega) hE hn (by omega) (hv.fm (f1.trans g1)) b) ?_
 rintro r2 H2 ⟨rfl, g2⟩
 have k2 : H2.get H.nx = qaa 0 [.int .i64 (.ofNat n), v] := (g2.keep (by omega)).trans k1
 have n2 := g2.nx
 simp (disch := first | omega | exact ti rfl | (simp only [np, nq]; first | done | omega)) only [go_sem, reduceAdd, reduceMul, reduceSub, reduceLeDiff, reduceEqDiff, reduceShiftRight, reduceAnd, k2, hG]
 refine Ok.deE (zck hC (show 1 ≤ j by omega) (l := [errN n a, errN n b]) rfl (qac _ _ _) (by simp)) ?_
 simp (disch := first | omega | exact ti rfl | (simp only [np, nq]; first | done | omega)) only [go_sem, reduceAdd, reduceMul, reduceSub, reduceLeDiff, reduceEqDiff, reduceShiftRight, reduceAnd]
 have f2 := f1.trans (g1.trans g2)
 refine hQ _ ?_ ?_ ?_
 ·(repeat (first | exact Fm.refl _ _ | assumption | refine Fm.push ?_ _ | refine Fm.up2 ?_ (by (first | omega | (simp only [np, nq]; omega))) | refine Fm.put_new ?_ _ _ (by (first | omega | (simp only [np, nq]; omega)))))
 ·simp (disch := first | omega | exact ti rfl | (simp only [np, nq]; first | done | omega)) only [go_sem, reduceAdd, reduceMul, reduceSub, reduceLeDiff, reduceEqDiff, reduceShiftRight, reduceAnd, k2]
 ·(first | omega | (simp only [np, nq]; omega))
theorem q9k (hC : qbe C) {k : Nat} (hk : 6 ≤ k) {n : Nat} {es : List Edge} {v : AV} {H : Hp} (hv : IsE H v es) {a b m : Nat} (W : WOk n es a m) (ha : a < n) (hb : b < n) {Q : AV → Hp → Prop}
  (h8 : (bfs es m (qa0 a)).getD b 0 < 0 → ∀ H', Fm No H H' → Q (.tup [.nilsl, .int .i64 (.ofNat 8)]) H')
  (h0 : ¬ (bfs es m (qa0 a)).getD b 0 < 0 → ∃ l, Ch (bfs es m (qa0 a)) a (b :: l) ∧ l.length < 1000 ∧ ∀ H' w, Fm No H H' → Gl 1 H' w (l.length + 1) (nats (b :: l).reverse) → capV w = .val (.int .i64 (.ofNat (l.length + 1))) → (∀ b, In w b → H.nx ≤ b) → Q (.tup [w, .int .i64 (.ofNat 0)]) H') :
  Ok (C k (.f qli) [.agg [.int .i64 (.ofNat n), v], .int .i64 (.ofNat a), .int .i64 (.ofNat b)] H) Q := by
 obtain ⟨j, rfl⟩ : ∃ j, k = j + 1 := ⟨k - 1, by omega⟩
 have hn := W.n
 refine q3t hC (by omega) W.ed W.n W.len hv (.ofNat a) (.ofNat b) fun H2 f2 k2 n2 => ?_
 have : orI [errN n (.ofNat a), errN n (.ofNat b)] = .ofNat 0 := by
  unfold errN
  rw [if_pos (by simp only [Int.ofNat_eq_natCast]; omega), if_pos (by simp only [Int.ofNat_eq_natCast]; omega)]; rfl
 rw [this]
 simp (disch := first | omega | exact ti rfl | (simp only [np, nq]; first | done | omega)) only [go_sem, reduceAdd, reduceMul, reduceSub, reduceLeDiff, reduceEqDiff, reduceShiftRight, reduceAnd]
 unfold qj1
 simp (disch := first | omega | exact ti rfl | (simp only [np, nq]; first | done | omega)) only [go_sem, reduceAdd, reduceMul, reduceSub, reduceLeDiff, reduceEqDiff, reduceShiftRight, reduceAnd, k2]
 refine Ok.ve (q53 hC (by omega) W.ed.rng W.n W.len (hv.fm f2) ha m W.mm W.ends) ?_
 rintro r H3 ⟨rfl, hl, f3⟩
 have hget : (ints (bfs es m (qa0 a)))[b]? = some (.int .i64 ((bfs es m (qa0 a)).getD b 0)) := by
  rw [qf9 _ _ (by omega)]; simp [List.getD_eq_getElem?_getD, show b < (bfs es m (qa0 a)).length by omega]
 have hsl : setL (List.replicate 256 (.int .i64 (.ofNat 0))) 0 (ints (bfs es m (qa0 a))) = ints (bfs es m (qa0 a)) := qn1 _ _ (by unfold Tr; rw [qcp, List.length_replicate, hl]; rfl)
 simp (disch := first | omega | exact ti rfl | (simp only [np, nq]; first | done | omega)) only [go_sem, reduceAdd, reduceMul, reduceSub, reduceLeDiff, reduceEqDiff, reduceShiftRight, reduceAnd, qcp, hl, List.length_replicate, hsl, show b < 256 by omega, hget]
 have f4 : Fm No H ((qan H3 (qaa 0 (List.replicate 256 (.int .i64 (.ofNat 0))))).put H3.nx (qaa 0 (ints (bfs es m (qa0 a))))) := by
  have := f2.trans f3
  have := this.nx
  (repeat (first | exact Fm.refl _ _ | assumption | refine Fm.push ?_ _ | refine Fm.up2 ?_ (by (first | omega | (simp only [np, nq]; omega))) | refine Fm.put_new ?_ _ _ (by (first | omega | (simp only [np, nq]; omega)))))
 by_cases hneg : (bfs es m (qa0 a)).getD b 0 < Int.ofNat 0
 ·simp (disch := first | omega | exact ti rfl | (simp only [np, nq]; first | done | omega)) only [go_sem, reduceAdd, reduceMul, reduceSub, reduceLeDiff, reduceEqDiff, reduceShiftRight, reduceAnd, hneg]
  exact Ok.ret (h8 hneg _ f4)
 ·simp (disch := first | omega | exact ti rfl | (simp only [np, nq]; first | done | omega)) only [go_sem, reduceAdd, reduceMul, reduceSub, reduceLeDiff, reduceEqDiff, reduceShiftRight, reduceAnd, hneg]
  obtain ⟨l, hch, hll, hQ⟩ := h0 hneg
  unfold qpj qto
  simp (disch := first | omega | exact ti rfl | (simp only [np, nq]; first | done | omega)) only [go_sem, reduceAdd, reduceMul, reduceSub, reduceLeDiff, reduceEqDiff, reduceShiftRight, reduceAnd]
  rw [qas]
  have n3 := (f2.trans f3).nx
  refine qsc (H1 := (qan H3 (qaa 0 (List.replicate 256 (.int .i64 (.ofNat 0))))).put H3.nx (qaa 0 (ints (bfs es m (qa0 a))))) (f := bfs es m (qa0 a)) (by (first | omega | (simp only [np, nq]; omega))) (by simp (disch := first | omega | exact ti rfl | (simp only [np, nq]; first | done | omega)) only [go_sem, reduceAdd, reduceMul, reduceSub, reduceLeDiff, reduceEqDiff, reduceShiftRight, reduceAnd]) (b :: l) ?_ qao l [b] b _ 0 1 true _ hch (by rw [qal]; omega) rfl (by simp; omega) (.inl rfl) rfl ?_ ?_ ?_ ((Fm.refl _ _).push _)
  ·intro b' q n' y H5 hn' hy hb' hbl hb1 f5
   subst hn'
   unfold qil
   have hb2 : H5.get b' = qaa q (ints ((b :: l).map Int.ofNat)) := by rw [hb', qfr]
   refine Ok.ve (zci hC (show 1 ≤ j by omega) (l := (b :: l).map Int.ofNat) (by simp) (by simp) (by simp; omega) hb2) ?_
   rintro _ H6 ⟨hb6, f6⟩
   rw [← List.map_reverse, qfr] at hb6
   have gl : Gl 1 H6 (.sl b' 0 (b :: l).length (b :: l).length y) (b :: l).length (nats (b :: l).reverse) :=
    ⟨by simp [nats], .inr ⟨b', 0, y, q, _, rfl, hb6, Nat.zero_le _, rfl, hy, Nat.lt_of_lt_of_le hbl f6.nx⟩⟩
   obtain ⟨w, e, gw, hc, hw⟩ := qut hC (show 1 ≤ j by omega) gl
   refine Ok.veE e ?_
   have hb1' : H3.nx + 1 ≤ b' := hb1
   refine Ok.ret (hQ H6 w ?_ (by simpa using gw) (by simpa using hc) (fun c hc => ?_))
   ·have f45 : Fm No H H5 := f4.trans f5
    exact f45.then f6 fun c hc h => by omega
   ·obtain ⟨_, _, _, _, h'⟩ := hw c hc
    cases h'
    omega
  ·exact qak _ _
  ·(first | omega | (simp only [np, nq]; omega))
  ·exact Nat.le_refl _
end Go.Di
end
section
/-
 Contracts: what is reached.
-/
namespace Go.Di
open Go.Ev
variable {C : Nat → Ev.Call}
def qqz (f : List Int) (i : Nat) : List Nat := (List.range i).filter fun j => !decide (f.getD j 0 < 0)
theorem qs6 (f : List Int) (i : Nat) : qqz f (i + 1) = qqz f i ++ (if f.getD i 0 < 0 then [] else [i]) := by
 unfold qqz
 rw [List.range_succ, List.filter_append]
 by_cases h : f.getD i 0 < 0
 ·rw [if_pos h]
  have : List.filter (fun j => !decide (f.getD j 0 < 0)) [i] = [] := by rw [List.filter_cons, if_neg (by simp only [h, decide_true, Bool.not_true]; exact Bool.false_ne_true)]; rfl
  rw [this]
 ·rw [if_neg h]
  have : List.filter (fun j => !decide (f.getD j 0 < 0)) [i] = [i] := by rw [List.filter_cons, if_pos (by simp only [h, decide_false, Bool.not_false])]; rfl
  rw [this]
end Go.Di
end
section
/-
 Contracts: the path of the reference.
-/
namespace Go.Di
open Go.Ev
variable {C : Nat → Ev.Call}
def Nx (n : Nat) (ms : List Nat) (d : List Int) (b a k : Nat) : Prop := 0 < ms.getD (a * n + k) 0 ∧ 0 ≤ d.getD (k * n + b) 0 ∧ d.getD (k * n + b) 0 = d.getD (a * n + b) 0 - 1
structure zco (n : Nat) (ms : List Nat) (d : List Int) (b a x : Nat) : Prop where
 lt : x < n
 is : Nx n ms d b a x
 least : ∀ k, k < x → ¬ Nx n ms d b a k
inductive Gp (n : Nat) (ms : List Nat) (d : List Int) (b : Nat) : Nat → List Nat → Prop
 | nil : Gp n ms d b b []
 | cons {a x : Nat} {l : List Nat} : a ≠ b → zco n ms d b a x → Gp n ms d b x l → Gp n ms d b a (x :: l)
end Go.Di
end
section
/-
 Graphs without any program: the walk reaches each node by the least of all ways.
-/
namespace Go.Di
open Go.Ev
def qyo (n : Nat) (d : List Int) (a : Nat) (i : Nat) : List Nat := (List.range i).filter fun k => !decide (d.getD (a * n + k) 0 < 0)
theorem qwn (n : Nat) (d : List Int) (a i : Nat) : qyo n d a (i + 1) = qyo n d a i ++ (if d.getD (a * n + i) 0 < 0 then [] else [i]) := by
 unfold qyo
 rw [List.range_succ, List.filter_append]
 by_cases h : d.getD (a * n + i) 0 < 0
 ·rw [if_pos h, List.filter_cons, if_neg (by simp only [h, decide_true, Bool.not_true]; exact Bool.false_ne_true)]; rfl
 ·rw [if_neg h, List.filter_cons, if_pos (by simp only [h, decide_false, Bool.not_false])]; rfl
def qqc (n : Nat) (ms : List Nat) : Prop := ∀ a, a < n → ∃ m, WOk n (qaj n ms) a m ∧ qqz (bfs (qaj n ms) m (qa0 a)) 256 = qyo n (dist n ms) a n ∧
  ∀ b, b < n → ((bfs (qaj n ms) m (qa0 a)).getD b 0 < 0 ↔ (dist n ms).getD (a * n + b) 0 < 0) ∧
   (¬ (dist n ms).getD (a * n + b) 0 < 0 → ∃ l l', Ch (bfs (qaj n ms) m (qa0 a)) a (b :: l) ∧ l.length < 1000 ∧ Gp n ms (dist n ms) b a l' ∧ (b :: l).reverse = a :: l')
structure zcj (n : Nat) (ms : List Nat) : Prop where
 bnd : DBnd n ms
 bnd2 : Bnd (dist n ms)
 walk : qqc n ms
theorem Gl.ints {H : Hp} {w : AV} {p : List Nat} {n : Nat} (h : Gl 1 H w n (nats p)) : Gl 1 H w (p.map Int.ofNat).length (Di.ints (p.map Int.ofNat)) := by
 have := h.len
 rw [q4v, Nat.mul_one] at this
 rw [List.length_map, qfr, this]; exact h
def hd (s : List Nat) (a : Nat) : Nat := match s with | [] => a | v :: _ => v
def Rw (n : Nat) (ms : List Nat) (a : Nat) : List Nat → Prop
 | [] => True
 | v :: s => v < n ∧ Adj n ms (hd s a) v ∧ Rw n ms a s
def cd' (B : Nat) : List Nat → Nat
 | [] => 0
 | v :: s => cd' B s * B + (v + 1)
structure Inv (n : Nat) (ms : List Nat) (a : Nat) (T : List (List Nat)) (t : Nat) (s : Wk) : Prop where
 len : s.f.length = 256
 nil : T[0]? = some []
 pw : T.Pairwise (fun x y => cd' (n + 1) x < cd' (n + 1) y)
 rw' : ∀ x ∈ T, Rw n ms a x
 q : s.q = (T.drop t).map (hd · a)
 iff : ∀ v, v < 256 → (0 ≤ s.f.getD v 0 ↔ ∃ x ∈ T, hd x a = v)
 par : ∀ v x, v :: x ∈ T → v ≠ a ∧ s.f[v]? = some (.ofNat (hd x a))
 fst : ∀ v x, v :: x ∈ T → ∃ i, i < t ∧ T[i]? = some x ∧ ∀ j, j < i → ∀ y, T[j]? = some y → ¬ Adj n ms (hd y a) v
 cls : ∀ i, i < t → ∀ x, T[i]? = some x → ∀ v, v < n → Adj n ms (hd x a) v → ∃ y ∈ T, hd y a = v
 nd : (T.map (hd · a)).Nodup
 le : t ≤ T.length
structure Inn (n : Nat) (ms : List Nat) (a : Nat) (T : List (List Nat)) (t : Nat) (su : List Nat) (done : List Edge) (s : Wk) : Prop where
 len : s.f.length = 256
 nil : T[0]? = some []
 at' : T[t]? = some su
 pw : T.Pairwise (fun x y => cd' (n + 1) x < cd' (n + 1) y)
 rw' : ∀ x ∈ T, Rw n ms a x
 q : s.q = (T.drop t).map (hd · a)
 iff : ∀ v, v < 256 → (0 ≤ s.f.getD v 0 ↔ ∃ x ∈ T, hd x a = v)
 par : ∀ v x, v :: x ∈ T → v ≠ a ∧ s.f[v]? = some (.ofNat (hd x a))
 fst : ∀ v x, v :: x ∈ T → ∃ i, i < t + 1 ∧ T[i]? = some x ∧ ∀ j, j < i → ∀ y, T[j]? = some y → ¬ Adj n ms (hd y a) v
 cls : ∀ i, i < t → ∀ x, T[i]? = some x → ∀ v, v < n → Adj n ms (hd x a) v → ∃ y ∈ T, hd y a = v
 nd : (T.map (hd · a)).Nodup
 dn : ∀ e ∈ done, e.f = hd su a → ∃ y ∈ T, hd y a = e.t
 ord : ∀ x ∈ T, cd' (n + 1) x ≤ cd' (n + 1) su * (n + 1) ∨ ∃ v, x = v :: su ∧ ∃ e ∈ done, e.f = hd su a ∧ e.t = v
theorem Inn.step {n : Nat} {ms : List Nat} {a : Nat} {T : List (List Nat)} {t : Nat} {su : List Nat} {done : List Edge} {s : Wk} (hn : n ≤ 256) (ha : a < n) (h : Inn n ms a T t su done s) {e : Edge} (he : e ∈ qaj n ms)
  (hs : ∀ d ∈ done, d.f = e.f → d.t ≤ e.t) : ∃ T', Inn n ms a T' t su (done ++ [e]) (qd0 (hd su a) s e) := by
 obtain ⟨hef, het⟩ := (qe9 n ms).rng e he
 unfold qd0
 by_cases hc : e.f = hd su a ∧ s.f.getD e.t 0 < 0
 ·rw [if_pos hc]
  obtain ⟨hf, hneg⟩ := hc
  have hnot : ¬ ∃ x ∈ T, hd x a = e.t := fun hx => by have := (h.iff e.t (by omega)).2 hx; omega
  have hadj : Adj n ms (hd su a) e.t := hf ▸ qrx he
  have hsu : su ∈ T := List.mem_of_getElem? h.at'
  have hlt : t < T.length := by
   rcases Nat.lt_or_ge t T.length with h' | h'
   ·exact h'
   ·have := h.at'; rw [List.getElem?_eq_none h'] at this; cases this
  have h0 : [] ∈ T := List.mem_of_getElem? h.nil
  have hta : e.t ≠ a := fun e' => hnot ⟨[], h0, e'.symm⟩
  refine ⟨T ++ [e.t :: su], ?_⟩
  refine ⟨by simp only [List.length_set]; exact h.len, ?_, ?_, ?_, ?_, ?_, ?_, ?_, ?_, ?_, ?_, ?_, ?_⟩
  ·rw [List.getElem?_append_left (by omega)]; exact h.nil
  ·rw [List.getElem?_append_left hlt]; exact h.at'
  ·refine List.pairwise_append.2 ⟨h.pw, List.pairwise_singleton _ _, fun x hx y hy => ?_⟩
   rw [List.mem_singleton] at hy
   subst hy
   show _ < cd' (n + 1) su * (n + 1) + (e.t + 1)
   rcases h.ord x hx with h' | ⟨v, rfl, d, hd', hdf, rfl⟩
   ·omega
   ·have h1 := hs d hd' (by rw [hdf, hf])
    have h2 : d.t ≠ e.t := fun e' => hnot ⟨_, hx, e'⟩
    show cd' (n + 1) su * (n + 1) + (d.t + 1) < _
    omega
  ·intro x hx
   rcases List.mem_append.1 hx with hx | hx
   ·exact h.rw' x hx
   ·rw [List.mem_singleton] at hx
    subst hx
    exact ⟨het, hadj, h.rw' su hsu⟩
  ·show s.q ++ [e.t] = _
   rw [h.q, List.drop_append_of_le_length (by omega), List.map_append]; rfl
  ·intro v hv
   show 0 ≤ (s.f.set e.t (.ofNat e.f)).getD v 0 ↔ _
   rw [qbq _ _ _ _ (by rw [h.len]; omega)]
   by_cases hve : v = e.t
   ·subst hve
    rw [if_pos rfl]
    exact ⟨fun _ => ⟨_, List.mem_append_right _ (List.mem_singleton.2 rfl), rfl⟩, fun _ => Int.natCast_nonneg _⟩
   ·rw [if_neg hve, h.iff v hv]
    constructor
    ·rintro ⟨x, hx, h1⟩; exact ⟨x, List.mem_append_left _ hx, h1⟩
    ·rintro ⟨x, hx, h1⟩
     rcases List.mem_append.1 hx with hx | hx
     ·exact ⟨x, hx, h1⟩
     ·rw [List.mem_singleton] at hx
      subst hx
      exact absurd h1.symm hve
  ·intro v x hx
   rcases List.mem_append.1 hx with hx | hx
   ·obtain ⟨h1, h2⟩ := h.par v x hx
    refine ⟨h1, ?_⟩
    have : v ≠ e.t := fun e' => hnot ⟨_, hx, e'⟩
    show (s.f.set e.t (.ofNat e.f))[v]? = _
    rw [List.getElem?_set_ne (fun e' => this e'.symm)]; exact h2
   ·rw [List.mem_singleton] at hx
    cases hx
    refine ⟨hta, ?_⟩
    show (s.f.set e.t (.ofNat e.f))[e.t]? = _
    rw [List.getElem?_set_self (by rw [h.len]; omega), hf]
  ·intro v x hx
   rcases List.mem_append.1 hx with hx | hx
   ·obtain ⟨i, h1, h2, h3⟩ := h.fst v x hx
    have hi : i < T.length := by omega
    refine ⟨i, h1, by rw [List.getElem?_append_left hi]; exact h2, fun j hj y hy => h3 j hj y ?_⟩
    rwa [List.getElem?_append_left (by omega)] at hy
   ·rw [List.mem_singleton] at hx
    cases hx
    refine ⟨t, by omega, by rw [List.getElem?_append_left hlt]; exact h.at', fun j hj y hy hadj' => ?_⟩
    rw [List.getElem?_append_left (by omega)] at hy
    exact hnot (h.cls j hj y hy e.t het hadj')
  ·intro i hi x hx v hv hadj'
   rw [List.getElem?_append_left (by omega)] at hx
   obtain ⟨y, hy, h1⟩ := h.cls i hi x hx v hv hadj'
   exact ⟨y, List.mem_append_left _ hy, h1⟩
  ·rw [List.map_append]
   refine List.nodup_append.2 ⟨h.nd, by simp, fun x hx y hy => ?_⟩
   obtain ⟨z, hz, rfl⟩ := List.mem_map.1 hx
   simp only [List.map_cons, List.map_nil, List.mem_singleton] at hy
   subst hy
   exact fun e' => hnot ⟨z, hz, e'⟩
  ·intro d hd' hdf
   rcases List.mem_append.1 hd' with hd' | hd'
   ·obtain ⟨y, hy, h1⟩ := h.dn d hd' hdf
    exact ⟨y, List.mem_append_left _ hy, h1⟩
   ·rw [List.mem_singleton] at hd'
    subst hd'
    exact ⟨_, List.mem_append_right _ (List.mem_singleton.2 rfl), rfl⟩
  ·intro x hx
   rcases List.mem_append.1 hx with hx | hx
   ·rcases h.ord x hx with h' | ⟨v, h1, d, hd', h2⟩
    ·exact .inl h'
    ·exact .inr ⟨v, h1, d, List.mem_append_left _ hd', h2⟩
   ·rw [List.mem_singleton] at hx
    exact .inr ⟨e.t, hx, e, List.mem_append_right _ (List.mem_singleton.2 rfl), hf, rfl⟩
 ·rw [if_neg hc]
  refine ⟨T, h.len, h.nil, h.at', h.pw, h.rw', h.q, h.iff, h.par, h.fst, h.cls, h.nd, ?_, ?_⟩
  ·intro d hd' hdf
   rcases List.mem_append.1 hd' with hd' | hd'
   ·exact h.dn d hd' hdf
   ·rw [List.mem_singleton] at hd'
    subst hd'
    exact (h.iff d.t (by omega)).1 (Int.not_lt.1 fun h' => hc ⟨hdf, h'⟩)
  ·intro x hx
   rcases h.ord x hx with h' | ⟨v, h1, d, hd', h2⟩
   ·exact .inl h'
   ·exact .inr ⟨v, h1, d, List.mem_append_left _ hd', h2⟩
theorem Inn.all {n : Nat} {ms : List Nat} {a : Nat} {t : Nat} {su : List Nat} (hn : n ≤ 256) (ha : a < n) : ∀ (rest done : List Edge) (T : List (List Nat)) (s : Wk), done ++ rest = qaj n ms → Inn n ms a T t su done s →
  ∃ T', Inn n ms a T' t su (qaj n ms) (inner rest (hd su a) s)
 | [], done, T, s, h, hi => ⟨T, by rw [List.append_nil] at h; rw [← h]; exact hi⟩
 | e :: rest, done, T, s, h, hi => by
  have hp := qrw n ms
  rw [← h] at hp
  obtain ⟨_, _, h3⟩ := List.pairwise_append.1 hp
  have he : e ∈ qaj n ms := by rw [← h]; exact List.mem_append_right _ (List.mem_cons_self ..)
  obtain ⟨T1, h1⟩ := hi.step hn ha he (fun d hd' hdf => h3 d hd' e (List.mem_cons_self ..) hdf)
  exact Inn.all hn ha rest (done ++ [e]) T1 _ (by rw [List.append_assoc]; exact h) h1
end Go.Di
end
