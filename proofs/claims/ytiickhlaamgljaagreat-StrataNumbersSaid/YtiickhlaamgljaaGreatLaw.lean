/-
 For countersignlaw18.StrataNumbers: the law. No conditions beyond those that each theorem states.
-/
import Derived.Test.YtiickhlaamgljaaGreatCompE
set_option linter.unusedSimpArgs false
set_option linter.unusedVariables false
open Nat (reduceAdd reduceMul reduceSub reduceLeDiff reduceEqDiff reduceShiftRight reduceAnd)
section
/-
 Numbers of nodes are those of their components.
-/
namespace Go.Di
open Go.Ev Go.Di.T Go.Sort
theorem eR_s {n : Nat} {ms : List Nat} {i : Nat} {e : T3} : ∀ {k : Nat}, e ∈ eR n ms i k → e.s = 1 → 1 < ms.getD (i * n + e.t) 0
 | 0, h, _ => by cases h
 | k + 1, h, hs => by
  rcases List.mem_append.1 h with h | h
  ·exact eR_s h hs
  ·unfold ent at h
   rcases List.mem_append.1 h with h | h
   ·split at h
    ·rw [List.mem_singleton] at h; subst h; cases hs
    ·cases h
   ·split at h
    ·rw [List.mem_singleton] at h; subst h; assumption
    ·cases h
theorem eM_s {n : Nat} {ms : List Nat} {e : T3} : ∀ {i : Nat}, e ∈ eM n ms i → e.s = 1 → 1 < ms.getD (e.f * n + e.t) 0
 | 0, h, _ => by cases h
 | i + 1, h, hs => by
  rcases List.mem_append.1 h with h | h
  ·exact eM_s h hs
  ·rw [(qvy h).1]; exact eR_s h hs
theorem zde {n : Nat} {ms : List Nat} {i j : Nat} (h : 1 < ms.getD (i * n + j) 0) : ∀ {k : Nat}, j < k → (⟨i, j, 1⟩ : T3) ∈ eR n ms i k
 | 0, hj => by omega
 | k + 1, hj => by
  by_cases e : j = k
  ·subst e
   exact List.mem_append_right _ (List.mem_append_right _ (by rw [if_pos h]; exact List.mem_singleton.2 rfl))
  ·exact List.mem_append_left _ (zde h (show j < k by omega))
theorem zdf {n : Nat} {ms : List Nat} {i j : Nat} (h : 1 < ms.getD (i * n + j) 0) (hj : j < n) : ∀ {m : Nat}, i < m → (⟨i, j, 1⟩ : T3) ∈ eM n ms m
 | 0, hi => by omega
 | m + 1, hi => by
  by_cases e : i = m
  ·subst e
   exact List.mem_append_right _ (zde h hj)
  ·exact List.mem_append_left _ (zdf h hj (show i < m by omega))
theorem qu2 {n : Nat} {adj : Nat → List Nat} : ∀ {R pre : List (List Nat)} {c : List Nat}, OrdF n adj pre R → c ∈ R → ∃ i, zdq n adj i c
 | [], _, _, _, h => by cases h
 | d :: R, pre, c, ⟨⟨i, _, hc⟩, h2⟩, h => by
  rcases List.mem_cons.1 h with rfl | h
  ·exact ⟨i, hc⟩
  ·exact qu2 h2 h
theorem q6s {n : Nat} {adj : Nat → List Nat} {res : List (List Nat)} (h : OrdF n adj [] res) {o : List Nat} (ho : o ∈ res) {x y : Nat} (hx : x ∈ o) (hy : y < n) : y ∈ o ↔ Rc adj x y ∧ Rc adj y x := by
 obtain ⟨i, _, hc⟩ := qu2 h ho
 obtain ⟨_, h1, h2⟩ := (hc x).1 hx
 rw [hc y]
 exact ⟨fun g => ⟨h2.trans g.2.1, g.2.2.trans h1⟩, fun g => ⟨hy, h1.trans g.1, g.2.trans h2⟩⟩
structure Nm (n : Nat) (res : List (List Nat)) (ins : List Nat) : Prop where
 is : ∀ (j : Nat) (o : List Nat) (x : Nat), res[j]? = some o → x ∈ o → ins.getD x 0 = j
 all : ∀ x, x < n → ∃ (j : Nat) (o : List Nat), res[j]? = some o ∧ x ∈ o
theorem Nm.lt {n : Nat} {res : List (List Nat)} {ins : List Nat} (h : Nm n res ins) {x : Nat} (hx : x < n) : ins.getD x 0 < res.length := by
 obtain ⟨j, o, h1, h2⟩ := h.all x hx
 rw [h.is j o x h1 h2]
 exact (List.getElem?_eq_some_iff.1 h1).1
theorem Nm.eq {n : Nat} {adj : Nat → List Nat} {res : List (List Nat)} {ins : List Nat} (h : Nm n res ins) (hF : OrdF n adj [] res) {x y : Nat} (hx : x < n) (hy : y < n) : ins.getD x 0 = ins.getD y 0 ↔ Rc adj x y ∧ Rc adj y x := by
 obtain ⟨j, o, h1, h2⟩ := h.all x hx
 obtain ⟨j', o', h3, h4⟩ := h.all y hy
 rw [h.is j o x h1 h2, h.is j' o' y h3 h4, ← q6s hF (List.mem_of_getElem? h1) h2 hy]
 constructor
 ·rintro rfl
  rw [h1] at h3
  cases h3
  exact h4
 ·intro hyo
  rw [← h.is j o y h1 hyo, h.is j' o' y h3 h4]
theorem Nm.same {n : Nat} {res : List (List Nat)} {ins ins' : List Nat} (h : Nm n res ins) (h' : Nm n res ins') {x : Nat} (hx : x < n) : ins.getD x 0 = ins'.getD x 0 := by
 obtain ⟨j, o, h1, h2⟩ := h.all x hx
 rw [h.is j o x h1 h2, h'.is j o x h1 h2]
theorem CR.no {HB H H' : Hp} {n : Nat} {lv iv : AV} {os : List AV} {res : List (List Nat)} {ins : List Nat} (h : CR HB H n lv iv os res ins) (ff : Fm No H H') : CR HB H' n lv iv os res ins :=
 ⟨h.gl.no ff, h.cap, h.len, fun j w o h1 h2 => by
  obtain ⟨a1, a2, a3⟩ := h.at' j w o h1 h2
  exact ⟨a1.no ff, a2, a3⟩, h.gi.no ff, h.capi, h.ins, h.new⟩
end Go.Di
end
section
/-
 Contracts: doubles taken out of an ascending list.
-/
namespace Go.Di
open Go.Ev Go.Di.T Go.Sort
variable {C : Nat → Ev.Call}
theorem rdP {H : Hp} {b q : Nat} {P : List AV} {M : List Nat} (hg : H.get b = qaa q (P ++ nats M)) {i : Nat} (h : i < M.length) : qa6 (H.get b) (P.length + i) = .val (.int .i64 (.ofNat M[i])) := by
 rw [hg, qci, List.getElem?_append_right (by omega), Nat.add_sub_cancel_left]
 unfold nats
 rw [List.getElem?_map, List.getElem?_eq_getElem h]; rfl
theorem setP (P : List AV) (M : List Nat) {i : Nat} (x : Nat) (h : i < M.length) : setL (P ++ nats M) (P.length + i) [.int .i64 (.ofNat x)] = P ++ nats (M.set i x) := by
 have hn : (nats M).length = M.length := qav M
 unfold setL
 rw [List.take_append, List.take_of_length_le (by omega), List.drop_append, List.drop_eq_nil_of_le (by simp; omega)]
 rw [show P.length + i - P.length = i by omega, show P.length + i + [AV.int .i64 (.ofNat x)].length - P.length = i + 1 by simp; omega]
 have : nats (M.set i x) = (nats M).set i (.int .i64 (.ofNat x)) := by unfold nats; rw [List.map_set]
 rw [this, List.set_eq_take_append_cons_drop, if_pos (by omega)]
 simp
theorem zil (P : List AV) (M : List Nat) {k n : Nat} (hl : M.length = n) (h : k ≤ n) : setL (P ++ nats M) (P.length + k) (reps [.int .i64 (.ofNat 0)] (n - k)) = P ++ nats (M.take k ++ List.replicate (n - k) 0) := by
 have hn : (nats M).length = n := by rw [qav, hl]
 have hr : reps [.int .i64 (.ofNat 0)] (n - k) = nats (List.replicate (n - k) 0) := by rw [qch]; unfold nats; rw [List.map_replicate]
 have hr2 : (nats (List.replicate (n - k) 0)).length = n - k := by rw [qav, List.length_replicate]
 unfold setL
 rw [hr, hr2, List.take_append, List.take_of_length_le (by omega), List.drop_append, List.drop_eq_nil_of_le (by omega)]
 rw [show P.length + k - P.length = k by omega, List.drop_eq_nil_of_le (by omega)]
 have : nats (M.take k ++ List.replicate (n - k) 0) = (nats M).take k ++ nats (List.replicate (n - k) 0) := by unfold nats; rw [List.map_append, List.map_take]
 rw [this]
 simp
structure Cp (l M : List Nat) (k p : Nat) : Prop where
 len : M.length = l.length
 lt : k < p
 le : p ≤ l.length
 same : M.drop k = l.drop k
 asc : (M.take k).Pairwise (· < ·)
 mem : ∀ x, x ∈ M.take k ↔ x ∈ l.take p
theorem Cp.at {l M : List Nat} {k p i : Nat} (h : Cp l M k p) (hi : k ≤ i) (hil : i < l.length) : M[i]'(by rw [h.len]; exact hil) = l[i] := by
 have h1 : (M.drop k)[i - k]? = (l.drop k)[i - k]? := by rw [h.same]
 rw [List.getElem?_drop, List.getElem?_drop, show k + (i - k) = i by omega, List.getElem?_eq_getElem hil, List.getElem?_eq_getElem (by rw [h.len]; exact hil)] at h1
 exact Option.some.inj h1
theorem qdz {l : List Nat} {p : Nat} (h : p < l.length) : l.take (p + 1) = l.take p ++ [l[p]] := List.take_succ_eq_append_getElem h
theorem qlp {l : List Nat} {p x : Nat} (h : x ∈ l.take p) : ∃ i, ∃ (hi : i < l.length), i < p ∧ l[i] = x := by
 obtain ⟨i, hi, e⟩ := List.mem_iff_getElem.1 h
 rw [List.length_take] at hi
 exact ⟨i, by omega, by omega, by rw [← e]; simp⟩
theorem Cp.eq {l M : List Nat} {k p : Nat} (h : Cp l M k p) (hp : p < l.length) (he : l[p] = l[p - 1]'(by omega)) : Cp l M k (p + 1) := by
 refine ⟨h.len, by have := h.lt; omega, hp, h.same, h.asc, fun x => (h.mem x).trans ?_⟩
 rw [qdz hp, List.mem_append, List.mem_singleton]
 refine ⟨Or.inl, fun hx => hx.elim id fun hx => ?_⟩
 have h0 := h.lt
 rw [hx, he]
 have : l.take p = l.take (p - 1) ++ [l[p - 1]'(by omega)] := by
  have := qdz (l := l) (p := p - 1) (by omega)
  rwa [show p - 1 + 1 = p by omega] at this
 exact this ▸ List.mem_append_right _ (List.mem_singleton.2 rfl)
theorem Cp.ne {l M : List Nat} {k p : Nat} (h : Cp l M k p) (hs : l.Pairwise (· ≤ ·)) (hp : p < l.length) (he : ¬ l[p] = l[p - 1]'(by omega)) : Cp l (M.set k l[p]) (k + 1) (p + 1) := by
 have h0 := h.lt
 have hml := h.len
 have ht : (M.set k l[p]).take (k + 1) = M.take k ++ [l[p]] := by
  rw [qdz (l := M.set k l[p]) (p := k) (by rw [List.length_set]; omega), List.getElem_set_self, List.take_set_of_le (Nat.le_refl k)]
 refine ⟨by rw [List.length_set, hml], by omega, hp, ?_, ?_, fun x => ?_⟩
 ·rw [List.drop_set_of_lt (by omega)]
  have := congrArg (List.drop 1) h.same
  rwa [List.drop_drop, List.drop_drop] at this
 ·rw [ht, List.pairwise_append]
  refine ⟨h.asc, List.pairwise_singleton _ _, fun a ha b hb => ?_⟩
  rw [List.mem_singleton] at hb
  subst hb
  obtain ⟨i, hi, hip, rfl⟩ := qlp ((h.mem a).1 ha)
  have hs' := List.pairwise_iff_getElem.1 hs
  have a1 : l[p - 1]'(by omega) ≤ l[p] := hs' (p - 1) p (by omega) hp (by omega)
  have a2 : l[i] ≤ l[p - 1]'(by omega) := by
   rcases Nat.lt_or_ge i (p - 1) with h2 | h2
   ·exact hs' i (p - 1) hi (by omega) h2
   ·have : i = p - 1 := by omega
    subst this; exact Nat.le_refl _
  omega
 ·rw [ht, qdz hp, List.mem_append, List.mem_append, h.mem x]
theorem qkk {call : Ev.Call} {b o n q : Nat} {e : Bool} {P : List AV} {l : List Nat} (hs : l.Pairwise (· ≤ ·)) (hP : P.length = o) (hl : l.length = n) (hn : n < 900) {c0 : Nat} (hc0 : c0 < n) {H1 : Hp} {q2 : AV → Hp → R1} {Q : AV → Hp → Prop}
  (hq : ∀ M k H, Cp l M k n → H.get b = qaa q (P ++ nats M) → Fm (fun c => c = b) H1 H → Ok (q2 (.int .i64 (.ofNat k)) H) Q) :
  ∀ (f k k2 : Nat) (M : List Nat) (H : Hp), n - (c0 + k2) < f → 1 ≤ k2 → Cp l M k (c0 + k2) → H.get b = qaa q (P ++ nats M) → Fm (fun c => c = b) H1 H →
   Ok (qb4 call q2 (.sl b o n n e) (.sl b (o + c0) (n - c0) (n - c0) e) f (.int .i64 (.ofNat k)) (.int .i64 (.ofNat k2)) H) Q
 | 0, k, k2, M, H, h, _, _, _, _ => by omega
 | f + 1, k, k2, M, H, h, h1, hC, hg, hF => by
  show Ok (qf3 call _ _ _ (qb4 call _ _ _ f) _ _ H) Q
  unfold qf3
  have hlt := hC.lt
  have hle := hC.le
  have hml := hC.len
  by_cases hk : k2 < n - c0
  ·have e1 := rdP hg (i := c0 + k2) (by omega)
   have e2 := rdP hg (i := c0 + (k2 - 1)) (by omega)
   rw [hC.at (by omega) (by omega), hP, ← Nat.add_assoc] at e1
   rw [hC.at (by omega) (by omega), hP, ← Nat.add_assoc] at e2
   simp (disch := first | omega | exact ti rfl | (simp only [np, nq]; first | done | omega)) only [go_sem, reduceAdd, reduceMul, reduceSub, reduceLeDiff, reduceEqDiff, reduceShiftRight, reduceAnd, hk]
   unfold qf2
   have hpe : l[c0 + k2 - 1]'(by omega) = l[c0 + (k2 - 1)]'(by omega) := by congr 1; omega
   by_cases he : l[c0 + k2]'(by omega) = l[c0 + k2 - 1]'(by omega)
   ·rw [he, hpe] at e1
    simp (disch := first | omega | exact ti rfl | (simp only [np, nq]; first | done | omega)) only [go_sem, reduceAdd, reduceMul, reduceSub, reduceLeDiff, reduceEqDiff, reduceShiftRight, reduceAnd, Nat.mul_one, e1, e2]
    unfold qck
    simp (disch := first | omega | exact ti rfl | (simp only [np, nq]; first | done | omega)) only [go_sem, reduceAdd, reduceMul, reduceSub, reduceLeDiff, reduceEqDiff, reduceShiftRight, reduceAnd]
    exact qkk hs hP hl hn hc0 hq f k (k2 + 1) M H (by omega) (by omega) (hC.eq (by omega) he) hg hF
   ·have he' : ¬ l[c0 + k2]'(by omega) = l[c0 + (k2 - 1)]'(by omega) := by rw [← hpe]; exact he
    have e3 := setP P M (i := k) (l[c0 + k2]'(by omega)) (by omega)
    rw [hP] at e3
    have e4 : ∀ x : AV, qh3 (qaa q (P ++ nats M)) (o + k) [x] = some (qaa q (setL (P ++ nats M) (o + k) [x])) := fun x => by
     rw [qi1, if_pos]
     rw [List.length_append, qav]; simp only [List.length_cons, List.length_nil]; omega
    simp (disch := first | omega | exact ti rfl | (simp only [np, nq]; first | done | omega)) only [go_sem, reduceAdd, reduceMul, reduceSub, reduceLeDiff, reduceEqDiff, reduceShiftRight, reduceAnd, Nat.mul_one, e1, e2, he']
    rw [hg] at *
    simp (disch := first | omega | exact ti rfl | (simp only [np, nq]; first | done | omega)) only [go_sem, reduceAdd, reduceMul, reduceSub, reduceLeDiff, reduceEqDiff, reduceShiftRight, reduceAnd, e4, e3]
    unfold qck
    simp (disch := first | omega | exact ti rfl | (simp only [np, nq]; first | done | omega)) only [go_sem, reduceAdd, reduceMul, reduceSub, reduceLeDiff, reduceEqDiff, reduceShiftRight, reduceAnd]
    exact qkk hs hP hl hn hc0 hq f (k + 1) (k2 + 1) _ _ (by omega) (by omega) (hC.ne hs (by omega) he) (qac _ _ _) (hF.put _ _ fun _ => rfl)
  ·simp (disch := first | omega | exact ti rfl | (simp only [np, nq]; first | done | omega)) only [go_sem, reduceAdd, reduceMul, reduceSub, reduceLeDiff, reduceEqDiff, reduceShiftRight, reduceAnd, hk]
   have : c0 + k2 = n := by omega
   rw [this] at hC
   exact hq M k H hC hg hF
theorem qof {call : Ev.Call} {b o n q : Nat} {e : Bool} {P : List AV} {l : List Nat} (hs : l.Pairwise (· ≤ ·)) (hP : P.length = o) (hl : l.length = n) (hn : n < 900) {H : Hp} (hg : H.get b = qaa q (P ++ nats l)) (hb : b < H.nx) (heq : e = true ∨ q = 1) {q2 : Hp → R1} {Q : AV → Hp → Prop}
  (hq : ∀ k R H', k ≤ n → R.length = k → R.Pairwise (· < ·) → (∀ x, x ∈ R ↔ x ∈ l) → Gs 1 H' (.sl b o k n e) k (nats R) → Fm (fun c => c = b) H H' → Q (.sl b o k n e) H') (hq2 : l.Pairwise (· < ·) → Ok (q2 H) Q) :
  ∀ (f k : Nat), n - k < f → 1 ≤ k → k ≤ n → (l.take k).Pairwise (· < ·) →
   Ok (qcd call (fun x H => .ok x H) q2 (.sl b o n n e) f (.int .i64 (.ofNat k)) H) Q
 | 0, k, h, _, _, _ => by omega
 | f + 1, k, h, h1, hk, ha => by
  show Ok (qgw call _ _ _ (qcd call _ _ _ f) _ H) Q
  unfold qgw
  by_cases hlt : k < n
  ·have e1 := rdP hg (i := k) (by omega)
   have e2 := rdP hg (i := k - 1) (by omega)
   rw [hP] at e1 e2
   simp (disch := first | omega | exact ti rfl | (simp only [np, nq]; first | done | omega)) only [go_sem, reduceAdd, reduceMul, reduceSub, reduceLeDiff, reduceEqDiff, reduceShiftRight, reduceAnd, hlt]
   unfold qf1
   by_cases he : l[k]'(by omega) = l[k - 1]'(by omega)
   ·rw [he] at e1
    have e3 := qjz 1 b o n n e (a := k) (by omega) (Nat.le_refl _) hlt
    rw [Nat.mul_one] at e3
    simp (disch := first | omega | exact ti rfl | (simp only [np, nq]; first | done | omega)) only [go_sem, reduceAdd, reduceMul, reduceSub, reduceLeDiff, reduceEqDiff, reduceShiftRight, reduceAnd, Nat.mul_one, e1, e2, e3]
    unfold qf4
    rw [qaq]
    have hC0 : Cp l l k (k + 1) := by
     refine ⟨rfl, by omega, by omega, rfl, ha, fun x => ?_⟩
     rw [qdz (p := k) (by omega), List.mem_append, List.mem_singleton]
     refine ⟨Or.inl, fun hx => hx.elim id fun hx => ?_⟩
     have : l.take k = l.take (k - 1) ++ [l[k - 1]'(by omega)] := by
      have := qdz (l := l) (p := k - 1) (by omega)
      rwa [show k - 1 + 1 = k by omega] at this
     rw [hx, he]
     exact this ▸ List.mem_append_right _ (List.mem_singleton.2 rfl)
    refine qkk (H1 := H) hs hP hl hn (c0 := k) hlt (fun M k' H' hC hg' hF => ?_) qal k 1 l H (by rw [qah]; omega) (Nat.le_refl 1) hC0 hg (Fm.refl _ _)
    unfold qbo
    have c1 := hC.lt
    have c2 := hC.len
    have s1 := qjz 1 b o n n e (a := k') (by omega) (Nat.le_refl _) c1
    rw [Nat.mul_one] at s1
    have s2 := qzy 1 b o n n e (k := k') (by omega) (Nat.le_refl _) (by omega)
    have cl := zil P M (k := k') (n := n) (by omega) (by omega)
    rw [hP] at cl
    have hlen0 : (reps [.int .i64 (.ofNat 0)] (n - k')).length = n - k' := by rw [qch, List.length_replicate]
    have s3 : qoi [.int .i64 (.ofNat 0)] H' (.sl b (o + k') (n - k') (n - k') e) = .ok .undef (H'.put b (qaa q (P ++ nats (M.take k' ++ List.replicate (n - k') 0)))) := by
     show (bif Nat.beq (n - k') 0 then _ else storeAt H' b (o + k') (reps [.int .i64 (.ofNat 0)] (n - k')) .undef) = _
     rw [beq_eq, decide_eq_false (by omega), cond_false, qcr _ _ _ _ _ _ _ hg' (by rw [hlen0, List.length_append, qav]; omega), cl]
    simp (disch := first | omega | exact ti rfl | (simp only [np, nq]; first | done | omega)) only [go_sem, reduceAdd, reduceMul, reduceSub, reduceLeDiff, reduceEqDiff, reduceShiftRight, reduceAnd, s1, s2, s3]
    have ht : (M.take k').length = k' := by rw [List.length_take]; omega
    refine Ok.ret (hq k' (M.take k') _ (by omega) ht hC.asc (fun x => by rw [hC.mem x, ← hl, List.take_length]) ?_ (hF.put _ _ fun _ => rfl))
    refine ⟨by rw [qav, ht, Nat.mul_one], .inr ⟨b, o, n, e, q, _, rfl, by omega, qac _ _ _, ?_, ?_, heq, Nat.lt_of_lt_of_le hb hF.nx⟩⟩
    ·rw [List.length_append, qav, List.length_append, ht, List.length_replicate]; omega
    ·rw [List.drop_append_of_le_length (by omega), List.drop_eq_nil_of_le (by omega), List.nil_append, Nat.mul_one]
     unfold nats
     rw [← List.map_take, List.take_append_of_le_length (by omega), List.take_of_length_le (by omega)]
   ·simp (disch := first | omega | exact ti rfl | (simp only [np, nq]; first | done | omega)) only [go_sem, reduceAdd, reduceMul, reduceSub, reduceLeDiff, reduceEqDiff, reduceShiftRight, reduceAnd, Nat.mul_one, e1, e2, he]
    unfold qgv
    simp (disch := first | omega | exact ti rfl | (simp only [np, nq]; first | done | omega)) only [go_sem, reduceAdd, reduceMul, reduceSub, reduceLeDiff, reduceEqDiff, reduceShiftRight, reduceAnd]
    refine qof hs hP hl hn hg hb heq hq hq2 f (k + 1) (by omega) (by omega) (by omega) ?_
    rw [qdz (p := k) (by omega), List.pairwise_append]
    refine ⟨ha, List.pairwise_singleton _ _, fun a ha' c hc => ?_⟩
    rw [List.mem_singleton] at hc
    subst hc
    obtain ⟨i, hi, hip, rfl⟩ := qlp ha'
    have hs' := List.pairwise_iff_getElem.1 hs
    have a1 : l[k - 1]'(by omega) ≤ l[k]'(by omega) := hs' (k - 1) k (by omega) (by omega) (by omega)
    have a2 : l[i] ≤ l[k - 1]'(by omega) := by
     rcases Nat.lt_or_ge i (k - 1) with h2 | h2
     ·exact hs' i (k - 1) hi (by omega) h2
     ·have : i = k - 1 := by omega
      subst this; exact Nat.le_refl _
    omega
  ·simp (disch := first | omega | exact ti rfl | (simp only [np, nq]; first | done | omega)) only [go_sem, reduceAdd, reduceMul, reduceSub, reduceLeDiff, reduceEqDiff, reduceShiftRight, reduceAnd, hlt]
   have : k = n := by omega
   subst this
   rw [← hl, List.take_length] at ha
   exact hq2 ha
theorem q37 (hO : qcq C) {k : Nat} (hk : 1 ≤ k) {n : Nat} {v : AV} {l : List Nat} {H : Hp} (hs : l.Pairwise (· ≤ ·)) (hn : n < 900) (hv : Gl 1 H v n (nats l)) :
  Ok (C k (.f qes) [v] H) fun r H' => ∃ R : List Nat, R.Pairwise (· < ·) ∧ (∀ x, x ∈ R ↔ x ∈ l) ∧ Gs 1 H' r R.length (nats R) ∧ (∀ b, In r b → In v b) ∧ Fm (In v) H H' := by
 obtain ⟨j, rfl⟩ : ∃ j, k = j + 1 := ⟨k - 1, by omega⟩
 have hln : l.length = n := by have := hv.len; rw [qav] at this; omega
 rw [(hO j).o_Compact]
 unfold o_Compact qip
 have e0 := hv.lenV
 by_cases h2 : n < 2
 ·simp (disch := first | omega | exact ti rfl | (simp only [np, nq]; first | done | omega)) only [go_sem, reduceAdd, reduceMul, reduceSub, reduceLeDiff, reduceEqDiff, reduceShiftRight, reduceAnd, e0, h2]
  refine Ok.ret ⟨l, ?_, fun x => Iff.rfl, by rw [hln]; exact hv.gs, fun b h => h, Fm.refl _ _⟩
  match l, hln with
  | [], _ => exact List.Pairwise.nil
  | [x], _ => exact List.pairwise_singleton _ _
  | x :: y :: t, h => simp at h; omega
 ·rcases hv.is with ⟨_, h0⟩ | ⟨b, o, e, q, L, rfl, g1, g2, g3, g4, g5⟩
  ·omega
  have hP : (L.take o).length = o := by rw [List.length_take]; omega
  have hg : H.get b = qaa q (L.take o ++ nats l) := by rw [g1, ← g3, List.take_append_drop]
  simp (disch := first | omega | exact ti rfl | (simp only [np, nq]; first | done | omega)) only [go_sem, reduceAdd, reduceMul, reduceSub, reduceLeDiff, reduceEqDiff, reduceShiftRight, reduceAnd, e0, h2]
  unfold qf0 qgx
  rw [qaq]
  have hin : ∀ c, c = b → In (.sl b o n n e) c := fun c hc => by subst hc; exact ⟨_, _, _, _, rfl⟩
  refine qof hs hP hln hn hg g5 g4 (fun k R H' hk hR ha hm hG hF => ?_) (fun ha => ?_) qal 1 (by rw [qah]; omega) (Nat.le_refl 1) (by omega) ?_
  ·refine ⟨R, ha, hm, by rw [hR]; exact hG, fun c hc => ?_, hF.mono fun c _ hc => hin c hc⟩
   obtain ⟨_, _, _, _, h'⟩ := hc
   cases h'
   exact ⟨_, _, _, _, rfl⟩
  ·unfold qb1
   exact Ok.ret ⟨l, ha, fun x => Iff.rfl, by rw [hln]; exact hv.gs, fun b h => h, Fm.refl _ _⟩
  ·match l, hln with
   | [], h => simp at h; omega
   | x :: t, _ => simp
theorem Gs.clip {n : Nat} {H : Hp} {v : AV} {l : List AV} (h : Gs 1 H v n l) : ∃ w, qa8 1 v none (some (.int .i64 (.ofNat n))) (some (.int .i64 (.ofNat n))) = .val w ∧ Rl H w l ∧ capV w = .val (.int .i64 (.ofNat n)) ∧ (∀ b, In w b → In v b) := by
 rcases h.is with ⟨rfl, rfl⟩ | ⟨b, o, m, e, q, L, rfl, h0, h1, h2, h3, h4, h5⟩
 ·exact ⟨.nilsl, rfl, h.rl, rfl, fun b h => h⟩
 ·have e1 : qa8 1 (.sl b o n m e) none (some (.int .i64 (.ofNat n))) (some (.int .i64 (.ofNat n))) = mkSl b o 1 ⟨0, n, n⟩ true := by
   show (match bounds n m none (some (.int .i64 (.ofNat n))) (some (.int .i64 (.ofNat n))) with | some bd => mkSl b o 1 bd true | none => R0.bad) = _
   have : bounds n m none (some (.int .i64 (.ofNat n))) (some (.int .i64 (.ofNat n))) = some ⟨0, n, n⟩ := by
    show (match (bif Nat.ble n m then some n else none) with | none => none | some m => match (bif Nat.ble n m then some n else none) with | none => none | some h => match (some 0 : Option Nat) with | none => none | some l => some (Bd.mk l h m)) = _
    rw [ble_eq, decide_eq_true h0]; simp only [cond_true, ble_eq, decide_eq_true (Nat.le_refl n)]
   rw [this]
  have hrl := h.rl
  have hG : ∀ e', Gs 1 H (.sl b o n m e') n l → Rl H (.sl b o n n true) l := fun e' g => by
   have r := g.rl
   exact ⟨r.len, fun i hi => by
    obtain ⟨b', o', a1, a2, a3⟩ := r.at' i hi
    exact ⟨b', o', by have hll := h.len; rw [qgg _ _ _ _ _ _ _ _ (by omega)] at a1 ⊢; exact a1, a2, a3⟩⟩
  rw [e1]
  unfold mkSl
  simp only [beq_eq]
  by_cases hn : n = 0
  ·subst hn
   exact ⟨.sl b o 0 0 true, rfl, hG e h, rfl, fun c hc => by obtain ⟨_, _, _, _, h'⟩ := hc; cases h'; exact ⟨_, _, _, _, rfl⟩⟩
  ·rw [decide_eq_false hn]
   refine ⟨.sl b o n n true, ?_, hG e h, rfl, fun c hc => by obtain ⟨_, _, _, _, h'⟩ := hc; cases h'; exact ⟨_, _, _, _, rfl⟩⟩
   show R0.val (.sl b (o + 0 * 1) (n - 0) (n - 0) true) = _
   rw [Nat.zero_mul, Nat.add_zero, Nat.sub_zero]
theorem zcv (hC : qa7 C) {k : Nat} (hk : 1 ≤ k) {n : Nat} {H : Hp} {v : AV} {l : List AV} (h : Gs 1 H v n l) :
  ∃ w, C k (.f qg4) [v] H = .ok w H ∧ Rl H w l ∧ capV w = .val (.int .i64 (.ofNat n)) ∧ (∀ b, In w b → In v b) := by
 obtain ⟨j, rfl⟩ : ∃ j, k = j + 1 := ⟨k - 1, by omega⟩
 obtain ⟨w, e, h1, h2, h3⟩ := h.clip
 refine ⟨w, ?_, h1, h2, h3⟩
 rw [(hC j).sClp]
 unfold sClp qz4
 simp (disch := first | omega | exact ti rfl | (simp only [np, nq]; first | done | omega)) only [go_sem, reduceAdd, reduceMul, reduceSub, reduceLeDiff, reduceEqDiff, reduceShiftRight, reduceAnd, h.lenV, e]
end Go.Di
end
section
/-
 Contracts: mixed components.
-/
namespace Go.Di
open Go.Ev Go.Di.T Go.Sort
variable {C : Nat → Ev.Call} {LA LO : LP}
theorem q94 (hO : qcq C) (hS : qce C) {k : Nat} (hk : 5 ≤ k) (H : Hp) : C k (.f qeb) [.nilsl] H = .ok (.tup []) H := by
 obtain ⟨k, rfl⟩ : ∃ j, k = j + 1 := ⟨k - 1, by omega⟩
 exact (hO k).srtN H
def mixP (ins : List Nat) (e : Edge) : Bool := e.s && decide (ins.getD e.f 0 = ins.getD e.t 0)
def mixL (ins : List Nat) (es : List Edge) : List Nat := (es.filter (mixP ins)).map fun e => ins.getD e.f 0
theorem q60 (ins : List Nat) (es : List Edge) {i : Nat} (h : i < es.length) : mixL ins (es.take (i + 1)) = mixL ins (es.take i) ++ (if mixP ins es[i] then [ins.getD es[i].f 0] else []) := by
 unfold mixL
 rw [List.take_succ_eq_append_getElem h, List.filter_append, List.map_append]
 congr 1
 cases hh : mixP ins es[i] <;> simp [hh]
theorem q61 (ins : List Nat) (es : List Edge) : (mixL ins es).length ≤ es.length := by
 unfold mixL
 rw [List.length_map]
 exact List.length_filter_le _ _
theorem q0n {ins : List Nat} {es : List Edge} {x : Nat} : x ∈ mixL ins es ↔ ∃ e ∈ es, e.s = true ∧ ins.getD e.f 0 = ins.getD e.t 0 ∧ ins.getD e.f 0 = x := by
 unfold mixL mixP
 rw [List.mem_map]
 constructor
 ·rintro ⟨e, he, rfl⟩
  rw [List.mem_filter, Bool.and_eq_true, decide_eq_true_eq] at he
  exact ⟨e, he.1, he.2.1, he.2.2, rfl⟩
 ·rintro ⟨e, he, h1, h2, h3⟩
  exact ⟨e, List.mem_filter.2 ⟨he, by rw [Bool.and_eq_true, decide_eq_true_eq]; exact ⟨h1, h2⟩⟩, h3⟩
theorem qh1 {call : Ev.Call} {H1 : Hp} {n c : Nat} {lv iv w : AV} {es : List Edge} {ins : List Nat} (hlen : es.length < 200000) (hE : ∀ e ∈ es, e.f < n ∧ e.t < n) (hw : IsE H1 w es) (hi : Gl 1 H1 iv n (nats ins)) (hc : H1.get c = qaa 0 [lv, iv]) (hcl : c < H1.nx) {q : AV → Hp → R1} {Q : AV → Hp → Prop}
  (hq : ∀ v H, Gl 1 H v (mixL ins es).length (nats (mixL ins es)) → Fm No H1 H → (∀ b, In v b → H1.nx ≤ b) → Ok (q v H) Q) :
  ∀ (k i : Nat) (v : AV) (H : Hp), es.length - i < k → i ≤ es.length → Gl 1 H v (mixL ins (es.take i)).length (nats (mixL ins (es.take i))) → (∀ b, In v b → H1.nx ≤ b) → Fm No H1 H →
   Ok (qhz call q (.ptr c 0) w (.int .i64 (.ofNat es.length)) k v (.int .i64 (.ofNat i)) H) Q
 | 0, i, v, H, h, _, _, _, _ => by omega
 | k + 1, i, v, H, h, hil, hg, hnew, hF => by
  show Ok (qtz call _ _ _ _ (qhz call _ _ _ _ k) _ _ H) Q
  unfold qtz
  by_cases hlt : i < es.length
  ·simp (disch := first | omega | exact ti rfl | (simp only [np, nq]; first | done | omega)) only [go_sem, reduceAdd, reduceMul, reduceSub, reduceLeDiff, reduceEqDiff, reduceShiftRight, reduceAnd, hlt]
   unfold qty
   have hw' : IsE H w es := hw.fm hF
   have hi' : Gl 1 H iv n (nats ins) := hi.no hF
   have hc' : H.get c = qaa 0 [lv, iv] := (hF.keep hcl).trans hc
   have hcH : c < H.nx := Nat.lt_of_lt_of_le hcl hF.nx
   have hil : ins.length = n := by have := hi.len; rw [qav] at this; omega
   obtain ⟨b, o1, e1, e2, e3⟩ := hw'.at hlt
   obtain ⟨r1, r2⟩ := hE es[i] (List.getElem_mem _)
   have gi : ∀ x, x < n → (nats ins)[x]? = some (.int .i64 (.ofNat (ins.getD x 0))) := fun x hx => by
    unfold nats
    rw [List.getElem?_map, List.getD_eq_getElem?_getD, List.getElem?_eq_getElem (by omega)]; rfl
   obtain ⟨b1, o2, e4, e5, _, e6⟩ := hi'.at (gi _ r1)
   obtain ⟨b2, o3, e7, e8, _, e9⟩ := hi'.at (gi _ r2)
   have hm := q60 ins es hlt
   have hle := q61 ins (es.take i)
   rw [List.length_take] at hle
   have fe : Fm No H ((qak H (qaa 0 [.int .i64 (.ofNat 0), .int .i64 (.ofNat 0), .bool false])).put H.nx (qaa 0 [.int .i64 (.ofNat es[i].f), .int .i64 (.ofNat es[i].t), .bool es[i].s])) := by (repeat (first | exact Fm.refl _ _ | assumption | refine Fm.push ?_ _ | refine Fm.up2 ?_ (by (first | omega | (simp only [np, nq]; omega))) | refine Fm.put_new ?_ _ _ (by (first | omega | (simp only [np, nq]; omega)))))
   cases hs : es[i].s with
   | false =>
    have hp : mixP ins es[i] = false := by unfold mixP; rw [hs]; rfl
    rw [hs] at fe
    rw [hp] at hm
    simp (disch := first | omega | exact ti rfl | (simp only [np, nq]; first | done | omega)) only [go_sem, reduceAdd, reduceMul, reduceSub, reduceLeDiff, reduceEqDiff, reduceShiftRight, reduceAnd, e1, e3, Edge.cells, hs]
    unfold qh0
    simp (disch := first | omega | exact ti rfl | (simp only [np, nq]; first | done | omega)) only [go_sem, reduceAdd, reduceMul, reduceSub, reduceLeDiff, reduceEqDiff, reduceShiftRight, reduceAnd]
    rw [if_neg (by simp), List.append_nil] at hm
    refine qh1 hlen hE hw hi hc hcl hq k (i + 1) v _ (by omega) (by omega) (by rw [hm]; exact hg.no fe) hnew (hF.trans fe)
   | true =>
    rw [hs] at fe
    by_cases he : ins.getD es[i].f 0 = ins.getD es[i].t 0
    ·have hp : mixP ins es[i] = true := by unfold mixP; rw [hs, decide_eq_true he]; rfl
     rw [hp, if_pos rfl] at hm
     have hml : (mixL ins (es.take (i + 1))).length = (mixL ins (es.take i)).length + 1 := by rw [hm, List.length_append]; rfl
     have he1 := e4
     have he2 := e6
     generalize hH2 : (qak H (qaa 0 [.int .i64 (.ofNat 0), .int .i64 (.ofNat 0), .bool false])).put H.nx (qaa 0 [.int .i64 (.ofNat es[i].f), .int .i64 (.ofNat es[i].t), .bool true]) = H2 at *
     have hx2 : H2.get H.nx = qaa 0 [.int .i64 (.ofNat es[i].f), .int .i64 (.ofNat es[i].t), .bool true] := by rw [← hH2, qac]
     have hc2 : H2.get c = qaa 0 [lv, iv] := (fe.keep hcH).trans hc'
     have e6' : qa6 (H2.get b1) o2 = .val (.int .i64 (.ofNat (ins.getD es[i].f 0))) := by rw [fe.keep e5]; exact e6
     have e9' : qa6 (H2.get b2) o3 = .val (.int .i64 (.ofNat (ins.getD es[i].t 0))) := by rw [fe.keep e8]; exact e9
     have hgP : Gl 1 (qak H2 (qaa 0 [.int .i64 (.ofNat (ins.getD es[i].f 0))])) v (mixL ins (es.take i)).length (nats (mixL ins (es.take i))) := (hg.no fe).no ((Fm.refl _ _).push _)
     obtain ⟨H', a1, a2, _, a4, a5⟩ := hgP.append (w := 8) (k := 1) (x := [.int .i64 (.ofNat (ins.getD es[i].f 0))]) (by omega) rfl (by omega) (by omega)
     rw [he] at e6'
     rw [he] at a1 a2 a4 hgP
     simp (disch := first | omega | exact ti rfl | (simp only [np, nq]; first | done | omega)) only [go_sem, reduceAdd, reduceMul, reduceSub, reduceLeDiff, reduceEqDiff, reduceShiftRight, reduceAnd, e1, e3, Edge.cells, hs, hH2, hx2, hc2, e4, e6', e7, e9', he, a1]
     unfold qh0
     simp (disch := first | omega | exact ti rfl | (simp only [np, nq]; first | done | omega)) only [go_sem, reduceAdd, reduceMul, reduceSub, reduceLeDiff, reduceEqDiff, reduceShiftRight, reduceAnd]
     have e10 : nats (mixL ins (es.take i)) ++ [.int .i64 (.ofNat (ins.getD es[i].t 0))] = nats (mixL ins (es.take (i + 1))) := by rw [hm, he]; simp [nats]
     rw [e10, ← hml] at a2
     rw [← hml]
     have hn1 := hF.nx
     have hn2 := fe.nx
     have hpn : (qak H2 (qaa 0 [.int .i64 (.ofNat (ins.getD es[i].t 0))])).nx = H2.nx + 1 := rfl
     refine qh1 hlen hE hw hi hc hcl hq k (i + 1) _ H' (by omega) (by omega) a2 (fun b hb => ?_) (((hF.trans fe).trans ((Fm.refl _ _).push _)).then a4 fun c hc h => by have := hnew c h; omega)
     obtain ⟨_, _, _, _, h⟩ := hb
     cases h
     omega
    ·have hp : mixP ins es[i] = false := by unfold mixP; rw [hs, decide_eq_false he]; rfl
     rw [hp] at hm
     simp (disch := first | omega | exact ti rfl | (simp only [np, nq]; first | done | omega)) only [go_sem, reduceAdd, reduceMul, reduceSub, reduceLeDiff, reduceEqDiff, reduceShiftRight, reduceAnd, e1, e3, Edge.cells, hs, hc', e4, e6, e7, e9, he]
     unfold qh0
     simp (disch := first | omega | exact ti rfl | (simp only [np, nq]; first | done | omega)) only [go_sem, reduceAdd, reduceMul, reduceSub, reduceLeDiff, reduceEqDiff, reduceShiftRight, reduceAnd]
     rw [if_neg (by simp), List.append_nil] at hm
     refine qh1 hlen hE hw hi hc hcl hq k (i + 1) v _ (by omega) (by omega) (by rw [hm]; exact hg.no fe) hnew (hF.trans fe)
  ·simp (disch := first | omega | exact ti rfl | (simp only [np, nq]; first | done | omega)) only [go_sem, reduceAdd, reduceMul, reduceSub, reduceLeDiff, reduceEqDiff, reduceShiftRight, reduceAnd, hlt]
   have : i = es.length := by omega
   subst this
   rw [List.take_length] at hg
   exact hq v H hg hF hnew
theorem zcq (hC : qa7 C) (hO : qcq C) (hS : qce C) (hR : qco LA LO C) {k : Nat} (hk : 1000 ≤ k) {n : Nat} {es : List Edge} (hE : qe8 n es) (hn : n ≤ 256) (hlen : es.length < 900) {gv : AV} {H : Hp} (hg : IsE H gv es) :
  Ok (C k (.f qsy) [.agg [.int .i64 (.ofNat n), gv]] H) fun r H' => ∃ (w : AV) (res : List (List Nat)) (ins R : List Nat), r = .tup [w, .int .i64 (.ofNat 0)] ∧ OrdF n (qbc es) [] res ∧ (∀ (j : Nat) (o : List Nat) (x : Nat), res[j]? = some o → x ∈ o → ins[x]? = some j) ∧
   R.Pairwise (· < ·) ∧ (∀ x, x ∈ R ↔ x ∈ mixL ins es) ∧ Rl H' w (nats R) ∧ capV w = .val (.int .i64 (.ofNat R.length)) ∧ R.length ≤ 900 ∧ Fm No H H' := by
 obtain ⟨j, rfl⟩ : ∃ j, k = j + 1 := ⟨k - 1, by omega⟩
 rw [(hC j).cMix]
 unfold cMix q9m
 simp (disch := first | omega | exact ti rfl | (simp only [np, nq]; first | done | omega)) only [go_sem, reduceAdd, reduceMul, reduceSub, reduceLeDiff, reduceEqDiff, reduceShiftRight, reduceAnd]
 have f0 : Fm No H (qak H (qaa 0 [.int .i64 (.ofNat n), gv])) := (Fm.refl _ _).push _
 refine Ok.ve (zga hC hO hS hR (k := j) (by omega) hE hn (by omega) (hg.fm f0)) ?_
 rintro r H1 ⟨lv, iv, os, ins2, out, ins, res, rfl, hOrd, hCR, f1⟩
 have ford := hOrd.ord hE.rng
 have hg1 : H1.get H.nx = qaa 0 [.int .i64 (.ofNat n), gv] := (f1.keep (by (first | omega | (simp only [np, nq]; omega)))).trans (qaj _ _)
 have es3 : ∀ x y : AV, setL [AV.nilsl, AV.nilsl] 0 [x, y] = [x, y] := fun _ _ => rfl
 have n1 : H.nx + 1 ≤ H1.nx := f1.nx
 simp (disch := first | omega | exact ti rfl | (simp only [np, nq]; first | done | omega)) only [go_sem, reduceAdd, reduceMul, reduceSub, reduceLeDiff, reduceEqDiff, reduceShiftRight, reduceAnd, es3, List.length_cons, List.length_nil]
 generalize hH2 : (qak H1 (qaa 0 [AV.nilsl, AV.nilsl])).put H1.nx (qaa 0 [lv, iv]) = H2
 have f2 : Fm No H1 H2 := by rw [← hH2]; exact ((Fm.refl _ _).push _).put_new _ _ (Nat.le_refl _)
 have g2 : H2.get H1.nx = qaa 0 [lv, iv] := by rw [← hH2, qac]
 have l2 : H1.nx < H2.nx := by rw [← hH2]; show H1.nx < H1.nx + 1; omega
 have hg2 : H2.get H.nx = qaa 0 [.int .i64 (.ofNat n), gv] := (f2.keep (by omega)).trans hg1
 have f02 : Fm No H H2 := (f0.trans f1).trans f2
 have hE2 : IsE H2 gv es := hg.fm f02
 rw [qor]
 unfold qeg
 have e0 := hE2.len
 simp (disch := first | omega | exact ti rfl | (simp only [np, nq]; first | done | omega)) only [go_sem, reduceAdd, reduceMul, reduceSub, reduceLeDiff, reduceEqDiff, reduceShiftRight, reduceAnd, hg2, e0]
 unfold qt0
 rw [qaq]
 refine qh1 (by omega) hE.rng hE2 (hCR.gi.no f2) g2 l2 (fun v H3 h3 f3 hnew => ?_) qal 0 .nilsl H2 (by rw [qah]; omega) (Nat.zero_le _) (by simpa [mixL, nats] using Gl.nil 1 H2) (fun b hb => by obtain ⟨_, _, _, _, h⟩ := hb; cases h) (Fm.refl _ _)
 unfold qge
 have hml := q61 ins2 es
 have n2 := f02.nx
 have sorted : Ok (C j (.f qeb) [v] H3) fun r H' => r = .tup [] ∧ ∃ R : List Nat, R.Perm (mixL ins2 es) ∧ R.Pairwise (· ≤ ·) ∧ Gl 1 H' v (mixL ins2 es).length (nats R) ∧ Fm (In v) H3 H' := by
  rcases Nat.eq_zero_or_pos (mixL ins2 es).length with h0 | h0
  ·have hz : mixL ins2 es = [] := List.length_eq_zero_iff.1 h0
   rw [hz] at h3 ⊢
   rcases h3.is with ⟨rfl, _⟩ | ⟨b, o, e, q, L, rfl, g1, g2, g3, g4, g5⟩
   ·exact ⟨_, _, q94 hO hS (by omega) H3, rfl, [], List.Perm.refl _, List.Pairwise.nil, h3, Fm.refl _ _⟩
   ·obtain ⟨j, rfl⟩ : ∃ i, j = i + 1 := ⟨j - 1, by omega⟩
    have g2 : o ≤ L.length := g2
    have hst : storeAt H3 b o [] (.tup []) = .ok (.tup []) (H3.put b (qaa q (setL L o []))) := qcr _ _ _ _ _ _ _ g1 g2
    have hL : setL L o [] = L := by unfold setL; simp
    rw [hL] at hst
    have hs : qui H3 b o 0 = some (.ok (.tup []) (H3.put b (qaa q L))) := by
     unfold qui
     have hr : qbi (H3.get b) o 0 = some [] := by rw [g1, qd1, if_pos (show o + 0 ≤ L.length from g2)]; rfl
     rw [hr]
     have hz : qgo [] = [] := by unfold qgo; simp
     simp only [qnr, hz, List.map_nil, hst]
     rfl
    refine ⟨_, _, (hO j).srt _ _ _ _ _ _ _ hs, rfl, [], List.Perm.refl _, List.Pairwise.nil, ?_, (Fm.refl _ _).put _ _ fun _ => ⟨_, _, _, _, rfl⟩⟩
    exact ⟨rfl, .inr ⟨b, o, e, q, L, rfl, qac _ _ _, g2, g3, g4, g5⟩⟩
  ·exact q1h hC hO hS (k := j) (by omega) h0 (by omega) h3
 refine Ok.ve sorted ?_
 rintro r H4 ⟨rfl, R, hp, hsd, h4, f4⟩
 refine Ok.ve (q37 hO (k := j) (by omega) hsd (by omega) h4) ?_
 rintro r5 H5 ⟨R5, hasc, hmem, h5, hin, f5⟩
 obtain ⟨w, w1, w2, w3, _⟩ := zcv hC (k := j) (by omega) h5
 simp (disch := first | omega | exact ti rfl | (simp only [np, nq]; first | done | omega)) only [go_sem, reduceAdd, reduceMul, reduceSub, reduceLeDiff, reduceEqDiff, reduceShiftRight, reduceAnd, w1]
 have hR5 : R5.length ≤ 900 := by
  have hnd : R5.Nodup := hasc.imp fun h => Nat.ne_of_lt h
  have : R5.length ≤ R.length := hnd.length_le_of_subset fun x hx => (hmem x).1 hx
  rw [hp.length_eq] at this
  omega
 refine Ok.ret ⟨w, res, ins2, R5, rfl, ford, hCR.ins, hasc, fun x => (hmem x).trans hp.mem_iff, w2, w3, hR5, ((f02.trans f3).then f4 fun c hc h => ?_).then f5 fun c hc h => ?_⟩
 ·have := hnew c h; omega
 ·have := hnew c h; omega
end Go.Di
end
section
/-
 Contracts: whether a list of edges has one that a closure takes.
-/
namespace Go.Di
open Go.Ev Go.Di.T Go.Sort
variable {C : Nat → Ev.Call} {LA LO : LP}
def CloE (call : Ev.Call) (H0 : Hp) (f : FuncId) (caps : List AV) (es : List Edge) (p : Edge → Bool) : Prop :=
 ∀ e ∈ es, ∀ H, Fm No H0 H → Ok (qtm call (.fn f [] caps) [.agg e.cells] H) fun v H' => v = .bool (p e) ∧ Fm No H H'
end Go.Di
end
section
/-
 Contracts: the edges between components.
-/
namespace Go.Di
open Go.Ev Go.Di.T Go.Sort
variable {C : Nat → Ev.Call} {LA LO : LP}
structure CB (H0 : Hp) (n gb c : Nat) (gv lv iv : AV) (es : List Edge) (ins : List Nat) : Prop where
 fe : IsE H0 gv es
 fg : H0.get gb = qaa 0 [.int .i64 (.ofNat n), gv]
 gl : gb < H0.nx
 fc : H0.get c = qaa 0 [lv, iv]
 cl : c < H0.nx
 fi : Gl 1 H0 iv n (nats ins)
 fr : ∀ e ∈ es, e.f < n ∧ e.t < n
 len : es.length < 200000
structure CI (H0 : Hp) (m : Nat) (L : List Edge) (H : Hp) : Prop where
 ex : ∃ v, H.get H0.nx = qaa 0 [.int .i64 (.ofNat m), v] ∧ Gl 3 H v L.length (qib L) ∧ ∀ b, In v b → H0.nx < b
 fm : Fm (fun b => b = H0.nx) H0 H
 lt : H0.nx < H.nx
theorem CI.no {H0 : Hp} {m : Nat} {L : List Edge} {H H' : Hp} (h : CI H0 m L H) (f : Fm No H H') : CI H0 m L H' := by
 obtain ⟨v, h1, h2, h3⟩ := h.ex
 exact ⟨⟨v, (f.keep h.lt).trans h1, h2.no f, h3⟩, h.fm.then f fun _ _ h => h.elim, Nat.lt_of_lt_of_le h.lt f.nx⟩
theorem CB.at {H0 : Hp} {n gb c : Nat} {gv lv iv : AV} {es : List Edge} {ins : List Nat} (h : CB H0 n gb c gv lv iv es ins) {H : Hp} (f : Fm (fun b => b = H0.nx) H0 H) :
  IsE H gv es ∧ H.get gb = qaa 0 [.int .i64 (.ofNat n), gv] ∧ gb < H.nx ∧ H.get c = qaa 0 [lv, iv] ∧ c < H.nx ∧ Gl 1 H iv n (nats ins) := by
 have g1 := h.gl
 have g2 := h.cl
 have g3 := f.nx
 exact ⟨h.fe.keep f.nx fun b hb hlt => f.get b hlt (fun e => by have := h.fe.lt hb; omega), (f.get _ g1 (by omega)).trans h.fg, by omega, (f.get _ g2 (by omega)).trans h.fc, by omega, h.fi.fm f fun b hb e => by have := h.fi.lt hb; omega⟩
end Go.Di
end
section
/-
 Contracts: the graph of the components; simple components.
-/
namespace Go.Di
open Go.Ev Go.Di.T Go.Sort
variable {C : Nat → Ev.Call} {LA LO : LP}
theorem za8 {n : Nat} {adj : Nat → List Nat} {res : List (List Nat)} (h : OrdF n adj [] res) : res.length ≤ n := by
 obtain ⟨z1, z2, z3, z4, z5⟩ := h.all
 have hle : ∀ (o : List (List Nat)), (∀ c ∈ o, c ≠ []) → o.length ≤ o.flatten.length := fun o => by
  induction o with
  | nil => intro _; exact Nat.le_refl _
  | cons c o ih =>
   intro h
   have h1 := ih fun c hc => h c (List.mem_cons_of_mem _ hc)
   have h2 : 0 < c.length := List.length_pos_iff.2 (h c List.mem_cons_self)
   rw [List.flatten_cons, List.length_append, List.length_cons]; omega
 have := hle res z4
 omega
theorem Gl.st {z n : Nat} {H : Hp} {v : AV} {l : List AV} (h : Gl z H v n l) (H' : Hp) (b o : Nat) : qaz H' (.ptr b o) v = storeAt H' b o [v] .undef := by
 rcases h.is with ⟨rfl, _⟩ | ⟨b, o, e, q, L, rfl, _⟩ <;> rfl
end Go.Di
end
section
/-
 Contracts: the walk through a graph.
-/
namespace Go.Di
open Go.Ev
variable {C : Nat → Ev.Call}
structure Wk where
 f : List Int
 q : List Nat
def qez (u : Nat) (s : Wk) (e : Edge) : Wk := if e.f = u ∧ s.f.getD e.t 0 < 0 then ⟨s.f.set e.t (.ofNat e.f), s.q ++ [e.t]⟩ else s
def inner (es : List Edge) (u : Nat) (s : Wk) : Wk := es.foldl (qez u) s
def qlf (es : List Edge) (s : Wk) : Wk := match s.q with | [] => s | u :: _ => let t := inner es u s; ⟨t.f, t.q.tail⟩
def q3h (es : List Edge) : Nat → Wk → Prop
 | 0, s => s.q = []
 | k + 1, s => s.q = [] ∨ q3h es k (qlf es s)
def bfs (es : List Edge) : Nat → Wk → List Int
 | 0, s => s.f
 | k + 1, s => match s.q with | [] => s.f | _ :: _ => bfs es k (qlf es s)
theorem IsE.fmS {H H' : Hp} {v : AV} {es : List Edge} (h : IsE H v es) {S : Nat → Prop} (a : Fm S H H') (hs : ∀ b, In v b → ¬ S b) : IsE H' v es := h.keep a.nx fun b hb hlt => a.get b hlt (hs b hb)
theorem q4t (u : Nat) (s : Wk) (e : Edge) : (qez u s e).f.length = s.f.length := by
 unfold qez; split <;> simp
theorem zd5 (u : Nat) (s : Wk) (e : Edge) : ∃ r, (qez u s e).q = s.q ++ r := by
 unfold qez; split
 ·exact ⟨_, rfl⟩
 ·exact ⟨[], by simp⟩
theorem qns (u : Nat) : ∀ (es : List Edge) (s : Wk), (inner es u s).f.length = s.f.length
 | [], _ => rfl
 | e :: es, s => by
  show (inner es u (qez u s e)).f.length = _
  rw [qns u es, q4t]
theorem q7t (u : Nat) : ∀ (es : List Edge) (s : Wk), ∃ r, (inner es u s).q = s.q ++ r
 | [], s => ⟨[], by simp [inner]⟩
 | e :: es, s => by
  obtain ⟨r1, h1⟩ := zd5 u s e
  obtain ⟨r2, h2⟩ := q7t u es (qez u s e)
  exact ⟨r1 ++ r2, by show (inner es u (qez u s e)).q = _; rw [h2, h1, List.append_assoc]⟩
theorem qr3 (l : List Nat) (n : Nat) : nats l ++ [.int .i64 (.ofNat n)] = nats (l ++ [n]) := by simp [nats]
theorem qh2 {call : Ev.Call} {n : Nat} {es : List Edge} (hE : ∀ e ∈ es, e.f < n ∧ e.t < n) (hn : n ≤ 256) {v : AV} {fb u : Nat} {H1 : Hp} (hlen : es.length < 1000000) {Q : AV → Hp → Prop} {q15 : AV → Hp → R1}
  (hv : IsE H1 v es) (hvf : ∀ b, In v b → b ≠ fb) (hfb : fb < H1.nx) (s' : Wk)
  (hq : ∀ w H, Gl 1 H w s'.q.length (nats s'.q) → H.get fb = qaa 0 (ints s'.f) → Fm (· = fb) H1 H → (∀ b, In w b → H1.nx ≤ b) → Ok (q15 w H) Q) :
  ∀ (k i : Nat) (s : Wk) (w : AV) (H : Hp), i ≤ es.length → es.length - i < k → inner (es.drop i) u s = s' → s.f.length = 256 → (∃ r, s.q = u :: r) → s.q.length + (es.length - i) < 2000000 →
   Gl 1 H w s.q.length (nats s.q) → H.get fb = qaa 0 (ints s.f) → Fm (· = fb) H1 H → (∀ b, In w b → H1.nx ≤ b) →
   Ok (qht call q15 (.ptr fb 0) v (.int .i64 (.ofNat es.length)) k w (.int .i64 (.ofNat i)) H) Q
 | 0, i, _, _, _, _, h, _, _, _, _, _, _, _, _ => by omega
 | k + 1, i, s, w, H, hi, hk, hs, hf, ⟨r, hr⟩, hsz, hw, hb, hfm, hwn => by
  show Ok (qs8 call _ _ _ _ (qht call _ _ _ _ k) _ _ H) Q
  unfold qs8
  have fbl : fb < H.nx := Nat.lt_of_lt_of_le hfb hfm.nx
  by_cases hlt : i < es.length
  ·have hd : es.drop i = es[i] :: es.drop (i + 1) := List.drop_eq_getElem_cons hlt
   obtain ⟨b, o1, e1, e2, e3⟩ := (hv.fmS hfm hvf).at hlt
   have hr' := hE es[i] (List.getElem_mem hlt)
   rw [hr] at hw
   obtain ⟨qb, qo, d1, d2, d3, d4⟩ := hw.head
   simp (disch := first | omega | exact ti rfl | (simp only [np, nq]; first | done | omega)) only [go_sem, reduceAdd, reduceMul, reduceSub, reduceLeDiff, reduceEqDiff, reduceShiftRight, reduceAnd, hlt]
   unfold qs6
   have hget : (ints s.f)[es[i].t]? = some (.int .i64 (s.f.getD es[i].t 0)) := by
    rw [qf6 _ _ (by omega)]; simp [List.getD_eq_getElem?_getD, show es[i].t < s.f.length by omega]
   have ht : es[i].t < 256 := by omega
   have hst : inner (es.drop (i + 1)) u (qez u s es[i]) = s' := by rw [← hs, hd]; rfl
   have qf : qb ≠ fb := by have := hwn qb d3; omega
   by_cases hu : es[i].f = u
   ·by_cases hneg : s.f.getD es[i].t 0 < Int.ofNat 0
    ·have es' : qez u s es[i] = ⟨s.f.set es[i].t (.ofNat es[i].f), s.q ++ [es[i].t]⟩ := by unfold qez; rw [if_pos ⟨hu, hneg⟩]
     simp (disch := first | omega | exact ti rfl | (simp only [np, nq]; first | done | omega)) only [go_sem, reduceAdd, reduceMul, reduceSub, reduceLeDiff, reduceEqDiff, reduceShiftRight, reduceAnd, e1, e3, Edge.cells, d1, d4, hu, hb, hget, hneg, ht, show es[i].t ≤ 255 by omega, qbp, hf, ints_set]
     have hw0 : Gl 1 H w s.q.length (nats s.q) := by rw [hr]; exact hw
     have fH : Fm (· = fb) H (qak (((qak H (qaa 0 [.int .i64 (.ofNat 0), .int .i64 (.ofNat 0), .bool false])).put H.nx (qaa 0 [.int .i64 (.ofNat u), .int .i64 (.ofNat es[i].t), .bool es[i].s])).put fb (qaa 0 (ints (s.f.set es[i].t (.ofNat u))))) (qaa 0 [.int .i64 (.ofNat es[i].t)])) := by (repeat (first | exact Fm.refl _ _ | assumption | refine Fm.push ?_ _ | refine Fm.up2 ?_ (by (first | omega | (simp only [np, nq]; omega))) | refine Fm.put_new ?_ _ _ (by (first | omega | (simp only [np, nq]; omega))) | refine Fm.put ?_ _ _ (fun _ => rfl)))
     have hwf : ¬ In w fb := fun h => by have := hwn fb h; omega
     obtain ⟨H', e, gl', _, fm', nx'⟩ := (hw0.fm fH (fun b hb h => hwf (h ▸ hb))).append (k := 1) (w := 8) (x := [.int .i64 (.ofNat es[i].t)]) (by omega) rfl (by omega) (by omega)
     refine Ok.veE e ?_
     unfold qhu
     simp (disch := first | omega | exact ti rfl | (simp only [np, nq]; first | done | omega)) only [go_sem, reduceAdd, reduceMul, reduceSub, reduceLeDiff, reduceEqDiff, reduceShiftRight, reduceAnd]
     have fH' : Fm (· = fb) H1 H' := (hfm.then fH fun _ _ h => h).then fm' fun c hc h => by have := hwn c h; omega
     have hb' : H'.get fb = qaa 0 (ints (s.f.set es[i].t (.ofNat u))) := (fm'.get fb (by (first | omega | (simp only [np, nq]; omega))) hwf).trans (by simp (disch := first | omega | exact ti rfl | (simp only [np, nq]; first | done | omega)) only [go_sem, reduceAdd, reduceMul, reduceSub, reduceLeDiff, reduceEqDiff, reduceShiftRight, reduceAnd])
     rw [es', hu] at hst
     rw [qr3] at gl'
     have gl2 : Gl 1 H' (.sl (H.nx + 1 + 1) 0 (s.q.length + 1) (s.q.length + 1) false) (s.q ++ [es[i].t]).length (nats (s.q ++ [es[i].t])) := by
      rw [show (s.q ++ [es[i].t]).length = s.q.length + 1 by simp]; exact gl'
     have hnx := hfm.nx
     exact qh2 hE hn hlen hv hvf hfb s' hq k (i + 1) ⟨s.f.set es[i].t (.ofNat u), s.q ++ [es[i].t]⟩ _ H' (by omega) (by omega) hst (by simp; exact hf) ⟨r ++ [es[i].t], by rw [hr]; rfl⟩ (by simp; omega) gl2 hb' fH' (fun b hb => by obtain ⟨o, m, m', y, h⟩ := hb; cases h; (first | omega | (simp only [np, nq]; omega)))
    ·have es' : qez u s es[i] = s := by unfold qez; rw [if_neg (fun h => hneg h.2)]
     simp (disch := first | omega | exact ti rfl | (simp only [np, nq]; first | done | omega)) only [go_sem, reduceAdd, reduceMul, reduceSub, reduceLeDiff, reduceEqDiff, reduceShiftRight, reduceAnd, e1, e3, Edge.cells, d1, d4, hu, hb, hget, hneg, ht]
     unfold qhu
     simp (disch := first | omega | exact ti rfl | (simp only [np, nq]; first | done | omega)) only [go_sem, reduceAdd, reduceMul, reduceSub, reduceLeDiff, reduceEqDiff, reduceShiftRight, reduceAnd]
     have fH : Fm No H ((qak H (qaa 0 [.int .i64 (.ofNat 0), .int .i64 (.ofNat 0), .bool false])).put H.nx (qaa 0 [.int .i64 (.ofNat u), .int .i64 (.ofNat es[i].t), .bool es[i].s])) := by (repeat (first | exact Fm.refl _ _ | assumption | refine Fm.push ?_ _ | refine Fm.up2 ?_ (by (first | omega | (simp only [np, nq]; omega))) | refine Fm.put_new ?_ _ _ (by (first | omega | (simp only [np, nq]; omega)))))
     rw [es'] at hst
     exact qh2 hE hn hlen hv hvf hfb s' hq k (i + 1) s w _ (by omega) (by omega) hst hf ⟨r, hr⟩ (by omega) ((by rw [hr]; exact hw : Gl 1 H w s.q.length (nats s.q)).no fH) ((fH.keep fbl).trans hb) (hfm.then fH fun _ _ h => h.elim) hwn
   ·have es' : qez u s es[i] = s := by unfold qez; rw [if_neg (fun h => hu h.1)]
    simp (disch := first | omega | exact ti rfl | (simp only [np, nq]; first | done | omega)) only [go_sem, reduceAdd, reduceMul, reduceSub, reduceLeDiff, reduceEqDiff, reduceShiftRight, reduceAnd, e1, e3, Edge.cells, d1, d4, hu, hb, hget, ht]
    unfold qhu
    simp (disch := first | omega | exact ti rfl | (simp only [np, nq]; first | done | omega)) only [go_sem, reduceAdd, reduceMul, reduceSub, reduceLeDiff, reduceEqDiff, reduceShiftRight, reduceAnd]
    have fH : Fm No H ((qak H (qaa 0 [.int .i64 (.ofNat 0), .int .i64 (.ofNat 0), .bool false])).put H.nx (qaa 0 [.int .i64 (.ofNat es[i].f), .int .i64 (.ofNat es[i].t), .bool es[i].s])) := by (repeat (first | exact Fm.refl _ _ | assumption | refine Fm.push ?_ _ | refine Fm.up2 ?_ (by (first | omega | (simp only [np, nq]; omega))) | refine Fm.put_new ?_ _ _ (by (first | omega | (simp only [np, nq]; omega)))))
    rw [es'] at hst
    exact qh2 hE hn hlen hv hvf hfb s' hq k (i + 1) s w _ (by omega) (by omega) hst hf ⟨r, hr⟩ (by omega) ((by rw [hr]; exact hw : Gl 1 H w s.q.length (nats s.q)).no fH) ((fH.keep fbl).trans hb) (hfm.then fH fun _ _ h => h.elim) hwn
  ·have hd : es.drop i = [] := List.drop_eq_nil_of_le (by omega)
   rw [hd] at hs
   simp (disch := first | omega | exact ti rfl | (simp only [np, nq]; first | done | omega)) only [go_sem, reduceAdd, reduceMul, reduceSub, reduceLeDiff, reduceEqDiff, reduceShiftRight, reduceAnd, hlt]
   have : s = s' := hs
   subst this
   exact hq w H hw hb hfm hwn
end Go.Di
end
section
/-
 Contracts: the walk through a graph, whole.
-/
namespace Go.Di
open Go.Ev
variable {C : Nat → Ev.Call}
theorem zak (u : Nat) (s : Wk) (e : Edge) : (qez u s e).q.length ≤ s.q.length + 1 := by
 unfold qez; split <;> simp
theorem q0q (u : Nat) : ∀ (es : List Edge) (s : Wk), (inner es u s).q.length ≤ s.q.length + es.length
 | [], _ => Nat.le_refl _
 | e :: es, s => by
  show (inner es u (qez u s e)).q.length ≤ _
  have h1 := q0q u es (qez u s e)
  have h2 := zak u s e
  simp only [List.length_cons]; omega
theorem qqj {call : Ev.Call} {n : Nat} {es : List Edge} (hE : ∀ e ∈ es, e.f < n ∧ e.t < n) (hn : n ≤ 256) {v : AV} {fb g : Nat} {H1 : Hp} (hlen : es.length < 1000000) {Q : AV → Hp → Prop} {q9 : Hp → R1}
  (hv : IsE H1 v es) (hvf : ∀ b, In v b → b ≠ fb) (hfb : fb < H1.nx) (hg : g < H1.nx) (hgf : g ≠ fb) (hgv : H1.get g = qaa 0 [.int .i64 (.ofNat n), v]) (f' : List Int)
  (hq : ∀ H, H.get fb = qaa 0 (ints f') → Fm (· = fb) H1 H → Ok (q9 H) Q) :
  ∀ (k m : Nat) (s : Wk) (w : AV) (H : Hp), q3h es m s → m < k → bfs es m s = f' → s.f.length = 256 → s.q.length + (m + 1) * es.length < 2000000 →
   lenSl w = .val (.int .i64 (.ofNat s.q.length)) → (s.q ≠ [] → Gl 1 H w s.q.length (nats s.q)) → H.get fb = qaa 0 (ints s.f) → Fm (· = fb) H1 H → (∀ b, In w b → H1.nx ≤ b) →
   Ok (qe5 call q9 (.ptr g 0) (.ptr fb 0) k w H) Q
 | 0, m, _, _, _, _, h, _, _, _, _, _, _, _, _ => by omega
 | k + 1, m, s, w, H, hends, hk, hs, hf, hsz, hl, hw, hb, hfm, hwn => by
  show Ok (qyf call _ _ _ (qe5 call _ _ _ k) _ H) Q
  unfold qyf
  cases hqs : s.q with
  | nil =>
   rw [hqs] at hl
   simp (disch := first | omega | exact ti rfl | (simp only [np, nq]; first | done | omega)) only [go_sem, reduceAdd, reduceMul, reduceSub, reduceLeDiff, reduceEqDiff, reduceShiftRight, reduceAnd, hl, Nat.lt_irrefl]
   have : bfs es m s = s.f := by cases m <;> simp [bfs, hqs]
   rw [this] at hs; subst hs
   exact hq H hb hfm
  | cons u r =>
   obtain ⟨m', rfl⟩ : ∃ m', m = m' + 1 := by
    cases m with
    | zero => have h0 : s.q = [] := hends; rw [hqs] at h0; cases h0
    | succ m' => exact ⟨m', rfl⟩
   have hw := hw (by rw [hqs]; simp)
   rw [hqs] at hl
   simp (disch := first | omega | exact ti rfl | (simp only [np, nq]; first | done | omega)) only [go_sem, reduceAdd, reduceMul, reduceSub, reduceLeDiff, reduceEqDiff, reduceShiftRight, reduceAnd, hl, Nat.zero_lt_succ]
   unfold qs5
   have k1 : H.get g = qaa 0 [.int .i64 (.ofNat n), v] := (hfm.get g hg hgf).trans hgv
   simp (disch := first | omega | exact ti rfl | (simp only [np, nq]; first | done | omega)) only [go_sem, reduceAdd, reduceMul, reduceSub, reduceLeDiff, reduceEqDiff, reduceShiftRight, reduceAnd, k1, (hv.len)]
   unfold qta
   rw [qaq]
   have hmul : (m' + 1 + 1) * es.length = (m' + 1) * es.length + es.length := by rw [Nat.add_mul, Nat.one_mul]
   refine qh2 hE hn (u := u) hlen hv hvf hfb (inner es u s) (fun w' H' gl hb' hfm' hwn' => ?_) qal 0 s w H (Nat.zero_le _) (by rw [qah]; omega) rfl hf ⟨r, hqs⟩ (by omega) hw hb hfm hwn
   have hn1 : qlf es s = ⟨(inner es u s).f, (inner es u s).q.tail⟩ := by unfold qlf; rw [hqs]
   obtain ⟨r', hr'⟩ := q7t u es s
   rw [hqs] at hr'
   have hql := q0q u es s
   unfold qf8
   have hlr : (inner es u s).q = u :: (r ++ r') := hr'
   rw [hlr] at gl
   obtain ⟨w2, e2, l2, g2, n2⟩ := gl.tail
   simp (disch := first | omega | exact ti rfl | (simp only [np, nq]; first | done | omega)) only [go_sem, reduceAdd, reduceMul, reduceSub, reduceLeDiff, reduceEqDiff, reduceShiftRight, reduceAnd, e2]
   have hn2 : qlf es s = ⟨(inner es u s).f, r ++ r'⟩ := by rw [hn1, hlr]; rfl
   have hends' : q3h es m' (qlf es s) := by
    rcases hends with h | h
    ·rw [hqs] at h; cases h
    ·exact h
   have hs' : bfs es m' (qlf es s) = f' := by rw [← hs]; simp [bfs, hqs]
   rw [hn2] at hends' hs'
   refine qqj hE hn hlen hv hvf hfb hg hgf hgv f' hq k m' ⟨(inner es u s).f, r ++ r'⟩ w2 H' hends' (by omega) hs' (by rw [← hf]; exact qns _ _ _) ?_ l2 (fun hne => g2 ?_) hb' hfm' (fun b h => hwn' b (n2 b h))
   ·rw [hlr, List.length_cons] at hql; simp only; omega
   ·cases hrr : r ++ r' with
    | nil => exact absurd hrr hne
    | cons _ _ => simp
theorem qwi {call : Ev.Call} {fb : Nat} {H1 : Hp} {Q : AV → Hp → Prop} {q49 : Hp → R1} (hfb : fb < H1.nx)
  (hq : ∀ H, H.get fb = qaa 0 (ints (List.replicate 256 (-1))) → Fm (· = fb) H1 H → H.nx = H1.nx → Ok (q49 H) Q) :
  ∀ (k i : Nat) (f : List Int) (H : Hp), i ≤ 256 → 256 - i < k → f.length = 256 → (∀ j, j < i → f[j]? = some (-1)) → H.get fb = qaa 0 (ints f) → Fm (· = fb) H1 H → H.nx = H1.nx →
   Ok (qhs call q49 (.ptr fb 0) k (.int .i64 (.ofNat i)) H) Q
 | 0, i, _, _, _, h, _, _, _, _, _ => by omega
 | k + 1, i, f, H, hi, hk, hf, hj, hb, hfm, hnx => by
  show Ok (qs7 call _ _ (qhs call _ _ k) _ H) Q
  unfold qs7
  by_cases hlt : i < 256
  ·simp (disch := first | omega | exact ti rfl | (simp only [np, nq]; first | done | omega)) only [go_sem, reduceAdd, reduceMul, reduceSub, reduceLeDiff, reduceEqDiff, reduceShiftRight, reduceAnd, hlt]
   unfold qs3
   simp (disch := first | omega | exact ti rfl | (simp only [np, nq]; first | done | omega)) only [go_sem, reduceAdd, reduceMul, reduceSub, reduceLeDiff, reduceEqDiff, reduceShiftRight, reduceAnd, hlt, hb, qbp, hf, show i ≤ 255 by omega, ints_set]
   unfold qs4
   simp (disch := first | omega | exact ti rfl | (simp only [np, nq]; first | done | omega)) only [go_sem, reduceAdd, reduceMul, reduceSub, reduceLeDiff, reduceEqDiff, reduceShiftRight, reduceAnd]
   refine qwi hfb hq k (i + 1) (f.set i (.negSucc 0)) _ (by omega) (by omega) (by simp; exact hf) (fun j h => ?_) (qac _ _ _) (by (repeat (first | exact Fm.refl _ _ | assumption | refine Fm.push ?_ _ | refine Fm.up2 ?_ (by (first | omega | (simp only [np, nq]; omega))) | refine Fm.put_new ?_ _ _ (by (first | omega | (simp only [np, nq]; omega))) | refine Fm.put ?_ _ _ (fun _ => rfl)))) hnx
   by_cases hji : j = i
   ·subst hji; rw [List.getElem?_set_self (by omega)]; rfl
   ·rw [List.getElem?_set_ne (fun e => hji e.symm)]; exact hj j (by omega)
  ·simp (disch := first | omega | exact ti rfl | (simp only [np, nq]; first | done | omega)) only [go_sem, reduceAdd, reduceMul, reduceSub, reduceLeDiff, reduceEqDiff, reduceShiftRight, reduceAnd, hlt]
   have hi256 : i = 256 := by omega
   subst hi256
   have : f = List.replicate 256 (-1) := by
    apply List.ext_getElem?
    intro j
    by_cases h : j < 256
    ·rw [hj j h, List.getElem?_replicate, if_pos h]
    ·rw [List.getElem?_eq_none (by omega), List.getElem?_eq_none (by rw [List.length_replicate]; omega)]
   subst this
   exact hq H hb hfm hnx
def qa2 (a : Nat) : Wk := ⟨(List.replicate 256 (-1)).set a (.ofNat a), [a]⟩
theorem zcg (hC : qa7 C) {k : Nat} (hk : 1 ≤ k) {n : Nat} {es : List Edge} (hE : ∀ e ∈ es, e.f < n ∧ e.t < n) (hn : n ≤ 256) (hlen : es.length < 1000) {v : AV} {H : Hp} (hv : IsE H v es) {a : Nat} (ha : a < n) (m : Nat) (hm : m < 1000) (hends : q3h es m (qa2 a)) :
  Ok (C k (.f qsu) [.agg [.int .i64 (.ofNat n), v], .int .i64 (.ofNat a)] H) fun r H' => r = .agg (ints (bfs es m (qa2 a))) ∧ (bfs es m (qa2 a)).length = 256 ∧ Fm No H H' := by
 obtain ⟨j, rfl⟩ : ∃ j, k = j + 1 := ⟨k - 1, by omega⟩
 rw [(hC j).gWlk]
 unfold gWlk q72 qs9
 simp (disch := first | omega | exact ti rfl | (simp only [np, nq]; first | done | omega)) only [go_sem, reduceAdd, reduceMul, reduceSub, reduceLeDiff, reduceEqDiff, reduceShiftRight, reduceAnd]
 rw [qaq]
 have hrep : List.replicate 256 (AV.int .i64 (.ofNat 0)) = ints (List.replicate 256 0) := by simp only [ints, List.map_replicate]; rfl
 rw [hrep]
 have lb : ∀ (m : Nat) (s : Wk), s.f.length = 256 → (bfs es m s).length = 256 := by
  intro m
  induction m with
  | zero => intro s h; exact h
  | succ m ih =>
   intro s h
   cases hq : s.q with
   | nil => simp [bfs, hq]; exact h
   | cons u r =>
    simp only [bfs, hq]
    refine ih _ ?_
    simp only [qlf, hq]
    rw [qns]; exact h
 refine qwi (H1 := qak (qak (qak H (qaa 0 [.int .i64 (.ofNat n), v])) (qaa 0 (ints (List.replicate 256 0)))) (qaa 0 (ints (List.replicate 256 0)))) (by (first | omega | (simp only [np, nq]; omega))) (fun H2 hb2 f2 nx2 => ?_) qal 0 (List.replicate 256 0) _ (Nat.zero_le _) (by rw [qah]; omega) List.length_replicate (fun j h => by omega) (qaj _ _) (Fm.refl _ _) rfl
 unfold qf7
 simp (disch := first | omega | exact ti rfl | (simp only [np, nq]; first | done | omega)) only [go_sem, reduceAdd, reduceMul, reduceSub, reduceLeDiff, reduceEqDiff, reduceShiftRight, reduceAnd, show a < 256 by omega, hb2, qbp, List.length_replicate, show a ≤ 255 by omega, ints_set]
 unfold qyg
 rw [qaq, ints_set _ _ _ (by rw [List.length_replicate]; omega)]
 have fH : Fm No H (qak (qak (qak H (qaa 0 [.int .i64 (.ofNat n), v])) (qaa 0 (ints (List.replicate 256 0)))) (qaa 0 (ints (List.replicate 256 0)))) := by (repeat (first | exact Fm.refl _ _ | assumption | refine Fm.push ?_ _ | refine Fm.up2 ?_ (by (first | omega | (simp only [np, nq]; omega))) | refine Fm.put_new ?_ _ _ (by (first | omega | (simp only [np, nq]; omega)))))
 have hvb : ∀ b, In v b → b < H.nx := fun b hb => hv.lt hb
 refine qqj hE hn (H1 := qak (qak (qak H (qaa 0 [.int .i64 (.ofNat n), v])) (qaa 0 (ints (List.replicate 256 0)))) (qaa 0 (ints (List.replicate 256 0)))) (by omega) (hv.fm fH) (fun b hb => by have := hvb b hb; omega) (by (first | omega | (simp only [np, nq]; omega))) (by (first | omega | (simp only [np, nq]; omega))) (by omega) (by simp (disch := first | omega | exact ti rfl | (simp only [np, nq]; first | done | omega)) only [go_sem, reduceAdd, reduceMul, reduceSub, reduceLeDiff, reduceEqDiff, reduceShiftRight, reduceAnd]) (bfs es m (qa2 a)) (fun H3 hb3 f3 => ?_) qal m (qa2 a) _ _ hends (by rw [qah]; omega) rfl (by unfold qa2; rw [List.length_set, List.length_replicate]) ?_ rfl (fun _ => ?_) ?_ ?_ ?_
 ·unfold qed
  have hl := lb m (qa2 a) (by unfold qa2; rw [List.length_set, List.length_replicate])
  have hr4 : H3.get (H.nx + 1) = qaa 0 (ints (List.replicate 256 0)) := (f3.get _ (by (first | omega | (simp only [np, nq]; omega))) (by omega)).trans (by simp (disch := first | omega | exact ti rfl | (simp only [np, nq]; first | done | omega)) only [go_sem, reduceAdd, reduceMul, reduceSub, reduceLeDiff, reduceEqDiff, reduceShiftRight, reduceAnd])
  have hsl : setL (ints (List.replicate 256 0)) 0 (ints (bfs es m (qa2 a))) = ints (bfs es m (qa2 a)) := qq2 _ _ (by unfold Tr; rw [qbp, qbp, List.length_replicate, hl]; rfl)
  have htk : List.take 256 (ints (bfs es m (qa2 a))) = ints (bfs es m (qa2 a)) := List.take_of_length_le (by rw [qbp, hl]; exact Nat.le_refl _)
  simp (disch := first | omega | exact ti rfl | (simp only [np, nq]; first | done | omega)) only [go_sem, reduceAdd, reduceMul, reduceSub, reduceLeDiff, reduceEqDiff, reduceShiftRight, reduceAnd, hb3, qbp, hl, htk, hr4, hsl, List.length_replicate]
  refine Ok.ret ⟨rfl, trivial, ?_⟩
  have : Fm No H H3 := fH.then f3 fun c hc h => by omega
  (repeat (first | exact Fm.refl _ _ | assumption | refine Fm.push ?_ _ | refine Fm.up2 ?_ (by (first | omega | (simp only [np, nq]; omega))) | refine Fm.put_new ?_ _ _ (by (first | omega | (simp only [np, nq]; omega)))))
 ·have : (qa2 a).q.length = 1 := rfl
  have : (m + 1) * es.length ≤ 1000 * 1000 := Nat.mul_le_mul (by omega) (by omega)
  omega
 ·refine ⟨rfl, .inr ⟨_, 0, true, 0, _, rfl, qaj _ _, Nat.zero_le _, rfl, .inl rfl, by (first | omega | (simp only [np, nq]; omega))⟩⟩
 ·exact (qbb _ _ _ (by rw [nq, nx2]; (first | omega | (simp only [np, nq]; omega)))).trans (qac _ _ _)
 ·exact (f2.put _ _ (fun _ => rfl)).push _
 ·intro b hb
  obtain ⟨o, n', m', y, h⟩ := hb
  cases h
  rw [nx2]; exact Nat.le_refl _
end Go.Di
end
section
/-
 Contracts: lists that are cut to size, turned round, compared; what is reached, and paths.
-/
namespace Go.Di
open Go.Ev
variable {C : Nat → Ev.Call}
theorem zg7 (hC : qa7 C) {k : Nat} (hk : 5 ≤ k) {n : Nat} {es : List Edge} (hE : qe8 n es) (hn : n ≤ 256) (hlen : es.length < 1000000) {v : AV} {H : Hp} (hv : IsE H v es) (a : Int) :
  Ok (C k (.f qny) [.agg [.int .i64 (.ofNat n), v], .int .i64 a] H) fun r H' => r = .int .i64 (.ofNat (if 0 ≤ a ∧ a < n then 0 else 4)) ∧ Fm No H H' := by
 obtain ⟨j, rfl⟩ : ∃ j, k = j + 1 := ⟨k - 1, by omega⟩
 rw [(hC j).gOfN]
 unfold gOfN q78
 simp (disch := first | omega | exact ti rfl | (simp only [np, nq]; first | done | omega)) only [go_sem, reduceAdd, reduceMul, reduceSub, reduceLeDiff, reduceEqDiff, reduceShiftRight, reduceAnd]
 have fH : Fm No H (qak H (qaa 0 [.int .i64 (.ofNat n), v])) := by (repeat (first | exact Fm.refl _ _ | assumption | refine Fm.push ?_ _ | refine Fm.up2 ?_ (by (first | omega | (simp only [np, nq]; omega))) | refine Fm.put_new ?_ _ _ (by (first | omega | (simp only [np, nq]; omega)))))
 refine Ok.ve (q1m hC (by omega) hE hn hlen (hv.fm fH)) ?_
 rintro r H' ⟨rfl, f'⟩
 have k1 : H'.get H.nx = qaa 0 [.int .i64 (.ofNat n), v] := (f'.keep (by (first | omega | (simp only [np, nq]; omega)))).trans (qaj _ _)
 simp (disch := first | omega | exact ti rfl | (simp only [np, nq]; first | done | omega)) only [go_sem, reduceAdd, reduceMul, reduceSub, reduceLeDiff, reduceEqDiff, reduceShiftRight, reduceAnd]
 unfold qyk qyl
 by_cases h1 : a < Int.ofNat 0
 ·simp (disch := first | omega | exact ti rfl | (simp only [np, nq]; first | done | omega)) only [go_sem, reduceAdd, reduceMul, reduceSub, reduceLeDiff, reduceEqDiff, reduceShiftRight, reduceAnd, h1, k1]
  refine Ok.ret ⟨?_, fH.trans f'⟩
  rw [if_neg (by simp only [Int.ofNat_eq_natCast] at h1; omega)]
 ·by_cases h2 : Int.ofNat n ≤ a
  ·simp (disch := first | omega | exact ti rfl | (simp only [np, nq]; first | done | omega)) only [go_sem, reduceAdd, reduceMul, reduceSub, reduceLeDiff, reduceEqDiff, reduceShiftRight, reduceAnd, h1, h2, k1]
   refine Ok.ret ⟨?_, fH.trans f'⟩
   rw [if_neg (by simp only [Int.ofNat_eq_natCast] at h2; omega)]
  ·simp (disch := first | omega | exact ti rfl | (simp only [np, nq]; first | done | omega)) only [go_sem, reduceAdd, reduceMul, reduceSub, reduceLeDiff, reduceEqDiff, reduceShiftRight, reduceAnd, h1, h2, k1]
   refine Ok.ret ⟨?_, fH.trans f'⟩
   rw [if_pos (by simp only [Int.ofNat_eq_natCast] at h1 h2; omega)]
theorem q1k {call : Ev.Call} {H : Hp} {b m : Nat} {e : Bool} {q : Nat} {l : List Int} (h0 : H.get b = qaa q (ints l)) (hl : l.length < 1000000) :
  ∀ (k i : Nat), i ≤ l.length → l.length - i < k → qku call (fun x2 H => .ok x2 H) (fun H => qhc call (.int .i64 (.ofNat 0)) H) (.int .i64 (.ofNat 0)) (.sl b 0 l.length m e) (.int .i64 (.ofNat l.length)) k (.int .i64 (.ofNat i)) H = .ok (.int .i64 (orI (l.drop i))) H
 | 0, i, _, h => by omega
 | k + 1, i, hi, hk => by
  show qy3 call _ _ _ _ _ (qku call _ _ _ _ _ k) _ H = _
  unfold qy3
  by_cases hlt : i < l.length
  ·simp (disch := omega) only [go_sem, hlt]
   unfold qy1
   have hd : l.drop i = l[i] :: l.drop (i + 1) := List.drop_eq_getElem_cons hlt
   simp (disch := omega) only [go_sem, h0, qf6 _ _ hlt]
   rw [hd]
   show _ = R1.ok (.int .i64 (if l[i] = 0 then orI (l.drop (i + 1)) else l[i])) H
   by_cases hz : l[i] = Int.ofNat 0
   ·have hz' : l[i] = 0 := hz
    simp only [hz', go_sem]
    unfold qy2
    simp (disch := omega) only [go_sem]
    exact q1k h0 hl k (i + 1) (by omega) (by omega)
   ·have hz' : ¬ l[i] = 0 := hz
    simp only [hz, hz', go_sem]
  ·have hd : l.drop i = [] := List.drop_eq_nil_of_le (by omega)
   simp (disch := omega) only [go_sem, hlt]
   rw [hd]; unfold qhc; rfl
theorem zi0 (hC : qa7 C) {k : Nat} (hk : 1 ≤ k) {H : Hp} {b m : Nat} {e : Bool} {q n : Nat} {l : List Int} (hn : l.length = n) (h0 : H.get b = qaa q (ints l)) (hl : l.length < 1000000) :
  C k (.f qsx) [.sl b 0 n m e] H = .ok (.int .i64 (orI l)) H := by
 obtain ⟨j, rfl⟩ : ∃ j, k = j + 1 := ⟨k - 1, by omega⟩
 subst hn
 rw [(hC j).cOrE]
 unfold cOrE q9h qy4
 simp only [go_sem]
 rw [qaq]
 exact q1k h0 hl _ 0 (Nat.zero_le _) (by rw [qah]; omega)
theorem q1j {call : Ev.Call} {b q n m : Nat} {y : Bool} {l : List Int} (hn : l.length = n) (hlen : n < 1000000) {H0 : Hp} :
  ∀ (k i : Nat) (c : List Int) (H : Hp), i ≤ n - 1 - i + 1 → n - i < k → c.length = n → (∀ p, p < n → c[p]? = if p < i ∨ n - 1 - i < p then l[n - 1 - p]? else l[p]?) → 1 ≤ n → i ≤ n - 1 → H.get b = qaa q (ints c) → Fm (· = b) H0 H →
   Ok (qj0 call (fun H => .ok (.tup []) H) (.sl b 0 n m y) k (.int .i64 (.ofNat i)) (.int .i64 (.ofNat (n - 1 - i))) H) fun v H' => v = .tup [] ∧ H'.get b = qaa q (ints l.reverse) ∧ Fm (· = b) H0 H'
 | 0, i, _, _, _, h, _, _, _, _, _, _ => by omega
 | k + 1, i, c, H, hi, hk, hc, hp, h1, hin, hb, hfm => by
  show Ok (qw0 call _ _ (qj0 call _ _ k) _ _ H) _
  unfold qw0
  by_cases hlt : i < n - 1 - i
  ·simp (disch := first | omega | exact ti rfl | (simp only [np, nq]; first | done | omega)) only [go_sem, reduceAdd, reduceMul, reduceSub, reduceLeDiff, reduceEqDiff, reduceShiftRight, reduceAnd, hlt]
   unfold qq7
   have g1 := qf6 c i (by omega)
   have g2 := qf6 c (n - 1 - i) (by omega)
   have hc2 : (c.set i c[n - 1 - i]).length = n := by rw [List.length_set]; exact hc
   simp (disch := first | omega | exact ti rfl | (simp only [np, nq]; first | done | omega)) only [go_sem, reduceAdd, reduceMul, reduceSub, reduceLeDiff, reduceEqDiff, reduceShiftRight, reduceAnd, hb, g1, g2, qbp, hc, show i + 1 ≤ n by omega, show n - 1 - i + 1 ≤ n by omega, ints_set, List.length_set]
   unfold qwz
   simp (disch := first | omega | exact ti rfl | (simp only [np, nq]; first | done | omega)) only [go_sem, reduceAdd, reduceMul, reduceSub, reduceLeDiff, reduceEqDiff, reduceShiftRight, reduceAnd]
   rw [show n - 1 - i - 1 = n - 1 - (i + 1) by omega]
   refine q1j hn hlen k (i + 1) ((c.set i c[n - 1 - i]).set (n - 1 - i) c[i]) _ (by omega) (by omega) (by simp; exact hc) (fun p hpn => ?_) h1 (by omega) (qac _ _ _) (by (repeat (first | exact Fm.refl _ _ | assumption | refine Fm.push ?_ _ | refine Fm.up2 ?_ (by (first | omega | (simp only [np, nq]; omega))) | refine Fm.put_new ?_ _ _ (by (first | omega | (simp only [np, nq]; omega))) | refine Fm.put ?_ _ _ (fun _ => rfl))))
   have i1 : c[i]? = some c[i] := List.getElem?_eq_getElem (by omega)
   have i2 : c[n - 1 - i]? = some c[n - 1 - i] := List.getElem?_eq_getElem (by omega)
   rw [hp i (by omega), if_neg (by omega)] at i1
   rw [hp (n - 1 - i) (by omega), if_neg (by omega)] at i2
   by_cases h2 : p = n - 1 - i
   ·subst h2
    rw [List.getElem?_set_self (by simp; omega), if_pos (by omega), ← i1]
    congr 1; omega
   ·rw [List.getElem?_set_ne (fun e => h2 e.symm)]
    by_cases h3 : p = i
    ·subst h3
     rw [List.getElem?_set_self (by omega), if_pos (by omega), ← i2]
    ·rw [List.getElem?_set_ne (fun e => h3 e.symm), hp p hpn]
     by_cases h4 : p < i ∨ n - 1 - i < p
     ·rw [if_pos h4, if_pos (by omega)]
     ·rw [if_neg h4, if_neg (by omega)]
  ·simp (disch := first | omega | exact ti rfl | (simp only [np, nq]; first | done | omega)) only [go_sem, reduceAdd, reduceMul, reduceSub, reduceLeDiff, reduceEqDiff, reduceShiftRight, reduceAnd, hlt]
   refine Ok.ret ⟨rfl, ?_, hfm⟩
   rw [hb]
   congr 2
   apply List.ext_getElem?
   intro p
   by_cases h : p < n
   ·rw [hp p h, List.getElem?_reverse (by omega), hn]
    split
    ·rfl
    ·congr 1; omega
   ·rw [List.getElem?_eq_none (by omega), List.getElem?_eq_none (by rw [List.length_reverse]; omega)]
theorem ziy (hC : qa7 C) {k : Nat} (hk : 1 ≤ k) {H : Hp} {b q n m : Nat} {y : Bool} {l : List Int} (hn : l.length = n) (h1 : 1 ≤ n) (hlen : n < 1000000) (hb : H.get b = qaa q (ints l)) :
  Ok (C k (.f qsj) [.sl b 0 n m y] H) fun _ H' => H'.get b = qaa q (ints l.reverse) ∧ Fm (· = b) H H' := by
 obtain ⟨j, rfl⟩ : ∃ j, k = j + 1 := ⟨k - 1, by omega⟩
 rw [(hC j).sRvs]
 unfold sRvs q5a qw1
 simp (disch := first | omega | exact ti rfl | (simp only [np, nq]; first | done | omega)) only [go_sem, reduceAdd, reduceMul, reduceSub, reduceLeDiff, reduceEqDiff, reduceShiftRight, reduceAnd]
 rw [qaq]
 exact (q1j hn hlen qal 0 l H (by omega) (by rw [qah]; omega) hn (fun p hp => by rw [if_neg (by omega)]) h1 (by omega) hb (Fm.refl _ _)).mono fun v H' h => h.2
inductive Ch (f : List Int) (a : Nat) : List Nat → Prop
 | one : Ch f a [a]
 | cons {x y : Nat} {l : List Nat} : x ≠ a → x < 256 → f[x]? = some (.ofNat y) → Ch f a (y :: l) → Ch f a (x :: y :: l)
theorem qwh {call : Ev.Call} {fb a : Nat} {f : List Int} {H1 : Hp} (hfb : fb < H1.nx) (hbf : H1.get fb = qaa 0 (ints f)) {Q : AV → Hp → Prop} {q9 : AV → Hp → R1} (o : List Nat)
  (hq : ∀ b q n y H, o.length = n → (y = true ∨ q = 1) → H.get b = qaa q (nats o) → b < H.nx → H1.nx ≤ b → Fm No H1 H → Ok (q9 (.sl b 0 n n y) H) Q) :
  ∀ (k : Nat) (l o' : List Nat) (x : Nat) (b q m : Nat) (y : Bool) (H : Hp), Ch f a (x :: l) → l.length < k → o = o' ++ l → o.length < 100000 → (y = true ∨ q = 1) → m = o'.length → H.get b = qaa q (nats o') → b < H.nx → H1.nx ≤ b → Fm No H1 H →
   Ok (qn4 call q9 (.int .i64 (.ofNat a)) (.ptr fb 0) k (.sl b 0 o'.length m y) (.int .i64 (.ofNat x)) H) Q
 | 0, _, _, _, _, _, _, _, _, _, h, _, _, _, _, _, _, _, _ => by omega
 | k + 1, l, o', x, b, q, m, y, H, hch, hk, ho, hsz, hy, hm, hb, hbn, hbl, hfm => by
  show Ok (qyi call _ _ _ (qn4 call _ _ _ k) _ _ H) Q
  unfold qyi
  cases hch with
  | one =>
   simp (disch := first | omega | exact ti rfl | (simp only [np, nq]; first | done | omega)) only [go_sem, reduceAdd, reduceMul, reduceSub, reduceLeDiff, reduceEqDiff, reduceShiftRight, reduceAnd]
   have : o = o' := by rw [ho, List.append_nil]
   subst this
   subst hm
   exact hq b q _ y H rfl hy hb hbn hbl hfm
  | @cons _ z l' hne hx hf hch' =>
   simp (disch := first | omega | exact ti rfl | (simp only [np, nq]; first | done | omega)) only [go_sem, reduceAdd, reduceMul, reduceSub, reduceLeDiff, reduceEqDiff, reduceShiftRight, reduceAnd, hne]
   unfold qtc
   have hf' : (ints f)[x]? = some (.int .i64 (.ofNat z)) := by
    unfold ints; rw [List.getElem?_map, hf]; rfl
   have k1 : H.get fb = qaa 0 (ints f) := (hfm.keep hfb).trans hbf
   simp (disch := first | omega | exact ti rfl | (simp only [np, nq]; first | done | omega)) only [go_sem, reduceAdd, reduceMul, reduceSub, reduceLeDiff, reduceEqDiff, reduceShiftRight, reduceAnd, hx, k1, hf']
   have gl : Gl 1 (qak H (qaa 0 [.int .i64 (.ofNat z)])) (.sl b 0 o'.length m y) o'.length (nats o') := by
    subst hm
    exact ⟨by simp [nats], .inr ⟨b, 0, y, q, nats o', rfl, (qbb _ _ _ hbn).trans hb, Nat.zero_le _, rfl, hy, by (first | omega | (simp only [np, nq]; omega))⟩⟩
   have hol : o.length = o'.length + (l'.length + 1) := by rw [ho]; simp
   obtain ⟨H', e, gl', hg', fm', nx'⟩ := gl.append (k := 1) (w := 8) (x := [.int .i64 (.ofNat z)]) (by omega) rfl (by omega) (by omega)
   refine Ok.veE e ?_
   have hnx := hfm.nx
   rw [qr3] at hg'
   have hl2 : (o' ++ [z]).length = o'.length + 1 := by simp
   rw [← hl2]
   refine qwh hfb hbf o hq k l' (o' ++ [z]) z _ 1 _ false H' hch' (by simp at hk; omega) (by rw [ho]; simp) hsz (.inr rfl) rfl hg' (by rw [nx']; omega) (by (first | omega | (simp only [np, nq]; omega))) ?_
   have f1 : Fm No H1 (qak H (qaa 0 [.int .i64 (.ofNat z)])) := hfm.push _
   exact f1.then fm' fun c hc h => by obtain ⟨_, _, _, _, h'⟩ := h; cases h'; omega
structure WOk (n : Nat) (es : List Edge) (a m : Nat) : Prop where
 ed : qe8 n es
 n : n ≤ 256
 len : es.length < 1000
 mm : m < 1000
 ends : q3h es m (qa2 a)
def errN (n : Nat) (a : Int) : Int := .ofNat (if 0 ≤ a ∧ a < n then 0 else 4)
theorem q96 (hC : qa7 C) {j : Nat} (hj : 5 ≤ j) {n : Nat} {es : List Edge} (hE : qe8 n es) (hn : n ≤ 256) (hlen : es.length < 1000) {v : AV} {H : Hp} (hv : IsE H v es) (a b : Int) {Q : AV → Hp → Prop}
  (hQ : ∀ H2, Fm No H H2 → H2.get H.nx = qaa 0 [.int .i64 (.ofNat n), v] → H.nx < H2.nx → Ok (cd (.bool !decide (orI [errN n a, errN n b] = Int.ofNat 0)) (.ok (.tup [(.nilsl), .int .i64 (orI [errN n a, errN n b])]) H2) (qlv (C j) (.int .i64 a) (.int .i64 b) (.ptr H.nx 0) H2)) Q) :
  Ok (C (j + 1) (.f qnx) [.agg [.int .i64 (.ofNat n), v], .int .i64 a, .int .i64 b] H) Q := by
 rw [(hC j).gPth]
 unfold gPth q76
 have fH : Fm No H (qak H (qaa 0 [.int .i64 (.ofNat n), v])) := by (repeat (first | exact Fm.refl _ _ | assumption | refine Fm.push ?_ _ | refine Fm.up2 ?_ (by (first | omega | (simp only [np, nq]; omega))) | refine Fm.put_new ?_ _ _ (by (first | omega | (simp only [np, nq]; omega)))))
 have hG := hv.eqG (.ofNat n)
 simp (disch := first | omega | exact ti rfl | (simp only [np, nq]; first | done | omega)) only [go_sem, reduceAdd, reduceMul, reduceSub, reduceLeDiff, reduceEqDiff, reduceShiftRight, reduceAnd]
 have f1 : Fm No H ⟨(qak H (qaa 0 [.int .i64 (.ofNat n), v])).t, H.nx + 1 + 9⟩ := by (repeat (first | exact Fm.refl _ _ | assumption | refine Fm.push ?_ _ | refine Fm.up2 ?_ (by (first | omega | (simp only [np, nq]; omega))) | refine Fm.put_new ?_ _ _ (by (first | omega | (simp only [np, nq]; omega)))))
 refine Ok.deO (zg7 hC (by omega) hE hn (by omega) (hv.fm f1) a) ?_
 rintro r1 H1 ⟨rfl, g1⟩
 have k1 : H1.get H.nx = qaa 0 [.int .i64 (.ofNat n), v] := (g1.keep (by (first | omega | (simp only [np, nq]; omega)))).trans (by simp (disch := first | omega | exact ti rfl | (simp only [np, nq]; first | done | omega)) only [go_sem, reduceAdd, reduceMul, reduceSub, reduceLeDiff, reduceEqDiff, reduceShiftRight, reduceAnd])
 have n1 := g1.nx
 have n1' : H.nx + 1 + 9 ≤ H1.nx := n1
 simp (disch := first | omega | exact ti rfl | (simp only [np, nq]; first | done | omega)) only [go_sem, reduceAdd, reduceMul, reduceSub, reduceLeDiff, reduceEqDiff, reduceShiftRight, reduceAnd, k1, hG]
 refine Ok.deO (zg7 hC (by omega) hE hn (by omega) (hv.fm (f1.trans g1)) b) ?_
 rintro r2 H2 ⟨rfl, g2⟩
 have k2 : H2.get H.nx = qaa 0 [.int .i64 (.ofNat n), v] := (g2.keep (by omega)).trans k1
 have n2 := g2.nx
 simp (disch := first | omega | exact ti rfl | (simp only [np, nq]; first | done | omega)) only [go_sem, reduceAdd, reduceMul, reduceSub, reduceLeDiff, reduceEqDiff, reduceShiftRight, reduceAnd, k2, hG]
 refine Ok.deE (zi0 hC (show 1 ≤ j by omega) (l := [errN n a, errN n b]) rfl (qac _ _ _) (by simp)) ?_
 simp (disch := first | omega | exact ti rfl | (simp only [np, nq]; first | done | omega)) only [go_sem, reduceAdd, reduceMul, reduceSub, reduceLeDiff, reduceEqDiff, reduceShiftRight, reduceAnd]
 have f2 := f1.trans (g1.trans g2)
 refine hQ _ ?_ ?_ ?_
 ·(repeat (first | exact Fm.refl _ _ | assumption | refine Fm.push ?_ _ | refine Fm.up2 ?_ (by (first | omega | (simp only [np, nq]; omega))) | refine Fm.put_new ?_ _ _ (by (first | omega | (simp only [np, nq]; omega)))))
 ·simp (disch := first | omega | exact ti rfl | (simp only [np, nq]; first | done | omega)) only [go_sem, reduceAdd, reduceMul, reduceSub, reduceLeDiff, reduceEqDiff, reduceShiftRight, reduceAnd, k2]
 ·(first | omega | (simp only [np, nq]; omega))
theorem zf8 (hC : qa7 C) {k : Nat} (hk : 6 ≤ k) {n : Nat} {es : List Edge} {v : AV} {H : Hp} (hv : IsE H v es) {a b m : Nat} (W : WOk n es a m) (ha : a < n) (hb : b < n) {Q : AV → Hp → Prop}
  (h8 : (bfs es m (qa2 a)).getD b 0 < 0 → ∀ H', Fm No H H' → Q (.tup [.nilsl, .int .i64 (.ofNat 8)]) H')
  (h0 : ¬ (bfs es m (qa2 a)).getD b 0 < 0 → ∃ l, Ch (bfs es m (qa2 a)) a (b :: l) ∧ l.length < 1000 ∧ ∀ H' w, Fm No H H' → Gl 1 H' w (l.length + 1) (nats (b :: l).reverse) → capV w = .val (.int .i64 (.ofNat (l.length + 1))) → (∀ b, In w b → H.nx ≤ b) → Q (.tup [w, .int .i64 (.ofNat 0)]) H') :
  Ok (C k (.f qnx) [.agg [.int .i64 (.ofNat n), v], .int .i64 (.ofNat a), .int .i64 (.ofNat b)] H) Q := by
 obtain ⟨j, rfl⟩ : ∃ j, k = j + 1 := ⟨k - 1, by omega⟩
 have hn := W.n
 refine q96 hC (by omega) W.ed W.n W.len hv (.ofNat a) (.ofNat b) fun H2 f2 k2 n2 => ?_
 have : orI [errN n (.ofNat a), errN n (.ofNat b)] = .ofNat 0 := by
  unfold errN
  rw [if_pos (by simp only [Int.ofNat_eq_natCast]; omega), if_pos (by simp only [Int.ofNat_eq_natCast]; omega)]; rfl
 rw [this]
 simp (disch := first | omega | exact ti rfl | (simp only [np, nq]; first | done | omega)) only [go_sem, reduceAdd, reduceMul, reduceSub, reduceLeDiff, reduceEqDiff, reduceShiftRight, reduceAnd]
 unfold qlv
 simp (disch := first | omega | exact ti rfl | (simp only [np, nq]; first | done | omega)) only [go_sem, reduceAdd, reduceMul, reduceSub, reduceLeDiff, reduceEqDiff, reduceShiftRight, reduceAnd, k2]
 refine Ok.ve (zcg hC (by omega) W.ed.rng W.n W.len (hv.fm f2) ha m W.mm W.ends) ?_
 rintro r H3 ⟨rfl, hl, f3⟩
 have hget : (ints (bfs es m (qa2 a)))[b]? = some (.int .i64 ((bfs es m (qa2 a)).getD b 0)) := by
  rw [qf6 _ _ (by omega)]; simp [List.getD_eq_getElem?_getD, show b < (bfs es m (qa2 a)).length by omega]
 have hsl : setL (List.replicate 256 (.int .i64 (.ofNat 0))) 0 (ints (bfs es m (qa2 a))) = ints (bfs es m (qa2 a)) := qq2 _ _ (by unfold Tr; rw [qbp, List.length_replicate, hl]; rfl)
 simp (disch := first | omega | exact ti rfl | (simp only [np, nq]; first | done | omega)) only [go_sem, reduceAdd, reduceMul, reduceSub, reduceLeDiff, reduceEqDiff, reduceShiftRight, reduceAnd, qbp, hl, List.length_replicate, hsl, show b < 256 by omega, hget]
 have f4 : Fm No H ((qak H3 (qaa 0 (List.replicate 256 (.int .i64 (.ofNat 0))))).put H3.nx (qaa 0 (ints (bfs es m (qa2 a))))) := by
  have := f2.trans f3
  have := this.nx
  (repeat (first | exact Fm.refl _ _ | assumption | refine Fm.push ?_ _ | refine Fm.up2 ?_ (by (first | omega | (simp only [np, nq]; omega))) | refine Fm.put_new ?_ _ _ (by (first | omega | (simp only [np, nq]; omega)))))
 by_cases hneg : (bfs es m (qa2 a)).getD b 0 < Int.ofNat 0
 ·simp (disch := first | omega | exact ti rfl | (simp only [np, nq]; first | done | omega)) only [go_sem, reduceAdd, reduceMul, reduceSub, reduceLeDiff, reduceEqDiff, reduceShiftRight, reduceAnd, hneg]
  exact Ok.ret (h8 hneg _ f4)
 ·simp (disch := first | omega | exact ti rfl | (simp only [np, nq]; first | done | omega)) only [go_sem, reduceAdd, reduceMul, reduceSub, reduceLeDiff, reduceEqDiff, reduceShiftRight, reduceAnd, hneg]
  obtain ⟨l, hch, hll, hQ⟩ := h0 hneg
  unfold qtb qyj
  simp (disch := first | omega | exact ti rfl | (simp only [np, nq]; first | done | omega)) only [go_sem, reduceAdd, reduceMul, reduceSub, reduceLeDiff, reduceEqDiff, reduceShiftRight, reduceAnd]
  rw [qaq]
  have n3 := (f2.trans f3).nx
  refine qwh (H1 := (qak H3 (qaa 0 (List.replicate 256 (.int .i64 (.ofNat 0))))).put H3.nx (qaa 0 (ints (bfs es m (qa2 a))))) (f := bfs es m (qa2 a)) (by (first | omega | (simp only [np, nq]; omega))) (by simp (disch := first | omega | exact ti rfl | (simp only [np, nq]; first | done | omega)) only [go_sem, reduceAdd, reduceMul, reduceSub, reduceLeDiff, reduceEqDiff, reduceShiftRight, reduceAnd]) (b :: l) ?_ qal l [b] b _ 0 1 true _ hch (by rw [qah]; omega) rfl (by simp; omega) (.inl rfl) rfl ?_ ?_ ?_ ((Fm.refl _ _).push _)
  ·intro b' q n' y H5 hn' hy hb' hbl hb1 f5
   subst hn'
   unfold qki
   have hb2 : H5.get b' = qaa q (ints ((b :: l).map Int.ofNat)) := by rw [hb', qg3]
   refine Ok.ve (ziy hC (show 1 ≤ j by omega) (l := (b :: l).map Int.ofNat) (by simp) (by simp) (by simp; omega) hb2) ?_
   rintro _ H6 ⟨hb6, f6⟩
   rw [← List.map_reverse, qg3] at hb6
   have gl : Gl 1 H6 (.sl b' 0 (b :: l).length (b :: l).length y) (b :: l).length (nats (b :: l).reverse) :=
    ⟨by simp [nats], .inr ⟨b', 0, y, q, _, rfl, hb6, Nat.zero_le _, rfl, hy, Nat.lt_of_lt_of_le hbl f6.nx⟩⟩
   obtain ⟨w, e, gw, hc, hw⟩ := qzn hC (show 1 ≤ j by omega) gl
   refine Ok.veE e ?_
   have hb1' : H3.nx + 1 ≤ b' := hb1
   refine Ok.ret (hQ H6 w ?_ (by simpa using gw) (by simpa using hc) (fun c hc => ?_))
   ·have f45 : Fm No H H5 := f4.trans f5
    exact f45.then f6 fun c hc h => by omega
   ·obtain ⟨_, _, _, _, h'⟩ := hw c hc
    cases h'
    omega
  ·exact qaj _ _
  ·(first | omega | (simp only [np, nq]; omega))
  ·exact Nat.le_refl _
end Go.Di
end
section
/-
 Contracts: what is reached.
-/
namespace Go.Di
open Go.Ev
variable {C : Nat → Ev.Call}
def qus (f : List Int) (i : Nat) : List Nat := (List.range i).filter fun j => !decide (f.getD j 0 < 0)
theorem qxc (f : List Int) (i : Nat) : qus f (i + 1) = qus f i ++ (if f.getD i 0 < 0 then [] else [i]) := by
 unfold qus
 rw [List.range_succ, List.filter_append]
 by_cases h : f.getD i 0 < 0
 ·rw [if_pos h]
  have : List.filter (fun j => !decide (f.getD j 0 < 0)) [i] = [] := by rw [List.filter_cons, if_neg (by simp only [h, decide_true, Bool.not_true]; exact Bool.false_ne_true)]; rfl
  rw [this]
 ·rw [if_neg h]
  have : List.filter (fun j => !decide (f.getD j 0 < 0)) [i] = [i] := by rw [List.filter_cons, if_pos (by simp only [h, decide_false, Bool.not_false])]; rfl
  rw [this]
end Go.Di
end
section
/-
 Contracts: the path of the reference.
-/
namespace Go.Di
open Go.Ev
variable {C : Nat → Ev.Call}
def Nx (n : Nat) (ms : List Nat) (d : List Int) (b a k : Nat) : Prop := 0 < ms.getD (a * n + k) 0 ∧ 0 ≤ d.getD (k * n + b) 0 ∧ d.getD (k * n + b) 0 = d.getD (a * n + b) 0 - 1
structure zdp (n : Nat) (ms : List Nat) (d : List Int) (b a x : Nat) : Prop where
 lt : x < n
 is : Nx n ms d b a x
 least : ∀ k, k < x → ¬ Nx n ms d b a k
inductive Gp (n : Nat) (ms : List Nat) (d : List Int) (b : Nat) : Nat → List Nat → Prop
 | nil : Gp n ms d b b []
 | cons {a x : Nat} {l : List Nat} : a ≠ b → zdp n ms d b a x → Gp n ms d b x l → Gp n ms d b a (x :: l)
theorem P_in {call : Ev.Call} {n g db mb a b : Nat} {ms : List Nat} {d : List Int} {H : Hp} {Q : AV → Hp → Prop} {q9 : AV → Hp → R1} (hM : MOk n ms) (hgv : H.get g = qaa 0 [.int .i64 (.ofNat n), .sl mb 0 (n * n) (n * n) true])
  (hms : H.get mb = qaa 0 (nats ms)) (hd : H.get db = qaa 0 (ints d)) (hdl : d.length = n * n) (hB : Bnd d) (ha : a < n) (hb : b < n) {x : Nat} (hx : zdp n ms d b a x) (hq : Ok (q9 (.int .i64 (.ofNat x)) H) Q) :
  ∀ (f k : Nat), k ≤ x → n - k + 1 < f → Ok (qfy call q9 (.int .i64 (.ofNat a)) (.int .i64 (.ofNat b)) (.ptr g 0) (.sl db 0 (n * n) (n * n) true) f (.int .i64 (.negSucc 0)) (.int .i64 (.ofNat k)) H) Q
 | 0, k, _, h => by omega
 | f + 1, k, hk, hf => by
  have hlt : k < n := by have := hx.lt; omega
  show Ok (qmr call _ _ _ _ _ (qfy call _ _ _ _ _ f) _ _ H) Q
  unfold qmr
  simp (disch := first | omega | exact ti rfl | (simp only [np, nq]; first | done | omega)) only [go_sem, reduceAdd, reduceMul, reduceSub, reduceLeDiff, reduceEqDiff, reduceShiftRight, reduceAnd, hgv, hlt]
  unfold qrq
  have hsq := qmg hM.hn
  have hml := hM.len
  have i1 := qcl ha hlt
  have i2 := qcl hlt hb
  have i3 := qcl ha hb
  have gm : (nats ms)[a * n + k]? = some (.int .i64 (.ofNat (ms.getD (a * n + k) 0))) := by
   rw [qf5 _ _ (by omega)]; simp [List.getD_eq_getElem?_getD, show a * n + k < ms.length by omega]
  have gA := qea d (k * n + b) (by omega)
  have gB := qea d (a * n + b) (by omega)
  have bA := hB (k * n + b)
  have bB := hB (a * n + b)
  have stop : ∀ r : Nat, r = x → Ok (qfy call q9 (.int .i64 (.ofNat a)) (.int .i64 (.ofNat b)) (.ptr g 0) (.sl db 0 (n * n) (n * n) true) f (.int .i64 (.ofNat r)) (.int .i64 (.ofNat (k + 1))) H) Q := by
   intro r hr
   subst hr
   cases f with
   | zero => omega
   | succ f =>
    show Ok (qmr call _ _ _ _ _ (qfy call _ _ _ _ _ f) _ _ H) Q
    unfold qmr
    by_cases h : k + 1 < n
    ·simp (disch := first | omega | exact ti rfl | (simp only [np, nq]; first | done | omega)) only [go_sem, reduceAdd, reduceMul, reduceSub, reduceLeDiff, reduceEqDiff, reduceShiftRight, reduceAnd, hgv, h, Nat.not_lt_zero]
     exact hq
    ·simp (disch := first | omega | exact ti rfl | (simp only [np, nq]; first | done | omega)) only [go_sem, reduceAdd, reduceMul, reduceSub, reduceLeDiff, reduceEqDiff, reduceShiftRight, reduceAnd, hgv, h]
     exact hq
  have go : ¬ Nx n ms d b a k → Ok (qfy call q9 (.int .i64 (.ofNat a)) (.int .i64 (.ofNat b)) (.ptr g 0) (.sl db 0 (n * n) (n * n) true) f (.int .i64 (.negSucc 0)) (.int .i64 (.ofNat (k + 1))) H) Q := by
   intro hne
   have : k ≠ x := fun e => hne (e ▸ hx.is)
   exact P_in hM hgv hms hd hdl hB ha hb hx hq f (k + 1) (by omega) (by omega)
  have hsub : intV (qab .sub).f (.int .i64 (d.getD (a * n + b) 0)) (.int .i64 (.ofNat 1)) = .val (.int .i64 (d.getD (a * n + b) 0 - Int.ofNat 1)) :=
   zd2 _ _ (by simp only [Int.ofNat_eq_natCast]; omega) (by simp only [Int.ofNat_eq_natCast]; omega)
  by_cases h1 : 0 < ms.getD (a * n + k) 0
  ·by_cases h2 : Int.ofNat 0 ≤ d.getD (k * n + b) 0
   ·by_cases h3 : d.getD (k * n + b) 0 = d.getD (a * n + b) 0 - Int.ofNat 1
    ·have h3' : (d.getD (k * n + b) 0 = d.getD (a * n + b) 0 - Int.ofNat 1) = True := eq_true h3
     simp (disch := first | omega | exact ti rfl | (simp only [np, nq]; first | done | omega)) only [go_sem, reduceAdd, reduceMul, reduceSub, reduceLeDiff, reduceEqDiff, reduceShiftRight, reduceAnd, hgv, hms, hd, gm, gA, gB, h1, h2, h3', hsub]
     unfold qfz
     simp (disch := first | omega | exact ti rfl | (simp only [np, nq]; first | done | omega)) only [go_sem, reduceAdd, reduceMul, reduceSub, reduceLeDiff, reduceEqDiff, reduceShiftRight, reduceAnd]
     refine stop k ?_
     rcases Nat.lt_trichotomy k x with h | h | h
     ·exact absurd ⟨h1, h2, h3⟩ (hx.least k h)
     ·exact h
     ·omega
    ·have h3' : (d.getD (k * n + b) 0 = d.getD (a * n + b) 0 - Int.ofNat 1) = False := eq_false h3
     simp (disch := first | omega | exact ti rfl | (simp only [np, nq]; first | done | omega)) only [go_sem, reduceAdd, reduceMul, reduceSub, reduceLeDiff, reduceEqDiff, reduceShiftRight, reduceAnd, hgv, hms, hd, gm, gA, gB, h1, h2, h3', hsub]
     unfold qfz
     simp (disch := first | omega | exact ti rfl | (simp only [np, nq]; first | done | omega)) only [go_sem, reduceAdd, reduceMul, reduceSub, reduceLeDiff, reduceEqDiff, reduceShiftRight, reduceAnd]
     exact go fun h => h3 h.2.2
   ·simp (disch := first | omega | exact ti rfl | (simp only [np, nq]; first | done | omega)) only [go_sem, reduceAdd, reduceMul, reduceSub, reduceLeDiff, reduceEqDiff, reduceShiftRight, reduceAnd, hgv, hms, hd, gm, gA, gB, h1, h2]
    unfold qfz
    simp (disch := first | omega | exact ti rfl | (simp only [np, nq]; first | done | omega)) only [go_sem, reduceAdd, reduceMul, reduceSub, reduceLeDiff, reduceEqDiff, reduceShiftRight, reduceAnd]
    exact go fun h => h2 h.2.1
  ·simp (disch := first | omega | exact ti rfl | (simp only [np, nq]; first | done | omega)) only [go_sem, reduceAdd, reduceMul, reduceSub, reduceLeDiff, reduceEqDiff, reduceShiftRight, reduceAnd, hgv, hms, hd, gm, gA, gB, h1]
   unfold qfz
   simp (disch := first | omega | exact ti rfl | (simp only [np, nq]; first | done | omega)) only [go_sem, reduceAdd, reduceMul, reduceSub, reduceLeDiff, reduceEqDiff, reduceShiftRight, reduceAnd]
   exact go fun h => h1 h.1
theorem ziz {call : Ev.Call} {n g db mb b : Nat} {ms : List Nat} {d : List Int} {H1 : Hp} {Q : AV → Hp → Prop} {q5 : AV → Hp → R1} (hM : MOk n ms) (hg : g < H1.nx) (hgv : H1.get g = qaa 0 [.int .i64 (.ofNat n), .sl mb 0 (n * n) (n * n) true])
  (hmb : mb < H1.nx) (hms : H1.get mb = qaa 0 (nats ms)) (hdb : db < H1.nx) (hd : H1.get db = qaa 0 (ints d)) (hdl : d.length = n * n) (hB : Bnd d) (hb : b < n) (o : List Nat)
  (hq : ∀ w H, Gl 1 H w o.length (nats o) → Fm No H1 H → (∀ b, In w b → H1.nx ≤ b) → Ok (q5 w H) Q) :
  ∀ (f : Nat) (l o' : List Nat) (a : Nat) (w : AV) (H : Hp), Gp n ms d b a l → l.length < f → o = o' ++ l → o.length < 100000 → a < n → Gl 1 H w o'.length (nats o') → Fm No H1 H → (∀ b, In w b → H1.nx ≤ b) →
   Ok (qe1 call q5 (.int .i64 (.ofNat b)) (.ptr g 0) (.sl db 0 (n * n) (n * n) true) f (.int .i64 (.ofNat a)) w H) Q
 | 0, _, _, _, _, _, _, h, _, _, _, _, _, _ => by omega
 | f + 1, l, o', a, w, H, hgp, hf, ho, hsz, ha, hw, hfm, hwn => by
  show Ok (qxi call _ _ _ _ (qe1 call _ _ _ _ f) _ _ H) Q
  unfold qxi
  cases hgp with
  | nil =>
   simp (disch := first | omega | exact ti rfl | (simp only [np, nq]; first | done | omega)) only [go_sem, reduceAdd, reduceMul, reduceSub, reduceLeDiff, reduceEqDiff, reduceShiftRight, reduceAnd]
   have : o = o' := by rw [ho, List.append_nil]
   subst this
   exact hq w H hw hfm hwn
  | @cons _ x l' hne hx hgp' =>
   simp (disch := first | omega | exact ti rfl | (simp only [np, nq]; first | done | omega)) only [go_sem, reduceAdd, reduceMul, reduceSub, reduceLeDiff, reduceEqDiff, reduceShiftRight, reduceAnd, hne]
   unfold qrp qxj
   rw [qaq]
   have hn := hM.hn
   refine P_in hM ((hfm.keep hg).trans hgv) ((hfm.keep hmb).trans hms) ((hfm.keep hdb).trans hd) hdl hB ha hb hx ?_ qal 0 (Nat.zero_le _) (by rw [qah]; omega)
   unfold qik
   simp (disch := first | omega | exact ti rfl | (simp only [np, nq]; first | done | omega)) only [go_sem, reduceAdd, reduceMul, reduceSub, reduceLeDiff, reduceEqDiff, reduceShiftRight, reduceAnd]
   have hol : o.length = o'.length + (l'.length + 1) := by rw [ho]; simp
   have fH : Fm No H (qak H (qaa 0 [.int .i64 (.ofNat x)])) := by (repeat (first | exact Fm.refl _ _ | assumption | refine Fm.push ?_ _ | refine Fm.up2 ?_ (by (first | omega | (simp only [np, nq]; omega))) | refine Fm.put_new ?_ _ _ (by (first | omega | (simp only [np, nq]; omega)))))
   obtain ⟨H', e, gl', _, fm', nx'⟩ := (hw.no fH).append (k := 1) (w := 8) (x := [.int .i64 (.ofNat x)]) (by omega) rfl (by omega) (by omega)
   refine Ok.veE e ?_
   rw [qr3] at gl'
   have hl2 : (o' ++ [x]).length = o'.length + 1 := by simp
   have hnx := hfm.nx
   refine ziz hM hg hgv hmb hms hdb hd hdl hB hb o hq f l' (o' ++ [x]) x _ H' hgp' (by simp at hf; omega) (by rw [ho]; simp) hsz hx.lt (by rw [hl2]; exact gl') ((hfm.trans fH).then fm' fun c hc h => by have := hwn c h; omega) (fun b hb => ?_)
   obtain ⟨_, _, _, _, h⟩ := hb
   cases h
   show H1.nx ≤ H.nx + 1
   omega
theorem q2f (hC : qa7 C) {k : Nat} (hk : 2 ≤ k) {n mb a b : Nat} {ms : List Nat} {mv : AV} {H : Hp} (hM : IsM H mv mb n ms) (hB : DBnd n ms) (hB2 : Bnd (dist n ms)) (hdl : (dist n ms).length = n * n) (ha : a < n) (hb : b < n) {Q : AV → Hp → Prop}
  (h8 : (dist n ms).getD (a * n + b) 0 < 0 → ∀ H', Fm No H H' → Q .nilsl H')
  (h0 : ¬ (dist n ms).getD (a * n + b) 0 < 0 → ∃ l, Gp n ms (dist n ms) b a l ∧ l.length < 1000 ∧ ∀ w H', Gl 1 H' w (a :: l).length (nats (a :: l)) → Fm No H H' → (∀ b, In w b → H.nx ≤ b) → Q w H') :
  Ok (C k (.f qsq) [mv, .int .i64 (.ofNat a), .int .i64 (.ofNat b)] H) Q := by
 obtain ⟨j, rfl⟩ : ∃ j, k = j + 1 := ⟨k - 1, by omega⟩
 have hr := hM.hv
 subst hr
 rw [(hC j).rPth]
 unfold rPth q58
 have hn := hM.ok.hn
 have hsq := qmg hn
 have i1 := qcl ha hb
 have fH : Fm No H (qak H (qaa 0 [.int .i64 (.ofNat n), .sl mb 0 (n * n) (n * n) true])) := by (repeat (first | exact Fm.refl _ _ | assumption | refine Fm.push ?_ _ | refine Fm.up2 ?_ (by (first | omega | (simp only [np, nq]; omega))) | refine Fm.put_new ?_ _ _ (by (first | omega | (simp only [np, nq]; omega)))))
 simp (disch := first | omega | exact ti rfl | (simp only [np, nq]; first | done | omega)) only [go_sem, reduceAdd, reduceMul, reduceSub, reduceLeDiff, reduceEqDiff, reduceShiftRight, reduceAnd]
 refine Ok.ve (qox hC (by omega) (hM.fm fH) hB) ?_
 rintro r H1 ⟨rfl, hd, hdn, f1⟩
 have k1 : H1.get H.nx = qaa 0 [.int .i64 (.ofNat n), .sl mb 0 (n * n) (n * n) true] := (f1.keep (by (first | omega | (simp only [np, nq]; omega)))).trans (qaj _ _)
 have hd' : H1.get (H.nx + 1 + 1) = qaa 0 (ints (dist n ms)) := hd
 have hdn' : H.nx + 1 + 1 < H1.nx := hdn
 have gA := qea (dist n ms) (a * n + b) (by omega)
 have f2 := fH.trans f1
 by_cases hneg : (dist n ms).getD (a * n + b) 0 < Int.ofNat 0
 ·simp (disch := first | omega | exact ti rfl | (simp only [np, nq]; first | done | omega)) only [go_sem, reduceAdd, reduceMul, reduceSub, reduceLeDiff, reduceEqDiff, reduceShiftRight, reduceAnd, k1, hd', gA, hneg]
  exact Ok.ret (h8 hneg H1 f2)
 ·simp (disch := first | omega | exact ti rfl | (simp only [np, nq]; first | done | omega)) only [go_sem, reduceAdd, reduceMul, reduceSub, reduceLeDiff, reduceEqDiff, reduceShiftRight, reduceAnd, k1, hd', gA, hneg]
  obtain ⟨l, hgp, hll, hQ⟩ := h0 hneg
  unfold qro qxk
  simp (disch := first | omega | exact ti rfl | (simp only [np, nq]; first | done | omega)) only [go_sem, reduceAdd, reduceMul, reduceSub, reduceLeDiff, reduceEqDiff, reduceShiftRight, reduceAnd]
  rw [qaq]
  refine ziz (H1 := H1) hM.ok (by omega) k1 (Nat.lt_of_lt_of_le hM.lt f2.nx) ((f2.keep hM.lt).trans hM.get) hdn' hd' hdl hB2 hb (a :: l) (fun w H2 gw f3 hw => ?_) qal l [a] a _ _ hgp (by rw [qah]; omega) rfl (by simp; omega) ha ⟨rfl, .inr ⟨_, 0, true, 0, _, rfl, qaj _ _, Nat.zero_le _, rfl, .inl rfl, by (first | omega | (simp only [np, nq]; omega))⟩⟩ ((Fm.refl _ _).push _) (fun b hb => ?_)
  ·unfold qd2
   have := f2.nx
   exact Ok.ret (hQ w H2 gw (f2.trans f3) fun b hb => by have := hw b hb; omega)
  ·obtain ⟨_, _, _, _, h⟩ := hb
   cases h; exact Nat.le_refl _
end Go.Di
end
