/-
 For countersignlaw17.CompsMixed: the law. No conditions beyond those that each theorem states.
-/
import Derived.Test.YtmdpdlnabcmlmaaCompE
set_option linter.unusedSimpArgs false
set_option linter.unusedVariables false
section
/-
 Contracts: doubles taken out of an ascending list.
-/
namespace Go.Di
open Go.Ev Go.Di.T Go.Sort
open Nat (reduceAdd reduceMul reduceSub reduceLeDiff reduceEqDiff reduceShiftRight reduceAnd)
variable {C : Nat → Ev.Call}
theorem rdP {H : Hp} {b q : Nat} {P : List AV} {M : List Nat} (hg : H.get b = qab q (P ++ nats M)) {i : Nat} (h : i < M.length) : qba (H.get b) (P.length + i) = .val (.int .i64 (.ofNat M[i])) := by
 rw [hg, qci, List.getElem?_append_right (by omega), Nat.add_sub_cancel_left]
 unfold nats
 rw [List.getElem?_map, List.getElem?_eq_getElem h]; rfl
theorem setP (P : List AV) (M : List Nat) {i : Nat} (x : Nat) (h : i < M.length) : setL (P ++ nats M) (P.length + i) [.int .i64 (.ofNat x)] = P ++ nats (M.set i x) := by
 have hn : (nats M).length = M.length := qbd M
 unfold setL
 rw [List.take_append, List.take_of_length_le (by omega), List.drop_append, List.drop_eq_nil_of_le (by simp; omega)]
 rw [show P.length + i - P.length = i by omega, show P.length + i + [AV.int .i64 (.ofNat x)].length - P.length = i + 1 by simp; omega]
 have : nats (M.set i x) = (nats M).set i (.int .i64 (.ofNat x)) := by unfold nats; rw [List.map_set]
 rw [this, List.set_eq_take_append_cons_drop, if_pos (by omega)]
 simp
theorem zjq (P : List AV) (M : List Nat) {k n : Nat} (hl : M.length = n) (h : k ≤ n) : setL (P ++ nats M) (P.length + k) (reps [.int .i64 (.ofNat 0)] (n - k)) = P ++ nats (M.take k ++ List.replicate (n - k) 0) := by
 have hn : (nats M).length = n := by rw [qbd, hl]
 have hr : reps [.int .i64 (.ofNat 0)] (n - k) = nats (List.replicate (n - k) 0) := by rw [qcv]; unfold nats; rw [List.map_replicate]
 have hr2 : (nats (List.replicate (n - k) 0)).length = n - k := by rw [qbd, List.length_replicate]
 unfold setL
 rw [hr, hr2, List.take_append, List.take_of_length_le (by omega), List.drop_append, List.drop_eq_nil_of_le (by omega)]
 rw [show P.length + k - P.length = k by omega, List.drop_eq_nil_of_le (by omega)]
 have : nats (M.take k ++ List.replicate (n - k) 0) = (nats M).take k ++ nats (List.replicate (n - k) 0) := by unfold nats; rw [List.map_append, List.map_take]
 rw [this]
 simp
structure Cp (l M : List Nat) (k p : Nat) : Prop where
 len : M.length = l.length
 lt : k < p
 le : p ≤ l.length
 same : M.drop k = l.drop k
 asc : (M.take k).Pairwise (· < ·)
 mem : ∀ x, x ∈ M.take k ↔ x ∈ l.take p
theorem Cp.at {l M : List Nat} {k p i : Nat} (h : Cp l M k p) (hi : k ≤ i) (hil : i < l.length) : M[i]'(by rw [h.len]; exact hil) = l[i] := by
 have h1 : (M.drop k)[i - k]? = (l.drop k)[i - k]? := by rw [h.same]
 rw [List.getElem?_drop, List.getElem?_drop, show k + (i - k) = i by omega, List.getElem?_eq_getElem hil, List.getElem?_eq_getElem (by rw [h.len]; exact hil)] at h1
 exact Option.some.inj h1
theorem qee {l : List Nat} {p : Nat} (h : p < l.length) : l.take (p + 1) = l.take p ++ [l[p]] := List.take_succ_eq_append_getElem h
theorem qnu {l : List Nat} {p x : Nat} (h : x ∈ l.take p) : ∃ i, ∃ (hi : i < l.length), i < p ∧ l[i] = x := by
 obtain ⟨i, hi, e⟩ := List.mem_iff_getElem.1 h
 rw [List.length_take] at hi
 exact ⟨i, by omega, by omega, by rw [← e]; simp⟩
theorem Cp.eq {l M : List Nat} {k p : Nat} (h : Cp l M k p) (hp : p < l.length) (he : l[p] = l[p - 1]'(by omega)) : Cp l M k (p + 1) := by
 refine ⟨h.len, by have := h.lt; omega, hp, h.same, h.asc, fun x => (h.mem x).trans ?_⟩
 rw [qee hp, List.mem_append, List.mem_singleton]
 refine ⟨Or.inl, fun hx => hx.elim id fun hx => ?_⟩
 have h0 := h.lt
 rw [hx, he]
 have : l.take p = l.take (p - 1) ++ [l[p - 1]'(by omega)] := by
  have := qee (l := l) (p := p - 1) (by omega)
  rwa [show p - 1 + 1 = p by omega] at this
 exact this ▸ List.mem_append_right _ (List.mem_singleton.2 rfl)
theorem Cp.ne {l M : List Nat} {k p : Nat} (h : Cp l M k p) (hs : l.Pairwise (· ≤ ·)) (hp : p < l.length) (he : ¬ l[p] = l[p - 1]'(by omega)) : Cp l (M.set k l[p]) (k + 1) (p + 1) := by
 have h0 := h.lt
 have hml := h.len
 have ht : (M.set k l[p]).take (k + 1) = M.take k ++ [l[p]] := by
  rw [qee (l := M.set k l[p]) (p := k) (by rw [List.length_set]; omega), List.getElem_set_self, List.take_set_of_le (Nat.le_refl k)]
 refine ⟨by rw [List.length_set, hml], by omega, hp, ?_, ?_, fun x => ?_⟩
 ·rw [List.drop_set_of_lt (by omega)]
  have := congrArg (List.drop 1) h.same
  rwa [List.drop_drop, List.drop_drop] at this
 ·rw [ht, List.pairwise_append]
  refine ⟨h.asc, List.pairwise_singleton _ _, fun a ha b hb => ?_⟩
  rw [List.mem_singleton] at hb
  subst hb
  obtain ⟨i, hi, hip, rfl⟩ := qnu ((h.mem a).1 ha)
  have hs' := List.pairwise_iff_getElem.1 hs
  have a1 : l[p - 1]'(by omega) ≤ l[p] := hs' (p - 1) p (by omega) hp (by omega)
  have a2 : l[i] ≤ l[p - 1]'(by omega) := by
   rcases Nat.lt_or_ge i (p - 1) with h2 | h2
   ·exact hs' i (p - 1) hi (by omega) h2
   ·have : i = p - 1 := by omega
    subst this; exact Nat.le_refl _
  omega
 ·rw [ht, qee hp, List.mem_append, List.mem_append, h.mem x]
theorem qms {call : Ev.Call} {b o n q : Nat} {e : Bool} {P : List AV} {l : List Nat} (hs : l.Pairwise (· ≤ ·)) (hP : P.length = o) (hl : l.length = n) (hn : n < 900) {c0 : Nat} (hc0 : c0 < n) {H1 : Hp} {q2 : AV → Hp → R1} {Q : AV → Hp → Prop}
  (hq : ∀ M k H, Cp l M k n → H.get b = qab q (P ++ nats M) → Fm (fun c => c = b) H1 H → Ok (q2 (.int .i64 (.ofNat k)) H) Q) :
  ∀ (f k k2 : Nat) (M : List Nat) (H : Hp), n - (c0 + k2) < f → 1 ≤ k2 → Cp l M k (c0 + k2) → H.get b = qab q (P ++ nats M) → Fm (fun c => c = b) H1 H →
   Ok (qcf call q2 (.sl b o n n e) (.sl b (o + c0) (n - c0) (n - c0) e) f (.int .i64 (.ofNat k)) (.int .i64 (.ofNat k2)) H) Q
 | 0, k, k2, M, H, h, _, _, _, _ => by omega
 | f + 1, k, k2, M, H, h, h1, hC, hg, hF => by
  show Ok (qgs call _ _ _ (qcf call _ _ _ f) _ _ H) Q
  unfold qgs
  have hlt := hC.lt
  have hle := hC.le
  have hml := hC.len
  by_cases hk : k2 < n - c0
  ·have e1 := rdP hg (i := c0 + k2) (by omega)
   have e2 := rdP hg (i := c0 + (k2 - 1)) (by omega)
   rw [hC.at (by omega) (by omega), hP, ← Nat.add_assoc] at e1
   rw [hC.at (by omega) (by omega), hP, ← Nat.add_assoc] at e2
   simp (disch := first | omega | exact ti rfl | (simp only [np, nq]; first | done | omega)) only [go_sem, reduceAdd, reduceMul, reduceSub, reduceLeDiff, reduceEqDiff, reduceShiftRight, reduceAnd, hk]
   unfold qgr
   have hpe : l[c0 + k2 - 1]'(by omega) = l[c0 + (k2 - 1)]'(by omega) := by congr 1; omega
   by_cases he : l[c0 + k2]'(by omega) = l[c0 + k2 - 1]'(by omega)
   ·rw [he, hpe] at e1
    simp (disch := first | omega | exact ti rfl | (simp only [np, nq]; first | done | omega)) only [go_sem, reduceAdd, reduceMul, reduceSub, reduceLeDiff, reduceEqDiff, reduceShiftRight, reduceAnd, Nat.mul_one, e1, e2]
    unfold qcy
    simp (disch := first | omega | exact ti rfl | (simp only [np, nq]; first | done | omega)) only [go_sem, reduceAdd, reduceMul, reduceSub, reduceLeDiff, reduceEqDiff, reduceShiftRight, reduceAnd]
    exact qms hs hP hl hn hc0 hq f k (k2 + 1) M H (by omega) (by omega) (hC.eq (by omega) he) hg hF
   ·have he' : ¬ l[c0 + k2]'(by omega) = l[c0 + (k2 - 1)]'(by omega) := by rw [← hpe]; exact he
    have e3 := setP P M (i := k) (l[c0 + k2]'(by omega)) (by omega)
    rw [hP] at e3
    have e4 : ∀ x : AV, qiq (qab q (P ++ nats M)) (o + k) [x] = some (qab q (setL (P ++ nats M) (o + k) [x])) := fun x => by
     rw [qh5, if_pos]
     rw [List.length_append, qbd]; simp only [List.length_cons, List.length_nil]; omega
    simp (disch := first | omega | exact ti rfl | (simp only [np, nq]; first | done | omega)) only [go_sem, reduceAdd, reduceMul, reduceSub, reduceLeDiff, reduceEqDiff, reduceShiftRight, reduceAnd, Nat.mul_one, e1, e2, he']
    rw [hg] at *
    simp (disch := first | omega | exact ti rfl | (simp only [np, nq]; first | done | omega)) only [go_sem, reduceAdd, reduceMul, reduceSub, reduceLeDiff, reduceEqDiff, reduceShiftRight, reduceAnd, e4, e3]
    unfold qcy
    simp (disch := first | omega | exact ti rfl | (simp only [np, nq]; first | done | omega)) only [go_sem, reduceAdd, reduceMul, reduceSub, reduceLeDiff, reduceEqDiff, reduceShiftRight, reduceAnd]
    exact qms hs hP hl hn hc0 hq f (k + 1) (k2 + 1) _ _ (by omega) (by omega) (hC.ne hs (by omega) he) (qah _ _ _) (hF.put _ _ fun _ => rfl)
  ·simp (disch := first | omega | exact ti rfl | (simp only [np, nq]; first | done | omega)) only [go_sem, reduceAdd, reduceMul, reduceSub, reduceLeDiff, reduceEqDiff, reduceShiftRight, reduceAnd, hk]
   have : c0 + k2 = n := by omega
   rw [this] at hC
   exact hq M k H hC hg hF
theorem qqm {call : Ev.Call} {b o n q : Nat} {e : Bool} {P : List AV} {l : List Nat} (hs : l.Pairwise (· ≤ ·)) (hP : P.length = o) (hl : l.length = n) (hn : n < 900) {H : Hp} (hg : H.get b = qab q (P ++ nats l)) (hb : b < H.nx) (heq : e = true ∨ q = 1) {q2 : Hp → R1} {Q : AV → Hp → Prop}
  (hq : ∀ k R H', k ≤ n → R.length = k → R.Pairwise (· < ·) → (∀ x, x ∈ R ↔ x ∈ l) → Gs 1 H' (.sl b o k n e) k (nats R) → Fm (fun c => c = b) H H' → Q (.sl b o k n e) H') (hq2 : l.Pairwise (· < ·) → Ok (q2 H) Q) :
  ∀ (f k : Nat), n - k < f → 1 ≤ k → k ≤ n → (l.take k).Pairwise (· < ·) →
   Ok (qcr call (fun x H => .ok x H) q2 (.sl b o n n e) f (.int .i64 (.ofNat k)) H) Q
 | 0, k, h, _, _, _ => by omega
 | f + 1, k, h, h1, hk, ha => by
  show Ok (qhr call _ _ _ (qcr call _ _ _ f) _ H) Q
  unfold qhr
  by_cases hlt : k < n
  ·have e1 := rdP hg (i := k) (by omega)
   have e2 := rdP hg (i := k - 1) (by omega)
   rw [hP] at e1 e2
   simp (disch := first | omega | exact ti rfl | (simp only [np, nq]; first | done | omega)) only [go_sem, reduceAdd, reduceMul, reduceSub, reduceLeDiff, reduceEqDiff, reduceShiftRight, reduceAnd, hlt]
   unfold qgq
   by_cases he : l[k]'(by omega) = l[k - 1]'(by omega)
   ·rw [he] at e1
    have e3 := qle 1 b o n n e (a := k) (by omega) (Nat.le_refl _) hlt
    rw [Nat.mul_one] at e3
    simp (disch := first | omega | exact ti rfl | (simp only [np, nq]; first | done | omega)) only [go_sem, reduceAdd, reduceMul, reduceSub, reduceLeDiff, reduceEqDiff, reduceShiftRight, reduceAnd, Nat.mul_one, e1, e2, e3]
    unfold qgt
    rw [qao]
    have hC0 : Cp l l k (k + 1) := by
     refine ⟨rfl, by omega, by omega, rfl, ha, fun x => ?_⟩
     rw [qee (p := k) (by omega), List.mem_append, List.mem_singleton]
     refine ⟨Or.inl, fun hx => hx.elim id fun hx => ?_⟩
     have : l.take k = l.take (k - 1) ++ [l[k - 1]'(by omega)] := by
      have := qee (l := l) (p := k - 1) (by omega)
      rwa [show k - 1 + 1 = k by omega] at this
     rw [hx, he]
     exact this ▸ List.mem_append_right _ (List.mem_singleton.2 rfl)
    refine qms (H1 := H) hs hP hl hn (c0 := k) hlt (fun M k' H' hC hg' hF => ?_) qal k 1 l H (by rw [qaf]; omega) (Nat.le_refl 1) hC0 hg (Fm.refl _ _)
    unfold qb0
    have c1 := hC.lt
    have c2 := hC.len
    have s1 := qle 1 b o n n e (a := k') (by omega) (Nat.le_refl _) c1
    rw [Nat.mul_one] at s1
    have s2 := q1f 1 b o n n e (k := k') (by omega) (Nat.le_refl _) (by omega)
    have cl := zjq P M (k := k') (n := n) (by omega) (by omega)
    rw [hP] at cl
    have hlen0 : (reps [.int .i64 (.ofNat 0)] (n - k')).length = n - k' := by rw [qcv, List.length_replicate]
    have s3 : qqp [.int .i64 (.ofNat 0)] H' (.sl b (o + k') (n - k') (n - k') e) = .ok .undef (H'.put b (qab q (P ++ nats (M.take k' ++ List.replicate (n - k') 0)))) := by
     show (bif Nat.beq (n - k') 0 then _ else storeAt H' b (o + k') (reps [.int .i64 (.ofNat 0)] (n - k')) .undef) = _
     rw [beq_eq, decide_eq_false (by omega), cond_false, qrj _ _ _ _ _ _ _ hg' (by rw [hlen0, List.length_append, qbd]; omega), cl]
    simp (disch := first | omega | exact ti rfl | (simp only [np, nq]; first | done | omega)) only [go_sem, reduceAdd, reduceMul, reduceSub, reduceLeDiff, reduceEqDiff, reduceShiftRight, reduceAnd, s1, s2, s3]
    have ht : (M.take k').length = k' := by rw [List.length_take]; omega
    refine Ok.ret (hq k' (M.take k') _ (by omega) ht hC.asc (fun x => by rw [hC.mem x, ← hl, List.take_length]) ?_ (hF.put _ _ fun _ => rfl))
    refine ⟨by rw [qbd, ht, Nat.mul_one], .inr ⟨b, o, n, e, q, _, rfl, by omega, qah _ _ _, ?_, ?_, heq, Nat.lt_of_lt_of_le hb hF.nx⟩⟩
    ·rw [List.length_append, qbd, List.length_append, ht, List.length_replicate]; omega
    ·rw [List.drop_append_of_le_length (by omega), List.drop_eq_nil_of_le (by omega), List.nil_append, Nat.mul_one]
     unfold nats
     rw [← List.map_take, List.take_append_of_le_length (by omega), List.take_of_length_le (by omega)]
   ·simp (disch := first | omega | exact ti rfl | (simp only [np, nq]; first | done | omega)) only [go_sem, reduceAdd, reduceMul, reduceSub, reduceLeDiff, reduceEqDiff, reduceShiftRight, reduceAnd, Nat.mul_one, e1, e2, he]
    unfold qhq
    simp (disch := first | omega | exact ti rfl | (simp only [np, nq]; first | done | omega)) only [go_sem, reduceAdd, reduceMul, reduceSub, reduceLeDiff, reduceEqDiff, reduceShiftRight, reduceAnd]
    refine qqm hs hP hl hn hg hb heq hq hq2 f (k + 1) (by omega) (by omega) (by omega) ?_
    rw [qee (p := k) (by omega), List.pairwise_append]
    refine ⟨ha, List.pairwise_singleton _ _, fun a ha' c hc => ?_⟩
    rw [List.mem_singleton] at hc
    subst hc
    obtain ⟨i, hi, hip, rfl⟩ := qnu ha'
    have hs' := List.pairwise_iff_getElem.1 hs
    have a1 : l[k - 1]'(by omega) ≤ l[k]'(by omega) := hs' (k - 1) k (by omega) (by omega) (by omega)
    have a2 : l[i] ≤ l[k - 1]'(by omega) := by
     rcases Nat.lt_or_ge i (k - 1) with h2 | h2
     ·exact hs' i (k - 1) hi (by omega) h2
     ·have : i = k - 1 := by omega
      subst this; exact Nat.le_refl _
    omega
  ·simp (disch := first | omega | exact ti rfl | (simp only [np, nq]; first | done | omega)) only [go_sem, reduceAdd, reduceMul, reduceSub, reduceLeDiff, reduceEqDiff, reduceShiftRight, reduceAnd, hlt]
   have : k = n := by omega
   subst this
   rw [← hl, List.take_length] at ha
   exact hq2 ha
theorem q5i (hO : qc7 C) {k : Nat} (hk : 1 ≤ k) {n : Nat} {v : AV} {l : List Nat} {H : Hp} (hs : l.Pairwise (· ≤ ·)) (hn : n < 900) (hv : Gl 1 H v n (nats l)) :
  Ok (C k (.f qe8) [v] H) fun r H' => ∃ R : List Nat, R.Pairwise (· < ·) ∧ (∀ x, x ∈ R ↔ x ∈ l) ∧ Gs 1 H' r R.length (nats R) ∧ (∀ b, In r b → In v b) ∧ Fm (In v) H H' := by
 obtain ⟨j, rfl⟩ : ∃ j, k = j + 1 := ⟨k - 1, by omega⟩
 have hln : l.length = n := by have := hv.len; rw [qbd] at this; omega
 rw [(hO j).o_Compact]
 unfold o_Compact qjn
 have e0 := hv.lenV
 by_cases h2 : n < 2
 ·simp (disch := first | omega | exact ti rfl | (simp only [np, nq]; first | done | omega)) only [go_sem, reduceAdd, reduceMul, reduceSub, reduceLeDiff, reduceEqDiff, reduceShiftRight, reduceAnd, e0, h2]
  refine Ok.ret ⟨l, ?_, fun x => Iff.rfl, by rw [hln]; exact hv.gs, fun b h => h, Fm.refl _ _⟩
  match l, hln with
  | [], _ => exact List.Pairwise.nil
  | [x], _ => exact List.pairwise_singleton _ _
  | x :: y :: t, h => simp at h; omega
 ·rcases hv.is with ⟨_, h0⟩ | ⟨b, o, e, q, L, rfl, g1, g2, g3, g4, g5⟩
  ·omega
  have hP : (L.take o).length = o := by rw [List.length_take]; omega
  have hg : H.get b = qab q (L.take o ++ nats l) := by rw [g1, ← g3, List.take_append_drop]
  simp (disch := first | omega | exact ti rfl | (simp only [np, nq]; first | done | omega)) only [go_sem, reduceAdd, reduceMul, reduceSub, reduceLeDiff, reduceEqDiff, reduceShiftRight, reduceAnd, e0, h2]
  unfold qgp qhs
  rw [qao]
  have hin : ∀ c, c = b → In (.sl b o n n e) c := fun c hc => by subst hc; exact ⟨_, _, _, _, rfl⟩
  refine qqm hs hP hln hn hg g5 g4 (fun k R H' hk hR ha hm hG hF => ?_) (fun ha => ?_) qal 1 (by rw [qaf]; omega) (Nat.le_refl 1) (by omega) ?_
  ·refine ⟨R, ha, hm, by rw [hR]; exact hG, fun c hc => ?_, hF.mono fun c _ hc => hin c hc⟩
   obtain ⟨_, _, _, _, h'⟩ := hc
   cases h'
   exact ⟨_, _, _, _, rfl⟩
  ·unfold qcc
   exact Ok.ret ⟨l, ha, fun x => Iff.rfl, by rw [hln]; exact hv.gs, fun b h => h, Fm.refl _ _⟩
  ·match l, hln with
   | [], h => simp at h; omega
   | x :: t, _ => simp
theorem Gs.clip {n : Nat} {H : Hp} {v : AV} {l : List AV} (h : Gs 1 H v n l) : ∃ w, qbq 1 v none (some (.int .i64 (.ofNat n))) (some (.int .i64 (.ofNat n))) = .val w ∧ Rl H w l ∧ capV w = .val (.int .i64 (.ofNat n)) ∧ (∀ b, In w b → In v b) := by
 rcases h.is with ⟨rfl, rfl⟩ | ⟨b, o, m, e, q, L, rfl, h0, h1, h2, h3, h4, h5⟩
 ·exact ⟨.nilsl, rfl, h.rl, rfl, fun b h => h⟩
 ·have e1 : qbq 1 (.sl b o n m e) none (some (.int .i64 (.ofNat n))) (some (.int .i64 (.ofNat n))) = mkSl b o 1 ⟨0, n, n⟩ true := by
   show (match bounds n m none (some (.int .i64 (.ofNat n))) (some (.int .i64 (.ofNat n))) with | some bd => mkSl b o 1 bd true | none => R0.bad) = _
   have : bounds n m none (some (.int .i64 (.ofNat n))) (some (.int .i64 (.ofNat n))) = some ⟨0, n, n⟩ := by
    show (match (bif Nat.ble n m then some n else none) with | none => none | some m => match (bif Nat.ble n m then some n else none) with | none => none | some h => match (some 0 : Option Nat) with | none => none | some l => some (Bd.mk l h m)) = _
    rw [ble_eq, decide_eq_true h0]; simp only [cond_true, ble_eq, decide_eq_true (Nat.le_refl n)]
   rw [this]
  have hrl := h.rl
  have hG : ∀ e', Gs 1 H (.sl b o n m e') n l → Rl H (.sl b o n n true) l := fun e' g => by
   have r := g.rl
   exact ⟨r.len, fun i hi => by
    obtain ⟨b', o', a1, a2, a3⟩ := r.at' i hi
    exact ⟨b', o', by have hll := h.len; rw [qf6 _ _ _ _ _ _ _ _ (by omega)] at a1 ⊢; exact a1, a2, a3⟩⟩
  rw [e1]
  unfold mkSl
  simp only [beq_eq]
  by_cases hn : n = 0
  ·subst hn
   exact ⟨.sl b o 0 0 true, rfl, hG e h, rfl, fun c hc => by obtain ⟨_, _, _, _, h'⟩ := hc; cases h'; exact ⟨_, _, _, _, rfl⟩⟩
  ·rw [decide_eq_false hn]
   refine ⟨.sl b o n n true, ?_, hG e h, rfl, fun c hc => by obtain ⟨_, _, _, _, h'⟩ := hc; cases h'; exact ⟨_, _, _, _, rfl⟩⟩
   show R0.val (.sl b (o + 0 * 1) (n - 0) (n - 0) true) = _
   rw [Nat.zero_mul, Nat.add_zero, Nat.sub_zero]
theorem zdr (hC : qbf C) {k : Nat} (hk : 1 ≤ k) {n : Nat} {H : Hp} {v : AV} {l : List AV} (h : Gs 1 H v n l) :
  ∃ w, C k (.f qmn) [v] H = .ok w H ∧ Rl H w l ∧ capV w = .val (.int .i64 (.ofNat n)) ∧ (∀ b, In w b → In v b) := by
 obtain ⟨j, rfl⟩ : ∃ j, k = j + 1 := ⟨k - 1, by omega⟩
 obtain ⟨w, e, h1, h2, h3⟩ := h.clip
 refine ⟨w, ?_, h1, h2, h3⟩
 rw [(hC j).sClp]
 unfold sClp q1l
 simp (disch := first | omega | exact ti rfl | (simp only [np, nq]; first | done | omega)) only [go_sem, reduceAdd, reduceMul, reduceSub, reduceLeDiff, reduceEqDiff, reduceShiftRight, reduceAnd, h.lenV, e]
end Go.Di
end
section
/-
 Contracts: mixed components.
-/
namespace Go.Di
open Go.Ev Go.Di.T Go.Sort
open Nat (reduceAdd reduceMul reduceSub reduceLeDiff reduceEqDiff reduceShiftRight reduceAnd)
variable {C : Nat → Ev.Call} {LA LO : LP}
theorem zaw (hO : qc7 C) (hS : qb4 C) {k : Nat} (hk : 5 ≤ k) {v : AV} (hv : qa5 v = .val (.int .i64 (.ofNat 0))) (H : Hp) : C k (.f qdv) [v] H = .ok (.tup []) H := by
 obtain ⟨k, rfl⟩ : ∃ j, k = j + 3 := ⟨k - 3, by omega⟩
 rw [(hO (k + 2)).o_Sort]
 unfold o_Sort qns
 have e1 := qil .i64 0 (by omega)
 have e2 := qxk hS (k := k + 2) (by omega) 0 (by omega) H
 have e3 : bitsLen 0 = 0 := rfl
 rw [e3] at e2
 have e4 : C (k + 2) (.f qgy) [v, .int .i64 (.ofNat 0), .int .i64 (.ofNat 0), .int .i64 (.ofNat 0)] H = .ok (.tup []) H := by
  rw [(hO (k + 1)).o_pdq]
  unfold o_pdq qto qnq
  rw [qao]
  show qkl (C (k + 1)) _ _ (qbn (C (k + 1)) _ _ 999999) _ _ _ _ _ H = _
  unfold qkl
  have e5 : C (k + 1) (.f qkw) [v, .int .i64 (.ofNat 0), .int .i64 (.ofNat 0)] H = .ok (.tup []) H := by
   rw [(hO k).o_ins]
   unfold o_ins qtu qnr
   rw [qao]
   simp (disch := first | omega | exact ti rfl | (simp only [np, nq]; first | done | omega)) only [go_sem, reduceAdd, reduceMul, reduceSub, reduceLeDiff, reduceEqDiff, reduceShiftRight, reduceAnd]
   show qkm (C k) _ _ _ _ (qcx (C k) _ _ _ _ 999999) _ H = _
   unfold qkm
   simp (disch := first | omega | exact ti rfl | (simp only [np, nq]; first | done | omega)) only [go_sem, reduceAdd, reduceMul, reduceSub, reduceLeDiff, reduceEqDiff, reduceShiftRight, reduceAnd, Nat.not_lt_zero]
  simp (disch := first | omega | exact ti rfl | (simp only [np, nq]; first | done | omega)) only [go_sem, reduceAdd, reduceMul, reduceSub, reduceLeDiff, reduceEqDiff, reduceShiftRight, reduceAnd, e5, Nat.zero_le]
 simp (disch := first | omega | exact ti rfl | (simp only [np, nq]; first | done | omega)) only [go_sem, reduceAdd, reduceMul, reduceSub, reduceLeDiff, reduceEqDiff, reduceShiftRight, reduceAnd, hv, e1, e2, e4]
def mixP (ins : List Nat) (e : Edge) : Bool := e.s && decide (ins.getD e.f 0 = ins.getD e.t 0)
def mixL (ins : List Nat) (es : List Edge) : List Nat := (es.filter (mixP ins)).map fun e => ins.getD e.f 0
theorem q71 (ins : List Nat) (es : List Edge) {i : Nat} (h : i < es.length) : mixL ins (es.take (i + 1)) = mixL ins (es.take i) ++ (if mixP ins es[i] then [ins.getD es[i].f 0] else []) := by
 unfold mixL
 rw [List.take_succ_eq_append_getElem h, List.filter_append, List.map_append]
 congr 1
 cases hh : mixP ins es[i] <;> simp [hh]
theorem q72 (ins : List Nat) (es : List Edge) : (mixL ins es).length ≤ es.length := by
 unfold mixL
 rw [List.length_map]
 exact List.length_filter_le _ _
theorem q2h {ins : List Nat} {es : List Edge} {x : Nat} : x ∈ mixL ins es ↔ ∃ e ∈ es, e.s = true ∧ ins.getD e.f 0 = ins.getD e.t 0 ∧ ins.getD e.f 0 = x := by
 unfold mixL mixP
 rw [List.mem_map]
 constructor
 ·rintro ⟨e, he, rfl⟩
  rw [List.mem_filter, Bool.and_eq_true, decide_eq_true_eq] at he
  exact ⟨e, he.1, he.2.1, he.2.2, rfl⟩
 ·rintro ⟨e, he, h1, h2, h3⟩
  exact ⟨e, List.mem_filter.2 ⟨he, by rw [Bool.and_eq_true, decide_eq_true_eq]; exact ⟨h1, h2⟩⟩, h3⟩
theorem qip {call : Ev.Call} {H1 : Hp} {n c : Nat} {lv iv w : AV} {es : List Edge} {ins : List Nat} (hlen : es.length < 200000) (hE : ∀ e ∈ es, e.f < n ∧ e.t < n) (hw : IsE H1 w es) (hi : Gl 1 H1 iv n (nats ins)) (hc : H1.get c = qab 0 [lv, iv]) (hcl : c < H1.nx) {q : AV → Hp → R1} {Q : AV → Hp → Prop}
  (hq : ∀ v H, Gl 1 H v (mixL ins es).length (nats (mixL ins es)) → Fm No H1 H → (∀ b, In v b → H1.nx ≤ b) → Ok (q v H) Q) :
  ∀ (k i : Nat) (v : AV) (H : Hp), es.length - i < k → i ≤ es.length → Gl 1 H v (mixL ins (es.take i)).length (nats (mixL ins (es.take i))) → (∀ b, In v b → H1.nx ≤ b) → Fm No H1 H →
   Ok (qin call q (.ptr c 0) w (.int .i64 (.ofNat es.length)) k v (.int .i64 (.ofNat i)) H) Q
 | 0, i, v, H, h, _, _, _, _ => by omega
 | k + 1, i, v, H, h, hil, hg, hnew, hF => by
  show Ok (qu5 call _ _ _ _ (qin call _ _ _ _ k) _ _ H) Q
  unfold qu5
  by_cases hlt : i < es.length
  ·simp (disch := first | omega | exact ti rfl | (simp only [np, nq]; first | done | omega)) only [go_sem, reduceAdd, reduceMul, reduceSub, reduceLeDiff, reduceEqDiff, reduceShiftRight, reduceAnd, hlt]
   unfold qu4
   have hw' : IsE H w es := hw.fm hF
   have hi' : Gl 1 H iv n (nats ins) := hi.no hF
   have hc' : H.get c = qab 0 [lv, iv] := (hF.keep hcl).trans hc
   have hcH : c < H.nx := Nat.lt_of_lt_of_le hcl hF.nx
   have hil : ins.length = n := by have := hi.len; rw [qbd] at this; omega
   obtain ⟨b, o1, e1, e2, e3⟩ := hw'.at hlt
   obtain ⟨r1, r2⟩ := hE es[i] (List.getElem_mem _)
   have gi : ∀ x, x < n → (nats ins)[x]? = some (.int .i64 (.ofNat (ins.getD x 0))) := fun x hx => by
    unfold nats
    rw [List.getElem?_map, List.getD_eq_getElem?_getD, List.getElem?_eq_getElem (by omega)]; rfl
   obtain ⟨b1, o2, e4, e5, _, e6⟩ := hi'.at (gi _ r1)
   obtain ⟨b2, o3, e7, e8, _, e9⟩ := hi'.at (gi _ r2)
   have hm := q71 ins es hlt
   have hle := q72 ins (es.take i)
   rw [List.length_take] at hle
   have fe : Fm No H ((qas H (qab 0 [.int .i64 (.ofNat 0), .int .i64 (.ofNat 0), .bool false])).put H.nx (qab 0 [.int .i64 (.ofNat es[i].f), .int .i64 (.ofNat es[i].t), .bool es[i].s])) := by (repeat (first | exact Fm.refl _ _ | assumption | refine Fm.push ?_ _ | refine Fm.up2 ?_ (by (first | omega | (simp only [np, nq]; omega))) | refine Fm.put_new ?_ _ _ (by (first | omega | (simp only [np, nq]; omega)))))
   cases hs : es[i].s with
   | false =>
    have hp : mixP ins es[i] = false := by unfold mixP; rw [hs]; rfl
    rw [hs] at fe
    rw [hp] at hm
    simp (disch := first | omega | exact ti rfl | (simp only [np, nq]; first | done | omega)) only [go_sem, reduceAdd, reduceMul, reduceSub, reduceLeDiff, reduceEqDiff, reduceShiftRight, reduceAnd, e1, e3, Edge.cells, hs]
    unfold qio
    simp (disch := first | omega | exact ti rfl | (simp only [np, nq]; first | done | omega)) only [go_sem, reduceAdd, reduceMul, reduceSub, reduceLeDiff, reduceEqDiff, reduceShiftRight, reduceAnd]
    rw [if_neg (by simp), List.append_nil] at hm
    refine qip hlen hE hw hi hc hcl hq k (i + 1) v _ (by omega) (by omega) (by rw [hm]; exact hg.no fe) hnew (hF.trans fe)
   | true =>
    rw [hs] at fe
    by_cases he : ins.getD es[i].f 0 = ins.getD es[i].t 0
    ·have hp : mixP ins es[i] = true := by unfold mixP; rw [hs, decide_eq_true he]; rfl
     rw [hp, if_pos rfl] at hm
     have hml : (mixL ins (es.take (i + 1))).length = (mixL ins (es.take i)).length + 1 := by rw [hm, List.length_append]; rfl
     have he1 := e4
     have he2 := e6
     generalize hH2 : (qas H (qab 0 [.int .i64 (.ofNat 0), .int .i64 (.ofNat 0), .bool false])).put H.nx (qab 0 [.int .i64 (.ofNat es[i].f), .int .i64 (.ofNat es[i].t), .bool true]) = H2 at *
     have hx2 : H2.get H.nx = qab 0 [.int .i64 (.ofNat es[i].f), .int .i64 (.ofNat es[i].t), .bool true] := by rw [← hH2, qah]
     have hc2 : H2.get c = qab 0 [lv, iv] := (fe.keep hcH).trans hc'
     have e6' : qba (H2.get b1) o2 = .val (.int .i64 (.ofNat (ins.getD es[i].f 0))) := by rw [fe.keep e5]; exact e6
     have e9' : qba (H2.get b2) o3 = .val (.int .i64 (.ofNat (ins.getD es[i].t 0))) := by rw [fe.keep e8]; exact e9
     have hgP : Gl 1 (qas H2 (qab 0 [.int .i64 (.ofNat (ins.getD es[i].f 0))])) v (mixL ins (es.take i)).length (nats (mixL ins (es.take i))) := (hg.no fe).no ((Fm.refl _ _).push _)
     obtain ⟨H', a1, a2, _, a4, a5⟩ := hgP.append (w := 8) (k := 1) (x := [.int .i64 (.ofNat (ins.getD es[i].f 0))]) (by omega) rfl (by omega) (by omega)
     rw [he] at e6'
     rw [he] at a1 a2 a4 hgP
     simp (disch := first | omega | exact ti rfl | (simp only [np, nq]; first | done | omega)) only [go_sem, reduceAdd, reduceMul, reduceSub, reduceLeDiff, reduceEqDiff, reduceShiftRight, reduceAnd, e1, e3, Edge.cells, hs, hH2, hx2, hc2, e4, e6', e7, e9', he, a1]
     unfold qio
     simp (disch := first | omega | exact ti rfl | (simp only [np, nq]; first | done | omega)) only [go_sem, reduceAdd, reduceMul, reduceSub, reduceLeDiff, reduceEqDiff, reduceShiftRight, reduceAnd]
     have e10 : nats (mixL ins (es.take i)) ++ [.int .i64 (.ofNat (ins.getD es[i].t 0))] = nats (mixL ins (es.take (i + 1))) := by rw [hm, he]; simp [nats]
     rw [e10, ← hml] at a2
     rw [← hml]
     have hn1 := hF.nx
     have hn2 := fe.nx
     have hpn : (qas H2 (qab 0 [.int .i64 (.ofNat (ins.getD es[i].t 0))])).nx = H2.nx + 1 := rfl
     refine qip hlen hE hw hi hc hcl hq k (i + 1) _ H' (by omega) (by omega) a2 (fun b hb => ?_) (((hF.trans fe).trans ((Fm.refl _ _).push _)).then a4 fun c hc h => by have := hnew c h; omega)
     obtain ⟨_, _, _, _, h⟩ := hb
     cases h
     omega
    ·have hp : mixP ins es[i] = false := by unfold mixP; rw [hs, decide_eq_false he]; rfl
     rw [hp] at hm
     simp (disch := first | omega | exact ti rfl | (simp only [np, nq]; first | done | omega)) only [go_sem, reduceAdd, reduceMul, reduceSub, reduceLeDiff, reduceEqDiff, reduceShiftRight, reduceAnd, e1, e3, Edge.cells, hs, hc', e4, e6, e7, e9, he]
     unfold qio
     simp (disch := first | omega | exact ti rfl | (simp only [np, nq]; first | done | omega)) only [go_sem, reduceAdd, reduceMul, reduceSub, reduceLeDiff, reduceEqDiff, reduceShiftRight, reduceAnd]
     rw [if_neg (by simp), List.append_nil] at hm
     refine qip hlen hE hw hi hc hcl hq k (i + 1) v _ (by omega) (by omega) (by rw [hm]; exact hg.no fe) hnew (hF.trans fe)
  ·simp (disch := first | omega | exact ti rfl | (simp only [np, nq]; first | done | omega)) only [go_sem, reduceAdd, reduceMul, reduceSub, reduceLeDiff, reduceEqDiff, reduceShiftRight, reduceAnd, hlt]
   have : i = es.length := by omega
   subst this
   rw [List.take_length] at hg
   exact hq v H hg hF hnew
theorem zdn (hC : qbf C) (hO : qc7 C) (hS : qb4 C) (hR : qdy LA LO C) {k : Nat} (hk : 1000 ≤ k) {n : Nat} {es : List Edge} (hE : qnb n es) (hn : n ≤ 12) (hlen : es.length < 900) {gv : AV} {H : Hp} (hg : IsE H gv es) :
  Ok (C k (.f quf) [.agg [.int .i64 (.ofNat n), gv]] H) fun r H' => ∃ (w : AV) (res : List (List Nat)) (ins R : List Nat), r = .tup [w, .int .i64 (.ofNat 0)] ∧ OrdF n (qbi es) [] res ∧ (∀ (j : Nat) (o : List Nat) (x : Nat), res[j]? = some o → x ∈ o → ins[x]? = some j) ∧
   R.Pairwise (· < ·) ∧ (∀ x, x ∈ R ↔ x ∈ mixL ins es) ∧ Rl H' w (nats R) ∧ capV w = .val (.int .i64 (.ofNat R.length)) ∧ R.length ≤ 900 ∧ Fm No H H' := by
 obtain ⟨j, rfl⟩ : ∃ j, k = j + 1 := ⟨k - 1, by omega⟩
 rw [(hC j).cMix]
 unfold cMix zaj
 simp (disch := first | omega | exact ti rfl | (simp only [np, nq]; first | done | omega)) only [go_sem, reduceAdd, reduceMul, reduceSub, reduceLeDiff, reduceEqDiff, reduceShiftRight, reduceAnd]
 have f0 : Fm No H (qas H (qab 0 [.int .i64 (.ofNat n), gv])) := (Fm.refl _ _).push _
 refine Ok.ve (Of_ok hC hO hS hR (k := j) (by omega) hE hn (by omega) (hg.fm f0)) ?_
 rintro r H1 ⟨lv, iv, os, ins2, out, ins, res, rfl, hOrd, hCR, f1⟩
 have ford := hOrd.ord hE.rng
 have hg1 : H1.get H.nx = qab 0 [.int .i64 (.ofNat n), gv] := (f1.keep (by (first | omega | (simp only [np, nq]; omega)))).trans (qaq _ _)
 have es3 : ∀ x y : AV, setL [AV.nilsl, AV.nilsl] 0 [x, y] = [x, y] := fun _ _ => rfl
 have n1 : H.nx + 1 ≤ H1.nx := f1.nx
 simp (disch := first | omega | exact ti rfl | (simp only [np, nq]; first | done | omega)) only [go_sem, reduceAdd, reduceMul, reduceSub, reduceLeDiff, reduceEqDiff, reduceShiftRight, reduceAnd, es3, List.length_cons, List.length_nil]
 generalize hH2 : (qas H1 (qab 0 [AV.nilsl, AV.nilsl])).put H1.nx (qab 0 [lv, iv]) = H2
 have f2 : Fm No H1 H2 := by rw [← hH2]; exact ((Fm.refl _ _).push _).put_new _ _ (Nat.le_refl _)
 have g2 : H2.get H1.nx = qab 0 [lv, iv] := by rw [← hH2, qah]
 have l2 : H1.nx < H2.nx := by rw [← hH2]; show H1.nx < H1.nx + 1; omega
 have hg2 : H2.get H.nx = qab 0 [.int .i64 (.ofNat n), gv] := (f2.keep (by omega)).trans hg1
 have f02 : Fm No H H2 := (f0.trans f1).trans f2
 have hE2 : IsE H2 gv es := hg.fm f02
 rw [qqy]
 unfold qey
 have e0 := hE2.len
 simp (disch := first | omega | exact ti rfl | (simp only [np, nq]; first | done | omega)) only [go_sem, reduceAdd, reduceMul, reduceSub, reduceLeDiff, reduceEqDiff, reduceShiftRight, reduceAnd, hg2, e0]
 unfold qu6
 rw [qao]
 refine qip (by omega) hE.rng hE2 (hCR.gi.no f2) g2 l2 (fun v H3 h3 f3 hnew => ?_) qal 0 .nilsl H2 (by rw [qaf]; omega) (Nat.zero_le _) (by simpa [mixL, nats] using Gl.nil 1 H2) (fun b hb => by obtain ⟨_, _, _, _, h⟩ := hb; cases h) (Fm.refl _ _)
 unfold qg5
 have hml := q72 ins2 es
 have n2 := f02.nx
 have sorted : Ok (C j (.f qdv) [v] H3) fun r H' => r = .tup [] ∧ ∃ R : List Nat, R.Perm (mixL ins2 es) ∧ R.Pairwise (· ≤ ·) ∧ Gl 1 H' v (mixL ins2 es).length (nats R) ∧ Fm (In v) H3 H' := by
  rcases Nat.eq_zero_or_pos (mixL ins2 es).length with h0 | h0
  ·have hz : mixL ins2 es = [] := List.length_eq_zero_iff.1 h0
   have e1 := h3.lenV
   rw [h0] at e1
   refine ⟨_, _, zaw hO hS (by omega) e1 H3, rfl, [], by rw [hz], List.Pairwise.nil, ?_, Fm.refl _ _⟩
   rw [hz] at h3 ⊢
   exact h3
  ·exact q3e hC hO hS (k := j) (by omega) h0 (by omega) h3
 refine Ok.ve sorted ?_
 rintro r H4 ⟨rfl, R, hp, hsd, h4, f4⟩
 refine Ok.ve (q5i hO (k := j) (by omega) hsd (by omega) h4) ?_
 rintro r5 H5 ⟨R5, hasc, hmem, h5, hin, f5⟩
 obtain ⟨w, w1, w2, w3, _⟩ := zdr hC (k := j) (by omega) h5
 simp (disch := first | omega | exact ti rfl | (simp only [np, nq]; first | done | omega)) only [go_sem, reduceAdd, reduceMul, reduceSub, reduceLeDiff, reduceEqDiff, reduceShiftRight, reduceAnd, w1]
 have hR5 : R5.length ≤ 900 := by
  have hnd : R5.Nodup := hasc.imp fun h => Nat.ne_of_lt h
  have : R5.length ≤ R.length := hnd.length_le_of_subset fun x hx => (hmem x).1 hx
  rw [hp.length_eq] at this
  omega
 refine Ok.ret ⟨w, res, ins2, R5, rfl, ford, hCR.ins, hasc, fun x => (hmem x).trans hp.mem_iff, w2, w3, hR5, ((f02.trans f3).then f4 fun c hc h => ?_).then f5 fun c hc h => ?_⟩
 ·have := hnew c h; omega
 ·have := hnew c h; omega
end Go.Di
end
section
/-
 Contracts: the reference's mixed components.
-/
namespace Go.Di
open Go.Ev Go.Di.T Go.Sort
open Nat (reduceAdd reduceMul reduceSub reduceLeDiff reduceEqDiff reduceShiftRight reduceAnd)
variable {C : Nat → Ev.Call}
def refP (ins : List Int) (i : Nat) (e : T3) : Bool := decide (e.s = 1) && (decide (ins.getD e.f 0 = Int.ofNat i) && decide (ins.getD e.t 0 = Int.ofNat i))
theorem zdh {ts : List T3} {c : Nat} (h : c < ts.length) (p : T3 → Bool) : (ts.take (c + 1)).any p = ((ts.take c).any p || p ts[c]) := by
 rw [List.take_succ_eq_append_getElem h, List.any_append]; simp
theorem qll {call : Ev.Call} {H : Hp} {n nb i : Nat} {w : AV} {ts : List T3} {ins : List Int} (hw : Gl 3 H w ts.length (qco ts)) (hlen : ts.length < 900000) (hnb : H.get nb = qab 0 (ints ins)) (hin : ins.length = n) (hE : ∀ e ∈ ts, e.f < n ∧ e.t < n) {q : AV → Hp → R1} {Q : AV → Hp → Prop} (hq : Ok (q (.bool (ts.any (refP ins i))) H) Q) :
  ∀ (k c : Nat) (acc : Bool), ts.length - c < k → c ≤ ts.length → acc = (ts.take c).any (refP ins i) → Ok (qic call q (.sl nb 0 n n true) w (.int .i64 (.ofNat i)) k (.bool acc) (.int .i64 (.ofNat c)) H) Q
 | 0, c, acc, h, _, _ => by omega
 | k + 1, c, acc, h, hc, ha => by
  show Ok (qtb call _ _ _ _ (qic call _ _ _ _ k) _ _ H) Q
  unfold qtb
  have e0 := hw.lenV
  by_cases hlt : c < ts.length
  ·simp (disch := first | omega | exact ti rfl | (simp only [np, nq]; first | done | omega)) only [go_sem, reduceAdd, reduceMul, reduceSub, reduceLeDiff, reduceEqDiff, reduceShiftRight, reduceAnd, e0, hlt]
   unfold qta
   have hs := zdh hlt (refP ins i)
   rw [← ha] at hs
   cases acc with
   | true =>
    simp (disch := first | omega | exact ti rfl | (simp only [np, nq]; first | done | omega)) only [go_sem, reduceAdd, reduceMul, reduceSub, reduceLeDiff, reduceEqDiff, reduceShiftRight, reduceAnd]
    unfold qgm
    simp (disch := first | omega | exact ti rfl | (simp only [np, nq]; first | done | omega)) only [go_sem, reduceAdd, reduceMul, reduceSub, reduceLeDiff, reduceEqDiff, reduceShiftRight, reduceAnd]
    exact qll hw hlen hnb hin hE hq k (c + 1) true (by omega) (by omega) (by rw [hs]; rfl)
   | false =>
    rw [Bool.false_or] at hs
    obtain ⟨b, o, e1, e2, e3, e4, e5, e6⟩ := zg8 hw hlt
    obtain ⟨r1, r2⟩ := hE ts[c] (List.getElem_mem _)
    have gi : ∀ x, x < n → (ints ins)[x]? = some (.int .i64 (ins.getD x 0)) := fun x hx => by
     rw [qgv ins x (by omega), List.getD_eq_getElem?_getD, List.getElem?_eq_getElem (by omega)]; rfl
    have g1 := gi _ r1
    have g2 := gi _ r2
    by_cases h1 : ts[c].s = 1
    ·by_cases h2 : ins.getD ts[c].f 0 = Int.ofNat i
     ·by_cases h3 : ins.getD ts[c].t 0 = Int.ofNat i
      ·have hp : refP ins i ts[c] = true := by unfold refP; rw [decide_eq_true h1, decide_eq_true h2, decide_eq_true h3]; rfl
       simp (disch := first | omega | exact ti rfl | (simp only [np, nq]; first | done | omega)) only [go_sem, reduceAdd, reduceMul, reduceSub, reduceLeDiff, reduceEqDiff, reduceShiftRight, reduceAnd, e1, e4, e5, e6, h1, hnb, g1, g2, h2, h3, Nat.mul_one, Nat.zero_add, Nat.add_zero]
       unfold qgm
       simp (disch := first | omega | exact ti rfl | (simp only [np, nq]; first | done | omega)) only [go_sem, reduceAdd, reduceMul, reduceSub, reduceLeDiff, reduceEqDiff, reduceShiftRight, reduceAnd]
       exact qll hw hlen hnb hin hE hq k (c + 1) true (by omega) (by omega) (by rw [hs, hp])
      ·have hp : refP ins i ts[c] = false := by unfold refP; rw [decide_eq_true h1, decide_eq_true h2, decide_eq_false h3]; rfl
       simp (disch := first | omega | exact ti rfl | (simp only [np, nq]; first | done | omega)) only [go_sem, reduceAdd, reduceMul, reduceSub, reduceLeDiff, reduceEqDiff, reduceShiftRight, reduceAnd, e1, e4, e5, e6, h1, hnb, g1, g2, h2, h3, Nat.mul_one, Nat.zero_add, Nat.add_zero]
       unfold qgm
       simp (disch := first | omega | exact ti rfl | (simp only [np, nq]; first | done | omega)) only [go_sem, reduceAdd, reduceMul, reduceSub, reduceLeDiff, reduceEqDiff, reduceShiftRight, reduceAnd]
       exact qll hw hlen hnb hin hE hq k (c + 1) false (by omega) (by omega) (by rw [hs, hp])
     ·have hp : refP ins i ts[c] = false := by unfold refP; rw [decide_eq_true h1, decide_eq_false h2]; rfl
      simp (disch := first | omega | exact ti rfl | (simp only [np, nq]; first | done | omega)) only [go_sem, reduceAdd, reduceMul, reduceSub, reduceLeDiff, reduceEqDiff, reduceShiftRight, reduceAnd, e1, e4, e5, e6, h1, hnb, g1, g2, h2, Nat.mul_one, Nat.zero_add, Nat.add_zero]
      unfold qgm
      simp (disch := first | omega | exact ti rfl | (simp only [np, nq]; first | done | omega)) only [go_sem, reduceAdd, reduceMul, reduceSub, reduceLeDiff, reduceEqDiff, reduceShiftRight, reduceAnd]
      exact qll hw hlen hnb hin hE hq k (c + 1) false (by omega) (by omega) (by rw [hs, hp])
    ·have hp : refP ins i ts[c] = false := by unfold refP; rw [decide_eq_false h1]; rfl
     simp (disch := first | omega | exact ti rfl | (simp only [np, nq]; first | done | omega)) only [go_sem, reduceAdd, reduceMul, reduceSub, reduceLeDiff, reduceEqDiff, reduceShiftRight, reduceAnd, e1, e4, e5, e6, h1, Nat.mul_one, Nat.zero_add, Nat.add_zero]
     unfold qgm
     simp (disch := first | omega | exact ti rfl | (simp only [np, nq]; first | done | omega)) only [go_sem, reduceAdd, reduceMul, reduceSub, reduceLeDiff, reduceEqDiff, reduceShiftRight, reduceAnd]
     exact qll hw hlen hnb hin hE hq k (c + 1) false (by omega) (by omega) (by rw [hs, hp])
  ·simp (disch := first | omega | exact ti rfl | (simp only [np, nq]; first | done | omega)) only [go_sem, reduceAdd, reduceMul, reduceSub, reduceLeDiff, reduceEqDiff, reduceShiftRight, reduceAnd, e0, hlt]
   have : c = ts.length := by omega
   subst this
   rw [List.take_length] at ha
   rw [ha]
   exact hq
def refL (ins : List Int) (ts : List T3) (i : Nat) : List Nat := (List.range i).filter fun x => ts.any (refP ins x)
theorem q6s (ins : List Int) (ts : List T3) (i : Nat) : refL ins ts (i + 1) = refL ins ts i ++ (if ts.any (refP ins i) then [i] else []) := by
 unfold refL
 rw [List.range_succ, List.filter_append]
 congr 1
 cases h : ts.any (refP ins i) <;> simp [h]
theorem zfb (ins : List Int) (ts : List T3) (i : Nat) : (refL ins ts i).length ≤ i := by
 have := List.length_filter_le (fun x => ts.any (refP ins x)) (List.range i)
 rwa [List.length_range] at this
theorem qsy {call : Ev.Call} {H1 : Hp} {n nb m : Nat} {v w : AV} {ts : List T3} {ins : List Int} (hw : Gl 3 H1 w ts.length (qco ts)) (hlen : ts.length < 900000) (hnb : H1.get nb = qab 0 (ints ins)) (hnl : nb < H1.nx) (hin : ins.length = n) (hE : ∀ e ∈ ts, e.f < n ∧ e.t < n) (hv : qa5 v = .val (.int .i64 (.ofNat m))) (hm : m < 900)
  {q : AV → Hp → R1} {Q : AV → Hp → Prop} (hq : ∀ x H, Gl 1 H x (refL ins ts m).length (nats (refL ins ts m)) → Fm No H1 H → Ok (q x H) Q) :
  ∀ (k i : Nat) (x : AV) (H : Hp), m - i < k → i ≤ m → Gl 1 H x (refL ins ts i).length (nats (refL ins ts i)) → (∀ b, In x b → H1.nx ≤ b) → Fm No H1 H →
   Ok (qeh call q v (.sl nb 0 n n true) w k x (.int .i64 (.ofNat i)) H) Q
 | 0, i, x, H, h, _, _, _, _ => by omega
 | k + 1, i, x, H, h, hi, hg, hnew, hF => by
  show Ok (qyl call _ _ _ _ (qeh call _ _ _ _ k) _ _ H) Q
  unfold qyl
  by_cases hlt : i < m
  ·simp (disch := first | omega | exact ti rfl | (simp only [np, nq]; first | done | omega)) only [go_sem, reduceAdd, reduceMul, reduceSub, reduceLeDiff, reduceEqDiff, reduceShiftRight, reduceAnd, hv, hlt]
   unfold qs9 qtc
   rw [qao]
   refine qll (hw.no hF) hlen ((hF.keep hnl).trans hnb) hin hE ?_ qal 0 false (by rw [qaf]; omega) (Nat.zero_le _) (by simp)
   unfold qgn
   have hs := q6s ins ts i
   have hle := zfb ins ts i
   cases ha : ts.any (refP ins i) with
   | true =>
    rw [ha, if_pos rfl] at hs
    have hgP : Gl 1 (qas H (qab 0 [.int .i64 (.ofNat i)])) x (refL ins ts i).length (nats (refL ins ts i)) := hg.no ((Fm.refl _ _).push _)
    obtain ⟨H', a1, a2, _, a4, a5⟩ := hgP.append (w := 8) (k := 1) (x := [.int .i64 (.ofNat i)]) (by omega) rfl (by omega) (by omega)
    simp (disch := first | omega | exact ti rfl | (simp only [np, nq]; first | done | omega)) only [go_sem, reduceAdd, reduceMul, reduceSub, reduceLeDiff, reduceEqDiff, reduceShiftRight, reduceAnd, a1]
    unfold qkd
    simp (disch := first | omega | exact ti rfl | (simp only [np, nq]; first | done | omega)) only [go_sem, reduceAdd, reduceMul, reduceSub, reduceLeDiff, reduceEqDiff, reduceShiftRight, reduceAnd]
    have e10 : nats (refL ins ts i) ++ [.int .i64 (.ofNat i)] = nats (refL ins ts (i + 1)) := by rw [hs]; simp [nats]
    have hml : (refL ins ts (i + 1)).length = (refL ins ts i).length + 1 := by rw [hs, List.length_append]; rfl
    rw [e10, ← hml] at a2
    rw [← hml]
    have hn1 := hF.nx
    have hpn : (qas H (qab 0 [.int .i64 (.ofNat i)])).nx = H.nx + 1 := rfl
    refine qsy hw hlen hnb hnl hin hE hv hm hq k (i + 1) _ H' (by omega) (by omega) a2 (fun b hb => ?_) ((hF.trans ((Fm.refl _ _).push _)).then a4 fun c hc h => by have := hnew c h; omega)
    obtain ⟨_, _, _, _, h⟩ := hb
    cases h
    omega
   | false =>
    rw [ha, if_neg (by simp), List.append_nil] at hs
    simp (disch := first | omega | exact ti rfl | (simp only [np, nq]; first | done | omega)) only [go_sem, reduceAdd, reduceMul, reduceSub, reduceLeDiff, reduceEqDiff, reduceShiftRight, reduceAnd]
    unfold qkd
    simp (disch := first | omega | exact ti rfl | (simp only [np, nq]; first | done | omega)) only [go_sem, reduceAdd, reduceMul, reduceSub, reduceLeDiff, reduceEqDiff, reduceShiftRight, reduceAnd]
    exact qsy hw hlen hnb hnl hin hE hv hm hq k (i + 1) x H (by omega) (by omega) (by rw [hs]; exact hg) hnew hF
  ·simp (disch := first | omega | exact ti rfl | (simp only [np, nq]; first | done | omega)) only [go_sem, reduceAdd, reduceMul, reduceSub, reduceLeDiff, reduceEqDiff, reduceShiftRight, reduceAnd, hv, hlt]
   have : i = m := by omega
   subst this
   exact hq x H hg hF
theorem qx3 (hC : qbf C) {k : Nat} (hk : 3 ≤ k) {n mb : Nat} {ms : List Nat} {mv : AV} {H : Hp} (hM : IsM H mv mb n ms) (hn : n < 13) :
  Ok (C k (.f qt9) [mv] H) fun w H' => ∃ (ins : List Int) (res : List (List Nat)), OrdF n (qbi (qbl n ms)) [] res ∧ (∀ (j : Nat) (o : List Nat) (x : Nat), res[j]? = some o → x ∈ o → ins.getD x 0 = Int.ofNat j) ∧
   Gl 1 H' w (refL ins (eM n ms n) res.length).length (nats (refL ins (eM n ms n) res.length)) ∧ Fm No H H' := by
 obtain ⟨j, rfl⟩ : ∃ j, k = j + 1 := ⟨k - 1, by omega⟩
 have hr := hM.hv
 subst hr
 rw [(hC j).rMix]
 unfold rMix q7c
 simp (disch := first | omega | exact ti rfl | (simp only [np, nq]; first | done | omega)) only [go_sem, reduceAdd, reduceMul, reduceSub, reduceLeDiff, reduceEqDiff, reduceShiftRight, reduceAnd]
 generalize hH1 : qas H (qab 0 [.int .i64 (.ofNat n), .sl mb 0 (n * n) (n * n) true]) = H1
 have n1 : H1.nx = H.nx + 1 := by rw [← hH1]; rfl
 have f1 : Fm No H H1 := by rw [← hH1]; exact (Fm.refl _ _).push _
 have g1 : H1.get H.nx = qab 0 [.int .i64 (.ofNat n), .sl mb 0 (n * n) (n * n) true] := by rw [← hH1, qaq]
 refine Ok.ve (q1t hC (k := j) (by omega) (hM.fm f1) hn) ?_
 rintro r H2 ⟨lr, nb, insR, cs, res, H0, rfl, fR, hRI, hF2, _⟩
 have f2 : Fm No H1 H2 := fR.trans hRI.fm
 have g2 : H2.get H.nx = qab 0 [.int .i64 (.ofNat n), .sl mb 0 (n * n) (n * n) true] := (f2.keep (by omega)).trans g1
 obtain ⟨z1, z2, z3, z4, z5⟩ := hF2.all
 obtain ⟨y1, y2⟩ := hRI.len
 simp (disch := first | omega | exact ti rfl | (simp only [np, nq]; first | done | omega)) only [go_sem, reduceAdd, reduceMul, reduceSub, reduceLeDiff, reduceEqDiff, reduceShiftRight, reduceAnd, g2]
 refine Ok.ve (q3f hC (k := j) (by omega) ((hM.fm f1).fm f2)) ?_
 rintro w H3 ⟨hw, f3, _⟩
 have hlen : (eM n ms n).length < 900000 := by
  have := q9p ms hn
  unfold qbl at this
  rw [List.length_map] at this
  omega
 have hE : ∀ e ∈ eM n ms n, e.f < n ∧ e.t < n := fun e he => ⟨(qh2 he).1, (qh2 he).2.1⟩
 unfold qym
 rw [qao]
 have e0 := hRI.ls.gl.lenV
 rw [hRI.ls.len] at e0
 refine qsy (H1 := H3) hw hlen ((f3.keep hRI.nbl.2).trans hRI.ng) (Nat.lt_of_lt_of_le hRI.nbl.2 f3.nx) hRI.il hE e0 (by omega) (fun x H4 h4 f4 => ?_) qal 0 .nilsl H3 (by rw [qaf]; omega) (Nat.zero_le _) (by simpa [refL, nats] using Gl.nil 1 H3) (fun b hb => by obtain ⟨_, _, _, _, h⟩ := hb; cases h) (Fm.refl _ _)
 unfold qdz
 exact Ok.ret ⟨insR, res, hF2, hRI.iv, h4, ((f1.trans f2).trans f3).trans f4⟩
end Go.Di
end
section
/-
 Mixed components, without any program.
-/
namespace Go.Di
open Go.Ev Go.Di.T Go.Sort
theorem eR_s {n : Nat} {ms : List Nat} {i : Nat} {e : T3} : ∀ {k : Nat}, e ∈ eR n ms i k → e.s = 1 → 1 < ms.getD (i * n + e.t) 0
 | 0, h, _ => by cases h
 | k + 1, h, hs => by
  rcases List.mem_append.1 h with h | h
  ·exact eR_s h hs
  ·unfold ent at h
   rcases List.mem_append.1 h with h | h
   ·split at h
    ·rw [List.mem_singleton] at h; subst h; cases hs
    ·cases h
   ·split at h
    ·rw [List.mem_singleton] at h; subst h; assumption
    ·cases h
theorem eM_s {n : Nat} {ms : List Nat} {e : T3} : ∀ {i : Nat}, e ∈ eM n ms i → e.s = 1 → 1 < ms.getD (e.f * n + e.t) 0
 | 0, h, _ => by cases h
 | i + 1, h, hs => by
  rcases List.mem_append.1 h with h | h
  ·exact eM_s h hs
  ·rw [(qw4 h).1]; exact eR_s h hs
theorem zeg {n : Nat} {ms : List Nat} {i j : Nat} (h : 1 < ms.getD (i * n + j) 0) : ∀ {k : Nat}, j < k → (⟨i, j, 1⟩ : T3) ∈ eR n ms i k
 | 0, hj => by omega
 | k + 1, hj => by
  by_cases e : j = k
  ·subst e
   exact List.mem_append_right _ (List.mem_append_right _ (by rw [if_pos h]; exact List.mem_singleton.2 rfl))
  ·exact List.mem_append_left _ (zeg h (show j < k by omega))
theorem zeh {n : Nat} {ms : List Nat} {i j : Nat} (h : 1 < ms.getD (i * n + j) 0) (hj : j < n) : ∀ {m : Nat}, i < m → (⟨i, j, 1⟩ : T3) ∈ eM n ms m
 | 0, hi => by omega
 | m + 1, hi => by
  by_cases e : i = m
  ·subst e
   exact List.mem_append_right _ (zeg h hj)
  ·exact List.mem_append_left _ (zeh h hj (show i < m by omega))
theorem qwd {n : Nat} {adj : Nat → List Nat} : ∀ {R pre : List (List Nat)} {c : List Nat}, OrdF n adj pre R → c ∈ R → ∃ i, za0 n adj i c
 | [], _, _, _, h => by cases h
 | d :: R, pre, c, ⟨⟨i, _, hc⟩, h2⟩, h => by
  rcases List.mem_cons.1 h with rfl | h
  ·exact ⟨i, hc⟩
  ·exact qwd h2 h
theorem q7w {n : Nat} {adj : Nat → List Nat} {res : List (List Nat)} (h : OrdF n adj [] res) {o : List Nat} (ho : o ∈ res) {x y : Nat} (hx : x ∈ o) (hy : y < n) : y ∈ o ↔ Rc adj x y ∧ Rc adj y x := by
 obtain ⟨i, _, hc⟩ := qwd h ho
 obtain ⟨_, h1, h2⟩ := (hc x).1 hx
 rw [hc y]
 exact ⟨fun g => ⟨h2.trans g.2.1, g.2.2.trans h1⟩, fun g => ⟨hy, h1.trans g.1, g.2.trans h2⟩⟩
structure Nm (n : Nat) (res : List (List Nat)) (ins : List Nat) : Prop where
 is : ∀ (j : Nat) (o : List Nat) (x : Nat), res[j]? = some o → x ∈ o → ins.getD x 0 = j
 all : ∀ x, x < n → ∃ (j : Nat) (o : List Nat), res[j]? = some o ∧ x ∈ o
theorem Nm.lt {n : Nat} {res : List (List Nat)} {ins : List Nat} (h : Nm n res ins) {x : Nat} (hx : x < n) : ins.getD x 0 < res.length := by
 obtain ⟨j, o, h1, h2⟩ := h.all x hx
 rw [h.is j o x h1 h2]
 exact (List.getElem?_eq_some_iff.1 h1).1
theorem Nm.eq {n : Nat} {adj : Nat → List Nat} {res : List (List Nat)} {ins : List Nat} (h : Nm n res ins) (hF : OrdF n adj [] res) {x y : Nat} (hx : x < n) (hy : y < n) : ins.getD x 0 = ins.getD y 0 ↔ Rc adj x y ∧ Rc adj y x := by
 obtain ⟨j, o, h1, h2⟩ := h.all x hx
 obtain ⟨j', o', h3, h4⟩ := h.all y hy
 rw [h.is j o x h1 h2, h.is j' o' y h3 h4, ← q7w hF (List.mem_of_getElem? h1) h2 hy]
 constructor
 ·rintro rfl
  rw [h1] at h3
  cases h3
  exact h4
 ·intro hyo
  rw [← h.is j o y h1 hyo, h.is j' o' y h3 h4]
theorem zbk {n : Nat} {ms : List Nat} {res : List (List Nat)} {ins : List Nat} {insR : List Int} (hN : Nm n res ins) (hI : ∀ y, y < n → insR.getD y 0 = Int.ofNat (ins.getD y 0)) (x : Nat) : x ∈ refL insR (eM n ms n) res.length ↔ x ∈ mixL ins (qbl n ms) := by
 unfold refL
 rw [List.mem_filter, List.mem_range, List.any_eq_true, q2h]
 constructor
 ·rintro ⟨_, e, he, hp⟩
  unfold refP at hp
  rw [Bool.and_eq_true, Bool.and_eq_true, decide_eq_true_eq, decide_eq_true_eq, decide_eq_true_eq] at hp
  obtain ⟨h1, h2, h3⟩ := hp
  obtain ⟨l1, l2, _⟩ := qh2 he
  rw [hI _ l1] at h2
  rw [hI _ l2] at h3
  have h2 := Int.ofNat.inj h2
  have h3 := Int.ofNat.inj h3
  exact ⟨toE e, List.mem_map_of_mem he, decide_eq_true h1, h2.trans h3.symm, h2⟩
 ·rintro ⟨e0, he0, h1, h2, h3⟩
  obtain ⟨e, he, rfl⟩ := List.mem_map.1 he0
  obtain ⟨l1, l2, _⟩ := qh2 he
  have h3' : ins.getD e.f 0 = x := h3
  have h2' : ins.getD e.f 0 = ins.getD e.t 0 := h2
  refine ⟨by rw [← h3']; exact hN.lt l1, e, he, ?_⟩
  unfold refP
  rw [hI _ l1, hI _ l2, ← h2', h3', decide_eq_true (of_decide_eq_true h1), decide_eq_true rfl]; rfl
def cycP (n : Nat) (ms : List Nat) (d : List Int) (i k : Nat) : Prop := 1 < ms.getD (i * n + k) 0 ∧ Int.ofNat 0 ≤ dG n d k i
instance (n : Nat) (ms : List Nat) (d : List Int) (i k : Nat) : Decidable (cycP n ms d i k) := inferInstanceAs (Decidable (_ ∧ _))
theorem q2i {n : Nat} {ms : List Nat} {res : List (List Nat)} {ins : List Nat} (hN : Nm n res ins) (hF : OrdF n (qbi (qbl n ms)) [] res) (hl : ms.length = n * n) (x : Nat) : x ∈ mixL ins (qbl n ms) ↔ ∃ i k, i < n ∧ k < n ∧ cycP n ms (dist n ms) i k ∧ ins.getD i 0 = x := by
 have hD := q0e hl
 rw [q2h]
 constructor
 ·rintro ⟨e0, he0, h1, h2, h3⟩
  obtain ⟨e, he, rfl⟩ := List.mem_map.1 he0
  obtain ⟨l1, l2, _⟩ := qh2 he
  have h2' : ins.getD e.f 0 = ins.getD e.t 0 := h2
  exact ⟨e.f, e.t, l1, l2, ⟨eM_s he (of_decide_eq_true h1), (hD.2 _ _ l2 l1).2 ((hN.eq hF l1 l2).1 h2').2⟩, h3⟩
 ·rintro ⟨i, k, hi, hk, ⟨h1, h2⟩, h3⟩
  have he := zeh h1 hk hi
  have hme : (⟨i, k, true⟩ : Edge) ∈ qbl n ms := List.mem_map.2 ⟨_, he, rfl⟩
  refine ⟨_, hme, rfl, ?_, h3⟩
  exact (hN.eq hF hi hk).2 ⟨Rc.one (qe1.2 ⟨_, hme, rfl, rfl⟩), (hD.2 _ _ hk hi).1 h2⟩
end Go.Di
end
section
/-
 The law CompsMixed: its loops.
-/
namespace Go.Di
open Go.Ev Go.Di.T Go.Sort
open Nat (reduceAdd reduceMul reduceSub reduceLeDiff reduceEqDiff reduceShiftRight reduceAnd)
variable {C : Nat → Ev.Call} {LA LO : LP}
def CyS (n : Nat) (ms : List Nat) (d : List Int) (ins : List Nat) (I K : Nat) (cs : List Bool) : Prop :=
 cs.length = n ∧ ∀ c, c < n → (cs.getD c false = true ↔ ∃ i k, (i < I ∨ (i = I ∧ k < K)) ∧ i < n ∧ k < n ∧ cycP n ms d i k ∧ ins.getD i 0 = c)
theorem CyS.start (n : Nat) (ms : List Nat) (d : List Int) (ins : List Nat) : CyS n ms d ins 0 0 (List.replicate n false) := by
 refine ⟨List.length_replicate, fun c hc => ⟨fun h => ?_, fun ⟨i, k, h, _⟩ => ?_⟩⟩
 ·rw [List.getD_eq_getElem?_getD, List.getElem?_replicate, if_pos hc] at h; cases h
 ·omega
theorem qwv (cs : List Bool) (a c : Nat) (v : Bool) (hc : c < cs.length) : (cs.set a v).getD c false = if a = c then v else cs.getD c false := by
 rw [List.getD_eq_getElem?_getD, List.getD_eq_getElem?_getD, List.getElem?_set]
 by_cases h : a = c
 ·subst h; rw [if_pos rfl, if_pos rfl, if_pos hc]; rfl
 ·rw [if_neg h, if_neg h]
theorem CyS.yes {n : Nat} {ms : List Nat} {d : List Int} {ins : List Nat} {I K : Nat} {cs : List Bool} (h : CyS n ms d ins I K cs) (hI : I < n) (hK : K < n) (hp : cycP n ms d I K) : CyS n ms d ins I (K + 1) (cs.set (ins.getD I 0) true) := by
 refine ⟨by rw [List.length_set]; exact h.1, fun c hc => ?_⟩
 rw [qwv _ _ _ _ (by rw [h.1]; exact hc)]
 by_cases e : ins.getD I 0 = c
 ·rw [if_pos e]
  exact ⟨fun _ => ⟨I, K, Or.inr ⟨rfl, Nat.lt_succ_self K⟩, hI, hK, hp, e⟩, fun _ => rfl⟩
 ·rw [if_neg e, h.2 c hc]
  constructor
  ·rintro ⟨i, k, a, b⟩
   exact ⟨i, k, by omega, b⟩
  ·rintro ⟨i, k, a, b1, b2, b3, b4⟩
   refine ⟨i, k, ?_, b1, b2, b3, b4⟩
   rcases a with a | ⟨rfl, a⟩
   ·exact Or.inl a
   ·exact absurd b4 e
theorem CyS.no {n : Nat} {ms : List Nat} {d : List Int} {ins : List Nat} {I K : Nat} {cs : List Bool} (h : CyS n ms d ins I K cs) (hp : ¬ cycP n ms d I K) : CyS n ms d ins I (K + 1) cs := by
 refine ⟨h.1, fun c hc => (h.2 c hc).trans ⟨?_, ?_⟩⟩
 ·rintro ⟨i, k, a, b⟩
  exact ⟨i, k, by omega, b⟩
 ·rintro ⟨i, k, a, b1, b2, b3, b4⟩
  refine ⟨i, k, ?_, b1, b2, b3, b4⟩
  rcases a with a | ⟨rfl, a⟩
  ·exact Or.inl a
  ·by_cases e : k = K
   ·subst e; exact absurd b3 hp
   ·exact Or.inr ⟨rfl, by omega⟩
theorem CyS.row {n : Nat} {ms : List Nat} {d : List Int} {ins : List Nat} {I : Nat} {cs : List Bool} (h : CyS n ms d ins I n cs) : CyS n ms d ins (I + 1) 0 cs := by
 refine ⟨h.1, fun c hc => (h.2 c hc).trans ⟨?_, ?_⟩⟩
 ·rintro ⟨i, k, a, b⟩
  exact ⟨i, k, by omega, b⟩
 ·rintro ⟨i, k, a, b1, b2, b⟩
  exact ⟨i, k, by omega, b1, b2, b⟩
structure LM (H0 : Hp) (n a3 mb db nb : Nat) (ms : List Nat) (d insR : List Int) (ins : List Nat) : Prop where
 m : H0.get a3 = qab 0 [.int .i64 (.ofNat n), .sl mb 0 (n * n) (n * n) true]
 ml : a3 < H0.nx
 gms : H0.get mb = qab 0 (nats ms)
 msl : mb < H0.nx
 gd : H0.get db = qab 0 (ints d)
 dl : db < H0.nx
 gi : H0.get nb = qab 0 (ints insR)
 il : nb < H0.nx
 len : ms.length = n * n
 dlen : d.length = n * n
 ilen : insR.length = n
 num : ∀ y, y < n → insR.getD y 0 = Int.ofNat (ins.getD y 0) ∧ ins.getD y 0 < n
theorem q3a {call : Ev.Call} {H0 : Hp} {n a3 mb db nb : Nat} {ms : List Nat} {d insR : List Int} {ins : List Nat} (hL : LM H0 n a3 mb db nb ms d insR ins) (hn : n ≤ 256) {i : Nat} (hi : i < n) {q : Hp → R1} {Q : AV → Hp → Prop}
  (hq : ∀ cs H, CyS n ms d ins i n cs → H.get H0.nx = qab 0 (bools cs) → Fm (fun c => c = H0.nx) H0 H → Ok (q H) Q) :
  ∀ (k c : Nat) (cs : List Bool) (H : Hp), n - c < k → c ≤ n → CyS n ms d ins i c cs → H.get H0.nx = qab 0 (bools cs) → Fm (fun c => c = H0.nx) H0 H →
   Ok (qmh call q (.ptr a3 0) (.sl db 0 (n * n) (n * n) true) (.sl nb 0 n n true) (.sl H0.nx 0 n n true) (.int .i64 (.ofNat i)) k (.int .i64 (.ofNat c)) H) Q
 | 0, c, cs, H, h, _, _, _, _ => by omega
 | k + 1, c, cs, H, h, hc, hS, hg, hF => by
  show Ok (qzk call _ _ _ _ _ _ (qmh call _ _ _ _ _ _ k) _ H) Q
  unfold qzk
  have g1 : H.get a3 = qab 0 [.int .i64 (.ofNat n), .sl mb 0 (n * n) (n * n) true] := (hF.get _ hL.ml (by have := hL.ml; omega)).trans hL.m
  have g2 : H.get mb = qab 0 (nats ms) := (hF.get _ hL.msl (by have := hL.msl; omega)).trans hL.gms
  have g3 : H.get db = qab 0 (ints d) := (hF.get _ hL.dl (by have := hL.dl; omega)).trans hL.gd
  have g4 : H.get nb = qab 0 (ints insR) := (hF.get _ hL.il (by have := hL.il; omega)).trans hL.gi
  by_cases hlt : c < n
  ·have i1 : i * n + c < n * n := qeu hi hlt
   have i2 : c * n + i < n * n := qeu hlt hi
   have m1 : i * n ≤ 65536 := Nat.mul_le_mul (Nat.le_of_lt (Nat.lt_of_lt_of_le hi hn)) hn
   have m2 : c * n ≤ 65536 := Nat.mul_le_mul (Nat.le_of_lt (Nat.lt_of_lt_of_le hlt hn)) hn
   have hml := hL.len
   have hdl := hL.dlen
   have v1 : (nats ms)[i * n + c]? = some (.int .i64 (.ofNat (ms.getD (i * n + c) 0))) := by
    unfold nats
    rw [List.getElem?_map, List.getD_eq_getElem?_getD, List.getElem?_eq_getElem (by omega)]; rfl
   have v2 : (ints d)[c * n + i]? = some (.int .i64 (dG n d c i)) := by
    unfold dG
    rw [qgv d _ (by omega), List.getD_eq_getElem?_getD, List.getElem?_eq_getElem (by omega)]; rfl
   obtain ⟨u1, u2⟩ := hL.num i hi
   have hil := hL.ilen
   have v3 : (ints insR)[i]? = some (.int .i64 (.ofNat (ins.getD i 0))) := by
    rw [qgv insR _ (by omega), ← u1, List.getD_eq_getElem?_getD, List.getElem?_eq_getElem (by omega)]; rfl
   have hcl := hS.1
   simp (disch := first | omega | exact ti rfl | (simp only [np, nq]; first | done | omega)) only [go_sem, reduceAdd, reduceMul, reduceSub, reduceLeDiff, reduceEqDiff, reduceShiftRight, reduceAnd, g1, hlt]
   unfold qze
   by_cases h1 : 1 < ms.getD (i * n + c) 0
   ·by_cases h2 : Int.ofNat 0 ≤ dG n d c i
    ·have hb := qk7 cs (ins.getD i 0) true (by omega)
     have hbl : ins.getD i 0 + 1 ≤ (bools cs).length := by rw [qn2, hcl]; exact u2
     simp (disch := first | omega | exact ti rfl | (simp only [np, nq]; first | done | omega)) only [go_sem, reduceAdd, reduceMul, reduceSub, reduceLeDiff, reduceEqDiff, reduceShiftRight, reduceAnd, g1, g2, g3, g4, hg, v1, v2, v3, h1, h2, Nat.mul_one, Nat.zero_add, hb, hbl]
     unfold qmj
     simp (disch := first | omega | exact ti rfl | (simp only [np, nq]; first | done | omega)) only [go_sem, reduceAdd, reduceMul, reduceSub, reduceLeDiff, reduceEqDiff, reduceShiftRight, reduceAnd]
     exact q3a hL hn hi hq k (c + 1) _ _ (by omega) (by omega) (hS.yes hi hlt ⟨h1, h2⟩) (qah _ _ _) (hF.put _ _ fun _ => rfl)
    ·simp (disch := first | omega | exact ti rfl | (simp only [np, nq]; first | done | omega)) only [go_sem, reduceAdd, reduceMul, reduceSub, reduceLeDiff, reduceEqDiff, reduceShiftRight, reduceAnd, g1, g2, g3, v1, v2, h1, h2, Nat.mul_one, Nat.zero_add]
     unfold qmj
     simp (disch := first | omega | exact ti rfl | (simp only [np, nq]; first | done | omega)) only [go_sem, reduceAdd, reduceMul, reduceSub, reduceLeDiff, reduceEqDiff, reduceShiftRight, reduceAnd]
     exact q3a hL hn hi hq k (c + 1) cs H (by omega) (by omega) (hS.no fun h => h2 h.2) hg hF
   ·simp (disch := first | omega | exact ti rfl | (simp only [np, nq]; first | done | omega)) only [go_sem, reduceAdd, reduceMul, reduceSub, reduceLeDiff, reduceEqDiff, reduceShiftRight, reduceAnd, g1, g2, v1, h1, Nat.mul_one, Nat.zero_add]
    unfold qmj
    simp (disch := first | omega | exact ti rfl | (simp only [np, nq]; first | done | omega)) only [go_sem, reduceAdd, reduceMul, reduceSub, reduceLeDiff, reduceEqDiff, reduceShiftRight, reduceAnd]
    exact q3a hL hn hi hq k (c + 1) cs H (by omega) (by omega) (hS.no fun h => h1 h.1) hg hF
  ·simp (disch := first | omega | exact ti rfl | (simp only [np, nq]; first | done | omega)) only [go_sem, reduceAdd, reduceMul, reduceSub, reduceLeDiff, reduceEqDiff, reduceShiftRight, reduceAnd, g1, hlt]
   have : c = n := by omega
   subst this
   exact hq cs H hS hg hF
theorem q9y {call : Ev.Call} {H0 : Hp} {n a3 mb db nb : Nat} {ms : List Nat} {d insR : List Int} {ins : List Nat} (hL : LM H0 n a3 mb db nb ms d insR ins) (hn : n ≤ 256) {q : Hp → R1} {Q : AV → Hp → Prop}
  (hq : ∀ cs H, CyS n ms d ins n 0 cs → H.get H0.nx = qab 0 (bools cs) → Fm (fun c => c = H0.nx) H0 H → Ok (q H) Q) :
  ∀ (k i : Nat) (cs : List Bool) (H : Hp), n - i < k → i ≤ n → CyS n ms d ins i 0 cs → H.get H0.nx = qab 0 (bools cs) → Fm (fun c => c = H0.nx) H0 H →
   Ok (qfi call q (.ptr a3 0) (.sl db 0 (n * n) (n * n) true) (.sl nb 0 n n true) (.sl H0.nx 0 n n true) k (.int .i64 (.ofNat i)) H) Q
 | 0, i, cs, H, h, _, _, _, _ => by omega
 | k + 1, i, cs, H, h, hi, hS, hg, hF => by
  show Ok (qzl call _ _ _ _ _ (qfi call _ _ _ _ _ k) _ H) Q
  unfold qzl
  have g1 : H.get a3 = qab 0 [.int .i64 (.ofNat n), .sl mb 0 (n * n) (n * n) true] := (hF.get _ hL.ml (by have := hL.ml; omega)).trans hL.m
  by_cases hlt : i < n
  ·simp (disch := first | omega | exact ti rfl | (simp only [np, nq]; first | done | omega)) only [go_sem, reduceAdd, reduceMul, reduceSub, reduceLeDiff, reduceEqDiff, reduceShiftRight, reduceAnd, g1, hlt]
   unfold qzd qzo
   rw [qao]
   refine q3a hL hn hlt (fun cs' H' hS' hg' hF' => ?_) qal 0 cs H (by rw [qaf]; omega) (Nat.zero_le _) hS hg hF
   unfold qjq
   simp (disch := first | omega | exact ti rfl | (simp only [np, nq]; first | done | omega)) only [go_sem, reduceAdd, reduceMul, reduceSub, reduceLeDiff, reduceEqDiff, reduceShiftRight, reduceAnd]
   exact q9y hL hn hq k (i + 1) cs' H' (by omega) (by omega) hS'.row hg' hF'
  ·simp (disch := first | omega | exact ti rfl | (simp only [np, nq]; first | done | omega)) only [go_sem, reduceAdd, reduceMul, reduceSub, reduceLeDiff, reduceEqDiff, reduceShiftRight, reduceAnd, g1, hlt]
   have : i = n := by omega
   subst this
   exact hq cs H hS hg hF
theorem qwh {call : Ev.Call} {H0 : Hp} {n : Nat} {w : AV} {R : List Nat} (hw : Rl H0 w (nats R)) (hnd : R.Nodup) (hR : ∀ x ∈ R, x < n) (hl : R.length < 900000) {q1 : AV → Hp → R1} {q : Hp → R1} {Q : AV → Hp → Prop}
  (hq : ∀ cs H, cs.length = n → (∀ c, c < n → cs.getD c false = false) → H.get H0.nx = qab 0 (bools cs) → Fm (fun c => c = H0.nx) H0 H → Ok (q H) Q) :
  ∀ (k i : Nat) (cs : List Bool) (H : Hp), R.length - i < k → i ≤ R.length → cs.length = n → (∀ c, c < n → (cs.getD c false = true ↔ c ∈ R.drop i)) → H.get H0.nx = qab 0 (bools cs) → Fm (fun c => c = H0.nx) H0 H →
   Ok (qjp call q1 q w (.sl H0.nx 0 n n true) k (.int .i64 (.ofNat i)) H) Q
 | 0, i, cs, H, h, _, _, _, _, _ => by omega
 | k + 1, i, cs, H, h, hi, hcl, hS, hg, hF => by
  show Ok (qzm call _ _ _ _ (qjp call _ _ _ _ k) _ H) Q
  unfold qzm
  have e0 := hw.len
  rw [qbd] at e0
  by_cases hlt : i < R.length
  ·obtain ⟨b, o, e1, e2, e3⟩ := hw.at' i (by rw [qbd]; exact hlt)
   rw [qjo, ← hF.get b e2 (by omega)] at e3
   have hx := hR R[i] (List.getElem_mem _)
   have hd : R.drop i = R[i] :: R.drop (i + 1) := List.drop_eq_getElem_cons hlt
   have h1 : cs.getD R[i] false = true := (hS _ hx).2 (by rw [hd]; exact List.mem_cons_self)
   have v1 : (bools cs)[R[i]]? = some (.bool true) := by rw [qgc cs R[i] false (by omega), h1]
   have hnin : R[i] ∉ R.drop (i + 1) := by
    have := hnd.sublist (List.drop_sublist i R)
    rw [hd, List.nodup_cons] at this
    exact this.1
   have hb := qk7 cs R[i] false (by omega)
   have hbl : R[i] + 1 ≤ (bools cs).length := by rw [qn2, hcl]; exact hx
   simp (disch := first | omega | exact ti rfl | (simp only [np, nq]; first | done | omega)) only [go_sem, reduceAdd, reduceMul, reduceSub, reduceLeDiff, reduceEqDiff, reduceShiftRight, reduceAnd, e0, hlt]
   unfold qzf
   simp (disch := first | omega | exact ti rfl | (simp only [np, nq]; first | done | omega)) only [go_sem, reduceAdd, reduceMul, reduceSub, reduceLeDiff, reduceEqDiff, reduceShiftRight, reduceAnd, e1, e3, hg, v1, Nat.mul_one, Nat.zero_add]
   unfold qzg
   simp (disch := first | omega | exact ti rfl | (simp only [np, nq]; first | done | omega)) only [go_sem, reduceAdd, reduceMul, reduceSub, reduceLeDiff, reduceEqDiff, reduceShiftRight, reduceAnd, e1, e3, hg, Nat.mul_one, Nat.zero_add, hb, hbl]
   unfold qzh
   simp (disch := first | omega | exact ti rfl | (simp only [np, nq]; first | done | omega)) only [go_sem, reduceAdd, reduceMul, reduceSub, reduceLeDiff, reduceEqDiff, reduceShiftRight, reduceAnd]
   refine qwh hw hnd hR hl hq k (i + 1) _ _ (by omega) (by omega) (by rw [List.length_set]; exact hcl) (fun c hc => ?_) (qah _ _ _) (hF.put _ _ fun _ => rfl)
   rw [qwv _ _ _ _ (by omega)]
   by_cases e : R[i] = c
   ·rw [if_pos e, ← e]
    exact ⟨fun h => (by cases h), fun h => absurd h hnin⟩
   ·rw [if_neg e, hS c hc, hd, List.mem_cons]
    exact ⟨fun h => h.elim (fun h => absurd h.symm e) id, Or.inr⟩
  ·simp (disch := first | omega | exact ti rfl | (simp only [np, nq]; first | done | omega)) only [go_sem, reduceAdd, reduceMul, reduceSub, reduceLeDiff, reduceEqDiff, reduceShiftRight, reduceAnd, e0, hlt]
   have : i = R.length := by omega
   subst this
   refine hq cs H hcl (fun c hc => ?_) hg hF
   cases hh : cs.getD c false with
   | false => rfl
   | true => have := (hS c hc).1 hh; rw [List.drop_length] at this; cases this
theorem qru {call : Ev.Call} {H : Hp} {n a3 cb : Nat} {x : AV} {cs : List Bool} (hn : n ≤ 256) (hm : H.get a3 = qab 0 [.int .i64 (.ofNat n), x]) (hcl : cs.length = n) (hS : ∀ c, c < n → cs.getD c false = false) (hg : H.get cb = qab 0 (bools cs)) {q1 : AV → Hp → R1} {q : Hp → R1} {Q : AV → Hp → Prop} (hq : Ok (q H) Q) :
  ∀ (k i : Nat), n - i < k → i ≤ n → Ok (qmi call q1 q (.ptr a3 0) (.sl cb 0 n n true) k (.int .i64 (.ofNat i)) H) Q
 | 0, i, h, _ => by omega
 | k + 1, i, h, hi => by
  show Ok (qzn call _ _ _ _ (qmi call _ _ _ _ k) _ H) Q
  unfold qzn
  by_cases hlt : i < n
  ·have v1 : (bools cs)[i]? = some (.bool false) := by rw [qgc cs i false (by omega), hS i hlt]
   simp (disch := first | omega | exact ti rfl | (simp only [np, nq]; first | done | omega)) only [go_sem, reduceAdd, reduceMul, reduceSub, reduceLeDiff, reduceEqDiff, reduceShiftRight, reduceAnd, hm, hlt]
   unfold qzi
   simp (disch := first | omega | exact ti rfl | (simp only [np, nq]; first | done | omega)) only [go_sem, reduceAdd, reduceMul, reduceSub, reduceLeDiff, reduceEqDiff, reduceShiftRight, reduceAnd, hg, v1, Nat.mul_one, Nat.zero_add]
   unfold qzj
   simp (disch := first | omega | exact ti rfl | (simp only [np, nq]; first | done | omega)) only [go_sem, reduceAdd, reduceMul, reduceSub, reduceLeDiff, reduceEqDiff, reduceShiftRight, reduceAnd]
   exact qru hn hm hcl hS hg hq k (i + 1) (by omega) (by omega)
  ·simp (disch := first | omega | exact ti rfl | (simp only [np, nq]; first | done | omega)) only [go_sem, reduceAdd, reduceMul, reduceSub, reduceLeDiff, reduceEqDiff, reduceShiftRight, reduceAnd, hm, hlt]
   exact hq
end Go.Di
end
section
/-
 The law CompsMixed.
-/
namespace Go.Di
open Go.Ev Go.Di.T Go.Sort
open Nat (reduceAdd reduceMul reduceSub reduceLeDiff reduceEqDiff reduceShiftRight reduceAnd)
variable {C : Nat → Ev.Call} {LA LO : LP}
theorem qvb (hC : qbf C) (hO : qc7 C) (hS : qb4 C) (hR : qdy LA LO C) {k : Nat} (hk : 1500 ≤ k) (hlive : ∀ k H, 1 ≤ k → C k (.f qck) [] H = .ok (.bool true) H) {call : Ev.Call} (hcall : call = C k) {N cnt : Nat} {v : AV} {H : Hp} (hv : Arg3 H v cnt) :
  Ok (lwM call (.agg [.int .u8 (.ofNat N), v]) H) fun r _ => r = .bool true := by
 subst hcall
 unfold lwM zfy
 have fH : Fm No H (qas H (qab 0 [.int .u8 (.ofNat N), v])) := by (repeat (first | exact Fm.refl _ _ | assumption | refine Fm.push ?_ _ | refine Fm.up2 ?_ (by (first | omega | (simp only [np, nq]; omega))) | refine Fm.put_new ?_ _ _ (by (first | omega | (simp only [np, nq]; omega)))))
 simp (disch := first | omega | exact ti rfl | (simp only [np, nq]; first | done | omega)) only [go_sem, reduceAdd, reduceMul, reduceSub, reduceLeDiff, reduceEqDiff, reduceShiftRight, reduceAnd]
 refine Ok.ve (q05 hC (by omega) (hv.fm fH)) ?_
 rintro r H1 ⟨mb, ms, hM, hmb, f1⟩
 generalize hn : N % 13 = n at *
 have hn13 : n < 13 := by omega
 have hr := hM.hv
 subst hr
 simp (disch := first | omega | exact ti rfl | (simp only [np, nq]; first | done | omega)) only [go_sem, reduceAdd, reduceMul, reduceSub, reduceLeDiff, reduceEqDiff, reduceShiftRight, reduceAnd]
 have fa : Fm No H1 ((qas H1 (qab 0 [.int .i64 (.ofNat 0), .nilsl])).put H1.nx (qab 0 [.int .i64 (.ofNat n), .sl mb 0 (n * n) (n * n) true])) := by (repeat (first | exact Fm.refl _ _ | assumption | refine Fm.push ?_ _ | refine Fm.up2 ?_ (by (first | omega | (simp only [np, nq]; omega))) | refine Fm.put_new ?_ _ _ (by (first | omega | (simp only [np, nq]; omega)))))
 refine Ok.ve (zdp hC (by omega) (hM.fm fa)) ?_
 rintro r H2 ⟨w, rfl, hG, f2, hw⟩
 simp (disch := first | omega | exact ti rfl | (simp only [np, nq]; first | done | omega)) only [go_sem, reduceAdd, reduceMul, reduceSub, reduceLeDiff, reduceEqDiff, reduceShiftRight, reduceAnd]
 have n2 : H1.nx + 1 ≤ H2.nx := f2.nx
 have m2 : H2.get H1.nx = qab 0 [.int .i64 (.ofNat n), .sl mb 0 (n * n) (n * n) true] := (f2.keep (by (first | omega | (simp only [np, nq]; omega)))).trans (qah _ _ _)
 have fb : Fm No H2 ((qas H2 (qab 0 [.int .i64 (.ofNat 0), .nilsl])).put H2.nx (qab 0 [.int .i64 (.ofNat n), w])) := by (repeat (first | exact Fm.refl _ _ | assumption | refine Fm.push ?_ _ | refine Fm.up2 ?_ (by (first | omega | (simp only [np, nq]; omega))) | refine Fm.put_new ?_ _ _ (by (first | omega | (simp only [np, nq]; omega)))))
 have hE := q25 n ms
 have hlen : (qbl n ms).length < 900 := by
  have h1 := qw5 n ms n
  have h2 : n * n ≤ 12 * 12 := Nat.mul_le_mul (by omega) (by omega)
  unfold qbl
  rw [List.length_map]
  omega
 refine Ok.ve (zdn hC hO hS hR (k := k) (by omega) hE (by omega) (by omega) (Gl.no hG fb)) ?_
 rintro r H3 ⟨x, res, ins, R, rfl, hF1, hin, hasc, hmem, hx, hcx, hRl, f3⟩
 have n3 : H2.nx + 1 ≤ H3.nx := f3.nx
 have m3 : H3.get H1.nx = qab 0 [.int .i64 (.ofNat n), .sl mb 0 (n * n) (n * n) true] := ((fb.trans f3).keep (by omega)).trans m2
 have f13 : Fm No H1 H3 := ((fa.trans f2).trans fb).trans f3
 simp (disch := first | omega | exact ti rfl | (simp only [np, nq]; first | done | omega)) only [go_sem, reduceAdd, reduceMul, reduceSub, reduceLeDiff, reduceEqDiff, reduceShiftRight, reduceAnd, m3]
 refine Ok.ve (qx3 hC (k := k) (by omega) (hM.fm f13) hn13) ?_
 rintro w2 H4 ⟨insR, res', hF2, hiv, hw2, f4⟩
 have hrr : res' = res := (hF1.uniq hF2).symm
 subst hrr
 obtain ⟨z1, z2, z3, z4, z5⟩ := hF2.all
 have hN : Nm n res' ins := ⟨fun j o y h1 h2 => by
  rw [List.getD_eq_getElem?_getD, hin j o y h1 h2]; rfl, fun y hy => by
  obtain ⟨o, ho, hyo⟩ := List.mem_flatten.1 (z3 y hy)
  obtain ⟨j, hj⟩ := List.mem_iff_getElem?.1 ho
  exact ⟨j, o, hj, hyo⟩⟩
 have hnum : ∀ y, y < n → insR.getD y 0 = Int.ofNat (ins.getD y 0) := fun y hy => by
  obtain ⟨j, o, h1, h2⟩ := hN.all y hy
  rw [hN.is j o y h1 h2, hiv j o y h1 h2]
 have hRe : refL insR (eM n ms n) res'.length = R := by
  refine qu9 ?_ hasc fun y => (zbk hN hnum y).trans (hmem y).symm
  unfold refL
  exact (List.pairwise_lt_range).filter _
 rw [hRe] at hw2
 have hl4 := (q8g hC (k := k) (by omega) (hx.fm f4) hw2.rl (zb5 _) (by rw [qbd]; omega) (by rw [qbd]; exact hcx) 0)
 refine Ok.ve hl4 ?_
 rintro r H5 ⟨rfl, rfl⟩
 simp (disch := first | omega | exact ti rfl | (simp only [np, nq]; first | done | omega)) only [go_sem, reduceAdd, reduceMul, reduceSub, reduceLeDiff, reduceEqDiff, reduceShiftRight, reduceAnd]
 unfold qzc
 have m4 : H5.get H1.nx = qab 0 [.int .i64 (.ofNat n), .sl mb 0 (n * n) (n * n) true] := (f4.keep (by omega)).trans m3
 have f15 : Fm No H1 H5 := f13.trans f4
 have n4 := f4.nx
 simp (disch := first | omega | exact ti rfl | (simp only [np, nq]; first | done | omega)) only [go_sem, reduceAdd, reduceMul, reduceSub, reduceLeDiff, reduceEqDiff, reduceShiftRight, reduceAnd, m4]
 refine Ok.ve (qq5 hC (k := k) (by omega) (hM.fm f15) (dbnd hM.ok.len hn13)) ?_
 rintro dv H6 ⟨rfl, d1, d2, f6⟩
 have n6 := f6.nx
 have m6 : H6.get H1.nx = qab 0 [.int .i64 (.ofNat n), .sl mb 0 (n * n) (n * n) true] := (f6.keep (by omega)).trans m4
 simp (disch := first | omega | exact ti rfl | (simp only [np, nq]; first | done | omega)) only [go_sem, reduceAdd, reduceMul, reduceSub, reduceLeDiff, reduceEqDiff, reduceShiftRight, reduceAnd, m6]
 refine Ok.ve (q1t hC (k := k) (by omega) ((hM.fm f15).fm f6) hn13) ?_
 rintro r H7 ⟨lr, nb, insQ, cs, resQ, HR, rfl, fR, hRI, hF3, _⟩
 have hrr : resQ = res' := (hF2.uniq hF3).symm
 subst hrr
 have f7 : Fm No H6 H7 := fR.trans hRI.fm
 have n7 := f7.nx
 have m7 : H7.get H1.nx = qab 0 [.int .i64 (.ofNat n), .sl mb 0 (n * n) (n * n) true] := (f7.keep (by omega)).trans m6
 have mk := qdu [.bool false] 1 H7.nx n (by omega) (by omega)
 rw [qcv, qqz] at mk
 have hMl := hM.lt
 have f17 : Fm No H1 H7 := (f15.trans f6).trans f7
 have hdl : (dist n ms).length = n * n := (q0e hM.ok.len).1
 have hL : LM H7 n H1.nx mb (H5.nx + 1) nb ms (dist n ms) insQ ins := {
  m := m7
  ml := by omega
  gms := (f17.keep hMl).trans hM.get
  msl := Nat.lt_of_lt_of_le hMl f17.nx
  gd := (f7.keep d2).trans d1
  dl := by omega
  gi := hRI.ng
  il := hRI.nbl.2
  len := hM.ok.len
  dlen := hdl
  ilen := hRI.il
  num := fun y hy => by
   obtain ⟨j, o, h1, h2⟩ := hN.all y hy
   refine ⟨by rw [hN.is j o y h1 h2, hRI.iv j o y h1 h2], ?_⟩
   have := hN.lt hy
   obtain ⟨y1, y2⟩ := hRI.len
   omega }
 simp (disch := first | omega | exact ti rfl | (simp only [np, nq]; first | done | omega)) only [go_sem, reduceAdd, reduceMul, reduceSub, reduceLeDiff, reduceEqDiff, reduceShiftRight, reduceAnd, m7, mk]
 unfold qzp
 rw [qao]
 have hx7 : Rl H7 x (nats R) := ((hx.fm f4).fm f6).fm f7
 have hnd : R.Nodup := hasc.imp fun h => Nat.ne_of_lt h
 have hRn : ∀ y ∈ R, y < n := fun y hy => by
  obtain ⟨i, k, hi, hk, _, e⟩ := (q2i hN hF2 hM.ok.len y).1 ((hmem y).1 hy)
  rw [← e]
  have := hN.lt hi
  obtain ⟨y1, y2⟩ := hRI.len
  omega
 refine q9y hL (by omega) (fun bs H8 hB g8 f8 => ?_) qal 0 (List.replicate n false) _ (by rw [qaf]; omega) (Nat.zero_le _) (CyS.start _ _ _ _) (qaq _ _) ((Fm.refl _ _).push _)
 unfold qet qzq
 rw [qao]
 refine qwh hx7 hnd hRn (by omega) (fun cs9 H9 l9 hc9 g9 f9 => ?_) qal 0 bs H8 (by rw [qaf]; omega) (Nat.zero_le _) hB.1 (fun c hc => ?_) g8 f8
 ·unfold qhu qzr
  rw [qao]
  refine qru (n := n) (by omega) ((f9.get _ (by omega) (by omega)).trans m7) l9 hc9 g9 ?_ qal 0 (by rw [qaf]; omega) (Nat.zero_le _)
  unfold qjr
  have hlv := hlive k H9 (by omega)
  simp (disch := first | omega | exact ti rfl | (simp only [np, nq]; first | done | omega)) only [go_sem, reduceAdd, reduceMul, reduceSub, reduceLeDiff, reduceEqDiff, reduceShiftRight, reduceAnd, hlv]
  exact Ok.ret rfl
 ·rw [List.drop_zero, hmem c, q2i hN hF2 hM.ok.len c, hB.2 c hc]
  constructor
  ·rintro ⟨i, k, _, a1, a2, a3, a4⟩
   exact ⟨i, k, a1, a2, a3, a4⟩
  ·rintro ⟨i, k, a1, a2, a3, a4⟩
   exact ⟨i, k, Or.inl a1, a1, a2, a3, a4⟩
end Go.Di
end
