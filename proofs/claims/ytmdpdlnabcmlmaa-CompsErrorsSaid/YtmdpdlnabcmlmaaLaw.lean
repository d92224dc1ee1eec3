/-
 For countersignlaw17.CompsErrors: the law. No conditions beyond those that each theorem states.
-/
import Derived.Test.YtmdpdlnabcmlmaaCompE
import Derived.Test.YtmdpdlnabcmlmaaGraC
set_option linter.unusedSimpArgs false
set_option linter.unusedVariables false
open Nat (reduceAdd reduceMul reduceSub reduceLeDiff reduceEqDiff reduceShiftRight reduceAnd)
section
/-
 Contracts: doubles taken out of an ascending list.
-/
namespace Go.Di
open Go.Ev Go.Di.T Go.Sort
variable {C : Nat → Ev.Call}
theorem rdP {H : Hp} {b q : Nat} {P : List AV} {M : List Nat} (hg : H.get b = qac q (P ++ nats M)) {i : Nat} (h : i < M.length) : qb8 (H.get b) (P.length + i) = .val (.int .i64 (.ofNat M[i])) := by
 rw [hg, qdi, List.getElem?_append_right (by omega), Nat.add_sub_cancel_left]
 unfold nats
 rw [List.getElem?_map, List.getElem?_eq_getElem h]; rfl
theorem setP (P : List AV) (M : List Nat) {i : Nat} (x : Nat) (h : i < M.length) : setL (P ++ nats M) (P.length + i) [.int .i64 (.ofNat x)] = P ++ nats (M.set i x) := by
 have hn : (nats M).length = M.length := qb7 M
 unfold setL
 rw [List.take_append, List.take_of_length_le (by omega), List.drop_append, List.drop_eq_nil_of_le (by simp; omega)]
 rw [show P.length + i - P.length = i by omega, show P.length + i + [AV.int .i64 (.ofNat x)].length - P.length = i + 1 by simp; omega]
 have : nats (M.set i x) = (nats M).set i (.int .i64 (.ofNat x)) := by unfold nats; rw [List.map_set]
 rw [this, List.set_eq_take_append_cons_drop, if_pos (by omega)]
 simp
theorem zjs (P : List AV) (M : List Nat) {k n : Nat} (hl : M.length = n) (h : k ≤ n) : setL (P ++ nats M) (P.length + k) (reps [.int .i64 (.ofNat 0)] (n - k)) = P ++ nats (M.take k ++ List.replicate (n - k) 0) := by
 have hn : (nats M).length = n := by rw [qb7, hl]
 have hr : reps [.int .i64 (.ofNat 0)] (n - k) = nats (List.replicate (n - k) 0) := by rw [qf3]; unfold nats; rw [List.map_replicate]
 have hr2 : (nats (List.replicate (n - k) 0)).length = n - k := by rw [qb7, List.length_replicate]
 unfold setL
 rw [hr, hr2, List.take_append, List.take_of_length_le (by omega), List.drop_append, List.drop_eq_nil_of_le (by omega)]
 rw [show P.length + k - P.length = k by omega, List.drop_eq_nil_of_le (by omega)]
 have : nats (M.take k ++ List.replicate (n - k) 0) = (nats M).take k ++ nats (List.replicate (n - k) 0) := by unfold nats; rw [List.map_append, List.map_take]
 rw [this]
 simp
structure Cp (l M : List Nat) (k p : Nat) : Prop where
 len : M.length = l.length
 lt : k < p
 le : p ≤ l.length
 same : M.drop k = l.drop k
 asc : (M.take k).Pairwise (· < ·)
 mem : ∀ x, x ∈ M.take k ↔ x ∈ l.take p
theorem Cp.at {l M : List Nat} {k p i : Nat} (h : Cp l M k p) (hi : k ≤ i) (hil : i < l.length) : M[i]'(by rw [h.len]; exact hil) = l[i] := by
 have h1 : (M.drop k)[i - k]? = (l.drop k)[i - k]? := by rw [h.same]
 rw [List.getElem?_drop, List.getElem?_drop, show k + (i - k) = i by omega, List.getElem?_eq_getElem hil, List.getElem?_eq_getElem (by rw [h.len]; exact hil)] at h1
 exact Option.some.inj h1
theorem qe9 {l : List Nat} {p : Nat} (h : p < l.length) : l.take (p + 1) = l.take p ++ [l[p]] := List.take_succ_eq_append_getElem h
theorem qqc {l : List Nat} {p x : Nat} (h : x ∈ l.take p) : ∃ i, ∃ (hi : i < l.length), i < p ∧ l[i] = x := by
 obtain ⟨i, hi, e⟩ := List.mem_iff_getElem.1 h
 rw [List.length_take] at hi
 exact ⟨i, by omega, by omega, by rw [← e]; simp⟩
theorem Cp.eq {l M : List Nat} {k p : Nat} (h : Cp l M k p) (hp : p < l.length) (he : l[p] = l[p - 1]'(by omega)) : Cp l M k (p + 1) := by
 refine ⟨h.len, by have := h.lt; omega, hp, h.same, h.asc, fun x => (h.mem x).trans ?_⟩
 rw [qe9 hp, List.mem_append, List.mem_singleton]
 refine ⟨Or.inl, fun hx => hx.elim id fun hx => ?_⟩
 have h0 := h.lt
 rw [hx, he]
 have : l.take p = l.take (p - 1) ++ [l[p - 1]'(by omega)] := by
  have := qe9 (l := l) (p := p - 1) (by omega)
  rwa [show p - 1 + 1 = p by omega] at this
 exact this ▸ List.mem_append_right _ (List.mem_singleton.2 rfl)
theorem Cp.ne {l M : List Nat} {k p : Nat} (h : Cp l M k p) (hs : l.Pairwise (· ≤ ·)) (hp : p < l.length) (he : ¬ l[p] = l[p - 1]'(by omega)) : Cp l (M.set k l[p]) (k + 1) (p + 1) := by
 have h0 := h.lt
 have hml := h.len
 have ht : (M.set k l[p]).take (k + 1) = M.take k ++ [l[p]] := by
  rw [qe9 (l := M.set k l[p]) (p := k) (by rw [List.length_set]; omega), List.getElem_set_self, List.take_set_of_le (Nat.le_refl k)]
 refine ⟨by rw [List.length_set, hml], by omega, hp, ?_, ?_, fun x => ?_⟩
 ·rw [List.drop_set_of_lt (by omega)]
  have := congrArg (List.drop 1) h.same
  rwa [List.drop_drop, List.drop_drop] at this
 ·rw [ht, List.pairwise_append]
  refine ⟨h.asc, List.pairwise_singleton _ _, fun a ha b hb => ?_⟩
  rw [List.mem_singleton] at hb
  subst hb
  obtain ⟨i, hi, hip, rfl⟩ := qqc ((h.mem a).1 ha)
  have hs' := List.pairwise_iff_getElem.1 hs
  have a1 : l[p - 1]'(by omega) ≤ l[p] := hs' (p - 1) p (by omega) hp (by omega)
  have a2 : l[i] ≤ l[p - 1]'(by omega) := by
   rcases Nat.lt_or_ge i (p - 1) with h2 | h2
   ·exact hs' i (p - 1) hi (by omega) h2
   ·have : i = p - 1 := by omega
    subst this; exact Nat.le_refl _
  omega
 ·rw [ht, qe9 hp, List.mem_append, List.mem_append, h.mem x]
theorem qo5 {call : Ev.Call} {b o n q : Nat} {e : Bool} {P : List AV} {l : List Nat} (hs : l.Pairwise (· ≤ ·)) (hP : P.length = o) (hl : l.length = n) (hn : n < 900) {c0 : Nat} (hc0 : c0 < n) {H1 : Hp} {q2 : AV → Hp → R1} {Q : AV → Hp → Prop}
  (hq : ∀ M k H, Cp l M k n → H.get b = qac q (P ++ nats M) → Fm (fun c => c = b) H1 H → Ok (q2 (.int .i64 (.ofNat k)) H) Q) :
  ∀ (f k k2 : Nat) (M : List Nat) (H : Hp), n - (c0 + k2) < f → 1 ≤ k2 → Cp l M k (c0 + k2) → H.get b = qac q (P ++ nats M) → Fm (fun c => c = b) H1 H →
   Ok (qdd call q2 (.sl b o n n e) (.sl b (o + c0) (n - c0) (n - c0) e) f (.int .i64 (.ofNat k)) (.int .i64 (.ofNat k2)) H) Q
 | 0, k, k2, M, H, h, _, _, _, _ => by omega
 | f + 1, k, k2, M, H, h, h1, hC, hg, hF => by
  show Ok (qhv call _ _ _ (qdd call _ _ _ f) _ _ H) Q
  unfold qhv
  have hlt := hC.lt
  have hle := hC.le
  have hml := hC.len
  by_cases hk : k2 < n - c0
  ·have e1 := rdP hg (i := c0 + k2) (by omega)
   have e2 := rdP hg (i := c0 + (k2 - 1)) (by omega)
   rw [hC.at (by omega) (by omega), hP, ← Nat.add_assoc] at e1
   rw [hC.at (by omega) (by omega), hP, ← Nat.add_assoc] at e2
   simp (disch := omega) only [go_sem, reduceAdd, hk]
   unfold qhu
   have hpe : l[c0 + k2 - 1]'(by omega) = l[c0 + (k2 - 1)]'(by omega) := by congr 1; omega
   by_cases he : l[c0 + k2]'(by omega) = l[c0 + k2 - 1]'(by omega)
   ·rw [he, hpe] at e1
    simp (disch := omega) only [go_sem, reduceAdd, Nat.mul_one, e1, e2]
    unfold qdt
    simp (disch := omega) only [go_sem, reduceAdd]
    exact qo5 hs hP hl hn hc0 hq f k (k2 + 1) M H (by omega) (by omega) (hC.eq (by omega) he) hg hF
   ·have he' : ¬ l[c0 + k2]'(by omega) = l[c0 + (k2 - 1)]'(by omega) := by rw [← hpe]; exact he
    have e3 := setP P M (i := k) (l[c0 + k2]'(by omega)) (by omega)
    rw [hP] at e3
    have e4 : ∀ x : AV, qj9 (qac q (P ++ nats M)) (o + k) [x] = some (qac q (setL (P ++ nats M) (o + k) [x])) := fun x => by
     rw [qjo, if_pos]
     rw [List.length_append, qb7]; simp only [List.length_cons, List.length_nil]; omega
    simp (disch := omega) only [go_sem, reduceAdd, Nat.mul_one, e1, e2, he']
    rw [hg] at *
    simp (disch := omega) only [go_sem, reduceAdd, e4, e3]
    unfold qdt
    simp (disch := omega) only [go_sem, reduceAdd]
    exact qo5 hs hP hl hn hc0 hq f (k + 1) (k2 + 1) _ _ (by omega) (by omega) (hC.ne hs (by omega) he) (qah _ _ _) (hF.put _ _ fun _ => rfl)
  ·simp (disch := omega) only [go_sem, reduceAdd, hk]
   have : c0 + k2 = n := by omega
   rw [this] at hC
   exact hq M k H hC hg hF
theorem qto {call : Ev.Call} {b o n q : Nat} {e : Bool} {P : List AV} {l : List Nat} (hs : l.Pairwise (· ≤ ·)) (hP : P.length = o) (hl : l.length = n) (hn : n < 900) {H : Hp} (hg : H.get b = qac q (P ++ nats l)) (hb : b < H.nx) (heq : e = true ∨ q = 1) {q2 : Hp → R1} {Q : AV → Hp → Prop}
  (hq : ∀ k R H', k ≤ n → R.length = k → R.Pairwise (· < ·) → (∀ x, x ∈ R ↔ x ∈ l) → Gs 1 H' (.sl b o k n e) k (nats R) → Fm (fun c => c = b) H H' → Q (.sl b o k n e) H') (hq2 : l.Pairwise (· < ·) → Ok (q2 H) Q) :
  ∀ (f k : Nat), n - k < f → 1 ≤ k → k ≤ n → (l.take k).Pairwise (· < ·) →
   Ok (qdo call (fun x H => .ok x H) q2 (.sl b o n n e) f (.int .i64 (.ofNat k)) H) Q
 | 0, k, h, _, _, _ => by omega
 | f + 1, k, h, h1, hk, ha => by
  show Ok (qi9 call _ _ _ (qdo call _ _ _ f) _ H) Q
  unfold qi9
  by_cases hlt : k < n
  ·have e1 := rdP hg (i := k) (by omega)
   have e2 := rdP hg (i := k - 1) (by omega)
   rw [hP] at e1 e2
   simp (disch := omega) only [go_sem, reduceAdd, hlt]
   unfold qht
   by_cases he : l[k]'(by omega) = l[k - 1]'(by omega)
   ·rw [he] at e1
    have e3 := qnd 1 b o n n e (a := k) (by omega) (Nat.le_refl _) hlt
    rw [Nat.mul_one] at e3
    simp (disch := omega) only [go_sem, reduceAdd, Nat.mul_one, e1, e2, e3]
    unfold qhw
    rw [qam]
    have hC0 : Cp l l k (k + 1) := by
     refine ⟨rfl, by omega, by omega, rfl, ha, fun x => ?_⟩
     rw [qe9 (p := k) (by omega), List.mem_append, List.mem_singleton]
     refine ⟨Or.inl, fun hx => hx.elim id fun hx => ?_⟩
     have : l.take k = l.take (k - 1) ++ [l[k - 1]'(by omega)] := by
      have := qe9 (l := l) (p := k - 1) (by omega)
      rwa [show k - 1 + 1 = k by omega] at this
     rw [hx, he]
     exact this ▸ List.mem_append_right _ (List.mem_singleton.2 rfl)
    refine qo5 (H1 := H) hs hP hl hn (c0 := k) hlt (fun M k' H' hC hg' hF => ?_) qal k 1 l H (by rw [qag]; omega) (Nat.le_refl 1) hC0 hg (Fm.refl _ _)
    unfold qct
    have c1 := hC.lt
    have c2 := hC.len
    have s1 := qnd 1 b o n n e (a := k') (by omega) (Nat.le_refl _) c1
    rw [Nat.mul_one] at s1
    have s2 := qvs 1 b o n n e (k := k') (by omega) (Nat.le_refl _) (by omega)
    have cl := zjs P M (k := k') (n := n) (by omega) (by omega)
    rw [hP] at cl
    have hlen0 : (reps [.int .i64 (.ofNat 0)] (n - k')).length = n - k' := by rw [qf3, List.length_replicate]
    have s3 : qtr [.int .i64 (.ofNat 0)] H' (.sl b (o + k') (n - k') (n - k') e) = .ok .undef (H'.put b (qac q (P ++ nats (M.take k' ++ List.replicate (n - k') 0)))) := by
     show (bif Nat.beq (n - k') 0 then _ else storeAt H' b (o + k') (reps [.int .i64 (.ofNat 0)] (n - k')) .undef) = _
     rw [beq_eq, decide_eq_false (by omega), cond_false, qnb _ _ _ _ _ _ _ hg' (by rw [hlen0, List.length_append, qb7]; omega), cl]
    simp (disch := omega) only [go_sem, reduceAdd, s1, s2, s3]
    have ht : (M.take k').length = k' := by rw [List.length_take]; omega
    refine Ok.ret (hq k' (M.take k') _ (by omega) ht hC.asc (fun x => by rw [hC.mem x, ← hl, List.take_length]) ?_ (hF.put _ _ fun _ => rfl))
    refine ⟨by rw [qb7, ht, Nat.mul_one], .inr ⟨b, o, n, e, q, _, rfl, by omega, qah _ _ _, ?_, ?_, heq, Nat.lt_of_lt_of_le hb hF.nx⟩⟩
    ·rw [List.length_append, qb7, List.length_append, ht, List.length_replicate]; omega
    ·rw [List.drop_append_of_le_length (by omega), List.drop_eq_nil_of_le (by omega), List.nil_append, Nat.mul_one]
     unfold nats
     rw [← List.map_take, List.take_append_of_le_length (by omega), List.take_of_length_le (by omega)]
   ·simp (disch := omega) only [go_sem, reduceAdd, Nat.mul_one, e1, e2, he]
    unfold qi8
    simp (disch := omega) only [go_sem, reduceAdd]
    refine qto hs hP hl hn hg hb heq hq hq2 f (k + 1) (by omega) (by omega) (by omega) ?_
    rw [qe9 (p := k) (by omega), List.pairwise_append]
    refine ⟨ha, List.pairwise_singleton _ _, fun a ha' c hc => ?_⟩
    rw [List.mem_singleton] at hc
    subst hc
    obtain ⟨i, hi, hip, rfl⟩ := qqc ha'
    have hs' := List.pairwise_iff_getElem.1 hs
    have a1 : l[k - 1]'(by omega) ≤ l[k]'(by omega) := hs' (k - 1) k (by omega) (by omega) (by omega)
    have a2 : l[i] ≤ l[k - 1]'(by omega) := by
     rcases Nat.lt_or_ge i (k - 1) with h2 | h2
     ·exact hs' i (k - 1) hi (by omega) h2
     ·have : i = k - 1 := by omega
      subst this; exact Nat.le_refl _
    omega
  ·simp (disch := omega) only [go_sem, reduceAdd, hlt]
   have : k = n := by omega
   subst this
   rw [← hl, List.take_length] at ha
   exact hq2 ha
theorem q7p (hO : qdj C) {k : Nat} (hk : 1 ≤ k) {n : Nat} {v : AV} {l : List Nat} {H : Hp} (hs : l.Pairwise (· ≤ ·)) (hn : n < 900) (hv : Gl 1 H v n (nats l)) :
  Ok (C k (.f qf5) [v] H) fun r H' => ∃ R : List Nat, R.Pairwise (· < ·) ∧ (∀ x, x ∈ R ↔ x ∈ l) ∧ Gs 1 H' r R.length (nats R) ∧ (∀ b, In r b → In v b) ∧ Fm (In v) H H' := by
 obtain ⟨j, rfl⟩ : ∃ j, k = j + 1 := ⟨k - 1, by omega⟩
 have hln : l.length = n := by have := hv.len; rw [qb7] at this; omega
 rw [(hO j).o_Compact]
 unfold o_Compact qlm
 have e0 := hv.lenV
 by_cases h2 : n < 2
 ·simp (disch := omega) only [go_sem, reduceAdd, e0, h2]
  refine Ok.ret ⟨l, ?_, fun x => Iff.rfl, by rw [hln]; exact hv.gs, fun b h => h, Fm.refl _ _⟩
  match l, hln with
  | [], _ => exact List.Pairwise.nil
  | [x], _ => exact List.pairwise_singleton _ _
  | x :: y :: t, h => simp at h; omega
 ·rcases hv.is with ⟨_, h0⟩ | ⟨b, o, e, q, L, rfl, g1, g2, g3, g4, g5⟩
  ·omega
  have hP : (L.take o).length = o := by rw [List.length_take]; omega
  have hg : H.get b = qac q (L.take o ++ nats l) := by rw [g1, ← g3, List.take_append_drop]
  simp (disch := omega) only [go_sem, reduceAdd, e0, h2]
  unfold qhs qja
  rw [qam]
  have hin : ∀ c, c = b → In (.sl b o n n e) c := fun c hc => by subst hc; exact ⟨_, _, _, _, rfl⟩
  refine qto hs hP hln hn hg g5 g4 (fun k R H' hk hR ha hm hG hF => ?_) (fun ha => ?_) qal 1 (by rw [qag]; omega) (Nat.le_refl 1) (by omega) ?_
  ·refine ⟨R, ha, hm, by rw [hR]; exact hG, fun c hc => ?_, hF.mono fun c _ hc => hin c hc⟩
   obtain ⟨_, _, _, _, h'⟩ := hc
   cases h'
   exact ⟨_, _, _, _, rfl⟩
  ·unfold qda
   exact Ok.ret ⟨l, ha, fun x => Iff.rfl, by rw [hln]; exact hv.gs, fun b h => h, Fm.refl _ _⟩
  ·match l, hln with
   | [], h => simp at h; omega
   | x :: t, _ => simp
theorem Gs.clip {n : Nat} {H : Hp} {v : AV} {l : List AV} (h : Gs 1 H v n l) : ∃ w, qb9 1 v none (some (.int .i64 (.ofNat n))) (some (.int .i64 (.ofNat n))) = .val w ∧ Rl H w l ∧ capV w = .val (.int .i64 (.ofNat n)) ∧ (∀ b, In w b → In v b) := by
 rcases h.is with ⟨rfl, rfl⟩ | ⟨b, o, m, e, q, L, rfl, h0, h1, h2, h3, h4, h5⟩
 ·exact ⟨.nilsl, rfl, h.rl, rfl, fun b h => h⟩
 ·have e1 : qb9 1 (.sl b o n m e) none (some (.int .i64 (.ofNat n))) (some (.int .i64 (.ofNat n))) = mkSl b o 1 ⟨0, n, n⟩ true := by
   show (match bounds n m none (some (.int .i64 (.ofNat n))) (some (.int .i64 (.ofNat n))) with | some bd => mkSl b o 1 bd true | none => R0.bad) = _
   have : bounds n m none (some (.int .i64 (.ofNat n))) (some (.int .i64 (.ofNat n))) = some ⟨0, n, n⟩ := by
    show (match (bif Nat.ble n m then some n else none) with | none => none | some m => match (bif Nat.ble n m then some n else none) with | none => none | some h => match (some 0 : Option Nat) with | none => none | some l => some (Bd.mk l h m)) = _
    rw [ble_eq, decide_eq_true h0]; simp only [cond_true, ble_eq, decide_eq_true (Nat.le_refl n)]
   rw [this]
  have hrl := h.rl
  have hG : ∀ e', Gs 1 H (.sl b o n m e') n l → Rl H (.sl b o n n true) l := fun e' g => by
   have r := g.rl
   exact ⟨r.len, fun i hi => by
    obtain ⟨b', o', a1, a2, a3⟩ := r.at' i hi
    exact ⟨b', o', by have hll := h.len; rw [qib _ _ _ _ _ _ _ _ (by omega)] at a1 ⊢; exact a1, a2, a3⟩⟩
  rw [e1]
  unfold mkSl
  simp only [beq_eq]
  by_cases hn : n = 0
  ·subst hn
   exact ⟨.sl b o 0 0 true, rfl, hG e h, rfl, fun c hc => by obtain ⟨_, _, _, _, h'⟩ := hc; cases h'; exact ⟨_, _, _, _, rfl⟩⟩
  ·rw [decide_eq_false hn]
   refine ⟨.sl b o n n true, ?_, hG e h, rfl, fun c hc => by obtain ⟨_, _, _, _, h'⟩ := hc; cases h'; exact ⟨_, _, _, _, rfl⟩⟩
   show R0.val (.sl b (o + 0 * 1) (n - 0) (n - 0) true) = _
   rw [Nat.zero_mul, Nat.add_zero, Nat.sub_zero]
theorem zey (hC : qb1 C) {k : Nat} (hk : 1 ≤ k) {n : Nat} {H : Hp} {v : AV} {l : List AV} (h : Gs 1 H v n l) :
  ∃ w, C k (.f qln) [v] H = .ok w H ∧ Rl H w l ∧ capV w = .val (.int .i64 (.ofNat n)) ∧ (∀ b, In w b → In v b) := by
 obtain ⟨j, rfl⟩ : ∃ j, k = j + 1 := ⟨k - 1, by omega⟩
 obtain ⟨w, e, h1, h2, h3⟩ := h.clip
 refine ⟨w, ?_, h1, h2, h3⟩
 rw [(hC j).sClp]
 unfold sClp q35
 simp (disch := omega) only [go_sem, reduceAdd, h.lenV, e]
end Go.Di
end
section
/-
 Contracts: mixed components.
-/
namespace Go.Di
open Go.Ev Go.Di.T Go.Sort
variable {C : Nat → Ev.Call} {LA LO : LP}
theorem zcf (hO : qdj C) (hS : qby C) {k : Nat} (hk : 5 ≤ k) {v : AV} (hv : qbu v = .val (.int .i64 (.ofNat 0))) (H : Hp) : C k (.f qes) [v] H = .ok (.tup []) H := by
 obtain ⟨k, rfl⟩ : ∃ j, k = j + 3 := ⟨k - 3, by omega⟩
 rw [(hO (k + 2)).o_Sort]
 unfold o_Sort qqa
 have e1 := qh6 .i64 0 (by omega)
 have e2 := q0w hS (k := k + 2) (by omega) 0 (by omega) H
 have e3 : bitsLen 0 = 0 := rfl
 rw [e3] at e2
 have e4 : C (k + 2) (.f qhz) [v, .int .i64 (.ofNat 0), .int .i64 (.ofNat 0), .int .i64 (.ofNat 0)] H = .ok (.tup []) H := by
  rw [(hO (k + 1)).o_pdq]
  unfold o_pdq qw2 qp8
  rw [qam]
  show qmk (C (k + 1)) _ _ (qcg (C (k + 1)) _ _ 999999) _ _ _ _ _ H = _
  unfold qmk
  have e5 : C (k + 1) (.f qmv) [v, .int .i64 (.ofNat 0), .int .i64 (.ofNat 0)] H = .ok (.tup []) H := by
   rw [(hO k).o_ins]
   unfold o_ins qw8 qp9
   rw [qam]
   simp (disch := first | omega | exact ti rfl) only [go_sem, reduceAdd, reduceSub, reduceLeDiff]
   show qml (C k) _ _ _ _ (qds (C k) _ _ _ _ 999999) _ H = _
   unfold qml
   simp (disch := first | omega | exact ti rfl) only [go_sem, reduceAdd, reduceSub, reduceLeDiff, Nat.not_lt_zero]
  simp (disch := first | omega | exact ti rfl) only [go_sem, reduceAdd, reduceSub, reduceLeDiff, e5, Nat.zero_le]
 simp (disch := first | omega | exact ti rfl) only [go_sem, reduceAdd, reduceSub, reduceLeDiff, hv, e1, e2, e4]
def mixP (ins : List Nat) (e : Edge) : Bool := e.s && decide (ins.getD e.f 0 = ins.getD e.t 0)
def mixL (ins : List Nat) (es : List Edge) : List Nat := (es.filter (mixP ins)).map fun e => ins.getD e.f 0
theorem q9w (ins : List Nat) (es : List Edge) {i : Nat} (h : i < es.length) : mixL ins (es.take (i + 1)) = mixL ins (es.take i) ++ (if mixP ins es[i] then [ins.getD es[i].f 0] else []) := by
 unfold mixL
 rw [List.take_succ_eq_append_getElem h, List.filter_append, List.map_append]
 congr 1
 cases hh : mixP ins es[i] <;> simp [hh]
theorem q9x (ins : List Nat) (es : List Edge) : (mixL ins es).length ≤ es.length := by
 unfold mixL
 rw [List.length_map]
 exact List.length_filter_le _ _
theorem qj8 {call : Ev.Call} {H1 : Hp} {n c : Nat} {lv iv w : AV} {es : List Edge} {ins : List Nat} (hlen : es.length < 200000) (hE : ∀ e ∈ es, e.f < n ∧ e.t < n) (hw : IsE H1 w es) (hi : Gl 1 H1 iv n (nats ins)) (hc : H1.get c = qac 0 [lv, iv]) (hcl : c < H1.nx) {q : AV → Hp → R1} {Q : AV → Hp → Prop}
  (hq : ∀ v H, Gl 1 H v (mixL ins es).length (nats (mixL ins es)) → Fm No H1 H → (∀ b, In v b → H1.nx ≤ b) → Ok (q v H) Q) :
  ∀ (k i : Nat) (v : AV) (H : Hp), es.length - i < k → i ≤ es.length → Gl 1 H v (mixL ins (es.take i)).length (nats (mixL ins (es.take i))) → (∀ b, In v b → H1.nx ≤ b) → Fm No H1 H →
   Ok (qj5 call q (.ptr c 0) w (.int .i64 (.ofNat es.length)) k v (.int .i64 (.ofNat i)) H) Q
 | 0, i, v, H, h, _, _, _, _ => by omega
 | k + 1, i, v, H, h, hil, hg, hnew, hF => by
  show Ok (qym call _ _ _ _ (qj5 call _ _ _ _ k) _ _ H) Q
  unfold qym
  by_cases hlt : i < es.length
  ·simp (disch := first | omega | exact ti rfl) only [go_sem, reduceAdd, reduceSub, reduceLeDiff, hlt]
   unfold qyl
   have hw' : IsE H w es := hw.fm hF
   have hi' : Gl 1 H iv n (nats ins) := hi.no hF
   have hc' : H.get c = qac 0 [lv, iv] := (hF.keep hcl).trans hc
   have hcH : c < H.nx := Nat.lt_of_lt_of_le hcl hF.nx
   have hil : ins.length = n := by have := hi.len; rw [qb7] at this; omega
   obtain ⟨b, o1, e1, e2, e3⟩ := hw'.at hlt
   obtain ⟨r1, r2⟩ := hE es[i] (List.getElem_mem _)
   have gi : ∀ x, x < n → (nats ins)[x]? = some (.int .i64 (.ofNat (ins.getD x 0))) := fun x hx => by
    unfold nats
    rw [List.getElem?_map, List.getD_eq_getElem?_getD, List.getElem?_eq_getElem (by omega)]; rfl
   obtain ⟨b1, o2, e4, e5, _, e6⟩ := hi'.at (gi _ r1)
   obtain ⟨b2, o3, e7, e8, _, e9⟩ := hi'.at (gi _ r2)
   have hm := q9w ins es hlt
   have hle := q9x ins (es.take i)
   rw [List.length_take] at hle
   have fe : Fm No H ((qau H (qac 0 [.int .i64 (.ofNat 0), .int .i64 (.ofNat 0), .bool false])).put H.nx (qac 0 [.int .i64 (.ofNat es[i].f), .int .i64 (.ofNat es[i].t), .bool es[i].s])) := by (repeat (first | exact Fm.refl _ _ | assumption | refine Fm.push ?_ _ | refine Fm.up2 ?_ (by (first | omega | (simp only [np, nq]; omega))) | refine Fm.put_new ?_ _ _ (by (first | omega | (simp only [np, nq]; omega)))))
   cases hs : es[i].s with
   | false =>
    have hp : mixP ins es[i] = false := by unfold mixP; rw [hs]; rfl
    rw [hs] at fe
    rw [hp] at hm
    simp (disch := first | omega | exact ti rfl) only [go_sem, reduceAdd, reduceSub, reduceLeDiff, e1, e3, Edge.cells, hs]
    unfold qj6
    simp (disch := first | omega | exact ti rfl) only [go_sem, reduceAdd, reduceSub, reduceLeDiff]
    rw [if_neg (by simp), List.append_nil] at hm
    refine qj8 hlen hE hw hi hc hcl hq k (i + 1) v _ (by omega) (by omega) (by rw [hm]; exact hg.no fe) hnew (hF.trans fe)
   | true =>
    rw [hs] at fe
    by_cases he : ins.getD es[i].f 0 = ins.getD es[i].t 0
    ·have hp : mixP ins es[i] = true := by unfold mixP; rw [hs, decide_eq_true he]; rfl
     rw [hp, if_pos rfl] at hm
     have hml : (mixL ins (es.take (i + 1))).length = (mixL ins (es.take i)).length + 1 := by rw [hm, List.length_append]; rfl
     have he1 := e4
     have he2 := e6
     generalize hH2 : (qau H (qac 0 [.int .i64 (.ofNat 0), .int .i64 (.ofNat 0), .bool false])).put H.nx (qac 0 [.int .i64 (.ofNat es[i].f), .int .i64 (.ofNat es[i].t), .bool true]) = H2 at *
     have hx2 : H2.get H.nx = qac 0 [.int .i64 (.ofNat es[i].f), .int .i64 (.ofNat es[i].t), .bool true] := by rw [← hH2, qah]
     have hc2 : H2.get c = qac 0 [lv, iv] := (fe.keep hcH).trans hc'
     have e6' : qb8 (H2.get b1) o2 = .val (.int .i64 (.ofNat (ins.getD es[i].f 0))) := by rw [fe.keep e5]; exact e6
     have e9' : qb8 (H2.get b2) o3 = .val (.int .i64 (.ofNat (ins.getD es[i].t 0))) := by rw [fe.keep e8]; exact e9
     have hgP : Gl 1 (qau H2 (qac 0 [.int .i64 (.ofNat (ins.getD es[i].f 0))])) v (mixL ins (es.take i)).length (nats (mixL ins (es.take i))) := (hg.no fe).no ((Fm.refl _ _).push _)
     obtain ⟨H', a1, a2, _, a4, a5⟩ := hgP.append (w := 8) (k := 1) (x := [.int .i64 (.ofNat (ins.getD es[i].f 0))]) (by omega) rfl (by omega) (by omega)
     rw [he] at e6'
     rw [he] at a1 a2 a4 hgP
     simp (disch := first | omega | exact ti rfl) only [go_sem, reduceAdd, reduceSub, reduceLeDiff, e1, e3, Edge.cells, hs, hH2, hx2, hc2, e4, e6', e7, e9', he, a1]
     unfold qj6
     simp (disch := first | omega | exact ti rfl) only [go_sem, reduceAdd, reduceSub, reduceLeDiff]
     have e10 : nats (mixL ins (es.take i)) ++ [.int .i64 (.ofNat (ins.getD es[i].t 0))] = nats (mixL ins (es.take (i + 1))) := by rw [hm, he]; simp [nats]
     rw [e10, ← hml] at a2
     rw [← hml]
     have hn1 := hF.nx
     have hn2 := fe.nx
     have hpn : (qau H2 (qac 0 [.int .i64 (.ofNat (ins.getD es[i].t 0))])).nx = H2.nx + 1 := rfl
     refine qj8 hlen hE hw hi hc hcl hq k (i + 1) _ H' (by omega) (by omega) a2 (fun b hb => ?_) (((hF.trans fe).trans ((Fm.refl _ _).push _)).then a4 fun c hc h => by have := hnew c h; omega)
     obtain ⟨_, _, _, _, h⟩ := hb
     cases h
     omega
    ·have hp : mixP ins es[i] = false := by unfold mixP; rw [hs, decide_eq_false he]; rfl
     rw [hp] at hm
     simp (disch := first | omega | exact ti rfl) only [go_sem, reduceAdd, reduceSub, reduceLeDiff, e1, e3, Edge.cells, hs, hc', e4, e6, e7, e9, he]
     unfold qj6
     simp (disch := first | omega | exact ti rfl) only [go_sem, reduceAdd, reduceSub, reduceLeDiff]
     rw [if_neg (by simp), List.append_nil] at hm
     refine qj8 hlen hE hw hi hc hcl hq k (i + 1) v _ (by omega) (by omega) (by rw [hm]; exact hg.no fe) hnew (hF.trans fe)
  ·simp (disch := first | omega | exact ti rfl) only [go_sem, reduceAdd, reduceSub, reduceLeDiff, hlt]
   have : i = es.length := by omega
   subst this
   rw [List.take_length] at hg
   exact hq v H hg hF hnew
theorem zeu (hC : qb1 C) (hO : qdj C) (hS : qby C) (hR : qcy LA LO C) {k : Nat} (hk : 1000 ≤ k) {n : Nat} {es : List Edge} (hE : qia n es) (hn : n ≤ 256) (hlen : es.length < 900) {gv : AV} {H : Hp} (hg : IsE H gv es) :
  Ok (C k (.f qtf) [.agg [.int .i64 (.ofNat n), gv]] H) fun r H' => ∃ (w : AV) (res : List (List Nat)) (ins R : List Nat), r = .tup [w, .int .i64 (.ofNat 0)] ∧ OrdF n (qcp es) [] res ∧ (∀ (j : Nat) (o : List Nat) (x : Nat), res[j]? = some o → x ∈ o → ins[x]? = some j) ∧
   R.Pairwise (· < ·) ∧ (∀ x, x ∈ R ↔ x ∈ mixL ins es) ∧ Rl H' w (nats R) ∧ capV w = .val (.int .i64 (.ofNat R.length)) ∧ R.length ≤ 900 ∧ Fm No H H' := by
 obtain ⟨j, rfl⟩ : ∃ j, k = j + 1 := ⟨k - 1, by omega⟩
 rw [(hC j).cMix]
 unfold cMix q5d
 simp (disch := first | omega | exact ti rfl) only [go_sem, reduceAdd, reduceSub, reduceLeDiff]
 have f0 : Fm No H (qau H (qac 0 [.int .i64 (.ofNat n), gv])) := (Fm.refl _ _).push _
 refine Ok.ve (zcj hC hO hS hR (k := j) (by omega) hE hn (by omega) (hg.fm f0)) ?_
 rintro r H1 ⟨lv, iv, os, ins2, out, ins, res, rfl, hOrd, hCR, f1⟩
 have ford := hOrd.ord hE.rng
 have hg1 : H1.get H.nx = qac 0 [.int .i64 (.ofNat n), gv] := (f1.keep (by (first | omega | (simp only [np, nq]; omega)))).trans (qaq _ _)
 have es3 : ∀ x y : AV, setL [AV.nilsl, AV.nilsl] 0 [x, y] = [x, y] := fun _ _ => rfl
 have n1 : H.nx + 1 ≤ H1.nx := f1.nx
 simp (disch := first | omega | exact ti rfl) only [go_sem, reduceAdd, reduceSub, reduceLeDiff, es3, List.length_cons, List.length_nil]
 generalize hH2 : (qau H1 (qac 0 [AV.nilsl, AV.nilsl])).put H1.nx (qac 0 [lv, iv]) = H2
 have f2 : Fm No H1 H2 := by rw [← hH2]; exact ((Fm.refl _ _).push _).put_new _ _ (Nat.le_refl _)
 have g2 : H2.get H1.nx = qac 0 [lv, iv] := by rw [← hH2, qah]
 have l2 : H1.nx < H2.nx := by rw [← hH2]; show H1.nx < H1.nx + 1; omega
 have hg2 : H2.get H.nx = qac 0 [.int .i64 (.ofNat n), gv] := (f2.keep (by omega)).trans hg1
 have f02 : Fm No H H2 := (f0.trans f1).trans f2
 have hE2 : IsE H2 gv es := hg.fm f02
 rw [qt1]
 unfold qfv
 have e0 := hE2.len
 simp (disch := first | omega | exact ti rfl) only [go_sem, reduceAdd, reduceSub, reduceLeDiff, hg2, e0]
 unfold qyn
 rw [qam]
 refine qj8 (by omega) hE.rng hE2 (hCR.gi.no f2) g2 l2 (fun v H3 h3 f3 hnew => ?_) qal 0 .nilsl H2 (by rw [qag]; omega) (Nat.zero_le _) (by simpa [mixL, nats] using Gl.nil 1 H2) (fun b hb => by obtain ⟨_, _, _, _, h⟩ := hb; cases h) (Fm.refl _ _)
 unfold qh8
 have hml := q9x ins2 es
 have n2 := f02.nx
 have sorted : Ok (C j (.f qes) [v] H3) fun r H' => r = .tup [] ∧ ∃ R : List Nat, R.Perm (mixL ins2 es) ∧ R.Pairwise (· ≤ ·) ∧ Gl 1 H' v (mixL ins2 es).length (nats R) ∧ Fm (In v) H3 H' := by
  rcases Nat.eq_zero_or_pos (mixL ins2 es).length with h0 | h0
  ·have hz : mixL ins2 es = [] := List.length_eq_zero_iff.1 h0
   have e1 := h3.lenV
   rw [h0] at e1
   refine ⟨_, _, zcf hO hS (by omega) e1 H3, rfl, [], by rw [hz], List.Pairwise.nil, ?_, Fm.refl _ _⟩
   rw [hz] at h3 ⊢
   exact h3
  ·exact q5j hC hO hS (k := j) (by omega) h0 (by omega) h3
 refine Ok.ve sorted ?_
 rintro r H4 ⟨rfl, R, hp, hsd, h4, f4⟩
 refine Ok.ve (q7p hO (k := j) (by omega) hsd (by omega) h4) ?_
 rintro r5 H5 ⟨R5, hasc, hmem, h5, hin, f5⟩
 obtain ⟨w, w1, w2, w3, _⟩ := zey hC (k := j) (by omega) h5
 simp (disch := first | omega | exact ti rfl) only [go_sem, reduceAdd, reduceSub, reduceLeDiff, w1]
 have hR5 : R5.length ≤ 900 := by
  have hnd : R5.Nodup := hasc.imp fun h => Nat.ne_of_lt h
  have : R5.length ≤ R.length := hnd.length_le_of_subset fun x hx => (hmem x).1 hx
  rw [hp.length_eq] at this
  omega
 refine Ok.ret ⟨w, res, ins2, R5, rfl, ford, hCR.ins, hasc, fun x => (hmem x).trans hp.mem_iff, w2, w3, hR5, ((f02.trans f3).then f4 fun c hc h => ?_).then f5 fun c hc h => ?_⟩
 ·have := hnew c h; omega
 ·have := hnew c h; omega
end Go.Di
end
section
/-
 Contracts: whether a list of edges has one that a closure takes.
-/
namespace Go.Di
open Go.Ev Go.Di.T Go.Sort
variable {C : Nat → Ev.Call} {LA LO : LP}
theorem zdy (neg : Bool) (x y : Edge) : qpz neg (qx2 (eqFields [(p1, ⟨quh⟩, 0), (p1, ⟨quh⟩, 1), (p1, ⟨qkf⟩, 2)]) (.agg x.cells) (.agg y.cells)) = .val (.bool (bif neg then !decide (x = y) else decide (x = y))) := by
 have e : qx2 (eqFields [(p1, ⟨quh⟩, 0), (p1, ⟨quh⟩, 1), (p1, ⟨qkf⟩, 2)]) (.agg x.cells) (.agg y.cells) = some (decide (x = y)) := by
  show andThen (some (eqI (.ofNat x.f) (.ofNat y.f))) (andThen (some (eqI (.ofNat x.t) (.ofNat y.t))) (andThen (some (x.s == y.s)) (some true))) = _
  obtain ⟨a, b, c⟩ := x
  obtain ⟨d, e, f⟩ := y
  simp only [qic, q4l]
  by_cases h1 : a = d
  ·by_cases h2 : b = e
   ·cases c <;> cases f <;> simp [andThen, h1, h2]
   ·simp [andThen, h1, h2]
  ·simp [andThen, h1]
 rw [e]; rfl
def CloE (call : Ev.Call) (H0 : Hp) (f : FuncId) (caps : List AV) (es : List Edge) (p : Edge → Bool) : Prop :=
 ∀ e ∈ es, ∀ H, Fm No H0 H → Ok (qey call (.fn f [] caps) [.agg e.cells] H) fun v H' => v = .bool (p e) ∧ Fm No H H'
theorem qt8 {call : Ev.Call} {f : FuncId} {caps : List AV} {es : List Edge} {p : Edge → Bool} {H0 : Hp} {w : AV} (hw : IsE H0 w es) (hlen : es.length < 900000) (hf : CloE call H0 f caps es p) {q1 : AV → Hp → R1} {q2 : Hp → R1} {Q : AV → Hp → Prop}
  (hq1 : ∀ i H, es.any p = true → Fm No H0 H → Ok (q1 (.int .i64 (.ofNat i)) H) Q) (hq2 : ∀ H, es.any p = false → Fm No H0 H → Ok (q2 H) Q) :
  ∀ (k i : Nat) (H : Hp), es.length - i < k → i ≤ es.length → (es.take i).any p = false → Fm No H0 H →
   Ok (qn0 call q1 q2 w (.fn f [] caps) (.int .i64 (.ofNat es.length)) k (.int .i64 (.ofNat i)) H) Q
 | 0, i, H, h, _, _, _ => by omega
 | k + 1, i, H, h, hi, ha, hF => by
  show Ok (q1l call _ _ _ _ _ (qn0 call _ _ _ _ _ k) _ H) Q
  unfold q1l
  by_cases hlt : i < es.length
  ·obtain ⟨b, o, e1, e2, e3⟩ := (hw.fm hF).at hlt
   simp (disch := omega) only [go_sem, reduceAdd, reduceLeDiff, hlt]
   unfold q1j
   simp (disch := omega) only [go_sem, reduceAdd, reduceLeDiff, e1, e3]
   have hs : (es.take (i + 1)).any p = p es[i] := by
    rw [List.take_succ_eq_append_getElem hlt, List.any_append, ha]; simp
   refine Ok.ve (hf es[i] (List.getElem_mem _) H hF) ?_
   rintro v H' ⟨rfl, f'⟩
   cases hp : p es[i] with
   | true =>
    simp (disch := omega) only [go_sem, reduceAdd, reduceLeDiff]
    refine hq1 i H' ?_ (hF.trans f')
    rw [List.any_eq_true]
    exact ⟨_, List.getElem_mem _, hp⟩
   | false =>
    simp (disch := omega) only [go_sem, reduceAdd, reduceLeDiff]
    unfold q1k
    simp (disch := omega) only [go_sem, reduceAdd, reduceLeDiff]
    exact qt8 hw hlen hf hq1 hq2 k (i + 1) H' (by omega) (by omega) (hs.trans hp) (hF.trans f')
  ·simp (disch := omega) only [go_sem, reduceAdd, reduceLeDiff, hlt]
   have : i = es.length := by omega
   subst this
   rw [List.take_length] at ha
   exact hq2 H ha hF
theorem qt9 (hC : qb1 C) {j : Nat} {f : FuncId} {caps : List AV} {es : List Edge} {p : Edge → Bool} {H0 : Hp} {w : AV} (hw : IsE H0 w es) (hlen : es.length < 900000) (hf : CloE (C j) H0 f caps es p) :
  Ok (C (j + 2) (.f qta) [w, .fn f [] caps] H0) fun v H' => v = .bool (es.any p) ∧ Fm No H0 H' := by
 rw [(hC (j + 1)).sCon]
 unfold sCon q8s
 have key : Ok (C (j + 1) (.f qxr) [w, .fn f [] caps] H0) fun v H' => (∃ z : Int, v = .int .i64 z ∧ decide (Int.ofNat 0 ≤ z) = es.any p) ∧ Fm No H0 H' := by
  rw [(hC j).sIxF]
  unfold sIxF q8n
  have e0 := hw.len
  simp (disch := omega) only [go_sem, reduceAdd, reduceLeDiff, e0]
  unfold q1m
  rw [qam]
  refine qt8 hw hlen hf (fun i H ha hF => Ok.ret ⟨⟨_, rfl, ?_⟩, hF⟩) (fun H ha hF => ?_) qal 0 H0 (by rw [qag]; omega) (Nat.zero_le _) (by simp) (Fm.refl _ _)
  ·unfold qk1
   refine Ok.ret ⟨⟨_, rfl, ?_⟩, hF⟩
   rw [ha]; rfl
  ·rw [ha]; exact decide_eq_true (by simp only [Int.ofNat_eq_natCast]; omega)
 refine Ok.ve key ?_
 rintro v H' ⟨⟨z, rfl, hz⟩, hF⟩
 simp (disch := omega) only [go_sem, reduceAdd, reduceLeDiff]
 refine Ok.ret ⟨?_, hF⟩
 rw [← hz]
def q5u (x : Nat) (e : Edge) : Bool := decide (e.f = x) && decide (e.t = x)
theorem q5q (hC : qb1 C) {j : Nat} {H0 : Hp} {lb x : Nat} {l : AV} {o : List Nat} (hl : Rl H0 l (nats (x :: o))) (hg : H0.get lb = qac 0 [l]) (hlb : lb < H0.nx) (es : List Edge) :
  CloE (C (j + 1)) H0 qs8 [.ptr lb 0] es (q5u x) := by
 intro e _ H hF
 show Ok (C (j + 1) (.f qs8) [.agg e.cells, .ptr lb 0] H) _
 rw [(hC j).simA]
 unfold simA q8d Edge.cells
 obtain ⟨b, o1, e1, e2, e3⟩ := (hl.fm hF).at' 0 (by simp [nats])
 have e3 : qb8 (H.get b) o1 = .val (.int .i64 (.ofNat x)) := e3
 have e1 : idxS 1 l (.int .i64 (.ofNat 0)) = .val (.ptr b o1) := e1
 have g1 : H.get lb = qac 0 [l] := (hF.keep hlb).trans hg
 have hlbH : lb < H.nx := Nat.lt_of_lt_of_le hlb hF.nx
 by_cases h1 : e.f = x
 ·by_cases h2 : e.t = x
  ·simp (disch := omega) only [go_sem, reduceAdd, reduceLeDiff, g1, e1, e3, h1, h2]
   exact Ok.ret ⟨by unfold q5u; rw [decide_eq_true h1, decide_eq_true h2]; rfl, by (repeat (first | exact Fm.refl _ _ | assumption | refine Fm.push ?_ _ | refine Fm.up2 ?_ (by (first | omega | (simp only [np, nq]; omega))) | refine Fm.put_new ?_ _ _ (by (first | omega | (simp only [np, nq]; omega)))))⟩
  ·simp (disch := omega) only [go_sem, reduceAdd, reduceLeDiff, g1, e1, e3, h1, h2]
   exact Ok.ret ⟨by unfold q5u; rw [decide_eq_true h1, decide_eq_false h2]; rfl, by (repeat (first | exact Fm.refl _ _ | assumption | refine Fm.push ?_ _ | refine Fm.up2 ?_ (by (first | omega | (simp only [np, nq]; omega))) | refine Fm.put_new ?_ _ _ (by (first | omega | (simp only [np, nq]; omega)))))⟩
 ·simp (disch := omega) only [go_sem, reduceAdd, reduceLeDiff, g1, e1, e3, h1]
  exact Ok.ret ⟨by unfold q5u; rw [decide_eq_false h1]; rfl, by (repeat (first | exact Fm.refl _ _ | assumption | refine Fm.push ?_ _ | refine Fm.up2 ?_ (by (first | omega | (simp only [np, nq]; omega))) | refine Fm.put_new ?_ _ _ (by (first | omega | (simp only [np, nq]; omega)))))⟩
def conP (ins : List Nat) (x : Edge) (e : Edge) : Bool := decide ((⟨ins.getD e.f 0, ins.getD e.t 0, e.s⟩ : Edge) = x)
theorem q0i (hC : qb1 C) {j : Nat} {H0 : Hp} {c xb n : Nat} {lv iv : AV} {ins : List Nat} {x : Edge} {es : List Edge} (hE : ∀ e ∈ es, e.f < n ∧ e.t < n) (hi : Gl 1 H0 iv n (nats ins)) (hg : H0.get c = qac 0 [lv, iv]) (hc : c < H0.nx) (hx : H0.get xb = qac 0 x.cells) (hxb : xb < H0.nx) :
  CloE (C (j + 1)) H0 qtc [.ptr c 0, .ptr xb 0] es (conP ins x) := by
 intro e he H hF
 show Ok (C (j + 1) (.f qtc) [.agg e.cells, .ptr c 0, .ptr xb 0] H) _
 rw [(hC j).cndA]
 unfold cndA zbj Edge.cells
 obtain ⟨r1, r2⟩ := hE e he
 have hil : ins.length = n := by have := hi.len; rw [qb7] at this; omega
 have gi : ∀ x, x < n → (nats ins)[x]? = some (.int .i64 (.ofNat (ins.getD x 0))) := fun x hx => by
  unfold nats
  rw [List.getElem?_map, List.getD_eq_getElem?_getD, List.getElem?_eq_getElem (by omega)]; rfl
 obtain ⟨b1, o1, e1, e2, _, e3⟩ := (hi.no hF).at (gi _ r1)
 obtain ⟨b2, o2, e4, e5, _, e6⟩ := (hi.no hF).at (gi _ r2)
 have g1 : H.get c = qac 0 [lv, iv] := (hF.keep hc).trans hg
 have g2 : H.get xb = qac 0 x.cells := (hF.keep hxb).trans hx
 have hcH : c < H.nx := Nat.lt_of_lt_of_le hc hF.nx
 have hxH : xb < H.nx := Nat.lt_of_lt_of_le hxb hF.nx
 have hq := zdy false ⟨ins.getD e.f 0, ins.getD e.t 0, e.s⟩ x
 unfold Edge.cells at hq g2
 simp (disch := omega) only [go_sem, reduceAdd, reduceLeDiff, g1, g2, e1, e3, e4, e6, hq]
 exact Ok.ret ⟨rfl, by (repeat (first | exact Fm.refl _ _ | assumption | refine Fm.push ?_ _ | refine Fm.up2 ?_ (by (first | omega | (simp only [np, nq]; omega))) | refine Fm.put_new ?_ _ _ (by (first | omega | (simp only [np, nq]; omega)))))⟩
theorem zez (hC : qb1 C) {k : Nat} (hk : 1 ≤ k) {n : Nat} {H : Hp} {v : AV} {l : List AV} (h : Gl 3 H v n l) :
  ∃ w, C k (.f qqj) [v] H = .ok w H ∧ Gl 3 H w n l ∧ capV w = .val (.int .i64 (.ofNat n)) ∧ (∀ b, In w b → In v b) := by
 obtain ⟨j, rfl⟩ : ∃ j, k = j + 1 := ⟨k - 1, by omega⟩
 obtain ⟨w, e, h1, h2, h3⟩ := h.clip
 refine ⟨w, ?_, h1, h2, h3⟩
 rw [(hC j).sClpE]
 unfold sClpE q1t
 simp (disch := omega) only [go_sem, reduceAdd, reduceLeDiff, h.lenV, e]
end Go.Di
end
section
/-
 Contracts: the edges between components.
-/
namespace Go.Di
open Go.Ev Go.Di.T Go.Sort
variable {C : Nat → Ev.Call} {LA LO : LP}
def quc (P : Edge → Bool) (x : Edge) : List Edge := if P x then [x] else []
def conT (P : Edge → Bool) (i k : Nat) : Nat → List Edge
 | 0 => []
 | s + 1 => conT P i k s ++ quc P ⟨i, k, decide (s = 1)⟩
def conR (P : Edge → Bool) (i : Nat) : Nat → List Edge
 | 0 => []
 | k + 1 => conR P i k ++ conT P i k 2
def conM (P : Edge → Bool) (m : Nat) : Nat → List Edge
 | 0 => []
 | i + 1 => conM P m i ++ conR P i m
theorem zcv (P : Edge → Bool) (x : Edge) : (quc P x).length ≤ 1 := by unfold quc; split <;> simp
theorem q2y (P : Edge → Bool) (i k : Nat) : ∀ s, (conT P i k s).length ≤ s
 | 0 => Nat.le_refl _
 | s + 1 => by
  have h1 := q2y P i k s
  have h2 := zcv P ⟨i, k, decide (s = 1)⟩
  rw [conT, List.length_append]; omega
theorem q20 (P : Edge → Bool) (i : Nat) : ∀ k, (conR P i k).length ≤ 2 * k
 | 0 => Nat.le_refl _
 | k + 1 => by
  have h1 := q20 P i k
  have h2 := q2y P i k 2
  rw [conR, List.length_append]; omega
theorem zbf (P : Edge → Bool) (m : Nat) : ∀ i, (conM P m i).length ≤ 2 * (i * m)
 | 0 => by simp [conM]
 | i + 1 => by
  have h1 := zbf P m i
  have h2 := q20 P i m
  rw [conM, List.length_append, Nat.add_mul, Nat.one_mul]; omega
def cndP (ins : List Nat) (es : List Edge) (x : Edge) : Bool := !decide (x.f = x.t) && es.any (conP ins x)
structure CB (H0 : Hp) (n gb c : Nat) (gv lv iv : AV) (es : List Edge) (ins : List Nat) : Prop where
 fe : IsE H0 gv es
 fg : H0.get gb = qac 0 [.int .i64 (.ofNat n), gv]
 gl : gb < H0.nx
 fc : H0.get c = qac 0 [lv, iv]
 cl : c < H0.nx
 fi : Gl 1 H0 iv n (nats ins)
 fr : ∀ e ∈ es, e.f < n ∧ e.t < n
 len : es.length < 200000
structure CI (H0 : Hp) (m : Nat) (L : List Edge) (H : Hp) : Prop where
 ex : ∃ v, H.get H0.nx = qac 0 [.int .i64 (.ofNat m), v] ∧ Gl 3 H v L.length (qid L) ∧ ∀ b, In v b → H0.nx < b
 fm : Fm (fun b => b = H0.nx) H0 H
 lt : H0.nx < H.nx
theorem CI.no {H0 : Hp} {m : Nat} {L : List Edge} {H H' : Hp} (h : CI H0 m L H) (f : Fm No H H') : CI H0 m L H' := by
 obtain ⟨v, h1, h2, h3⟩ := h.ex
 exact ⟨⟨v, (f.keep h.lt).trans h1, h2.no f, h3⟩, h.fm.then f fun _ _ h => h.elim, Nat.lt_of_lt_of_le h.lt f.nx⟩
theorem CB.at {H0 : Hp} {n gb c : Nat} {gv lv iv : AV} {es : List Edge} {ins : List Nat} (h : CB H0 n gb c gv lv iv es ins) {H : Hp} (f : Fm (fun b => b = H0.nx) H0 H) :
  IsE H gv es ∧ H.get gb = qac 0 [.int .i64 (.ofNat n), gv] ∧ gb < H.nx ∧ H.get c = qac 0 [lv, iv] ∧ c < H.nx ∧ Gl 1 H iv n (nats ins) := by
 have g1 := h.gl
 have g2 := h.cl
 have g3 := f.nx
 exact ⟨h.fe.keep f.nx fun b hb hlt => f.get b hlt (fun e => by have := h.fe.lt hb; omega), (f.get _ g1 (by omega)).trans h.fg, by omega, (f.get _ g2 (by omega)).trans h.fc, by omega, h.fi.fm f fun b hb e => by have := h.fi.lt hb; omega⟩
theorem zed (hC : qb1 C) {j : Nat} {H0 : Hp} {n gb c m : Nat} {gv lv iv : AV} {es : List Edge} {ins : List Nat} (hB : CB H0 n gb c gv lv iv es ins) (hm : m ≤ 256) {i k s : Nat} (hi : i < m) (hk : k < m) {L : List Edge} (hL : L.length ≤ 200000) {H : Hp} (hI : CI H0 m L H) {g : AV → Hp → R1} {Q : AV → Hp → Prop}
  (hq : ∀ H', CI H0 m (L ++ quc (cndP ins es) ⟨i, k, decide (s = 1)⟩) H' → Ok (qm1 (C (j + 3)) g (.int .i64 (.ofNat s)) H') Q) :
  Ok (qqt (C (j + 3)) g (.ptr gb 0) (.ptr c 0) (.ptr H0.nx 0) (.int .i64 (.ofNat i)) (.int .i64 (.ofNat k)) (.int .i64 (.ofNat s)) H) Q := by
 unfold qqt
 generalize hx : (⟨i, k, decide (s = 1)⟩ : Edge) = x at *
 have hxf : x.f = i := by rw [← hx]
 have hxt : x.t = k := by rw [← hx]
 have hxc : x.cells = [.int .i64 (.ofNat i), .int .i64 (.ofNat k), .bool (decide (s = 1))] := by rw [← hx]; rfl
 have fx : Fm No H ((qau H (qac 0 [.int .i64 (.ofNat 0), .int .i64 (.ofNat 0), .bool false])).put H.nx (qac 0 [.int .i64 (.ofNat i), .int .i64 (.ofNat k), .bool (decide (s = 1))])) := by (repeat (first | exact Fm.refl _ _ | assumption | refine Fm.push ?_ _ | refine Fm.up2 ?_ (by (first | omega | (simp only [np, nq]; omega))) | refine Fm.put_new ?_ _ _ (by (first | omega | (simp only [np, nq]; omega)))))
 by_cases hik : i = k
 ·have hp : cndP ins es x = false := by unfold cndP; rw [hxf, hxt, decide_eq_true hik]; rfl
  simp (disch := first | omega | exact ti rfl) only [go_sem, reduceAdd, reduceMul, reduceLeDiff, hik]
  rw [hik] at fx
  refine hq _ ?_
  have : quc (cndP ins es) x = [] := by unfold quc; rw [hp]; rfl
  rw [this, List.append_nil]
  exact hI.no fx
 ·simp (disch := first | omega | exact ti rfl) only [go_sem, reduceAdd, reduceMul, reduceLeDiff, hik]
  generalize hHx : (qau H (qac 0 [.int .i64 (.ofNat 0), .int .i64 (.ofNat 0), .bool false])).put H.nx (qac 0 [.int .i64 (.ofNat i), .int .i64 (.ofNat k), .bool (decide (s = 1))]) = Hx at *
  have gx : Hx.get H.nx = qac 0 x.cells := by rw [← hHx, qah, hxc]
  have lx : H.nx < Hx.nx := by rw [← hHx]; show H.nx < H.nx + 1; omega
  have hIx := hI.no fx
  obtain ⟨b1, b2, b3, b4, b5, b6⟩ := hB.at hIx.fm
  simp (disch := first | omega | exact ti rfl) only [go_sem, reduceAdd, reduceMul, reduceLeDiff, hHx, b2]
  refine Ok.ve (qt9 hC (j := j + 1) b1 (by have := hB.len; omega) (q0i hC hB.fr b6 b4 b5 gx lx)) ?_
  rintro r H' ⟨rfl, f'⟩
  have hI' := hIx.no f'
  cases ha : es.any (conP ins x) with
  | false =>
   have hp : cndP ins es x = false := by unfold cndP; rw [ha, Bool.and_false]
   simp (disch := first | omega | exact ti rfl) only [go_sem, reduceAdd, reduceMul, reduceLeDiff]
   refine hq _ ?_
   have : quc (cndP ins es) x = [] := by unfold quc; rw [hp]; rfl
   rw [this, List.append_nil]
   exact hI'
  | true =>
   have hp : cndP ins es x = true := by unfold cndP; rw [ha, hxf, hxt, decide_eq_false hik]; rfl
   have hst : quc (cndP ins es) x = [x] := by unfold quc; rw [hp]; rfl
   obtain ⟨v, v1, v2, v3⟩ := hI'.ex
   have gx' : H'.get H.nx = qac 0 [.int .i64 (.ofNat i), .int .i64 (.ofNat k), .bool (decide (s = 1))] := by rw [(f'.keep lx), gx, hxc]
   have hgP : Gl 3 (qau H' (qac 0 [.int .i64 (.ofNat i), .int .i64 (.ofNat k), .bool (decide (s = 1))])) v L.length (qid L) := v2.no ((Fm.refl _ _).push _)
   obtain ⟨H2, a1, a2, _, a4, a5⟩ := hgP.append (w := 24) (k := 1) (x := [.int .i64 (.ofNat i), .int .i64 (.ofNat k), .bool (decide (s = 1))]) (by omega) rfl (by omega) (by omega)
   have hlt' := hI'.lt
   have hpn : (qau H' (qac 0 [.int .i64 (.ofNat i), .int .i64 (.ofNat k), .bool (decide (s = 1))])).nx = H'.nx + 1 := rfl
   have n2 := a4.nx
   have g2 : H2.get H0.nx = qac 0 [.int .i64 (.ofNat m), v] := (a4.get _ (by omega) (fun h => by have := v3 _ h; omega)).trans ((qch _ _ _ hlt').trans v1)
   have vfl : qpw v = true := v2.flat
   simp (disch := first | omega | exact ti rfl) only [go_sem, reduceAdd, reduceMul, reduceLeDiff, v1, gx', a1, g2]
   refine hq _ ?_
   rw [hst]
   have hll : (L ++ [x]).length = L.length + 1 := by rw [List.length_append]; rfl
   have hcc : qid L ++ [.int .i64 (.ofNat i), .int .i64 (.ofNat k), .bool (decide (s = 1))] = qid (L ++ [x]) := by rw [← hxc, q63]
   rw [hcc, ← hll] at a2
   refine ⟨⟨_, qah _ _ _, ?_, fun b hb => ?_⟩, ?_, by show H0.nx < H2.nx; omega⟩
   ·rw [← hll]
    exact a2.fm ((Fm.refl (fun b => b = H0.nx) H2).put _ _ fun _ => rfl) fun b hb h => by
     obtain ⟨_, _, _, _, h'⟩ := hb
     cases h'
     omega
   ·obtain ⟨_, _, _, _, h'⟩ := hb
    cases h'
    omega
   ·refine Fm.put (Fm.then (hI'.fm.then ((Fm.refl No H').push _) fun _ _ h => h.elim) a4 fun b hb h => ?_) _ _ fun _ => rfl
    have := v3 b h
    omega
theorem zfh (hC : qb1 C) {j : Nat} {H0 : Hp} {n gb c m : Nat} {gv lv iv : AV} {es : List Edge} {ins : List Nat} (hB : CB H0 n gb c gv lv iv es ins) (hm : m ≤ 256) {i k : Nat} (hi : i < m) (hk : k < m) {L : List Edge} (hL : L.length ≤ 199990) {q : Hp → R1} {Q : AV → Hp → Prop}
  (hq : ∀ H', CI H0 m (L ++ conT (cndP ins es) i k 2) H' → Ok (q H') Q) :
  ∀ (f s : Nat) (H : Hp), 2 - s < f → s ≤ 2 → CI H0 m (L ++ conT (cndP ins es) i k s) H →
   Ok (qj7 (C (j + 3)) q (.ptr gb 0) (.ptr c 0) (.ptr H0.nx 0) (.int .i64 (.ofNat i)) (.int .i64 (.ofNat k)) f (.int .i64 (.ofNat s)) H) Q
 | 0, s, H, h, _, _ => by omega
 | f + 1, s, H, h, hs, hI => by
  show Ok (qys (C (j + 3)) _ _ _ _ _ _ (qj7 (C (j + 3)) _ _ _ _ _ _ f) _ H) Q
  unfold qys
  by_cases hlt : s < 2
  ·simp (disch := first | omega | exact ti rfl) only [go_sem, reduceAdd, reduceMul, reduceLeDiff, hlt]
   have hle := q2y (cndP ins es) i k s
   refine zed hC hB hm hi hk (by rw [List.length_append]; omega) hI fun H' hI' => ?_
   unfold qm1
   simp (disch := first | omega | exact ti rfl) only [go_sem, reduceAdd, reduceMul, reduceLeDiff]
   rw [List.append_assoc] at hI'
   exact zfh hC hB hm hi hk hL hq f (s + 1) H' (by omega) (by omega) hI'
  ·simp (disch := first | omega | exact ti rfl) only [go_sem, reduceAdd, reduceMul, reduceLeDiff, hlt]
   have : s = 2 := by omega
   subst this
   exact hq H hI
theorem zbe (hC : qb1 C) {j : Nat} {H0 : Hp} {n gb c m : Nat} {gv lv iv : AV} {es : List Edge} {ins : List Nat} (hB : CB H0 n gb c gv lv iv es ins) (hm : m ≤ 256) {i : Nat} (hi : i < m) {L : List Edge} (hL : L.length ≤ 199000) {q : Hp → R1} {Q : AV → Hp → Prop}
  (hq : ∀ H', CI H0 m (L ++ conR (cndP ins es) i m) H' → Ok (q H') Q) :
  ∀ (f k : Nat) (H : Hp), m - k < f → k ≤ m → CI H0 m (L ++ conR (cndP ins es) i k) H →
   Ok (qem (C (j + 3)) q (.ptr gb 0) (.ptr c 0) (.ptr H0.nx 0) (.int .i64 (.ofNat i)) (.int .i64 (.ofNat m)) f (.int .i64 (.ofNat k)) H) Q
 | 0, k, H, h, _, _ => by omega
 | f + 1, k, H, h, hk, hI => by
  show Ok (qyt (C (j + 3)) _ _ _ _ _ _ (qem (C (j + 3)) _ _ _ _ _ _ f) _ H) Q
  unfold qyt
  by_cases hlt : k < m
  ·simp (disch := first | omega | exact ti rfl) only [go_sem, reduceAdd, reduceMul, reduceLeDiff, hlt]
   unfold qyr qyv
   rw [qam]
   have hle := q20 (cndP ins es) i k
   refine zfh hC hB hm hi hlt (L := L ++ conR (cndP ins es) i k) (by rw [List.length_append]; omega) (fun H' hI' => ?_) qal 0 H (by rw [qag]; omega) (Nat.zero_le _) (by rw [conT, List.append_nil]; exact hI)
   unfold qh9
   simp (disch := first | omega | exact ti rfl) only [go_sem, reduceAdd, reduceMul, reduceLeDiff]
   rw [List.append_assoc] at hI'
   exact zbe hC hB hm hi hL hq f (k + 1) H' (by omega) (by omega) hI'
  ·simp (disch := first | omega | exact ti rfl) only [go_sem, reduceAdd, reduceMul, reduceLeDiff, hlt]
   have : k = m := by omega
   subst this
   exact hq H hI
theorem zbd (hC : qb1 C) {j : Nat} {H0 : Hp} {n gb c m : Nat} {gv lv iv : AV} {es : List Edge} {ins : List Nat} (hB : CB H0 n gb c gv lv iv es ins) (hm : m ≤ 256) (hlv : qbu lv = .val (.int .i64 (.ofNat m))) {q : Hp → R1} {Q : AV → Hp → Prop}
  (hq : ∀ H', CI H0 m (conM (cndP ins es) m m) H' → Ok (q H') Q) :
  ∀ (f i : Nat) (H : Hp), m - i < f → i ≤ m → CI H0 m (conM (cndP ins es) m i) H →
   Ok (qc0 (C (j + 3)) q (.ptr gb 0) (.ptr c 0) (.ptr H0.nx 0) (.int .i64 (.ofNat m)) f (.int .i64 (.ofNat i)) H) Q
 | 0, i, H, h, _, _ => by omega
 | f + 1, i, H, h, hi, hI => by
  show Ok (qyu (C (j + 3)) _ _ _ _ _ (qc0 (C (j + 3)) _ _ _ _ _ f) _ H) Q
  unfold qyu
  by_cases hlt : i < m
  ·obtain ⟨b1, b2, b3, b4, b5, b6⟩ := hB.at hI.fm
   simp (disch := first | omega | exact ti rfl) only [go_sem, reduceAdd, reduceMul, reduceLeDiff, hlt]
   unfold qyq
   simp (disch := first | omega | exact ti rfl) only [go_sem, reduceAdd, reduceMul, reduceLeDiff, b4, hlv]
   unfold qyw
   rw [qam]
   have hle := zbf (cndP ins es) m i
   have m1 : i * m ≤ 65536 := Nat.mul_le_mul (Nat.le_of_lt (Nat.lt_of_lt_of_le hlt hm)) hm
   refine zbe hC hB hm hlt (L := conM (cndP ins es) m i) (by omega) (fun H' hI' => ?_) qal 0 H (by rw [qag]; omega) (Nat.zero_le _) (by rw [conR, List.append_nil]; exact hI)
   unfold qdv
   simp (disch := first | omega | exact ti rfl) only [go_sem, reduceAdd, reduceMul, reduceLeDiff]
   exact zbd hC hB hm hlv hq f (i + 1) H' (by omega) (by omega) hI'
  ·simp (disch := first | omega | exact ti rfl) only [go_sem, reduceAdd, reduceMul, reduceLeDiff, hlt]
   have : i = m := by omega
   subst this
   exact hq H hI
end Go.Di
end
section
/-
 Contracts: the graph of the components; simple components.
-/
namespace Go.Di
open Go.Ev Go.Di.T Go.Sort
variable {C : Nat → Ev.Call} {LA LO : LP}
theorem q4g {n : Nat} {adj : Nat → List Nat} {res : List (List Nat)} (h : OrdF n adj [] res) : res.length ≤ n := by
 obtain ⟨z1, z2, z3, z4, z5⟩ := h.all
 have hle : ∀ (o : List (List Nat)), (∀ c ∈ o, c ≠ []) → o.length ≤ o.flatten.length := fun o => by
  induction o with
  | nil => intro _; exact Nat.le_refl _
  | cons c o ih =>
   intro h
   have h1 := ih fun c hc => h c (List.mem_cons_of_mem _ hc)
   have h2 : 0 < c.length := List.length_pos_iff.2 (h c List.mem_cons_self)
   rw [List.flatten_cons, List.length_append, List.length_cons]; omega
 have := hle res z4
 omega
theorem Gl.st {z n : Nat} {H : Hp} {v : AV} {l : List AV} (h : Gl z H v n l) (H' : Hp) (b o : Nat) : qao H' (.ptr b o) v = storeAt H' b o [v] .undef := by
 rcases h.is with ⟨rfl, _⟩ | ⟨b, o, e, q, L, rfl, _⟩ <;> rfl
theorem q3m (hC : qb1 C) (hO : qdj C) (hS : qby C) (hR : qcy LA LO C) {k : Nat} (hk : 930 ≤ k) {n : Nat} {es : List Edge} (hE : qia n es) (hn : n ≤ 256) (hlen : es.length < 200000) {gv : AV} {H : Hp} (hg : IsE H gv es) :
  Ok (C k (.f qtg) [.agg [.int .i64 (.ofNat n), gv]] H) fun r H' => ∃ (w : AV) (res : List (List Nat)) (ins : List Nat), r = .tup [.agg [.int .i64 (.ofNat res.length), w], .int .i64 (.ofNat 0)] ∧ OrdF n (qcp es) [] res ∧ (∀ (j : Nat) (o : List Nat) (x : Nat), res[j]? = some o → x ∈ o → ins[x]? = some j) ∧
   IsE H' w (conM (cndP ins es) res.length res.length) ∧ capV w = .val (.int .i64 (.ofNat (conM (cndP ins es) res.length res.length).length)) ∧ Fm No H H' := by
 obtain ⟨j, rfl⟩ : ∃ j, k = j + 4 := ⟨k - 4, by omega⟩
 rw [(hC (j + 3)).cCnd]
 unfold cCnd q5f
 simp (disch := first | omega | (simp only [np, nq]; first | done | omega)) only [go_sem, reduceAdd, reduceLeDiff]
 have f0 : Fm No H (qau (qau H (qac 0 [.int .i64 (.ofNat n), gv])) (qac 0 [.int .i64 (.ofNat 0), .nilsl])) := by (repeat (first | exact Fm.refl _ _ | assumption | refine Fm.push ?_ _ | refine Fm.up2 ?_ (by (first | omega | (simp only [np, nq]; omega))) | refine Fm.put_new ?_ _ _ (by (first | omega | (simp only [np, nq]; omega)))))
 refine Ok.ve (zcj hC hO hS hR (k := j + 3) (by omega) hE hn hlen (hg.fm f0)) ?_
 rintro r H1 ⟨lv, iv, os, ins2, out, ins, res, rfl, hOrd, hCR, f1⟩
 have ford := hOrd.ord hE.rng
 have hml := q4g ford
 have n1 : H.nx + 1 + 1 ≤ H1.nx := f1.nx
 have hg1 : H1.get H.nx = qac 0 [.int .i64 (.ofNat n), gv] := (f1.keep (by (first | omega | (simp only [np, nq]; omega)))).trans ((qch _ _ _ (by (first | omega | (simp only [np, nq]; omega)))).trans (qaq _ _))
 have hg2 : H1.get (H.nx + 1) = qac 0 [.int .i64 (.ofNat 0), .nilsl] := (f1.keep (by (first | omega | (simp only [np, nq]; omega)))).trans (qaq _ _)
 have es3 : ∀ x y : AV, setL [AV.nilsl, AV.nilsl] 0 [x, y] = [x, y] := fun _ _ => rfl
 simp (disch := first | omega | (simp only [np, nq]; first | done | omega)) only [go_sem, reduceAdd, reduceLeDiff, es3, List.length_cons, List.length_nil]
 generalize hH2 : (qau H1 (qac 0 [AV.nilsl, AV.nilsl])).put H1.nx (qac 0 [lv, iv]) = H2
 have f2 : Fm No H1 H2 := by rw [← hH2]; exact ((Fm.refl _ _).push _).put_new _ _ (Nat.le_refl _)
 have g2 : H2.get H1.nx = qac 0 [lv, iv] := by rw [← hH2, qah]
 have l2 : H1.nx < H2.nx := by rw [← hH2]; show H1.nx < H1.nx + 1; omega
 have f02 : Fm No H H2 := (f0.trans f1).trans f2
 rw [qt2]
 unfold qfw
 have elv := hCR.gl.lenV
 rw [hCR.len] at elv
 simp (disch := first | omega | (simp only [np, nq]; first | done | omega)) only [go_sem, reduceAdd, reduceLeDiff, g2, elv]
 have hB : CB H2 n H.nx H1.nx gv lv iv es ins2 := ⟨hg.fm f02, (f2.keep (by omega)).trans hg1, by have := f2.nx; omega, g2, l2, hCR.gi.no f2, hE.rng, hlen⟩
 have g2' : ((qau H2 (qac 0 [.int .i64 (.ofNat 0), .nilsl])).put H2.nx (qac 0 [.int .i64 (.ofNat res.length), .nilsl])).get H1.nx = qac 0 [lv, iv] := by
  rw [qap _ _ _ _ (by omega), qch _ _ _ l2, g2]
 try simp (disch := first | omega | (simp only [np, nq]; first | done | omega)) only [go_sem, reduceAdd, reduceLeDiff, g2', elv]
 unfold qyx
 rw [qam]
 refine zbd hC hB (m := res.length) (by omega) elv (fun H3 hI => ?_) qal 0 _ (by rw [qag]; omega) (Nat.zero_le _) ⟨⟨.nilsl, qah _ _ _, Gl.nil _ _, fun b hb => by obtain ⟨_, _, _, _, h⟩ := hb; cases h⟩, ((Fm.refl (fun b => b = H2.nx) H2).push _).put _ _ fun _ => rfl, by show H2.nx < H2.nx + 1; omega⟩
 unfold qcw
 obtain ⟨v, v1, v2, v3⟩ := hI.ex
 have hlt3 := hI.lt
 have n2 := f2.nx
 simp (disch := first | omega | (simp only [np, nq]; first | done | omega)) only [go_sem, reduceAdd, reduceLeDiff, v1]
 obtain ⟨w, w1, w2, w3, w4⟩ := zez hC (k := j + 3) (by omega) v2
 have wfl : qpw w = true := w2.flat
 have q2 : H3.get (H.nx + 1) = qac 0 [.int .i64 (.ofNat 0), .nilsl] := (hI.fm.get _ (by omega) (by omega)).trans ((f2.keep (by omega)).trans hg2)
 have es4 : ∀ x y a b : AV, setL [a, b] 0 [x, y] = [x, y] := fun _ _ _ _ => rfl
 have st := w2.st
 have es6 : ∀ x a b : AV, setL [a, b] 1 [x] = [a, x] := fun _ _ _ => rfl
 simp (disch := first | omega | (simp only [np, nq]; first | done | omega)) only [go_sem, reduceAdd, reduceLeDiff, w1, v1, q2, es4, es6, st, List.length_cons, List.length_nil]
 have f3 : Fm No H2 H3 := ⟨hI.fm.nx, fun b hb _ => hI.fm.get b hb (by omega)⟩
 refine Ok.ret ⟨w, res, ins2, rfl, ford, hCR.ins, ?_, w3, ?_⟩
 ·refine GlE.isE (Gl.fm w2 (S := fun b => b = H2.nx ∨ b = H.nx + 1) (((Fm.refl _ H3).put _ _ fun _ => Or.inl rfl).put _ _ fun _ => Or.inr rfl) fun b hb h => (by
  have := v3 b (w4 b hb)
  rcases h with h | h <;> omega))
 ·refine (((f02.trans f3).then ((Fm.refl (fun b => b = H2.nx) H3).put _ _ fun _ => rfl) fun b hb h => by have := f02.nx; omega).then ((Fm.refl (fun b => b = H.nx + 1) _).put _ _ fun _ => rfl) fun b hb h => by omega)
def simP (es : List Edge) (o : List Nat) : Bool := decide (o.length = 1) && !es.any (q5u (o.headD 0))
def simQ (es : List Edge) (res : List (List Nat)) (z : Int) (r : AV) : Prop :=
 (z < Int.ofNat 0 ∨ Int.ofNat res.length ≤ z) ∧ r = .tup [.bool false, .int .i64 (.ofNat 4)] ∨ ∃ (i : Nat) (o : List Nat), z = Int.ofNat i ∧ res[i]? = some o ∧ r = .tup [.bool (simP es o), .int .i64 (.ofNat 0)]
theorem zcg (hC : qb1 C) (hO : qdj C) (hS : qby C) (hR : qcy LA LO C) {k : Nat} (hk : 930 ≤ k) {n : Nat} {es : List Edge} (hE : qia n es) (hn : n ≤ 256) (hlen : es.length < 200000) {gv : AV} {H : Hp} (hg : IsE H gv es) (z : Int) :
  Ok (C k (.f qtd) [.agg [.int .i64 (.ofNat n), gv], .int .i64 z] H) fun r H' => ∃ res : List (List Nat), OrdF n (qcp es) [] res ∧ Fm No H H' ∧ simQ es res z r := by
 obtain ⟨j, rfl⟩ : ∃ j, k = j + 4 := ⟨k - 4, by omega⟩
 rw [(hC (j + 3)).cSim]
 unfold cSim q5b
 simp (disch := first | omega | (simp only [np, nq]; first | done | omega)) only [go_sem, reduceAdd, reduceLeDiff]
 have f0 : Fm No H (qau H (qac 0 [.int .i64 (.ofNat n), gv])) := by (repeat (first | exact Fm.refl _ _ | assumption | refine Fm.push ?_ _ | refine Fm.up2 ?_ (by (first | omega | (simp only [np, nq]; omega))) | refine Fm.put_new ?_ _ _ (by (first | omega | (simp only [np, nq]; omega)))))
 refine Ok.ve (zcj hC hO hS hR (k := j + 3) (by omega) hE hn hlen (hg.fm f0)) ?_
 rintro r H1 ⟨lv, iv, os, ins2, out, ins, res, rfl, hOrd, hCR, f1⟩
 have ford := hOrd.ord hE.rng
 have hml := q4g ford
 have n1 : H.nx + 1 ≤ H1.nx := f1.nx
 have hg1 : H1.get H.nx = qac 0 [.int .i64 (.ofNat n), gv] := (f1.keep (by (first | omega | (simp only [np, nq]; omega)))).trans (qaq _ _)
 have es3 : ∀ x y : AV, setL [AV.nilsl, AV.nilsl] 0 [x, y] = [x, y] := fun _ _ => rfl
 have elv := hCR.gl.lenV
 rw [hCR.len] at elv
 have fc : Fm No H1 ((qau H1 (qac 0 [AV.nilsl, AV.nilsl])).put H1.nx (qac 0 [lv, iv])) := by (repeat (first | exact Fm.refl _ _ | assumption | refine Fm.push ?_ _ | refine Fm.up2 ?_ (by (first | omega | (simp only [np, nq]; omega))) | refine Fm.put_new ?_ _ _ (by (first | omega | (simp only [np, nq]; omega)))))
 by_cases hz : z < Int.ofNat 0
 ·simp (disch := first | omega | (simp only [np, nq]; first | done | omega)) only [go_sem, reduceAdd, reduceLeDiff, es3, List.length_cons, List.length_nil, hz]
  exact Ok.ret ⟨res, ford, (f0.trans f1).trans fc, Or.inl ⟨Or.inl hz, rfl⟩⟩
 ·obtain ⟨i, rfl⟩ : ∃ i : Nat, z = Int.ofNat i := ⟨z.toNat, by simp only [Int.ofNat_eq_natCast] at hz ⊢; omega⟩
  by_cases hi : res.length ≤ i
  ·simp (disch := first | omega | (simp only [np, nq]; first | done | omega)) only [go_sem, reduceAdd, reduceLeDiff, es3, List.length_cons, List.length_nil, hz, elv, hi, Nat.not_lt_zero]
   exact Ok.ret ⟨res, ford, (f0.trans f1).trans fc, Or.inl ⟨Or.inr (by simp only [Int.ofNat_eq_natCast]; omega), rfl⟩⟩
  ·have hi' : i < res.length := by omega
   have hosl := hCR.len
   obtain ⟨b1, o1, e1, e2, _, e3⟩ := hCR.gl.at (i := i) (x := os[i]'(by omega)) (by simp)
   obtain ⟨c1, c2, c3⟩ := hCR.at' i (os[i]'(by omega)) (res[i]'hi') (by simp) (by simp)
   obtain ⟨z1, z2, z3, z4, z5⟩ := ford.all
   have hne := z4 _ (List.getElem_mem hi')
   generalize hl : os[i]'(by omega) = l at *
   generalize ho : res[i]'hi' = o at *
   have hro : res[i]? = some o := by rw [List.getElem?_eq_getElem hi', ho]
   simp (disch := first | omega | (simp only [np, nq]; first | done | omega)) only [go_sem, reduceAdd, reduceLeDiff, es3, List.length_cons, List.length_nil, hz, elv, hi, Nat.not_lt_zero]
   rw [qtw]
   unfold qfs
   generalize hH2 : (qau H1 (qac 0 [AV.nilsl, AV.nilsl])).put H1.nx (qac 0 [lv, iv]) = H2 at *
   have g2 : H2.get H1.nx = qac 0 [lv, iv] := by rw [← hH2, qah]
   have l2 : H1.nx < H2.nx := by rw [← hH2]; show H1.nx < H1.nx + 1; omega
   have hg2 : H2.get H.nx = qac 0 [.int .i64 (.ofNat n), gv] := (fc.keep (by omega)).trans hg1
   have e3' : qb8 (H2.get b1) o1 = .val l := by rw [fc.keep e2]; exact e3
   have lfl : qpw l = true := c1.flat
   have el := c1.lenV
   have st := c1.st
   have fl : Fm No H2 ((qau H2 (qac 0 [.nilsl])).put H2.nx (qac 0 [l])) := by (repeat (first | exact Fm.refl _ _ | assumption | refine Fm.push ?_ _ | refine Fm.up2 ?_ (by (first | omega | (simp only [np, nq]; omega))) | refine Fm.put_new ?_ _ _ (by (first | omega | (simp only [np, nq]; omega)))))
   have es5 : ∀ x a : AV, setL [a] 0 [x] = [x] := fun _ _ => rfl
   by_cases h1 : o.length = 1
   ·obtain ⟨x, rfl⟩ : ∃ x, o = [x] := by
     match o, h1 with
     | [x], _ => exact ⟨x, rfl⟩
    simp (disch := first | omega | (simp only [np, nq]; first | done | omega)) only [go_sem, reduceAdd, reduceLeDiff, g2, e1, e3', el, es5, h1, st]
    generalize hH3 : (qau H2 (qac 0 [.nilsl])).put H2.nx (qac 0 [l]) = H3 at *
    have g3 : H3.get H2.nx = qac 0 [l] := by rw [← hH3, qah]
    have l3 : H2.nx < H3.nx := by rw [← hH3]; show H2.nx < H2.nx + 1; omega
    have hg3 : H3.get H.nx = qac 0 [.int .i64 (.ofNat n), gv] := (fl.keep (by omega)).trans hg2
    have hc3 : Rl H3 l (nats [x]) := ((c1.rl.fm fc).fm fl)
    have hE3 : IsE H3 gv es := (((hg.fm f0).fm f1).fm fc).fm fl
    try simp (disch := first | omega | (simp only [np, nq]; first | done | omega)) only [go_sem, reduceAdd, reduceLeDiff, g3, el, hg2, List.length_cons, List.length_nil]
    refine Ok.ve (qt9 hC (j := j + 1) hE3 (by omega) (q5q hC hc3 g3 l3 es)) ?_
    rintro r H4 ⟨rfl, f4⟩
    simp (disch := first | omega | (simp only [np, nq]; first | done | omega)) only [go_sem, reduceAdd, reduceLeDiff]
    refine Ok.ret ⟨res, ford, (((f0.trans f1).trans fc).trans fl).trans f4, Or.inr ⟨i, [x], rfl, hro, ?_⟩⟩
    show _ = AV.tup [.bool (!es.any (q5u x)), _]
    rfl
   ·simp (disch := first | omega | (simp only [np, nq]; first | done | omega)) only [go_sem, reduceAdd, reduceLeDiff, g2, e1, e3', el, es5, h1, st]
    refine Ok.ret ⟨res, ford, ((f0.trans f1).trans fc).trans fl, Or.inr ⟨i, o, rfl, hro, ?_⟩⟩
    unfold simP
    rw [decide_eq_false h1]; rfl
end Go.Di
end
section
/-
 Contracts: the nodes, component by component.
-/
namespace Go.Di
open Go.Ev Go.Di.T Go.Sort
variable {C : Nat → Ev.Call} {LA LO : LP}
theorem Gs.full {z n : Nat} {H : Hp} {b o : Nat} {e : Bool} {l : List AV} (h : Gs z H (.sl b o n n e) n l) : Gl z H (.sl b o n n e) n l := by
 refine ⟨h.len, ?_⟩
 rcases h.is with ⟨h, _⟩ | ⟨b', o', m', e', q, L, hv, h0, h1, h2, h3, h4, h5⟩
 ·cases h
 ·cases hv
  exact .inr ⟨b, o, e, q, L, rfl, h1, by omega, by rw [← h3, List.take_of_length_le (by rw [List.length_drop]; omega)], h4, h5⟩
theorem zfl (n : Nat) (h : n ≤ 1000) : qm8 8 [.int .i64 (.ofNat 0)] (.int .i64 (.ofNat n)) = some ⟨n, List.replicate n (.int .i64 (.ofNat 0))⟩ := by
 show (bif Nat.ble n bigB && Nat.ble (Nat.mul n 8) bigB then some (Src.mk n (reps [.int .i64 (.ofNat 0)] n)) else none) = _
 have h1 : Nat.ble n bigB = true := Nat.ble_eq_true_of_le (by unfold bigB; omega)
 have h2 : Nat.ble (Nat.mul n 8) bigB = true := Nat.ble_eq_true_of_le (by show n * 8 ≤ bigB; unfold bigB; omega)
 rw [h1, h2, qf3]; rfl
theorem zhq (hC : qb1 C) {k : Nat} (hk : 1 ≤ k) {t : Nat} (ht : 0 < t) (ht2 : t ≤ 1000) (H : Hp) :
  Ok (C k (.f qs9) [.nilsl, .int .i64 (.ofNat t)] H) fun r H' => r = .sl H.nx 0 0 t false ∧ Gs 1 H' r 0 [] ∧ Fm No H H' ∧ H'.nx = H.nx + 1 := by
 obtain ⟨j, rfl⟩ : ∃ j, k = j + 1 := ⟨k - 1, by omega⟩
 rw [(hC j).sGrw]
 unfold sGrw q34
 have h0 : ¬ (Int.ofNat t < Int.ofNat 0) := by simp only [Int.ofNat_eq_natCast]; omega
 simp (disch := omega) only [go_sem, reduceAdd, reduceLeDiff, h0]
 unfold ql4
 have e1 : qb9 1 .nilsl none (some (.int .i64 (.ofNat 0))) none = .val .nilsl := rfl
 have e2 := zfl t ht2
 obtain ⟨H', a1, a2, a3, a4, a5⟩ := (Gl.nil 1 H).append (w := 8) (k := t) (x := List.replicate t (.int .i64 (.ofNat 0))) ht (by simp) (by omega) (by omega)
 rw [Nat.zero_add] at a1 a2
 have e3 := qvs 1 H.nx 0 t t false (k := 0) (Nat.zero_le _) (Nat.le_refl _) ht
 simp (disch := omega) only [go_sem, reduceAdd, reduceLeDiff, ht, e1, e2, a1, e3, Nat.sub_zero]
 unfold qrs
 have g0 := (Gl.gs a2).cut (Nat.zero_le t)
 rw [Nat.zero_mul, List.take_zero] at g0
 exact Ok.ret ⟨rfl, g0, a4.mono fun b _ h => (by obtain ⟨_, _, _, _, g⟩ := h; cases g), a5⟩
theorem q5a {call : Ev.Call} {H1 : Hp} {lv : AV} {os : List AV} {res : List (List Nat)} {tb : Nat} (hos : Gl 1 H1 lv os.length os) (hlen : os.length = res.length) (hs : res.flatten.length < 900) (hol : os.length < 900) (htb : ∀ b, In lv b → b ≠ tb)
  (hat : ∀ (j : Nat) (w : AV) (o : List Nat), os[j]? = some w → res[j]? = some o → Gl 1 H1 w o.length (nats o) ∧ ∀ b, In w b → b ≠ tb) {q : AV → Hp → R1} {Q : AV → Hp → Prop}
  (hq : ∀ H, Gs 1 H (.sl tb 0 res.flatten.length res.flatten.length false) res.flatten.length (nats res.flatten) → Fm (fun b => b = tb) H1 H → Ok (q (.sl tb 0 res.flatten.length res.flatten.length false) H) Q) :
  ∀ (k i : Nat) (H : Hp), os.length - i < k → i ≤ os.length → Gs 1 H (.sl tb 0 (flt res i).length res.flatten.length false) (flt res i).length (nats (flt res i)) → Fm (fun b => b = tb) H1 H →
   Ok (qk2 call q lv (.int .i64 (.ofNat os.length)) k (.sl tb 0 (flt res i).length res.flatten.length false) (.int .i64 (.ofNat i)) H) Q
 | 0, i, H, h, _, _, _ => by omega
 | k + 1, i, H, h, hi, hg, hF => by
  show Ok (qru call _ _ _ (qk2 call _ _ _ k) _ _ H) Q
  unfold qru
  by_cases hil : i < os.length
  ·simp (disch := omega) only [go_sem, reduceAdd, reduceLeDiff, hil]
   unfold qwh
   have hos' : Gl 1 H lv os.length os := hos.fm hF fun b hb => htb b hb
   obtain ⟨b1, o1, e1, _, _, e2⟩ := hos'.at (i := i) (x := os[i]) (by simp)
   obtain ⟨g1, g2⟩ := hat i os[i] (res[i]'(by omega)) (by simp) (by simp)
   have g1' : Gl 1 H os[i] (res[i]'(by omega)).length (nats (res[i]'(by omega))) := g1.fm hF fun b hb => g2 b hb
   have e3 := srcGl g1'
   have hf := q40 res i (by omega)
   have hfl := zfb res (i + 1)
   have hfe : (flt res (i + 1)).length = (flt res i).length + (res[i]'(by omega)).length := by rw [hf, List.length_append]
   obtain ⟨H', a1, a2, a3, a4⟩ := hg.room (w := 8) (x := nats (res[i]'(by omega))) (qb7 _) (by omega)
   simp (disch := omega) only [go_sem, reduceAdd, reduceLeDiff, e1, e2, e3, a1]
   unfold q1u
   simp (disch := omega) only [go_sem, reduceAdd, reduceLeDiff]
   have e9 : nats (flt res i) ++ nats (res[i]'(by omega)) = nats (flt res (i + 1)) := by rw [hf]; simp [nats]
   rw [e9, ← hfe] at a2
   rw [← hfe]
   exact q5a hos hlen hs hol htb hat hq k (i + 1) H' (by omega) (by omega) a2 (hF.trans a3)
  ·simp (disch := omega) only [go_sem, reduceAdd, reduceLeDiff, hil]
   have : i = os.length := by omega
   subst this
   have e : flt res os.length = res.flatten := by unfold flt; rw [hlen, List.take_length]
   rw [e] at hg ⊢
   exact hq H hg hF
theorem zcm (hC : qb1 C) {k : Nat} (hk : 2 ≤ k) {H : Hp} {lv : AV} {os : List AV} {res : List (List Nat)} (hos : Gl 1 H lv os.length os) (hlen : os.length = res.length) (hs : res.flatten.length < 900) (hol : os.length < 900) (hne : ∀ o ∈ res, o ≠ [])
  (hat : ∀ (j : Nat) (w : AV) (o : List Nat), os[j]? = some w → res[j]? = some o → Gl 1 H w o.length (nats o)) :
  Ok (C k (.f qxu) [lv] H) fun r H' => Gl 1 H' r res.flatten.length (nats res.flatten) ∧ Fm No H H' := by
 obtain ⟨j, rfl⟩ : ∃ j, k = j + 1 := ⟨k - 1, by omega⟩
 rw [(hC j).sCat]
 unfold sCat q8x
 have e1 := hos.lenV
 simp (disch := omega) only [go_sem, reduceAdd, reduceLeDiff, e1]
 unfold qwk
 rw [qam]
 refine q3s hos hlen hs hol hat ?_ qal 0 (by rw [qag]; omega) (Nat.zero_le _)
 unfold qhk
 by_cases h0 : res.flatten.length = 0
 ·have hres : res = [] := by
   cases res with
   | nil => rfl
   | cons c r =>
    have := List.length_pos_iff.2 (hne c List.mem_cons_self)
    rw [List.flatten_cons, List.length_append] at h0
    omega
  subst hres
  have h00 : os.length = 0 := hlen
  have eg : C j (.f qs9) [.nilsl, .int .i64 (.ofNat 0)] H = .ok .nilsl H := by
   obtain ⟨i, rfl⟩ : ∃ i, j = i + 1 := ⟨j - 1, by omega⟩
   rw [(hC i).sGrw]
   unfold sGrw q34
   simp (disch := omega) only [go_sem, reduceAdd, reduceLeDiff]
   unfold ql4
   simp (disch := omega) only [go_sem, reduceAdd, reduceLeDiff]
   unfold qrs
   rfl
  have e0 : (([] : List (List Nat)).flatten).length = 0 := rfl
  rw [h00] at e1
  simp (disch := omega) only [go_sem, reduceAdd, reduceLeDiff, e0, eg, e1]
  unfold qwj
  rw [qam]
  show Ok (qru (C j) _ _ _ (qk2 (C j) _ _ _ 999999) _ _ H) _
  unfold qru
  simp (disch := omega) only [go_sem, reduceAdd, reduceLeDiff]
  unfold qis
  exact Ok.ret ⟨Gl.nil _ _, Fm.refl _ _⟩
 ·refine Ok.ve (zhq hC (k := j) (by omega) (by omega) (by omega) H) ?_
  rintro r H1 ⟨rfl, g1, f1, n1⟩
  simp (disch := omega) only [go_sem, reduceAdd, reduceLeDiff, e1]
  unfold qwj
  rw [qam]
  refine q5a (H1 := H1) (tb := H.nx) (hos.no f1) hlen hs hol (fun b hb => by have := hos.lt hb; omega) (fun j w o h1 h2 => ?_) (fun H2 g2 f2 => ?_) qal 0 H1 (by rw [qag]; omega) (Nat.zero_le _) g1 (Fm.refl _ _)
  ·have := hat j w o h1 h2
   exact ⟨this.no f1, fun b hb => by have := this.lt hb; omega⟩
  ·unfold qis
   exact Ok.ret ⟨g2.full, f1.then f2 fun c hc h => by omega⟩
theorem zer (hC : qb1 C) (hO : qdj C) (hS : qby C) (hR : qcy LA LO C) {k : Nat} (hk : 922 ≤ k) {n : Nat} {es : List Edge} (hE : qia n es) (hn : n ≤ 256) (hlen : es.length < 200000) {gv : AV} {H : Hp} (hg : IsE H gv es) :
  Ok (C k (.f qte) [.agg [.int .i64 (.ofNat n), gv]] H) fun r H' => ∃ w res, r = .tup [w, .int .i64 (.ofNat 0)] ∧ OrdF n (qcp es) [] res ∧ res.flatten.length = n ∧ Gl 1 H' w res.flatten.length (nats res.flatten) ∧ capV w = .val (.int .i64 (.ofNat res.flatten.length)) ∧ Fm No H H' := by
 obtain ⟨j, rfl⟩ : ∃ j, k = j + 1 := ⟨k - 1, by omega⟩
 rw [(hC j).cOrd]
 unfold cOrd q5c
 simp (disch := omega) only [go_sem, reduceAdd, reduceLeDiff]
 have f0 : Fm No H (qau H (qac 0 [.int .i64 (.ofNat n), gv])) := (Fm.refl _ _).push _
 refine Ok.ve (zcj hC hO hS hR (k := j) (by omega) hE hn hlen (hg.fm f0)) ?_
 rintro r H1 ⟨lv, iv, os, ins2, out, ins, res, rfl, hOrd, hCR, f1⟩
 have ford := hOrd.ord hE.rng
 obtain ⟨z1, z2, z3, z4, z5⟩ := ford.all
 have hcl := hCR.len
 have hrl : res.length ≤ res.flatten.length := by
  have hle : ∀ (o : List (List Nat)), (∀ c ∈ o, c ≠ []) → o.length ≤ o.flatten.length := fun o => by
   induction o with
   | nil => intro _; exact Nat.le_refl _
   | cons c o ih =>
    intro h
    have h1 := ih fun c hc => h c (List.mem_cons_of_mem _ hc)
    have h2 : 0 < c.length := List.length_pos_iff.2 (h c List.mem_cons_self)
    rw [List.flatten_cons, List.length_append, List.length_cons]; omega
  exact hle res z4
 have ivsl : (iv = .nilsl) ∨ ∃ b o n m e, iv = .sl b o n m e := by
  rcases hCR.gi.is with ⟨h, _⟩ | ⟨b, o, e, q, L, h, _⟩
  ·exact Or.inl h
  ·exact Or.inr ⟨_, _, _, _, _, h⟩
 have es3 : ∀ x y : AV, setL [AV.nilsl, AV.nilsl] 0 [x, y] = [x, y] := fun _ _ => rfl
 simp (disch := omega) only [go_sem, reduceAdd, reduceLeDiff, es3, List.length_cons, List.length_nil]
 generalize hH2 : (qau H1 (qac 0 [AV.nilsl, AV.nilsl])).put H1.nx (qac 0 [lv, iv]) = H2
 have f2 : Fm No H1 H2 := by rw [← hH2]; exact ((Fm.refl _ _).push _).put_new _ _ (Nat.le_refl _)
 have g2 : H2.get H1.nx = qac 0 [lv, iv] := by rw [← hH2, qah]
 unfold qyj
 simp (disch := omega) only [go_sem, reduceAdd, reduceLeDiff, g2]
 refine Ok.ve (zcm hC (k := j) (by omega) (hCR.gl.no f2) hcl (by omega) (by omega) z4 fun j w o h1 h2 => (hCR.at' j w o h1 h2).1.no f2) ?_
 rintro r H3 ⟨g3, f3⟩
 obtain ⟨w, w1, w2, w3, _⟩ := zcn hC (k := j) (by omega) g3
 simp (disch := omega) only [go_sem, reduceAdd, reduceLeDiff, w1]
 exact Ok.ret ⟨w, res, rfl, ford, z5, w2, w3, ((f0.trans f1).trans f2).trans f3⟩
end Go.Di
end
section
/-
 Contracts: whether any graph is right.
-/
namespace Go.Di
open Go.Ev
variable {C : Nat → Ev.Call}
structure AE where
 (f t : Int) (s : Bool)
def AE.cells (e : AE) : List AV := [.int .i64 e.f, .int .i64 e.t, .bool e.s]
def AE.toE (e : AE) : Edge := ⟨e.f.toNat, e.t.toNat, e.s⟩
structure IsA (H : Hp) (v : AV) (al : List AE) : Prop where
 flat : qpw v = true
 len : qbu v = .val (.int .i64 (.ofNat al.length))
 lt' : ∀ b, In v b → b < H.nx
 at' : ∀ (i : Nat) (hi : i < al.length), ∃ b o, idxS 3 v (.int .i64 (.ofNat i)) = .val (.ptr b o) ∧ b < H.nx ∧ qcq (H.get b) o 3 = some al[i].cells
theorem IsA.fm {H H' : Hp} {v : AV} {al : List AE} (h : IsA H v al) (a : Fm No H H') : IsA H' v al := ⟨h.flat, h.len, fun b hb => Nat.lt_of_lt_of_le (h.lt' b hb) a.nx, fun i hi => by
 obtain ⟨b, o, e1, e2, e3⟩ := h.at' i hi
 exact ⟨b, o, e1, Nat.lt_of_lt_of_le e2 a.nx, by rw [a.keep e2]; exact e3⟩⟩
def rngA (N : Int) (x : AE) : Prop := ¬ (min x.f x.t < Int.ofNat 0) ∧ ¬ (N ≤ max x.f x.t)
instance (N : Int) (x : AE) : Decidable (rngA N x) := inferInstanceAs (Decidable (_ ∧ _))
theorem rngA.cells {N : Int} {x : AE} (h : rngA N x) : x.cells = x.toE.cells := by
 obtain ⟨h1, _⟩ := h
 have h2 : 0 ≤ x.f ∧ 0 ≤ x.t := by simp only [Int.ofNat_eq_natCast] at h1; omega
 show [AV.int .i64 x.f, .int .i64 x.t, .bool x.s] = [.int .i64 (Int.ofNat x.f.toNat), .int .i64 (Int.ofNat x.t.toNat), .bool x.s]
 have e1 : Int.ofNat x.f.toNat = x.f := by simp only [Int.ofNat_eq_natCast]; omega
 have e2 : Int.ofNat x.t.toNat = x.t := by simp only [Int.ofNat_eq_natCast]; omega
 rw [e1, e2]
def chkL (N : Int) : Option AE → List AE → Nat
 | _, [] => 0
 | none, x :: l => if rngA N x then chkL N (some x) l else 4
 | some y, x :: l => if rngA N x then if Int.ofNat 0 ≤ cmpE y.toE x.toE then 18 else chkL N (some x) l else 4
def chk (N : Int) (al : List AE) : Nat := if N < Int.ofNat 0 ∨ Int.ofNat 256 < N then 3 else chkL N none al
theorem qlt (hC : qb1 C) {j : Nat} (hj : 3 ≤ j) {N : Int} {al : List AE} {v : AV} {g : Nat} {H0 : Hp} (hlen : al.length < 1000000) {q5e0 : Hp → R1} {c : Nat} (hq : c = 0 → ∀ H, Fm No H0 H → Ok (q5e0 H) fun r H => r = .int .i64 (.ofNat c) ∧ Fm No H0 H) :
  ∀ (k i : Nat) (H : Hp), i ≤ al.length → al.length - i < k → (∀ p (h : p < al.length), i = p + 1 → rngA N al[p] ∧ chkL N (some al[p]) (al.drop i) = c) → (i = 0 → chkL N none al = c) → IsA H v al → g < H.nx → H.get g = qac 0 [.int .i64 N, v] → Fm No H0 H →
   Ok (qh0 (C j) (fun x2 H => .ok x2 H) q5e0 (.ptr g 0) v (.int .i64 (.ofNat al.length)) k (.int .i64 (.ofNat i)) H) fun r H => r = .int .i64 (.ofNat c) ∧ Fm No H0 H
 | 0, i, _, _, h, _, _, _, _, _, _ => by omega
 | k + 1, i, H, hi, hk, hp, h0, hv, hg1, hg2, hf => by
  show Ok (qti (C j) _ _ _ _ _ (qh0 (C j) _ _ _ _ _ k) _ H) _
  unfold qti
  by_cases hlt : i < al.length
  ·obtain ⟨b, o1, e1, e2, e3⟩ := hv.at' i hlt
   have hd : al.drop i = al[i] :: al.drop (i + 1) := List.drop_eq_getElem_cons hlt
   simp (disch := first | omega | exact ti rfl) only [go_sem, reduceAdd, reduceLeDiff, hlt]
   unfold qqq q4t
   by_cases hr : rngA N al[i]
   ·rw [hr.cells] at e3
    have hr' := hr
    obtain ⟨r1, r2⟩ := hr
    have n1 : 0 ≤ al[i].f ∧ 0 ≤ al[i].t := by simp only [Int.ofNat_eq_natCast] at r1; omega
    have hmin : (min (Int.ofNat al[i].toE.f) (Int.ofNat al[i].toE.t) < Int.ofNat 0) = False := by simp only [Int.ofNat_eq_natCast, eq_iff_iff, iff_false]; omega
    have hmax : (N ≤ max (Int.ofNat al[i].toE.f) (Int.ofNat al[i].toE.t)) = False := by
     have e1 : Int.ofNat al[i].toE.f = al[i].f := by show Int.ofNat al[i].f.toNat = _; simp only [Int.ofNat_eq_natCast]; omega
     have e2 : Int.ofNat al[i].toE.t = al[i].t := by show Int.ofNat al[i].t.toNat = _; simp only [Int.ofNat_eq_natCast]; omega
     rw [e1, e2, eq_iff_iff, iff_false]; exact r2
    by_cases h00 : 0 < i
    ·obtain ⟨p, rfl⟩ : ∃ p, i = p + 1 := ⟨i - 1, by omega⟩
     obtain ⟨b', o2, e1', e2', e3'⟩ := hv.at' p (by omega)
     obtain ⟨rp, hc⟩ := hp p (by omega) rfl
     rw [rp.cells] at e3'
     rw [hd, chkL, if_pos hr'] at hc
     have hv64 := qek hv.flat 63
     simp (disch := first | omega | exact ti rfl) only [go_sem, reduceAdd, reduceLeDiff, e1, e3, Edge.cells, qlq, qo4, hmin, hmax, hg2, h00, e1', e3', Nat.add_sub_cancel]
     refine Ok.deO (qvh hC hj al[p].toE al[p + 1].toE _) ?_
     rintro v' H' ⟨rfl, f'⟩
     have k1 : H'.get g = qac 0 [.int .i64 N, v] := (f'.keep (by (first | omega | (simp only [np, nq]; omega)))).trans (by simp (disch := first | omega | exact ti rfl) only [go_sem, reduceAdd, reduceLeDiff, hg2])
     have k2 : qcq (H'.get b') o2 3 = some al[p].toE.cells := by rw [f'.keep (by (first | omega | (simp only [np, nq]; omega)))]; simp (disch := first | omega | exact ti rfl) only [go_sem, reduceAdd, reduceLeDiff, e3']
     have k3 : H'.get H.nx = qac 0 al[p + 1].toE.cells := (f'.keep (by (first | omega | (simp only [np, nq]; omega)))).trans (by simp (disch := first | omega | exact ti rfl) only [go_sem, reduceAdd, reduceLeDiff, Edge.cells])
     have fH : Fm No H H' := by refine Fm.trans ?_ f'; (repeat (first | exact Fm.refl _ _ | assumption | refine Fm.push ?_ _ | refine Fm.up2 ?_ (by (first | omega | (simp only [np, nq]; omega))) | refine Fm.put_new ?_ _ _ (by (first | omega | (simp only [np, nq]; omega)))))
     by_cases ho : Int.ofNat 0 ≤ cmpE al[p].toE al[p + 1].toE
     ·rw [if_pos ho] at hc
      subst hc
      simp (disch := first | omega | exact ti rfl) only [go_sem, reduceAdd, reduceLeDiff, k1, k2, k3, hv64, Edge.cells, ho]
      exact Ok.ret ⟨rfl, hf.trans fH⟩
     ·rw [if_neg ho] at hc
      simp (disch := first | omega | exact ti rfl) only [go_sem, reduceAdd, reduceLeDiff, k1, k2, k3, hv64, Edge.cells, ho]
      unfold qo2
      simp (disch := first | omega | exact ti rfl) only [go_sem, reduceAdd, reduceLeDiff]
      have hnext : ∀ p' (h : p' < al.length), p + 1 + 1 = p' + 1 → rngA N al[p'] ∧ chkL N (some al[p']) (al.drop (p + 1 + 1)) = c := by
       intro p' h e
       obtain rfl : p' = p + 1 := by omega
       exact ⟨hr', hc⟩
      exact qlt hC hj hlen hq k (p + 1 + 1) H' (by omega) (by omega) hnext (fun h => by omega) (hv.fm fH) (Nat.lt_of_lt_of_le hg1 fH.nx) k1 (hf.trans fH)
    ·simp (disch := first | omega | exact ti rfl) only [go_sem, reduceAdd, reduceLeDiff, e1, e3, Edge.cells, qlq, qo4, hmin, hmax, hg2, h00]
     unfold qo2
     simp (disch := first | omega | exact ti rfl) only [go_sem, reduceAdd, reduceLeDiff]
     have hi0 : i = 0 := by omega
     have hc := h0 hi0
     subst hi0
     have hd' : al = al[0] :: al.drop 1 := by have := hd; rwa [List.drop_zero] at this
     rw [hd', chkL] at hc
     rw [if_pos hr'] at hc
     have fH : Fm No H ((qau H (qac 0 [.int .i64 (.ofNat 0), .int .i64 (.ofNat 0), .bool false])).put H.nx (qac 0 [.int .i64 (.ofNat al[0].toE.f), .int .i64 (.ofNat al[0].toE.t), .bool al[0].toE.s])) := by (repeat (first | exact Fm.refl _ _ | assumption | refine Fm.push ?_ _ | refine Fm.up2 ?_ (by (first | omega | (simp only [np, nq]; omega))) | refine Fm.put_new ?_ _ _ (by (first | omega | (simp only [np, nq]; omega)))))
     have hnext : ∀ p' (h : p' < al.length), 0 + 1 = p' + 1 → rngA N al[p'] ∧ chkL N (some al[p']) (al.drop (0 + 1)) = c := by
      intro p' h e
      obtain rfl : p' = 0 := by omega
      exact ⟨hr', hc⟩
     exact qlt hC hj hlen hq k (0 + 1) _ (by omega) (by omega) hnext (fun h => by omega) (hv.fm fH) (Nat.lt_of_lt_of_le hg1 fH.nx) ((fH.keep hg1).trans hg2) (hf.trans fH)
   ·have hc : c = 4 := by
     rcases Nat.eq_zero_or_pos i with h | h
     ·have hc := h0 h
      subst h
      have hd' : al = al[0] :: al.drop 1 := by have := hd; rwa [List.drop_zero] at this
      rw [hd', chkL, if_neg hr] at hc
      exact hc.symm
     ·obtain ⟨p, rfl⟩ : ∃ p, i = p + 1 := ⟨i - 1, by omega⟩
      obtain ⟨_, hc⟩ := hp p (by omega) rfl
      rw [hd, chkL, if_neg hr] at hc
      exact hc.symm
    subst hc
    have fH : Fm No H ((qau H (qac 0 [.int .i64 (.ofNat 0), .int .i64 (.ofNat 0), .bool false])).put H.nx (qac 0 [.int .i64 al[i].f, .int .i64 al[i].t, .bool al[i].s])) := by (repeat (first | exact Fm.refl _ _ | assumption | refine Fm.push ?_ _ | refine Fm.up2 ?_ (by (first | omega | (simp only [np, nq]; omega))) | refine Fm.put_new ?_ _ _ (by (first | omega | (simp only [np, nq]; omega)))))
    by_cases h1 : min al[i].f al[i].t < Int.ofNat 0
    ·simp (disch := first | omega | exact ti rfl) only [go_sem, reduceAdd, reduceLeDiff, e1, e3, AE.cells, qlq, qo4, h1]
     exact Ok.ret ⟨rfl, hf.trans fH⟩
    ·have h2 : N ≤ max al[i].f al[i].t := Classical.byContradiction fun h => hr ⟨h1, h⟩
     simp (disch := first | omega | exact ti rfl) only [go_sem, reduceAdd, reduceLeDiff, e1, e3, AE.cells, qlq, qo4, h1, h2, hg2]
     exact Ok.ret ⟨rfl, hf.trans fH⟩
  ·simp (disch := first | omega | exact ti rfl) only [go_sem, reduceAdd, reduceLeDiff, hlt]
   have : i = al.length := by omega
   refine hq ?_ H hf
   rcases Nat.eq_zero_or_pos i with h | h
   ·have hc := h0 h
    have : al = [] := List.length_eq_zero_iff.1 (by omega)
    subst this
    exact hc.symm
   ·obtain ⟨_, hc⟩ := hp (i - 1) (by omega) (by omega)
    rw [List.drop_of_length_le (by omega)] at hc
    exact hc.symm
theorem q0x (hC : qb1 C) {k : Nat} (hk : 4 ≤ k) {N : Int} {al : List AE} (hlen : al.length < 1000000) {v : AV} {H : Hp} (hv : IsA H v al) :
  Ok (C k (.f qo0) [.agg [.int .i64 N, v]] H) fun r H' => r = .int .i64 (.ofNat (chk N al)) ∧ Fm No H H' := by
 obtain ⟨j, rfl⟩ : ∃ j, k = j + 1 := ⟨k - 1, by omega⟩
 rw [(hC j).gChk]
 unfold gChk q4u
 have fH : Fm No H (qau H (qac 0 [.int .i64 N, v])) := by (repeat (first | exact Fm.refl _ _ | assumption | refine Fm.push ?_ _ | refine Fm.up2 ?_ (by (first | omega | (simp only [np, nq]; omega))) | refine Fm.put_new ?_ _ _ (by (first | omega | (simp only [np, nq]; omega)))))
 by_cases h1 : N < Int.ofNat 0
 ·have hck : chk N al = 3 := by unfold chk; rw [if_pos (Or.inl h1)]
  rw [hck]
  simp (disch := first | omega | exact ti rfl) only [go_sem, reduceAdd, reduceLeDiff, h1]
  exact Ok.ret ⟨rfl, fH⟩
 ·by_cases h2 : Int.ofNat 256 < N
  ·have hck : chk N al = 3 := by unfold chk; rw [if_pos (Or.inr h2)]
   rw [hck]
   simp (disch := first | omega | exact ti rfl) only [go_sem, reduceAdd, reduceLeDiff, h1, h2]
   exact Ok.ret ⟨rfl, fH⟩
  ·have hck : chk N al = chkL N none al := by unfold chk; rw [if_neg (by rintro (h | h); exact h1 h; exact h2 h)]
   rw [hck]
   simp (disch := first | omega | exact ti rfl) only [go_sem, reduceAdd, reduceLeDiff, h1, h2]
   unfold qqp
   have e0 := (hv.fm fH).len
   simp (disch := first | omega | exact ti rfl) only [go_sem, reduceAdd, reduceLeDiff, e0]
   unfold qx0
   rw [qam]
   refine (qlt hC (by omega) hlen (H0 := qau H (qac 0 [.int .i64 N, v])) (c := chkL N none al) (fun h H' f' => ?_) qal 0 _ (Nat.zero_le _) (by rw [qag]; omega) (fun p h e => by omega) (fun _ => rfl) (hv.fm fH) (by (first | omega | (simp only [np, nq]; omega))) (qaq _ _) (Fm.refl _ _)).mono fun r H' h => ⟨h.1, fH.trans h.2⟩
   unfold qjk
   rw [h]
   exact Ok.ret ⟨rfl, f'⟩
theorem zbl {N : Int} : ∀ {l : List AE} {y : Option AE}, chkL N y l = 0 → (∀ x ∈ l, rngA N x) ∧ (∀ i (h : i + 1 < l.length), cmpE l[i].toE l[i + 1].toE < 0) ∧ ∀ y' x l', y = some y' → l = x :: l' → cmpE y'.toE x.toE < 0
 | [], _, _ => ⟨fun x h => (by cases h), fun i h => (by simp at h), fun _ _ _ _ h => (by cases h)⟩
 | x :: l, y, h => by
  have key : rngA N x ∧ (∀ y', y = some y' → cmpE y'.toE x.toE < 0) ∧ chkL N (some x) l = 0 := by
   cases y with
   | none =>
    rw [chkL] at h
    by_cases hr : rngA N x
    ·rw [if_pos hr] at h; exact ⟨hr, fun y' e => (by cases e), h⟩
    ·rw [if_neg hr] at h; cases h
   | some y =>
    rw [chkL] at h
    by_cases hr : rngA N x
    ·rw [if_pos hr] at h
     by_cases ho : Int.ofNat 0 ≤ cmpE y.toE x.toE
     ·rw [if_pos ho] at h; cases h
     ·rw [if_neg ho] at h
      exact ⟨hr, fun y' e => (by cases e; simp only [Int.ofNat_eq_natCast] at ho; omega), h⟩
    ·rw [if_neg hr] at h; cases h
  obtain ⟨k1, k2, k3⟩ := key
  obtain ⟨a1, a2, a3⟩ := zbl k3
  refine ⟨fun z hz => ?_, fun i hi => ?_, fun y' x' l' e1 e2 => ?_⟩
  ·rcases List.mem_cons.1 hz with rfl | hz
   ·exact k1
   ·exact a1 z hz
  ·cases i with
   | zero =>
    cases l with
    | nil => simp at hi
    | cons z l => exact a3 x z l rfl rfl
   | succ i => exact a2 i (by simpa using hi)
  ·cases e2; exact k2 y' e1
theorem zjt {N : Int} {al : List AE} (h : chk N al = 0) : ∃ n, N = Int.ofNat n ∧ n ≤ 256 ∧ qia n (al.map AE.toE) ∧ ∀ x ∈ al, x.cells = x.toE.cells := by
 unfold chk at h
 by_cases h1 : N < Int.ofNat 0 ∨ Int.ofNat 256 < N
 ·rw [if_pos h1] at h; cases h
 ·rw [if_neg h1] at h
  obtain ⟨a1, a2, _⟩ := zbl h
  simp only [Int.ofNat_eq_natCast] at h1
  refine ⟨N.toNat, by simp only [Int.ofNat_eq_natCast]; omega, by omega, ⟨fun e he => ?_, fun i hi => ?_⟩, fun x hx => (a1 x hx).cells⟩
  ·obtain ⟨x, hx, rfl⟩ := List.mem_map.1 he
   obtain ⟨r1, r2⟩ := a1 x hx
   show x.f.toNat < _ ∧ x.t.toNat < _
   simp only [Int.ofNat_eq_natCast] at r1
   omega
  ·rw [List.getElem_map, List.getElem_map]
   exact a2 i (by simpa using hi)
theorem IsA.toE {H : Hp} {v : AV} {al : List AE} (h : IsA H v al) (hc : ∀ x ∈ al, x.cells = x.toE.cells) : IsE H v (al.map AE.toE) :=
 ⟨h.flat, by rw [List.length_map]; exact h.len, h.lt', fun i hi => by
  rw [List.length_map] at hi
  obtain ⟨b, o, e1, e2, e3⟩ := h.at' i hi
  refine ⟨b, o, e1, e2, ?_⟩
  rw [List.getElem_map, ← hc _ (List.getElem_mem hi)]
  exact e3⟩
end Go.Di
end
section
/-
 Contracts: the functions of comps refuse a graph that is not right.
-/
namespace Go.Di
open Go.Ev Go.Di.T Go.Sort
variable {C : Nat → Ev.Call} {LA LO : LP}
theorem zck (hC : qb1 C) (hR : qcy LA LO C) {k : Nat} (hk : 10 ≤ k) {N : Int} {al : List AE} (hlen : al.length < 1000000) {v : AV} {H : Hp} (hv : IsA H v al) (hc : ¬ chk N al = 0) :
  Ok (C k (.f qmy) [.agg [.int .i64 N, v]] H) fun r H' => r = .tup [.agg [.nilsl, .nilsl], .int .i64 (.ofNat (chk N al))] ∧ Fm No H H' := by
 obtain ⟨j, rfl⟩ : ∃ j, k = j + 1 := ⟨k - 1, by omega⟩
 rw [(hR j).cOf]
 unfold cOf zej
 simp (disch := first | omega | (simp only [np, nq]; first | done | omega)) only [go_sem, reduceAdd, reduceLeDiff]
 generalize hH1 : qau (qau H (qac 0 [.int .i64 N, v])) (qac 0 [.nilsl, .nilsl]) = H1
 have n1 : H1.nx = H.nx + 2 := by rw [← hH1]; rfl
 have f1 : Fm No H H1 := by rw [← hH1]; exact ((Fm.refl _ _).push _).push _
 have x1 : H1.get (H.nx + 1) = qac 0 [.nilsl, .nilsl] := by rw [← hH1]; exact qaq _ _
 refine Ok.ve (q0x hC (k := j) (by omega) hlen (hv.fm f1)) ?_
 rintro r H2 ⟨rfl, f2⟩
 have n2 := f2.nx
 have x2 : H2.get (H.nx + 1) = qac 0 [.nilsl, .nilsl] := (f2.keep (by omega)).trans x1
 have es3 : ∀ x y a b : AV, setL [a, b] 0 [x, y] = [x, y] := fun _ _ _ _ => rfl
 simp (disch := first | omega | (simp only [np, nq]; first | done | omega)) only [go_sem, reduceAdd, reduceLeDiff, hc, x2, es3, List.length_cons, List.length_nil]
 refine Ok.ret ⟨rfl, ?_⟩
 exact (f1.trans f2).then ((Fm.refl (fun b => b = H.nx + 1) H2).put _ _ fun _ => rfl) fun b hb h => by omega
theorem q3n (hC : qb1 C) (hR : qcy LA LO C) {k : Nat} (hk : 11 ≤ k) {N : Int} {al : List AE} (hlen : al.length < 1000000) {v : AV} {H : Hp} (hv : IsA H v al) (hc : ¬ chk N al = 0) :
  Ok (C k (.f qtg) [.agg [.int .i64 N, v]] H) fun r H' => r = .tup [.agg [.int .i64 (.ofNat 0), .nilsl], .int .i64 (.ofNat (chk N al))] ∧ Fm No H H' := by
 obtain ⟨j, rfl⟩ : ∃ j, k = j + 1 := ⟨k - 1, by omega⟩
 rw [(hC j).cCnd]
 unfold cCnd q5f
 simp (disch := first | omega | (simp only [np, nq]; first | done | omega)) only [go_sem, reduceAdd, reduceLeDiff]
 have f0 : Fm No H (qau (qau H (qac 0 [.int .i64 N, v])) (qac 0 [.int .i64 (.ofNat 0), .nilsl])) := by (repeat (first | exact Fm.refl _ _ | assumption | refine Fm.push ?_ _ | refine Fm.up2 ?_ (by (first | omega | (simp only [np, nq]; omega))) | refine Fm.put_new ?_ _ _ (by (first | omega | (simp only [np, nq]; omega)))))
 refine Ok.ve (zck hC hR (k := j) (by omega) hlen (hv.fm f0) hc) ?_
 rintro r H1 ⟨rfl, f1⟩
 have n1 : H.nx + 1 + 1 ≤ H1.nx := f1.nx
 have g1 : H1.get (H.nx + 1) = qac 0 [.int .i64 (.ofNat 0), .nilsl] := (f1.keep (by (first | omega | (simp only [np, nq]; omega)))).trans (qaq _ _)
 have es3 : ∀ x y a b : AV, setL [a, b] 0 [x, y] = [x, y] := fun _ _ _ _ => rfl
 simp (disch := first | omega | (simp only [np, nq]; first | done | omega)) only [go_sem, reduceAdd, reduceLeDiff, hc, g1, es3, List.length_cons, List.length_nil]
 refine Ok.ret ⟨rfl, ?_⟩
 exact ((f0.trans f1).trans (((Fm.refl _ _).push _).put_new _ _ (Nat.le_refl _))).then ((Fm.refl (fun b => b = H.nx + 1) _).put _ _ fun _ => rfl) fun b hb h => by omega
theorem zch (hC : qb1 C) (hR : qcy LA LO C) {k : Nat} (hk : 11 ≤ k) {N : Int} {al : List AE} (hlen : al.length < 1000000) {v : AV} {H : Hp} (hv : IsA H v al) (hc : ¬ chk N al = 0) (z : Int) :
  Ok (C k (.f qtd) [.agg [.int .i64 N, v], .int .i64 z] H) fun r H' => r = .tup [.bool false, .int .i64 (.ofNat (chk N al))] ∧ Fm No H H' := by
 obtain ⟨j, rfl⟩ : ∃ j, k = j + 1 := ⟨k - 1, by omega⟩
 rw [(hC j).cSim]
 unfold cSim q5b
 simp (disch := first | omega | (simp only [np, nq]; first | done | omega)) only [go_sem, reduceAdd, reduceLeDiff]
 have f0 : Fm No H (qau H (qac 0 [.int .i64 N, v])) := by (repeat (first | exact Fm.refl _ _ | assumption | refine Fm.push ?_ _ | refine Fm.up2 ?_ (by (first | omega | (simp only [np, nq]; omega))) | refine Fm.put_new ?_ _ _ (by (first | omega | (simp only [np, nq]; omega)))))
 refine Ok.ve (zck hC hR (k := j) (by omega) hlen (hv.fm f0) hc) ?_
 rintro r H1 ⟨rfl, f1⟩
 have es3 : ∀ x y a b : AV, setL [a, b] 0 [x, y] = [x, y] := fun _ _ _ _ => rfl
 simp (disch := first | omega | (simp only [np, nq]; first | done | omega)) only [go_sem, reduceAdd, reduceLeDiff, hc, es3, List.length_cons, List.length_nil]
 exact Ok.ret ⟨rfl, (f0.trans f1).trans (((Fm.refl _ _).push _).put_new _ _ (Nat.le_refl _))⟩
theorem zev (hC : qb1 C) (hR : qcy LA LO C) {k : Nat} (hk : 11 ≤ k) {N : Int} {al : List AE} (hlen : al.length < 1000000) {v : AV} {H : Hp} (hv : IsA H v al) (hc : ¬ chk N al = 0) :
  Ok (C k (.f qtf) [.agg [.int .i64 N, v]] H) fun r H' => r = .tup [.nilsl, .int .i64 (.ofNat (chk N al))] ∧ Fm No H H' := by
 obtain ⟨j, rfl⟩ : ∃ j, k = j + 1 := ⟨k - 1, by omega⟩
 rw [(hC j).cMix]
 unfold cMix q5d
 simp (disch := first | omega | (simp only [np, nq]; first | done | omega)) only [go_sem, reduceAdd, reduceLeDiff]
 have f0 : Fm No H (qau H (qac 0 [.int .i64 N, v])) := by (repeat (first | exact Fm.refl _ _ | assumption | refine Fm.push ?_ _ | refine Fm.up2 ?_ (by (first | omega | (simp only [np, nq]; omega))) | refine Fm.put_new ?_ _ _ (by (first | omega | (simp only [np, nq]; omega)))))
 refine Ok.ve (zck hC hR (k := j) (by omega) hlen (hv.fm f0) hc) ?_
 rintro r H1 ⟨rfl, f1⟩
 have es3 : ∀ x y a b : AV, setL [a, b] 0 [x, y] = [x, y] := fun _ _ _ _ => rfl
 simp (disch := first | omega | (simp only [np, nq]; first | done | omega)) only [go_sem, reduceAdd, reduceLeDiff, hc, es3, List.length_cons, List.length_nil]
 exact Ok.ret ⟨rfl, (f0.trans f1).trans (((Fm.refl _ _).push _).put_new _ _ (Nat.le_refl _))⟩
theorem zes (hC : qb1 C) (hR : qcy LA LO C) {k : Nat} (hk : 11 ≤ k) {N : Int} {al : List AE} (hlen : al.length < 1000000) {v : AV} {H : Hp} (hv : IsA H v al) (hc : ¬ chk N al = 0) :
  Ok (C k (.f qte) [.agg [.int .i64 N, v]] H) fun r H' => r = .tup [.nilsl, .int .i64 (.ofNat (chk N al))] ∧ Fm No H H' := by
 obtain ⟨j, rfl⟩ : ∃ j, k = j + 1 := ⟨k - 1, by omega⟩
 rw [(hC j).cOrd]
 unfold cOrd q5c
 simp (disch := first | omega | (simp only [np, nq]; first | done | omega)) only [go_sem, reduceAdd, reduceLeDiff]
 have f0 : Fm No H (qau H (qac 0 [.int .i64 N, v])) := by (repeat (first | exact Fm.refl _ _ | assumption | refine Fm.push ?_ _ | refine Fm.up2 ?_ (by (first | omega | (simp only [np, nq]; omega))) | refine Fm.put_new ?_ _ _ (by (first | omega | (simp only [np, nq]; omega)))))
 refine Ok.ve (zck hC hR (k := j) (by omega) hlen (hv.fm f0) hc) ?_
 rintro r H1 ⟨rfl, f1⟩
 have es3 : ∀ x y a b : AV, setL [a, b] 0 [x, y] = [x, y] := fun _ _ _ _ => rfl
 simp (disch := first | omega | (simp only [np, nq]; first | done | omega)) only [go_sem, reduceAdd, reduceLeDiff, hc, es3, List.length_cons, List.length_nil]
 exact Ok.ret ⟨rfl, (f0.trans f1).trans (((Fm.refl _ _).push _).put_new _ _ (Nat.le_refl _))⟩
end Go.Di
end
section
/-
 The law CompsErrors.
-/
namespace Go.Di
open Go.Ev Go.Di.T Go.Sort
variable {C : Nat → Ev.Call} {LA LO : LP}
theorem quj (hC : qb1 C) (hO : qdj C) (hS : qby C) (hR : qcy LA LO C) {k : Nat} (hk : 1500 ≤ k) (hlive : ∀ k H, 1 ≤ k → C k (.f qca) [] H = .ok (.bool true) H) {call : Ev.Call} (hcall : call = C k) {N z : Int} {v : AV} {al : List AE} {H : Hp} (hv : IsA H v al) :
  Ok (lwE call (.agg [.int .i64 N, v]) (.int .i64 z) H) fun r _ => r = .bool true := by
 subst hcall
 unfold lwE zgm
 have bx : qpw v = true := hv.flat
 have e0 := hv.len
 have f0 : Fm No H (qau H (qac 0 [.int .i64 N, v])) := by (repeat (first | exact Fm.refl _ _ | assumption | refine Fm.push ?_ _ | refine Fm.up2 ?_ (by (first | omega | (simp only [np, nq]; omega))) | refine Fm.put_new ?_ _ _ (by (first | omega | (simp only [np, nq]; omega)))))
 by_cases h60 : 60 < al.length
 ·have hlv := hlive k (qau H (qac 0 [.int .i64 N, v])) (by omega)
  try simp (disch := omega) only [go_sem, reduceAdd, reduceLeDiff, e0, h60, hlv]
  (repeat ((first | (refine qbd ?_; unfold qbs) | (refine qbc ?_; unfold qbr) | (refine qbb ?_; unfold qbq) | (refine qba ?_; unfold qbp) | (refine qa9 ?_; unfold qbo) | (refine qa8 ?_; unfold qbn) | (refine qa7 ?_; unfold qbm) | (refine qa6 ?_; unfold qbl) | (refine qa5 ?_; unfold qbk) | (refine qa4 ?_; unfold qbj) | (refine qax ?_; unfold qa0) | (refine qaw ?_; unfold qaz)); try simp (disch := omega) only [go_sem, reduceAdd, reduceLeDiff, e0, h60, hlv]))
  exact Ok.ret rfl
 ·try simp (disch := omega) only [go_sem, reduceAdd, reduceLeDiff, e0, h60]
  (repeat ((first | (refine qbd ?_; unfold qbs) | (refine qbc ?_; unfold qbr) | (refine qbb ?_; unfold qbq) | (refine qba ?_; unfold qbp) | (refine qa9 ?_; unfold qbo) | (refine qa8 ?_; unfold qbn) | (refine qa7 ?_; unfold qbm) | (refine qa6 ?_; unfold qbl) | (refine qa5 ?_; unfold qbk) | (refine qa4 ?_; unfold qbj) | (refine qax ?_; unfold qa0) | (refine qaw ?_; unfold qaz)); try simp (disch := omega) only [go_sem, reduceAdd, reduceLeDiff, e0, h60]))
  try simp (disch := omega) only [go_sem, reduceAdd, reduceLeDiff]
  (repeat ((first | (refine qbd ?_; unfold qbs) | (refine qbc ?_; unfold qbr) | (refine qbb ?_; unfold qbq) | (refine qba ?_; unfold qbp) | (refine qa9 ?_; unfold qbo) | (refine qa8 ?_; unfold qbn) | (refine qa7 ?_; unfold qbm) | (refine qa6 ?_; unfold qbl) | (refine qa5 ?_; unfold qbk) | (refine qa4 ?_; unfold qbj) | (refine qax ?_; unfold qa0) | (refine qaw ?_; unfold qaz)); try simp (disch := omega) only [go_sem, reduceAdd, reduceLeDiff]))
  refine Ok.ve (q0x hC (k := k) (by omega) (by omega) (hv.fm f0)) ?_
  rintro r H1 ⟨rfl, f1⟩
  have g1 : H1.get H.nx = qac 0 [.int .i64 N, v] := (f1.keep (by (first | omega | (simp only [np, nq]; omega)))).trans (qaq _ _)
  have n1 : H.nx + 1 ≤ H1.nx := f1.nx
  have f01 := f0.trans f1
  have es3 : ∀ x y a b : AV, setL [a, b] 0 [x, y] = [x, y] := fun _ _ _ _ => rfl
  by_cases hc : chk N al = 0
  ·by_cases h40 : Int.ofNat 40 < N
   ·have hlv := hlive k H1 (by omega)
    try simp (disch := omega) only [go_sem, reduceAdd, reduceLeDiff, hc, g1, h40, hlv]
    (repeat ((first | (refine qbd ?_; unfold qbs) | (refine qbc ?_; unfold qbr) | (refine qbb ?_; unfold qbq) | (refine qba ?_; unfold qbp) | (refine qa9 ?_; unfold qbo) | (refine qa8 ?_; unfold qbn) | (refine qa7 ?_; unfold qbm) | (refine qa6 ?_; unfold qbl) | (refine qa5 ?_; unfold qbk) | (refine qa4 ?_; unfold qbj) | (refine qax ?_; unfold qa0) | (refine qaw ?_; unfold qaz)); try simp (disch := omega) only [go_sem, reduceAdd, reduceLeDiff, hc, g1, h40, hlv]))
    exact Ok.ret rfl
   ·try simp (disch := omega) only [go_sem, reduceAdd, reduceLeDiff, hc, g1, h40]
    (repeat ((first | (refine qbd ?_; unfold qbs) | (refine qbc ?_; unfold qbr) | (refine qbb ?_; unfold qbq) | (refine qba ?_; unfold qbp) | (refine qa9 ?_; unfold qbo) | (refine qa8 ?_; unfold qbn) | (refine qa7 ?_; unfold qbm) | (refine qa6 ?_; unfold qbl) | (refine qa5 ?_; unfold qbk) | (refine qa4 ?_; unfold qbj) | (refine qax ?_; unfold qa0) | (refine qaw ?_; unfold qaz)); try simp (disch := omega) only [go_sem, reduceAdd, reduceLeDiff, hc, g1, h40]))
    obtain ⟨n, rfl, hn, hE, hcell⟩ := zjt hc
    have hlen : (al.map AE.toE).length ≤ 60 := by rw [List.length_map]; omega
    have hI := hv.toE hcell
    generalize al.map AE.toE = es at *
    try simp (disch := omega) only [go_sem, reduceAdd, reduceLeDiff, g1]
    (repeat ((first | (refine qbd ?_; unfold qbs) | (refine qbc ?_; unfold qbr) | (refine qbb ?_; unfold qbq) | (refine qba ?_; unfold qbp) | (refine qa9 ?_; unfold qbo) | (refine qa8 ?_; unfold qbn) | (refine qa7 ?_; unfold qbm) | (refine qa6 ?_; unfold qbl) | (refine qa5 ?_; unfold qbk) | (refine qa4 ?_; unfold qbj) | (refine qax ?_; unfold qa0) | (refine qaw ?_; unfold qaz)); try simp (disch := omega) only [go_sem, reduceAdd, reduceLeDiff, g1]))
    refine Ok.ve (zcj hC hO hS hR (k := k) (by omega) hE hn (by omega) (hI.fm f01)) ?_
    rintro r H2 ⟨lv, iv, os, ins2, out, ins, res, rfl, hOrd, hCR, f2⟩
    have hF := hOrd.ord hE.rng
    have n2 := f2.nx
    have g2 : H2.get H.nx = qac 0 [.int .i64 (.ofNat n), v] := (f2.keep (by omega)).trans g1
    have fa : Fm No H2 ((qau H2 (qac 0 [.nilsl, .nilsl])).put H2.nx (qac 0 [lv, iv])) := by (repeat (first | exact Fm.refl _ _ | assumption | refine Fm.push ?_ _ | refine Fm.up2 ?_ (by (first | omega | (simp only [np, nq]; omega))) | refine Fm.put_new ?_ _ _ (by (first | omega | (simp only [np, nq]; omega)))))
    try simp (disch := omega) only [go_sem, reduceAdd, reduceLeDiff, g2, es3, List.length_cons, List.length_nil]
    (repeat ((first | (refine qbd ?_; unfold qbs) | (refine qbc ?_; unfold qbr) | (refine qbb ?_; unfold qbq) | (refine qba ?_; unfold qbp) | (refine qa9 ?_; unfold qbo) | (refine qa8 ?_; unfold qbn) | (refine qa7 ?_; unfold qbm) | (refine qa6 ?_; unfold qbl) | (refine qa5 ?_; unfold qbk) | (refine qa4 ?_; unfold qbj) | (refine qax ?_; unfold qa0) | (refine qaw ?_; unfold qaz)); try simp (disch := omega) only [go_sem, reduceAdd, reduceLeDiff, g2, es3, List.length_cons, List.length_nil]))
    generalize hH2 : (qau H2 (qac 0 [AV.nilsl, AV.nilsl])).put H2.nx (qac 0 [lv, iv]) = H2' at *
    have c2 : H2'.get H2.nx = qac 0 [lv, iv] := by rw [← hH2, qah]
    have m2 : H2'.nx = H2.nx + 1 := by rw [← hH2]; rfl
    have f02 := (f01.trans f2).trans fa
    refine Ok.ve (q3m hC hO hS hR (k := k) (by omega) hE hn (by omega) (hI.fm f02)) ?_
    rintro r H3 ⟨wd, res3, ins3, rfl, hF3, _, hwd, _, f3⟩
    have n3 := f3.nx
    have g3 : H3.get H.nx = qac 0 [.int .i64 (.ofNat n), v] := ((fa.trans f3).keep (by omega)).trans g2
    have c3 : H3.get H2.nx = qac 0 [lv, iv] := (f3.keep (by omega)).trans c2
    have fb : Fm No H3 ((qau H3 (qac 0 [.int .i64 (.ofNat 0), .nilsl])).put H3.nx (qac 0 [.int .i64 (.ofNat res3.length), wd])) := by (repeat (first | exact Fm.refl _ _ | assumption | refine Fm.push ?_ _ | refine Fm.up2 ?_ (by (first | omega | (simp only [np, nq]; omega))) | refine Fm.put_new ?_ _ _ (by (first | omega | (simp only [np, nq]; omega)))))
    try simp (disch := omega) only [go_sem, reduceAdd, reduceLeDiff, g3, es3, List.length_cons, List.length_nil]
    (repeat ((first | (refine qbd ?_; unfold qbs) | (refine qbc ?_; unfold qbr) | (refine qbb ?_; unfold qbq) | (refine qba ?_; unfold qbp) | (refine qa9 ?_; unfold qbo) | (refine qa8 ?_; unfold qbn) | (refine qa7 ?_; unfold qbm) | (refine qa6 ?_; unfold qbl) | (refine qa5 ?_; unfold qbk) | (refine qa4 ?_; unfold qbj) | (refine qax ?_; unfold qa0) | (refine qaw ?_; unfold qaz)); try simp (disch := omega) only [go_sem, reduceAdd, reduceLeDiff, g3, es3, List.length_cons, List.length_nil]))
    generalize hH3 : (qau H3 (qac 0 [.int .i64 (.ofNat 0), .nilsl])).put H3.nx (qac 0 [.int .i64 (.ofNat res3.length), wd]) = H3' at *
    have m3 : H3'.nx = H3.nx + 1 := by rw [← hH3]; rfl
    have f03 := (f02.trans f3).trans fb
    refine Ok.ve (zcg hC hO hS hR (k := k) (by omega) hE hn (by omega) (hI.fm f03) z) ?_
    rintro r H4 ⟨res4, hF4, f4, hq⟩
    have hr4 := hF4.uniq hF
    subst hr4
    obtain ⟨bb, ff, hr9, hcase⟩ : ∃ (bb : Bool) (ff : Nat), r = .tup [.bool bb, .int .i64 (.ofNat ff)] ∧ ((z < Int.ofNat 0 ∨ Int.ofNat res4.length ≤ z) ∧ ff = 4 ∨ ∃ i : Nat, z = Int.ofNat i ∧ i < res4.length ∧ ff = 0) := by
     rcases hq with ⟨h1, h2⟩ | ⟨i, o, h1, h2, h3⟩
     ·exact ⟨_, _, h2, Or.inl ⟨h1, rfl⟩⟩
     ·exact ⟨_, _, h3, Or.inr ⟨i, h1, (List.getElem?_eq_some_iff.1 h2).1, rfl⟩⟩
    subst hr9
    clear hq
    have n4 := f4.nx
    have g4 : H4.get H.nx = qac 0 [.int .i64 (.ofNat n), v] := ((fb.trans f4).keep (by omega)).trans g3
    have c4 : H4.get H2.nx = qac 0 [lv, iv] := ((fb.trans f4).keep (by omega)).trans c3
    have f04 := f03.trans f4
    try simp (disch := omega) only [go_sem, reduceAdd, reduceLeDiff, g4]
    (repeat ((first | (refine qbd ?_; unfold qbs) | (refine qbc ?_; unfold qbr) | (refine qbb ?_; unfold qbq) | (refine qba ?_; unfold qbp) | (refine qa9 ?_; unfold qbo) | (refine qa8 ?_; unfold qbn) | (refine qa7 ?_; unfold qbm) | (refine qa6 ?_; unfold qbl) | (refine qa5 ?_; unfold qbk) | (refine qa4 ?_; unfold qbj) | (refine qax ?_; unfold qa0) | (refine qaw ?_; unfold qaz)); try simp (disch := omega) only [go_sem, reduceAdd, reduceLeDiff, g4]))
    refine Ok.ve (zeu hC hO hS hR (k := k) (by omega) hE hn (by omega) (hI.fm f04)) ?_
    rintro r H5 ⟨x5, res5, ins5, R5, rfl, _, _, _, _, _, _, _, f5⟩
    have n5 := f5.nx
    have g5 : H5.get H.nx = qac 0 [.int .i64 (.ofNat n), v] := (f5.keep (by omega)).trans g4
    have c5 : H5.get H2.nx = qac 0 [lv, iv] := (f5.keep (by omega)).trans c4
    try simp (disch := omega) only [go_sem, reduceAdd, reduceLeDiff, g5]
    (repeat ((first | (refine qbd ?_; unfold qbs) | (refine qbc ?_; unfold qbr) | (refine qbb ?_; unfold qbq) | (refine qba ?_; unfold qbp) | (refine qa9 ?_; unfold qbo) | (refine qa8 ?_; unfold qbn) | (refine qa7 ?_; unfold qbm) | (refine qa6 ?_; unfold qbl) | (refine qa5 ?_; unfold qbk) | (refine qa4 ?_; unfold qbj) | (refine qax ?_; unfold qa0) | (refine qaw ?_; unfold qaz)); try simp (disch := omega) only [go_sem, reduceAdd, reduceLeDiff, g5]))
    refine Ok.ve (zer hC hO hS hR (k := k) (by omega) hE hn (by omega) (hI.fm (f04.trans f5))) ?_
    rintro r H6 ⟨wo, res6, rfl, hF6, z6, b1, b2, f6⟩
    have n6 := f6.nx
    have g6 : H6.get H.nx = qac 0 [.int .i64 (.ofNat n), v] := (f6.keep (by omega)).trans g5
    have c6 : H6.get H2.nx = qac 0 [lv, iv] := (f6.keep (by omega)).trans c5
    try simp (disch := omega) only [go_sem, reduceAdd, reduceLeDiff]
    (repeat ((first | (refine qbd ?_; unfold qbs) | (refine qbc ?_; unfold qbr) | (refine qbb ?_; unfold qbq) | (refine qba ?_; unfold qbp) | (refine qa9 ?_; unfold qbo) | (refine qa8 ?_; unfold qbn) | (refine qa7 ?_; unfold qbm) | (refine qa6 ?_; unfold qbl) | (refine qa5 ?_; unfold qbk) | (refine qa4 ?_; unfold qbj) | (refine qax ?_; unfold qa0) | (refine qaw ?_; unfold qaz)); try simp (disch := omega) only [go_sem, reduceAdd, reduceLeDiff]))
    try simp (disch := omega) only [go_sem, reduceAdd, reduceLeDiff]
    (repeat ((first | (refine qbd ?_; unfold qbs) | (refine qbc ?_; unfold qbr) | (refine qbb ?_; unfold qbq) | (refine qba ?_; unfold qbp) | (refine qa9 ?_; unfold qbo) | (refine qa8 ?_; unfold qbn) | (refine qa7 ?_; unfold qbm) | (refine qa6 ?_; unfold qbl) | (refine qa5 ?_; unfold qbk) | (refine qa4 ?_; unfold qbj) | (refine qax ?_; unfold qa0) | (refine qaw ?_; unfold qaz)); try simp (disch := omega) only [go_sem, reduceAdd, reduceLeDiff]))
    have e1 := b1.lenV
    rw [z6] at e1
    have e2 := hCR.gl.lenV
    rw [hCR.len] at e2
    have hlv := hlive k H6 (by omega)
    have qb : ∀ b : Bool, qpz false (qkf (.bool b) (.bool b)) = .val (.bool true) := fun b => by cases b <;> rfl
    rcases hcase with ⟨h1, rfl⟩ | ⟨i, rfl, h2, rfl⟩
    ·by_cases hz : z < Int.ofNat 0
     ·have hz' : ¬ (Int.ofNat 0 ≤ z) := by simp only [Int.ofNat_eq_natCast] at hz ⊢; omega
      try simp (disch := omega) only [go_sem, reduceAdd, reduceLeDiff, e1, g6, c6, e2, hz', qb, hlv]
      (repeat ((first | (refine qbd ?_; unfold qbs) | (refine qbc ?_; unfold qbr) | (refine qbb ?_; unfold qbq) | (refine qba ?_; unfold qbp) | (refine qa9 ?_; unfold qbo) | (refine qa8 ?_; unfold qbn) | (refine qa7 ?_; unfold qbm) | (refine qa6 ?_; unfold qbl) | (refine qa5 ?_; unfold qbk) | (refine qa4 ?_; unfold qbj) | (refine qax ?_; unfold qa0) | (refine qaw ?_; unfold qaz)); try simp (disch := omega) only [go_sem, reduceAdd, reduceLeDiff, e1, g6, c6, e2, hz', qb, hlv]))
      exact Ok.ret rfl
     ·obtain ⟨i, rfl⟩ : ∃ i : Nat, z = Int.ofNat i := ⟨z.toNat, by simp only [Int.ofNat_eq_natCast] at hz ⊢; omega⟩
      have hi : ¬ i < res4.length := by
       rcases h1 with h1 | h1
       ·exact absurd h1 hz
       ·simp only [Int.ofNat_eq_natCast] at h1; omega
      try simp (disch := omega) only [go_sem, reduceAdd, reduceLeDiff, e1, g6, c6, e2, hi, qb, hlv, Nat.zero_le]
      (repeat ((first | (refine qbd ?_; unfold qbs) | (refine qbc ?_; unfold qbr) | (refine qbb ?_; unfold qbq) | (refine qba ?_; unfold qbp) | (refine qa9 ?_; unfold qbo) | (refine qa8 ?_; unfold qbn) | (refine qa7 ?_; unfold qbm) | (refine qa6 ?_; unfold qbl) | (refine qa5 ?_; unfold qbk) | (refine qa4 ?_; unfold qbj) | (refine qax ?_; unfold qa0) | (refine qaw ?_; unfold qaz)); try simp (disch := omega) only [go_sem, reduceAdd, reduceLeDiff, e1, g6, c6, e2, hi, qb, hlv, Nat.zero_le]))
      exact Ok.ret rfl
    ·try simp (disch := omega) only [go_sem, reduceAdd, reduceLeDiff, e1, g6, c6, e2, h2, qb, hlv, Nat.zero_le]
     (repeat ((first | (refine qbd ?_; unfold qbs) | (refine qbc ?_; unfold qbr) | (refine qbb ?_; unfold qbq) | (refine qba ?_; unfold qbp) | (refine qa9 ?_; unfold qbo) | (refine qa8 ?_; unfold qbn) | (refine qa7 ?_; unfold qbm) | (refine qa6 ?_; unfold qbl) | (refine qa5 ?_; unfold qbk) | (refine qa4 ?_; unfold qbj) | (refine qax ?_; unfold qa0) | (refine qaw ?_; unfold qaz)); try simp (disch := omega) only [go_sem, reduceAdd, reduceLeDiff, e1, g6, c6, e2, h2, qb, hlv, Nat.zero_le]))
     exact Ok.ret rfl
  ·try simp (disch := omega) only [go_sem, reduceAdd, reduceLeDiff, hc, g1]
   (repeat ((first | (refine qbd ?_; unfold qbs) | (refine qbc ?_; unfold qbr) | (refine qbb ?_; unfold qbq) | (refine qba ?_; unfold qbp) | (refine qa9 ?_; unfold qbo) | (refine qa8 ?_; unfold qbn) | (refine qa7 ?_; unfold qbm) | (refine qa6 ?_; unfold qbl) | (refine qa5 ?_; unfold qbk) | (refine qa4 ?_; unfold qbj) | (refine qax ?_; unfold qa0) | (refine qaw ?_; unfold qaz)); try simp (disch := omega) only [go_sem, reduceAdd, reduceLeDiff, hc, g1]))
   try simp (disch := omega) only [go_sem, reduceAdd, reduceLeDiff, g1]
   (repeat ((first | (refine qbd ?_; unfold qbs) | (refine qbc ?_; unfold qbr) | (refine qbb ?_; unfold qbq) | (refine qba ?_; unfold qbp) | (refine qa9 ?_; unfold qbo) | (refine qa8 ?_; unfold qbn) | (refine qa7 ?_; unfold qbm) | (refine qa6 ?_; unfold qbl) | (refine qa5 ?_; unfold qbk) | (refine qa4 ?_; unfold qbj) | (refine qax ?_; unfold qa0) | (refine qaw ?_; unfold qaz)); try simp (disch := omega) only [go_sem, reduceAdd, reduceLeDiff, g1]))
   refine Ok.ve (zck hC hR (k := k) (by omega) (by omega) (hv.fm f01) hc) ?_
   rintro r H2 ⟨rfl, f2⟩
   have n2 := f2.nx
   have g2 : H2.get H.nx = qac 0 [.int .i64 N, v] := (f2.keep (by omega)).trans g1
   have fa : Fm No H2 ((qau H2 (qac 0 [.nilsl, .nilsl])).put H2.nx (qac 0 [.nilsl, .nilsl])) := by (repeat (first | exact Fm.refl _ _ | assumption | refine Fm.push ?_ _ | refine Fm.up2 ?_ (by (first | omega | (simp only [np, nq]; omega))) | refine Fm.put_new ?_ _ _ (by (first | omega | (simp only [np, nq]; omega)))))
   try simp (disch := omega) only [go_sem, reduceAdd, reduceLeDiff, g2, es3, List.length_cons, List.length_nil]
   (repeat ((first | (refine qbd ?_; unfold qbs) | (refine qbc ?_; unfold qbr) | (refine qbb ?_; unfold qbq) | (refine qba ?_; unfold qbp) | (refine qa9 ?_; unfold qbo) | (refine qa8 ?_; unfold qbn) | (refine qa7 ?_; unfold qbm) | (refine qa6 ?_; unfold qbl) | (refine qa5 ?_; unfold qbk) | (refine qa4 ?_; unfold qbj) | (refine qax ?_; unfold qa0) | (refine qaw ?_; unfold qaz)); try simp (disch := omega) only [go_sem, reduceAdd, reduceLeDiff, g2, es3, List.length_cons, List.length_nil]))
   generalize hH2 : (qau H2 (qac 0 [AV.nilsl, AV.nilsl])).put H2.nx (qac 0 [.nilsl, .nilsl]) = H2' at *
   have c2 : H2'.get H2.nx = qac 0 [.nilsl, .nilsl] := by rw [← hH2, qah]
   have m2 : H2'.nx = H2.nx + 1 := by rw [← hH2]; rfl
   have f02 := (f01.trans f2).trans fa
   refine Ok.ve (q3n hC hR (k := k) (by omega) (by omega) (hv.fm f02) hc) ?_
   rintro r H3 ⟨rfl, f3⟩
   have n3 := f3.nx
   have g3 : H3.get H.nx = qac 0 [.int .i64 N, v] := ((fa.trans f3).keep (by omega)).trans g2
   have c3 : H3.get H2.nx = qac 0 [.nilsl, .nilsl] := (f3.keep (by omega)).trans c2
   have fb : Fm No H3 ((qau H3 (qac 0 [.int .i64 (.ofNat 0), .nilsl])).put H3.nx (qac 0 [.int .i64 (.ofNat 0), .nilsl])) := by (repeat (first | exact Fm.refl _ _ | assumption | refine Fm.push ?_ _ | refine Fm.up2 ?_ (by (first | omega | (simp only [np, nq]; omega))) | refine Fm.put_new ?_ _ _ (by (first | omega | (simp only [np, nq]; omega)))))
   try simp (disch := omega) only [go_sem, reduceAdd, reduceLeDiff, g3, es3, List.length_cons, List.length_nil]
   (repeat ((first | (refine qbd ?_; unfold qbs) | (refine qbc ?_; unfold qbr) | (refine qbb ?_; unfold qbq) | (refine qba ?_; unfold qbp) | (refine qa9 ?_; unfold qbo) | (refine qa8 ?_; unfold qbn) | (refine qa7 ?_; unfold qbm) | (refine qa6 ?_; unfold qbl) | (refine qa5 ?_; unfold qbk) | (refine qa4 ?_; unfold qbj) | (refine qax ?_; unfold qa0) | (refine qaw ?_; unfold qaz)); try simp (disch := omega) only [go_sem, reduceAdd, reduceLeDiff, g3, es3, List.length_cons, List.length_nil]))
   generalize hH3 : (qau H3 (qac 0 [.int .i64 (.ofNat 0), .nilsl])).put H3.nx (qac 0 [.int .i64 (.ofNat 0), .nilsl]) = H3' at *
   have d3 : H3'.get H3.nx = qac 0 [.int .i64 (.ofNat 0), .nilsl] := by rw [← hH3, qah]
   have m3 : H3'.nx = H3.nx + 1 := by rw [← hH3]; rfl
   have f03 := (f02.trans f3).trans fb
   refine Ok.ve (zch hC hR (k := k) (by omega) (by omega) (hv.fm f03) hc z) ?_
   rintro r H4 ⟨rfl, f4⟩
   have n4 := f4.nx
   have g4 : H4.get H.nx = qac 0 [.int .i64 N, v] := ((fb.trans f4).keep (by omega)).trans g3
   have c4 : H4.get H2.nx = qac 0 [.nilsl, .nilsl] := ((fb.trans f4).keep (by omega)).trans c3
   have d4 : H4.get H3.nx = qac 0 [.int .i64 (.ofNat 0), .nilsl] := (f4.keep (by omega)).trans d3
   have f04 := f03.trans f4
   try simp (disch := omega) only [go_sem, reduceAdd, reduceLeDiff, g4]
   (repeat ((first | (refine qbd ?_; unfold qbs) | (refine qbc ?_; unfold qbr) | (refine qbb ?_; unfold qbq) | (refine qba ?_; unfold qbp) | (refine qa9 ?_; unfold qbo) | (refine qa8 ?_; unfold qbn) | (refine qa7 ?_; unfold qbm) | (refine qa6 ?_; unfold qbl) | (refine qa5 ?_; unfold qbk) | (refine qa4 ?_; unfold qbj) | (refine qax ?_; unfold qa0) | (refine qaw ?_; unfold qaz)); try simp (disch := omega) only [go_sem, reduceAdd, reduceLeDiff, g4]))
   refine Ok.ve (zev hC hR (k := k) (by omega) (by omega) (hv.fm f04) hc) ?_
   rintro r H5 ⟨rfl, f5⟩
   have n5 := f5.nx
   have g5 : H5.get H.nx = qac 0 [.int .i64 N, v] := (f5.keep (by omega)).trans g4
   try simp (disch := omega) only [go_sem, reduceAdd, reduceLeDiff, g5]
   (repeat ((first | (refine qbd ?_; unfold qbs) | (refine qbc ?_; unfold qbr) | (refine qbb ?_; unfold qbq) | (refine qba ?_; unfold qbp) | (refine qa9 ?_; unfold qbo) | (refine qa8 ?_; unfold qbn) | (refine qa7 ?_; unfold qbm) | (refine qa6 ?_; unfold qbl) | (refine qa5 ?_; unfold qbk) | (refine qa4 ?_; unfold qbj) | (refine qax ?_; unfold qa0) | (refine qaw ?_; unfold qaz)); try simp (disch := omega) only [go_sem, reduceAdd, reduceLeDiff, g5]))
   refine Ok.ve (zes hC hR (k := k) (by omega) (by omega) (hv.fm (f04.trans f5)) hc) ?_
   rintro r H6 ⟨rfl, f6⟩
   have n6 := f6.nx
   have c6 : H6.get H2.nx = qac 0 [.nilsl, .nilsl] := ((f5.trans f6).keep (by omega)).trans c4
   have d6 : H6.get H3.nx = qac 0 [.int .i64 (.ofNat 0), .nilsl] := ((f5.trans f6).keep (by omega)).trans d4
   have hlv := hlive k H6 (by omega)
   try simp (disch := omega) only [go_sem, reduceAdd, reduceLeDiff]
   (repeat ((first | (refine qbd ?_; unfold qbs) | (refine qbc ?_; unfold qbr) | (refine qbb ?_; unfold qbq) | (refine qba ?_; unfold qbp) | (refine qa9 ?_; unfold qbo) | (refine qa8 ?_; unfold qbn) | (refine qa7 ?_; unfold qbm) | (refine qa6 ?_; unfold qbl) | (refine qa5 ?_; unfold qbk) | (refine qa4 ?_; unfold qbj) | (refine qax ?_; unfold qa0) | (refine qaw ?_; unfold qaz)); try simp (disch := omega) only [go_sem, reduceAdd, reduceLeDiff]))
   try simp (disch := omega) only [go_sem, reduceAdd, reduceLeDiff, hc, c6, d6, hlv]
   (repeat ((first | (refine qbd ?_; unfold qbs) | (refine qbc ?_; unfold qbr) | (refine qbb ?_; unfold qbq) | (refine qba ?_; unfold qbp) | (refine qa9 ?_; unfold qbo) | (refine qa8 ?_; unfold qbn) | (refine qa7 ?_; unfold qbm) | (refine qa6 ?_; unfold qbl) | (refine qa5 ?_; unfold qbk) | (refine qa4 ?_; unfold qbj) | (refine qax ?_; unfold qa0) | (refine qaw ?_; unfold qaz)); try simp (disch := omega) only [go_sem, reduceAdd, reduceLeDiff, hc, c6, d6, hlv]))
   exact Ok.ret rfl
end Go.Di
end
