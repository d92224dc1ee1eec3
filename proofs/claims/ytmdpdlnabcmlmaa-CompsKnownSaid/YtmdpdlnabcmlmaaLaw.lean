/-
 For countersignlaw17.CompsKnown: the law. No conditions beyond those that each theorem states.
-/
import Derived.Test.YtmdpdlnabcmlmaaCompE
set_option linter.unusedSimpArgs false
set_option linter.unusedVariables false
open Nat (reduceAdd reduceMul reduceSub reduceLeDiff reduceEqDiff reduceShiftRight reduceAnd)
section
/-
 Numbers of nodes are those of their components.
-/
namespace Go.Di
open Go.Ev Go.Di.T Go.Sort
theorem qzn {n : Nat} {adj : Nat → List Nat} : ∀ {R pre : List (List Nat)} {c : List Nat}, OrdF n adj pre R → c ∈ R → ∃ i, zfx n adj i c
 | [], _, _, _, h => by cases h
 | d :: R, pre, c, ⟨⟨i, _, hc⟩, h2⟩, h => by
  rcases List.mem_cons.1 h with rfl | h
  ·exact ⟨i, hc⟩
  ·exact qzn h2 h
theorem q9y {n : Nat} {adj : Nat → List Nat} {res : List (List Nat)} (h : OrdF n adj [] res) {o : List Nat} (ho : o ∈ res) {x y : Nat} (hx : x ∈ o) (hy : y < n) : y ∈ o ↔ Rc adj x y ∧ Rc adj y x := by
 obtain ⟨i, _, hc⟩ := qzn h ho
 obtain ⟨_, h1, h2⟩ := (hc x).1 hx
 rw [hc y]
 exact ⟨fun g => ⟨h2.trans g.2.1, g.2.2.trans h1⟩, fun g => ⟨hy, h1.trans g.1, g.2.trans h2⟩⟩
structure Nm (n : Nat) (res : List (List Nat)) (ins : List Nat) : Prop where
 is : ∀ (j : Nat) (o : List Nat) (x : Nat), res[j]? = some o → x ∈ o → ins.getD x 0 = j
 all : ∀ x, x < n → ∃ (j : Nat) (o : List Nat), res[j]? = some o ∧ x ∈ o
theorem Nm.lt {n : Nat} {res : List (List Nat)} {ins : List Nat} (h : Nm n res ins) {x : Nat} (hx : x < n) : ins.getD x 0 < res.length := by
 obtain ⟨j, o, h1, h2⟩ := h.all x hx
 rw [h.is j o x h1 h2]
 exact (List.getElem?_eq_some_iff.1 h1).1
theorem Nm.eq {n : Nat} {adj : Nat → List Nat} {res : List (List Nat)} {ins : List Nat} (h : Nm n res ins) (hF : OrdF n adj [] res) {x y : Nat} (hx : x < n) (hy : y < n) : ins.getD x 0 = ins.getD y 0 ↔ Rc adj x y ∧ Rc adj y x := by
 obtain ⟨j, o, h1, h2⟩ := h.all x hx
 obtain ⟨j', o', h3, h4⟩ := h.all y hy
 rw [h.is j o x h1 h2, h.is j' o' y h3 h4, ← q9y hF (List.mem_of_getElem? h1) h2 hy]
 constructor
 ·rintro rfl
  rw [h1] at h3
  cases h3
  exact h4
 ·intro hyo
  rw [← h.is j o y h1 hyo, h.is j' o' y h3 h4]
end Go.Di
end
section
/-
 Contracts: doubles taken out of an ascending list.
-/
namespace Go.Di
open Go.Ev Go.Di.T Go.Sort
variable {C : Nat → Ev.Call}
theorem rdP {H : Hp} {b q : Nat} {P : List AV} {M : List Nat} (hg : H.get b = qae q (P ++ nats M)) {i : Nat} (h : i < M.length) : qbl (H.get b) (P.length + i) = .val (.int .i64 (.ofNat M[i])) := by
 rw [hg, qcl, List.getElem?_append_right (by omega), Nat.add_sub_cancel_left]
 unfold nats
 rw [List.getElem?_map, List.getElem?_eq_getElem h]; rfl
theorem setP (P : List AV) (M : List Nat) {i : Nat} (x : Nat) (h : i < M.length) : setL (P ++ nats M) (P.length + i) [.int .i64 (.ofNat x)] = P ++ nats (M.set i x) := by
 have hn : (nats M).length = M.length := qbg M
 unfold setL
 rw [List.take_append, List.take_of_length_le (by omega), List.drop_append, List.drop_eq_nil_of_le (by simp; omega)]
 rw [show P.length + i - P.length = i by omega, show P.length + i + [AV.int .i64 (.ofNat x)].length - P.length = i + 1 by simp; omega]
 have : nats (M.set i x) = (nats M).set i (.int .i64 (.ofNat x)) := by unfold nats; rw [List.map_set]
 rw [this, List.set_eq_take_append_cons_drop, if_pos (by omega)]
 simp
theorem zj5 (P : List AV) (M : List Nat) {k n : Nat} (hl : M.length = n) (h : k ≤ n) : setL (P ++ nats M) (P.length + k) (reps [.int .i64 (.ofNat 0)] (n - k)) = P ++ nats (M.take k ++ List.replicate (n - k) 0) := by
 have hn : (nats M).length = n := by rw [qbg, hl]
 have hr : reps [.int .i64 (.ofNat 0)] (n - k) = nats (List.replicate (n - k) 0) := by rw [qfp]; unfold nats; rw [List.map_replicate]
 have hr2 : (nats (List.replicate (n - k) 0)).length = n - k := by rw [qbg, List.length_replicate]
 unfold setL
 rw [hr, hr2, List.take_append, List.take_of_length_le (by omega), List.drop_append, List.drop_eq_nil_of_le (by omega)]
 rw [show P.length + k - P.length = k by omega, List.drop_eq_nil_of_le (by omega)]
 have : nats (M.take k ++ List.replicate (n - k) 0) = (nats M).take k ++ nats (List.replicate (n - k) 0) := by unfold nats; rw [List.map_append, List.map_take]
 rw [this]
 simp
structure Cp (l M : List Nat) (k p : Nat) : Prop where
 len : M.length = l.length
 lt : k < p
 le : p ≤ l.length
 same : M.drop k = l.drop k
 asc : (M.take k).Pairwise (· < ·)
 mem : ∀ x, x ∈ M.take k ↔ x ∈ l.take p
theorem Cp.at {l M : List Nat} {k p i : Nat} (h : Cp l M k p) (hi : k ≤ i) (hil : i < l.length) : M[i]'(by rw [h.len]; exact hil) = l[i] := by
 have h1 : (M.drop k)[i - k]? = (l.drop k)[i - k]? := by rw [h.same]
 rw [List.getElem?_drop, List.getElem?_drop, show k + (i - k) = i by omega, List.getElem?_eq_getElem hil, List.getElem?_eq_getElem (by rw [h.len]; exact hil)] at h1
 exact Option.some.inj h1
theorem qev {l : List Nat} {p : Nat} (h : p < l.length) : l.take (p + 1) = l.take p ++ [l[p]] := List.take_succ_eq_append_getElem h
theorem qpz {l : List Nat} {p x : Nat} (h : x ∈ l.take p) : ∃ i, ∃ (hi : i < l.length), i < p ∧ l[i] = x := by
 obtain ⟨i, hi, e⟩ := List.mem_iff_getElem.1 h
 rw [List.length_take] at hi
 exact ⟨i, by omega, by omega, by rw [← e]; simp⟩
theorem Cp.eq {l M : List Nat} {k p : Nat} (h : Cp l M k p) (hp : p < l.length) (he : l[p] = l[p - 1]'(by omega)) : Cp l M k (p + 1) := by
 refine ⟨h.len, by have := h.lt; omega, hp, h.same, h.asc, fun x => (h.mem x).trans ?_⟩
 rw [qev hp, List.mem_append, List.mem_singleton]
 refine ⟨Or.inl, fun hx => hx.elim id fun hx => ?_⟩
 have h0 := h.lt
 rw [hx, he]
 have : l.take p = l.take (p - 1) ++ [l[p - 1]'(by omega)] := by
  have := qev (l := l) (p := p - 1) (by omega)
  rwa [show p - 1 + 1 = p by omega] at this
 exact this ▸ List.mem_append_right _ (List.mem_singleton.2 rfl)
theorem Cp.ne {l M : List Nat} {k p : Nat} (h : Cp l M k p) (hs : l.Pairwise (· ≤ ·)) (hp : p < l.length) (he : ¬ l[p] = l[p - 1]'(by omega)) : Cp l (M.set k l[p]) (k + 1) (p + 1) := by
 have h0 := h.lt
 have hml := h.len
 have ht : (M.set k l[p]).take (k + 1) = M.take k ++ [l[p]] := by
  rw [qev (l := M.set k l[p]) (p := k) (by rw [List.length_set]; omega), List.getElem_set_self, List.take_set_of_le (Nat.le_refl k)]
 refine ⟨by rw [List.length_set, hml], by omega, hp, ?_, ?_, fun x => ?_⟩
 ·rw [List.drop_set_of_lt (by omega)]
  have := congrArg (List.drop 1) h.same
  rwa [List.drop_drop, List.drop_drop] at this
 ·rw [ht, List.pairwise_append]
  refine ⟨h.asc, List.pairwise_singleton _ _, fun a ha b hb => ?_⟩
  rw [List.mem_singleton] at hb
  subst hb
  obtain ⟨i, hi, hip, rfl⟩ := qpz ((h.mem a).1 ha)
  have hs' := List.pairwise_iff_getElem.1 hs
  have a1 : l[p - 1]'(by omega) ≤ l[p] := hs' (p - 1) p (by omega) hp (by omega)
  have a2 : l[i] ≤ l[p - 1]'(by omega) := by
   rcases Nat.lt_or_ge i (p - 1) with h2 | h2
   ·exact hs' i (p - 1) hi (by omega) h2
   ·have : i = p - 1 := by omega
    subst this; exact Nat.le_refl _
  omega
 ·rw [ht, qev hp, List.mem_append, List.mem_append, h.mem x]
theorem qoq {call : Ev.Call} {b o n q : Nat} {e : Bool} {P : List AV} {l : List Nat} (hs : l.Pairwise (· ≤ ·)) (hP : P.length = o) (hl : l.length = n) (hn : n < 900) {c0 : Nat} (hc0 : c0 < n) {H1 : Hp} {q2 : AV → Hp → R1} {Q : AV → Hp → Prop}
  (hq : ∀ M k H, Cp l M k n → H.get b = qae q (P ++ nats M) → Fm (fun c => c = b) H1 H → Ok (q2 (.int .i64 (.ofNat k)) H) Q) :
  ∀ (f k k2 : Nat) (M : List Nat) (H : Hp), n - (c0 + k2) < f → 1 ≤ k2 → Cp l M k (c0 + k2) → H.get b = qae q (P ++ nats M) → Fm (fun c => c = b) H1 H →
   Ok (qcg call q2 (.sl b o n n e) (.sl b (o + c0) (n - c0) (n - c0) e) f (.int .i64 (.ofNat k)) (.int .i64 (.ofNat k2)) H) Q
 | 0, k, k2, M, H, h, _, _, _, _ => by omega
 | f + 1, k, k2, M, H, h, h1, hC, hg, hF => by
  show Ok (qht call _ _ _ (qcg call _ _ _ f) _ _ H) Q
  unfold qht
  have hlt := hC.lt
  have hle := hC.le
  have hml := hC.len
  by_cases hk : k2 < n - c0
  ·have e1 := rdP hg (i := c0 + k2) (by omega)
   have e2 := rdP hg (i := c0 + (k2 - 1)) (by omega)
   rw [hC.at (by omega) (by omega), hP, ← Nat.add_assoc] at e1
   rw [hC.at (by omega) (by omega), hP, ← Nat.add_assoc] at e2
   simp (disch := omega) only [go_sem, reduceAdd, hk]
   unfold qhs
   have hpe : l[c0 + k2 - 1]'(by omega) = l[c0 + (k2 - 1)]'(by omega) := by congr 1; omega
   by_cases he : l[c0 + k2]'(by omega) = l[c0 + k2 - 1]'(by omega)
   ·rw [he, hpe] at e1
    simp (disch := omega) only [go_sem, reduceAdd, Nat.mul_one, e1, e2]
    unfold qcy
    simp (disch := omega) only [go_sem, reduceAdd]
    exact qoq hs hP hl hn hc0 hq f k (k2 + 1) M H (by omega) (by omega) (hC.eq (by omega) he) hg hF
   ·have he' : ¬ l[c0 + k2]'(by omega) = l[c0 + (k2 - 1)]'(by omega) := by rw [← hpe]; exact he
    have e3 := setP P M (i := k) (l[c0 + k2]'(by omega)) (by omega)
    rw [hP] at e3
    have e4 : ∀ x : AV, qj0 (qae q (P ++ nats M)) (o + k) [x] = some (qae q (setL (P ++ nats M) (o + k) [x])) := fun x => by
     rw [qjh, if_pos]
     rw [List.length_append, qbg]; simp only [List.length_cons, List.length_nil]; omega
    simp (disch := omega) only [go_sem, reduceAdd, Nat.mul_one, e1, e2, he']
    rw [hg] at *
    simp (disch := omega) only [go_sem, reduceAdd, e4, e3]
    unfold qcy
    simp (disch := omega) only [go_sem, reduceAdd]
    exact qoq hs hP hl hn hc0 hq f (k + 1) (k2 + 1) _ _ (by omega) (by omega) (hC.ne hs (by omega) he) (qai _ _ _) (hF.put _ _ fun _ => rfl)
  ·simp (disch := omega) only [go_sem, reduceAdd, hk]
   have : c0 + k2 = n := by omega
   rw [this] at hC
   exact hq M k H hC hg hF
theorem qto {call : Ev.Call} {b o n q : Nat} {e : Bool} {P : List AV} {l : List Nat} (hs : l.Pairwise (· ≤ ·)) (hP : P.length = o) (hl : l.length = n) (hn : n < 900) {H : Hp} (hg : H.get b = qae q (P ++ nats l)) (hb : b < H.nx) (heq : e = true ∨ q = 1) {q2 : Hp → R1} {Q : AV → Hp → Prop}
  (hq : ∀ k R H', k ≤ n → R.length = k → R.Pairwise (· < ·) → (∀ x, x ∈ R ↔ x ∈ l) → Gs 1 H' (.sl b o k n e) k (nats R) → Fm (fun c => c = b) H H' → Q (.sl b o k n e) H') (hq2 : l.Pairwise (· < ·) → Ok (q2 H) Q) :
  ∀ (f k : Nat), n - k < f → 1 ≤ k → k ≤ n → (l.take k).Pairwise (· < ·) →
   Ok (qct call (fun x H => .ok x H) q2 (.sl b o n n e) f (.int .i64 (.ofNat k)) H) Q
 | 0, k, h, _, _, _ => by omega
 | f + 1, k, h, h1, hk, ha => by
  show Ok (qi2 call _ _ _ (qct call _ _ _ f) _ H) Q
  unfold qi2
  by_cases hlt : k < n
  ·have e1 := rdP hg (i := k) (by omega)
   have e2 := rdP hg (i := k - 1) (by omega)
   rw [hP] at e1 e2
   simp (disch := omega) only [go_sem, reduceAdd, hlt]
   unfold qhr
   by_cases he : l[k]'(by omega) = l[k - 1]'(by omega)
   ·rw [he] at e1
    have e3 := qm3 1 b o n n e (a := k) (by omega) (Nat.le_refl _) hlt
    rw [Nat.mul_one] at e3
    simp (disch := omega) only [go_sem, reduceAdd, Nat.mul_one, e1, e2, e3]
    unfold qhu
    rw [qam]
    have hC0 : Cp l l k (k + 1) := by
     refine ⟨rfl, by omega, by omega, rfl, ha, fun x => ?_⟩
     rw [qev (p := k) (by omega), List.mem_append, List.mem_singleton]
     refine ⟨Or.inl, fun hx => hx.elim id fun hx => ?_⟩
     have : l.take k = l.take (k - 1) ++ [l[k - 1]'(by omega)] := by
      have := qev (l := l) (p := k - 1) (by omega)
      rwa [show k - 1 + 1 = k by omega] at this
     rw [hx, he]
     exact this ▸ List.mem_append_right _ (List.mem_singleton.2 rfl)
    refine qoq (H1 := H) hs hP hl hn (c0 := k) hlt (fun M k' H' hC hg' hF => ?_) qak k 1 l H (by rw [qag]; omega) (Nat.le_refl 1) hC0 hg (Fm.refl _ _)
    unfold qb2
    have c1 := hC.lt
    have c2 := hC.len
    have s1 := qm3 1 b o n n e (a := k') (by omega) (Nat.le_refl _) c1
    rw [Nat.mul_one] at s1
    have s2 := qvo 1 b o n n e (k := k') (by omega) (Nat.le_refl _) (by omega)
    have cl := zj5 P M (k := k') (n := n) (by omega) (by omega)
    rw [hP] at cl
    have hlen0 : (reps [.int .i64 (.ofNat 0)] (n - k')).length = n - k' := by rw [qfp, List.length_replicate]
    have s3 : qtr [.int .i64 (.ofNat 0)] H' (.sl b (o + k') (n - k') (n - k') e) = .ok .undef (H'.put b (qae q (P ++ nats (M.take k' ++ List.replicate (n - k') 0)))) := by
     show (bif Nat.beq (n - k') 0 then _ else storeAt H' b (o + k') (reps [.int .i64 (.ofNat 0)] (n - k')) .undef) = _
     rw [beq_eq, decide_eq_false (by omega), cond_false, qm1 _ _ _ _ _ _ _ hg' (by rw [hlen0, List.length_append, qbg]; omega), cl]
    simp (disch := omega) only [go_sem, reduceAdd, s1, s2, s3]
    have ht : (M.take k').length = k' := by rw [List.length_take]; omega
    refine Ok.ret (hq k' (M.take k') _ (by omega) ht hC.asc (fun x => by rw [hC.mem x, ← hl, List.take_length]) ?_ (hF.put _ _ fun _ => rfl))
    refine ⟨by rw [qbg, ht, Nat.mul_one], .inr ⟨b, o, n, e, q, _, rfl, by omega, qai _ _ _, ?_, ?_, heq, Nat.lt_of_lt_of_le hb hF.nx⟩⟩
    ·rw [List.length_append, qbg, List.length_append, ht, List.length_replicate]; omega
    ·rw [List.drop_append_of_le_length (by omega), List.drop_eq_nil_of_le (by omega), List.nil_append, Nat.mul_one]
     unfold nats
     rw [← List.map_take, List.take_append_of_le_length (by omega), List.take_of_length_le (by omega)]
   ·simp (disch := omega) only [go_sem, reduceAdd, Nat.mul_one, e1, e2, he]
    unfold qi1
    simp (disch := omega) only [go_sem, reduceAdd]
    refine qto hs hP hl hn hg hb heq hq hq2 f (k + 1) (by omega) (by omega) (by omega) ?_
    rw [qev (p := k) (by omega), List.pairwise_append]
    refine ⟨ha, List.pairwise_singleton _ _, fun a ha' c hc => ?_⟩
    rw [List.mem_singleton] at hc
    subst hc
    obtain ⟨i, hi, hip, rfl⟩ := qpz ha'
    have hs' := List.pairwise_iff_getElem.1 hs
    have a1 : l[k - 1]'(by omega) ≤ l[k]'(by omega) := hs' (k - 1) k (by omega) (by omega) (by omega)
    have a2 : l[i] ≤ l[k - 1]'(by omega) := by
     rcases Nat.lt_or_ge i (k - 1) with h2 | h2
     ·exact hs' i (k - 1) hi (by omega) h2
     ·have : i = k - 1 := by omega
      subst this; exact Nat.le_refl _
    omega
  ·simp (disch := omega) only [go_sem, reduceAdd, hlt]
   have : k = n := by omega
   subst this
   rw [← hl, List.take_length] at ha
   exact hq2 ha
theorem q71 (hO : qc7 C) {k : Nat} (hk : 1 ≤ k) {n : Nat} {v : AV} {l : List Nat} {H : Hp} (hs : l.Pairwise (· ≤ ·)) (hn : n < 900) (hv : Gl 1 H v n (nats l)) :
  Ok (C k (.f qf0) [v] H) fun r H' => ∃ R : List Nat, R.Pairwise (· < ·) ∧ (∀ x, x ∈ R ↔ x ∈ l) ∧ Gs 1 H' r R.length (nats R) ∧ (∀ b, In r b → In v b) ∧ Fm (In v) H H' := by
 obtain ⟨j, rfl⟩ : ∃ j, k = j + 1 := ⟨k - 1, by omega⟩
 have hln : l.length = n := by have := hv.len; rw [qbg] at this; omega
 rw [(hO j).o_Compact]
 unfold o_Compact qld
 have e0 := hv.lenV
 by_cases h2 : n < 2
 ·simp (disch := omega) only [go_sem, reduceAdd, e0, h2]
  refine Ok.ret ⟨l, ?_, fun x => Iff.rfl, by rw [hln]; exact hv.gs, fun b h => h, Fm.refl _ _⟩
  match l, hln with
  | [], _ => exact List.Pairwise.nil
  | [x], _ => exact List.pairwise_singleton _ _
  | x :: y :: t, h => simp at h; omega
 ·rcases hv.is with ⟨_, h0⟩ | ⟨b, o, e, q, L, rfl, g1, g2, g3, g4, g5⟩
  ·omega
  have hP : (L.take o).length = o := by rw [List.length_take]; omega
  have hg : H.get b = qae q (L.take o ++ nats l) := by rw [g1, ← g3, List.take_append_drop]
  simp (disch := omega) only [go_sem, reduceAdd, e0, h2]
  unfold qhq qi3
  rw [qam]
  have hin : ∀ c, c = b → In (.sl b o n n e) c := fun c hc => by subst hc; exact ⟨_, _, _, _, rfl⟩
  refine qto hs hP hln hn hg g5 g4 (fun k R H' hk hR ha hm hG hF => ?_) (fun ha => ?_) qak 1 (by rw [qag]; omega) (Nat.le_refl 1) (by omega) ?_
  ·refine ⟨R, ha, hm, by rw [hR]; exact hG, fun c hc => ?_, hF.mono fun c _ hc => hin c hc⟩
   obtain ⟨_, _, _, _, h'⟩ := hc
   cases h'
   exact ⟨_, _, _, _, rfl⟩
  ·unfold qcc
   exact Ok.ret ⟨l, ha, fun x => Iff.rfl, by rw [hln]; exact hv.gs, fun b h => h, Fm.refl _ _⟩
  ·match l, hln with
   | [], h => simp at h; omega
   | x :: t, _ => simp
theorem Gs.clip {n : Nat} {H : Hp} {v : AV} {l : List AV} (h : Gs 1 H v n l) : ∃ w, qbo 1 v none (some (.int .i64 (.ofNat n))) (some (.int .i64 (.ofNat n))) = .val w ∧ Rl H w l ∧ capV w = .val (.int .i64 (.ofNat n)) ∧ (∀ b, In w b → In v b) := by
 rcases h.is with ⟨rfl, rfl⟩ | ⟨b, o, m, e, q, L, rfl, h0, h1, h2, h3, h4, h5⟩
 ·exact ⟨.nilsl, rfl, h.rl, rfl, fun b h => h⟩
 ·have e1 : qbo 1 (.sl b o n m e) none (some (.int .i64 (.ofNat n))) (some (.int .i64 (.ofNat n))) = mkSl b o 1 ⟨0, n, n⟩ true := by
   show (match bounds n m none (some (.int .i64 (.ofNat n))) (some (.int .i64 (.ofNat n))) with | some bd => mkSl b o 1 bd true | none => R0.bad) = _
   have : bounds n m none (some (.int .i64 (.ofNat n))) (some (.int .i64 (.ofNat n))) = some ⟨0, n, n⟩ := by
    show (match (bif Nat.ble n m then some n else none) with | none => none | some m => match (bif Nat.ble n m then some n else none) with | none => none | some h => match (some 0 : Option Nat) with | none => none | some l => some (Bd.mk l h m)) = _
    rw [ble_eq, decide_eq_true h0]; simp only [cond_true, ble_eq, decide_eq_true (Nat.le_refl n)]
   rw [this]
  have hrl := h.rl
  have hG : ∀ e', Gs 1 H (.sl b o n m e') n l → Rl H (.sl b o n n true) l := fun e' g => by
   have r := g.rl
   exact ⟨r.len, fun i hi => by
    obtain ⟨b', o', a1, a2, a3⟩ := r.at' i hi
    exact ⟨b', o', by have hll := h.len; rw [qi5 _ _ _ _ _ _ _ _ (by omega)] at a1 ⊢; exact a1, a2, a3⟩⟩
  rw [e1]
  unfold mkSl
  simp only [beq_eq]
  by_cases hn : n = 0
  ·subst hn
   exact ⟨.sl b o 0 0 true, rfl, hG e h, rfl, fun c hc => by obtain ⟨_, _, _, _, h'⟩ := hc; cases h'; exact ⟨_, _, _, _, rfl⟩⟩
  ·rw [decide_eq_false hn]
   refine ⟨.sl b o n n true, ?_, hG e h, rfl, fun c hc => by obtain ⟨_, _, _, _, h'⟩ := hc; cases h'; exact ⟨_, _, _, _, rfl⟩⟩
   show R0.val (.sl b (o + 0 * 1) (n - 0) (n - 0) true) = _
   rw [Nat.zero_mul, Nat.add_zero, Nat.sub_zero]
theorem zfc (hC : qbt C) {k : Nat} (hk : 1 ≤ k) {n : Nat} {H : Hp} {v : AV} {l : List AV} (h : Gs 1 H v n l) :
  ∃ w, C k (.f qlf) [v] H = .ok w H ∧ Rl H w l ∧ capV w = .val (.int .i64 (.ofNat n)) ∧ (∀ b, In w b → In v b) := by
 obtain ⟨j, rfl⟩ : ∃ j, k = j + 1 := ⟨k - 1, by omega⟩
 obtain ⟨w, e, h1, h2, h3⟩ := h.clip
 refine ⟨w, ?_, h1, h2, h3⟩
 rw [(hC j).sClp]
 unfold sClp q4e
 simp (disch := omega) only [go_sem, reduceAdd, h.lenV, e]
end Go.Di
end
section
/-
 Contracts: mixed components.
-/
namespace Go.Di
open Go.Ev Go.Di.T Go.Sort
variable {C : Nat → Ev.Call} {LA LO : LP}
theorem zcu (hO : qc7 C) (hS : qbe C) {k : Nat} (hk : 5 ≤ k) {v : AV} (hv : qa9 v = .val (.int .i64 (.ofNat 0))) (H : Hp) : C k (.f qee) [v] H = .ok (.tup []) H := by
 obtain ⟨k, rfl⟩ : ∃ j, k = j + 3 := ⟨k - 3, by omega⟩
 rw [(hO (k + 2)).o_Sort]
 unfold o_Sort qpw
 have e1 := qh3 .i64 0 (by omega)
 have e2 := q0s hS (k := k + 2) (by omega) 0 (by omega) H
 have e3 : bitsLen 0 = 0 := rfl
 rw [e3] at e2
 have e4 : C (k + 2) (.f qhx) [v, .int .i64 (.ofNat 0), .int .i64 (.ofNat 0), .int .i64 (.ofNat 0)] H = .ok (.tup []) H := by
  rw [(hO (k + 1)).o_pdq]
  unfold o_pdq qwy qpu
  rw [qam]
  show qmb (C (k + 1)) _ _ (qbs (C (k + 1)) _ _ 999999) _ _ _ _ _ H = _
  unfold qmb
  have e5 : C (k + 1) (.f qmo) [v, .int .i64 (.ofNat 0), .int .i64 (.ofNat 0)] H = .ok (.tup []) H := by
   rw [(hO k).o_ins]
   unfold o_ins qw4 qpv
   rw [qam]
   simp (disch := first | omega | exact ti rfl) only [go_sem, reduceAdd, reduceSub, reduceLeDiff]
   show qmc (C k) _ _ _ _ (qcx (C k) _ _ _ _ 999999) _ H = _
   unfold qmc
   simp (disch := first | omega | exact ti rfl) only [go_sem, reduceAdd, reduceSub, reduceLeDiff, Nat.not_lt_zero]
  simp (disch := first | omega | exact ti rfl) only [go_sem, reduceAdd, reduceSub, reduceLeDiff, e5, Nat.zero_le]
 simp (disch := first | omega | exact ti rfl) only [go_sem, reduceAdd, reduceSub, reduceLeDiff, hv, e1, e2, e4]
def mixP (ins : List Nat) (e : Edge) : Bool := e.s && decide (ins.getD e.f 0 = ins.getD e.t 0)
def mixL (ins : List Nat) (es : List Edge) : List Nat := (es.filter (mixP ins)).map fun e => ins.getD e.f 0
theorem q94 (ins : List Nat) (es : List Edge) {i : Nat} (h : i < es.length) : mixL ins (es.take (i + 1)) = mixL ins (es.take i) ++ (if mixP ins es[i] then [ins.getD es[i].f 0] else []) := by
 unfold mixL
 rw [List.take_succ_eq_append_getElem h, List.filter_append, List.map_append]
 congr 1
 cases hh : mixP ins es[i] <;> simp [hh]
theorem q95 (ins : List Nat) (es : List Edge) : (mixL ins es).length ≤ es.length := by
 unfold mixL
 rw [List.length_map]
 exact List.length_filter_le _ _
theorem q4x {ins : List Nat} {es : List Edge} {x : Nat} : x ∈ mixL ins es ↔ ∃ e ∈ es, e.s = true ∧ ins.getD e.f 0 = ins.getD e.t 0 ∧ ins.getD e.f 0 = x := by
 unfold mixL mixP
 rw [List.mem_map]
 constructor
 ·rintro ⟨e, he, rfl⟩
  rw [List.mem_filter, Bool.and_eq_true, decide_eq_true_eq] at he
  exact ⟨e, he.1, he.2.1, he.2.2, rfl⟩
 ·rintro ⟨e, he, h1, h2, h3⟩
  exact ⟨e, List.mem_filter.2 ⟨he, by rw [Bool.and_eq_true, decide_eq_true_eq]; exact ⟨h1, h2⟩⟩, h3⟩
theorem qjz {call : Ev.Call} {H1 : Hp} {n c : Nat} {lv iv w : AV} {es : List Edge} {ins : List Nat} (hlen : es.length < 200000) (hE : ∀ e ∈ es, e.f < n ∧ e.t < n) (hw : IsE H1 w es) (hi : Gl 1 H1 iv n (nats ins)) (hc : H1.get c = qae 0 [lv, iv]) (hcl : c < H1.nx) {q : AV → Hp → R1} {Q : AV → Hp → Prop}
  (hq : ∀ v H, Gl 1 H v (mixL ins es).length (nats (mixL ins es)) → Fm No H1 H → (∀ b, In v b → H1.nx ≤ b) → Ok (q v H) Q) :
  ∀ (k i : Nat) (v : AV) (H : Hp), es.length - i < k → i ≤ es.length → Gl 1 H v (mixL ins (es.take i)).length (nats (mixL ins (es.take i))) → (∀ b, In v b → H1.nx ≤ b) → Fm No H1 H →
   Ok (qjx call q (.ptr c 0) w (.int .i64 (.ofNat es.length)) k v (.int .i64 (.ofNat i)) H) Q
 | 0, i, v, H, h, _, _, _, _ => by omega
 | k + 1, i, v, H, h, hil, hg, hnew, hF => by
  show Ok (qyi call _ _ _ _ (qjx call _ _ _ _ k) _ _ H) Q
  unfold qyi
  by_cases hlt : i < es.length
  ·simp (disch := first | omega | exact ti rfl) only [go_sem, reduceAdd, reduceSub, reduceLeDiff, hlt]
   unfold qyh
   have hw' : IsE H w es := hw.fm hF
   have hi' : Gl 1 H iv n (nats ins) := hi.no hF
   have hc' : H.get c = qae 0 [lv, iv] := (hF.keep hcl).trans hc
   have hcH : c < H.nx := Nat.lt_of_lt_of_le hcl hF.nx
   have hil : ins.length = n := by have := hi.len; rw [qbg] at this; omega
   obtain ⟨b, o1, e1, e2, e3⟩ := hw'.at hlt
   obtain ⟨r1, r2⟩ := hE es[i] (List.getElem_mem _)
   have gi : ∀ x, x < n → (nats ins)[x]? = some (.int .i64 (.ofNat (ins.getD x 0))) := fun x hx => by
    unfold nats
    rw [List.getElem?_map, List.getD_eq_getElem?_getD, List.getElem?_eq_getElem (by omega)]; rfl
   obtain ⟨b1, o2, e4, e5, _, e6⟩ := hi'.at (gi _ r1)
   obtain ⟨b2, o3, e7, e8, _, e9⟩ := hi'.at (gi _ r2)
   have hm := q94 ins es hlt
   have hle := q95 ins (es.take i)
   rw [List.length_take] at hle
   have fe : Fm No H ((qaw H (qae 0 [.int .i64 (.ofNat 0), .int .i64 (.ofNat 0), .bool false])).put H.nx (qae 0 [.int .i64 (.ofNat es[i].f), .int .i64 (.ofNat es[i].t), .bool es[i].s])) := by (repeat (first | exact Fm.refl _ _ | assumption | refine Fm.push ?_ _ | refine Fm.up2 ?_ (by (first | omega | (simp only [np, nq]; omega))) | refine Fm.put_new ?_ _ _ (by (first | omega | (simp only [np, nq]; omega)))))
   cases hs : es[i].s with
   | false =>
    have hp : mixP ins es[i] = false := by unfold mixP; rw [hs]; rfl
    rw [hs] at fe
    rw [hp] at hm
    simp (disch := first | omega | exact ti rfl) only [go_sem, reduceAdd, reduceSub, reduceLeDiff, e1, e3, Edge.cells, hs]
    unfold qjy
    simp (disch := first | omega | exact ti rfl) only [go_sem, reduceAdd, reduceSub, reduceLeDiff]
    rw [if_neg (by simp), List.append_nil] at hm
    refine qjz hlen hE hw hi hc hcl hq k (i + 1) v _ (by omega) (by omega) (by rw [hm]; exact hg.no fe) hnew (hF.trans fe)
   | true =>
    rw [hs] at fe
    by_cases he : ins.getD es[i].f 0 = ins.getD es[i].t 0
    ·have hp : mixP ins es[i] = true := by unfold mixP; rw [hs, decide_eq_true he]; rfl
     rw [hp, if_pos rfl] at hm
     have hml : (mixL ins (es.take (i + 1))).length = (mixL ins (es.take i)).length + 1 := by rw [hm, List.length_append]; rfl
     have he1 := e4
     have he2 := e6
     generalize hH2 : (qaw H (qae 0 [.int .i64 (.ofNat 0), .int .i64 (.ofNat 0), .bool false])).put H.nx (qae 0 [.int .i64 (.ofNat es[i].f), .int .i64 (.ofNat es[i].t), .bool true]) = H2 at *
     have hx2 : H2.get H.nx = qae 0 [.int .i64 (.ofNat es[i].f), .int .i64 (.ofNat es[i].t), .bool true] := by rw [← hH2, qai]
     have hc2 : H2.get c = qae 0 [lv, iv] := (fe.keep hcH).trans hc'
     have e6' : qbl (H2.get b1) o2 = .val (.int .i64 (.ofNat (ins.getD es[i].f 0))) := by rw [fe.keep e5]; exact e6
     have e9' : qbl (H2.get b2) o3 = .val (.int .i64 (.ofNat (ins.getD es[i].t 0))) := by rw [fe.keep e8]; exact e9
     have hgP : Gl 1 (qaw H2 (qae 0 [.int .i64 (.ofNat (ins.getD es[i].f 0))])) v (mixL ins (es.take i)).length (nats (mixL ins (es.take i))) := (hg.no fe).no ((Fm.refl _ _).push _)
     obtain ⟨H', a1, a2, _, a4, a5⟩ := hgP.append (w := 8) (k := 1) (x := [.int .i64 (.ofNat (ins.getD es[i].f 0))]) (by omega) rfl (by omega) (by omega)
     rw [he] at e6'
     rw [he] at a1 a2 a4 hgP
     simp (disch := first | omega | exact ti rfl) only [go_sem, reduceAdd, reduceSub, reduceLeDiff, e1, e3, Edge.cells, hs, hH2, hx2, hc2, e4, e6', e7, e9', he, a1]
     unfold qjy
     simp (disch := first | omega | exact ti rfl) only [go_sem, reduceAdd, reduceSub, reduceLeDiff]
     have e10 : nats (mixL ins (es.take i)) ++ [.int .i64 (.ofNat (ins.getD es[i].t 0))] = nats (mixL ins (es.take (i + 1))) := by rw [hm, he]; simp [nats]
     rw [e10, ← hml] at a2
     rw [← hml]
     have hn1 := hF.nx
     have hn2 := fe.nx
     have hpn : (qaw H2 (qae 0 [.int .i64 (.ofNat (ins.getD es[i].t 0))])).nx = H2.nx + 1 := rfl
     refine qjz hlen hE hw hi hc hcl hq k (i + 1) _ H' (by omega) (by omega) a2 (fun b hb => ?_) (((hF.trans fe).trans ((Fm.refl _ _).push _)).then a4 fun c hc h => by have := hnew c h; omega)
     obtain ⟨_, _, _, _, h⟩ := hb
     cases h
     omega
    ·have hp : mixP ins es[i] = false := by unfold mixP; rw [hs, decide_eq_false he]; rfl
     rw [hp] at hm
     simp (disch := first | omega | exact ti rfl) only [go_sem, reduceAdd, reduceSub, reduceLeDiff, e1, e3, Edge.cells, hs, hc', e4, e6, e7, e9, he]
     unfold qjy
     simp (disch := first | omega | exact ti rfl) only [go_sem, reduceAdd, reduceSub, reduceLeDiff]
     rw [if_neg (by simp), List.append_nil] at hm
     refine qjz hlen hE hw hi hc hcl hq k (i + 1) v _ (by omega) (by omega) (by rw [hm]; exact hg.no fe) hnew (hF.trans fe)
  ·simp (disch := first | omega | exact ti rfl) only [go_sem, reduceAdd, reduceSub, reduceLeDiff, hlt]
   have : i = es.length := by omega
   subst this
   rw [List.take_length] at hg
   exact hq v H hg hF hnew
theorem q5p (hC : qbt C) (hO : qc7 C) (hS : qbe C) (hR : qc8 LA LO C) {k : Nat} (hk : 1000 ≤ k) {n : Nat} {es : List Edge} (hE : qfk n es) (hn : n ≤ 256) (hlen : es.length < 900) {gv : AV} {H : Hp} (hg : IsE H gv es) :
  Ok (C k (.f qth) [.agg [.int .i64 (.ofNat n), gv]] H) fun r H' => ∃ (w : AV) (res : List (List Nat)) (ins R : List Nat), r = .tup [w, .int .i64 (.ofNat 0)] ∧ OrdF n (qbd es) [] res ∧ (∀ (j : Nat) (o : List Nat) (x : Nat), res[j]? = some o → x ∈ o → ins[x]? = some j) ∧
   R.Pairwise (· < ·) ∧ (∀ x, x ∈ R ↔ x ∈ mixL ins es) ∧ Rl H' w (nats R) ∧ capV w = .val (.int .i64 (.ofNat R.length)) ∧ R.length ≤ 900 ∧ Fm No H H' := by
 obtain ⟨j, rfl⟩ : ∃ j, k = j + 1 := ⟨k - 1, by omega⟩
 rw [(hC j).cMix]
 unfold cMix zcf
 simp (disch := first | omega | exact ti rfl) only [go_sem, reduceAdd, reduceSub, reduceLeDiff]
 have f0 : Fm No H (qaw H (qae 0 [.int .i64 (.ofNat n), gv])) := (Fm.refl _ _).push _
 refine Ok.ve (zcw hC hO hS hR (k := j) (by omega) hE hn (by omega) (hg.fm f0)) ?_
 rintro r H1 ⟨lv, iv, os, ins2, out, ins, res, rfl, hOrd, hCR, f1⟩
 have ford := hOrd.ord hE.rng
 have hg1 : H1.get H.nx = qae 0 [.int .i64 (.ofNat n), gv] := (f1.keep (by (first | omega | (simp only [np, nq]; omega)))).trans (qar _ _)
 have es3 : ∀ x y : AV, setL [AV.nilsl, AV.nilsl] 0 [x, y] = [x, y] := fun _ _ => rfl
 have n1 : H.nx + 1 ≤ H1.nx := f1.nx
 simp (disch := first | omega | exact ti rfl) only [go_sem, reduceAdd, reduceSub, reduceLeDiff, es3, List.length_cons, List.length_nil]
 generalize hH2 : (qaw H1 (qae 0 [AV.nilsl, AV.nilsl])).put H1.nx (qae 0 [lv, iv]) = H2
 have f2 : Fm No H1 H2 := by rw [← hH2]; exact ((Fm.refl _ _).push _).put_new _ _ (Nat.le_refl _)
 have g2 : H2.get H1.nx = qae 0 [lv, iv] := by rw [← hH2, qai]
 have l2 : H1.nx < H2.nx := by rw [← hH2]; show H1.nx < H1.nx + 1; omega
 have hg2 : H2.get H.nx = qae 0 [.int .i64 (.ofNat n), gv] := (f2.keep (by omega)).trans hg1
 have f02 : Fm No H H2 := (f0.trans f1).trans f2
 have hE2 : IsE H2 gv es := hg.fm f02
 rw [qt1]
 unfold qfg
 have e0 := hE2.len
 simp (disch := first | omega | exact ti rfl) only [go_sem, reduceAdd, reduceSub, reduceLeDiff, hg2, e0]
 unfold qyj
 rw [qam]
 refine qjz (by omega) hE.rng hE2 (hCR.gi.no f2) g2 l2 (fun v H3 h3 f3 hnew => ?_) qak 0 .nilsl H2 (by rw [qag]; omega) (Nat.zero_le _) (by simpa [mixL, nats] using Gl.nil 1 H2) (fun b hb => by obtain ⟨_, _, _, _, h⟩ := hb; cases h) (Fm.refl _ _)
 unfold qh6
 have hml := q95 ins2 es
 have n2 := f02.nx
 have sorted : Ok (C j (.f qee) [v] H3) fun r H' => r = .tup [] ∧ ∃ R : List Nat, R.Perm (mixL ins2 es) ∧ R.Pairwise (· ≤ ·) ∧ Gl 1 H' v (mixL ins2 es).length (nats R) ∧ Fm (In v) H3 H' := by
  rcases Nat.eq_zero_or_pos (mixL ins2 es).length with h0 | h0
  ·have hz : mixL ins2 es = [] := List.length_eq_zero_iff.1 h0
   have e1 := h3.lenV
   rw [h0] at e1
   refine ⟨_, _, zcu hO hS (by omega) e1 H3, rfl, [], by rw [hz], List.Pairwise.nil, ?_, Fm.refl _ _⟩
   rw [hz] at h3 ⊢
   exact h3
  ·exact q5n hC hO hS (k := j) (by omega) h0 (by omega) h3
 refine Ok.ve sorted ?_
 rintro r H4 ⟨rfl, R, hp, hsd, h4, f4⟩
 refine Ok.ve (q71 hO (k := j) (by omega) hsd (by omega) h4) ?_
 rintro r5 H5 ⟨R5, hasc, hmem, h5, hin, f5⟩
 obtain ⟨w, w1, w2, w3, _⟩ := zfc hC (k := j) (by omega) h5
 simp (disch := first | omega | exact ti rfl) only [go_sem, reduceAdd, reduceSub, reduceLeDiff, w1]
 have hR5 : R5.length ≤ 900 := by
  have hnd : R5.Nodup := hasc.imp fun h => Nat.ne_of_lt h
  have : R5.length ≤ R.length := hnd.length_le_of_subset fun x hx => (hmem x).1 hx
  rw [hp.length_eq] at this
  omega
 refine Ok.ret ⟨w, res, ins2, R5, rfl, ford, hCR.ins, hasc, fun x => (hmem x).trans hp.mem_iff, w2, w3, hR5, ((f02.trans f3).then f4 fun c hc h => ?_).then f5 fun c hc h => ?_⟩
 ·have := hnew c h; omega
 ·have := hnew c h; omega
end Go.Di
end
section
/-
 Contracts: whether a list of edges has one that a closure takes.
-/
namespace Go.Di
open Go.Ev Go.Di.T Go.Sort
variable {C : Nat → Ev.Call} {LA LO : LP}
end Go.Di
end
section
/-
 Contracts: the edges between components.
-/
namespace Go.Di
open Go.Ev Go.Di.T Go.Sort
variable {C : Nat → Ev.Call} {LA LO : LP}
structure CB (H0 : Hp) (n gb c : Nat) (gv lv iv : AV) (es : List Edge) (ins : List Nat) : Prop where
 fe : IsE H0 gv es
 fg : H0.get gb = qae 0 [.int .i64 (.ofNat n), gv]
 gl : gb < H0.nx
 fc : H0.get c = qae 0 [lv, iv]
 cl : c < H0.nx
 fi : Gl 1 H0 iv n (nats ins)
 fr : ∀ e ∈ es, e.f < n ∧ e.t < n
 len : es.length < 200000
structure CI (H0 : Hp) (m : Nat) (L : List Edge) (H : Hp) : Prop where
 ex : ∃ v, H.get H0.nx = qae 0 [.int .i64 (.ofNat m), v] ∧ Gl 3 H v L.length (qf2 L) ∧ ∀ b, In v b → H0.nx < b
 fm : Fm (fun b => b = H0.nx) H0 H
 lt : H0.nx < H.nx
theorem CI.no {H0 : Hp} {m : Nat} {L : List Edge} {H H' : Hp} (h : CI H0 m L H) (f : Fm No H H') : CI H0 m L H' := by
 obtain ⟨v, h1, h2, h3⟩ := h.ex
 exact ⟨⟨v, (f.keep h.lt).trans h1, h2.no f, h3⟩, h.fm.then f fun _ _ h => h.elim, Nat.lt_of_lt_of_le h.lt f.nx⟩
theorem CB.at {H0 : Hp} {n gb c : Nat} {gv lv iv : AV} {es : List Edge} {ins : List Nat} (h : CB H0 n gb c gv lv iv es ins) {H : Hp} (f : Fm (fun b => b = H0.nx) H0 H) :
  IsE H gv es ∧ H.get gb = qae 0 [.int .i64 (.ofNat n), gv] ∧ gb < H.nx ∧ H.get c = qae 0 [lv, iv] ∧ c < H.nx ∧ Gl 1 H iv n (nats ins) := by
 have g1 := h.gl
 have g2 := h.cl
 have g3 := f.nx
 exact ⟨h.fe.keep f.nx fun b hb hlt => f.get b hlt (fun e => by have := h.fe.lt hb; omega), (f.get _ g1 (by omega)).trans h.fg, by omega, (f.get _ g2 (by omega)).trans h.fc, by omega, h.fi.fm f fun b hb e => by have := h.fi.lt hb; omega⟩
end Go.Di
end
section
/-
 Contracts: the graph of the components; simple components.
-/
namespace Go.Di
open Go.Ev Go.Di.T Go.Sort
variable {C : Nat → Ev.Call} {LA LO : LP}
theorem Gl.st {z n : Nat} {H : Hp} {v : AV} {l : List AV} (h : Gl z H v n l) (H' : Hp) (b o : Nat) : qao H' (.ptr b o) v = storeAt H' b o [v] .undef := by
 rcases h.is with ⟨rfl, _⟩ | ⟨b, o, e, q, L, rfl, _⟩ <;> rfl
end Go.Di
end
section
/-
 Contracts: the reference's graph of the components.
-/
namespace Go.Di
open Go.Ev Go.Di.T Go.Sort
variable {C : Nat → Ev.Call} {LA LO : LP}
end Go.Di
end
section
/-
 The graph of the components, without any program.
-/
namespace Go.Di
open Go.Ev Go.Di.T Go.Sort
theorem Nm.same {n : Nat} {res : List (List Nat)} {ins ins' : List Nat} (h : Nm n res ins) (h' : Nm n res ins') {x : Nat} (hx : x < n) : ins.getD x 0 = ins'.getD x 0 := by
 obtain ⟨j, o, h1, h2⟩ := h.all x hx
 rw [h.is j o x h1 h2, h'.is j o x h1 h2]
def qt8 (L : Nat) : List (List Nat) := (List.range L).map fun i => [i]
theorem q1p {adj : Nat → List Nat} (h : ∀ a, ∀ b ∈ adj a, b < a) {a b : Nat} (hr : Rc adj a b) : b ≤ a := by
 induction hr with
 | refl => exact Nat.le_refl _
 | step _ e ih => have := h _ _ e; omega
theorem qgi (L : Nat) : (qt8 L).flatten = List.range L := by
 unfold qt8
 induction L with
 | zero => rfl
 | succ L ih => rw [List.range_succ, List.map_append, List.flatten_append, ih]; rfl
theorem zdu {L : Nat} {adj : Nat → List Nat} (h : ∀ a, ∀ b ∈ adj a, b < a) : OrdF L adj [] (qt8 L) := by
 have key : ∀ m i, i + m = L → OrdF L adj (qt8 i) ((List.range' i m).map fun i => [i]) := fun m => by
  induction m with
  | zero =>
   intro i hi x hx
   rw [qgi, List.mem_range]; omega
  | succ m ih =>
   intro i hi
   have hs : qt8 i ++ [[i]] = qt8 (i + 1) := by unfold qt8; rw [List.range_succ, List.map_append]; rfl
   show OrdF L adj (qt8 i) ([i] :: (List.range' (i + 1) m).map fun i => [i])
   refine ⟨⟨i, ⟨by omega, ?_, fun k _ hr => ?_, fun j hj hn => ?_⟩, ⟨List.pairwise_singleton _ _, fun x => ?_⟩⟩, ?_⟩
   ·rw [qgi, List.mem_range]; omega
   ·rw [qgi, List.mem_range]
    have := q1p h hr
    by_cases e : k = i
    ·subst e; exact Or.inr (Rc.refl _)
    ·exact Or.inl (by omega)
   ·rw [qgi, List.mem_range] at hn
    exact absurd hj hn
   ·rw [List.mem_singleton]
    constructor
    ·rintro rfl; exact ⟨by omega, Rc.refl _, Rc.refl _⟩
    ·rintro ⟨_, a, b⟩
     have := q1p h a
     have := q1p h b
     omega
   ·rw [hs]; exact ih (i + 1) (by omega)
 have := key L 0 (by omega)
 unfold qt8
 rw [List.range_eq_range']
 exact this
end Go.Di
end
section
/-
 Contracts: the nodes, component by component.
-/
namespace Go.Di
open Go.Ev Go.Di.T Go.Sort
variable {C : Nat → Ev.Call} {LA LO : LP}
theorem Gs.full {z n : Nat} {H : Hp} {b o : Nat} {e : Bool} {l : List AV} (h : Gs z H (.sl b o n n e) n l) : Gl z H (.sl b o n n e) n l := by
 refine ⟨h.len, ?_⟩
 rcases h.is with ⟨h, _⟩ | ⟨b', o', m', e', q, L, hv, h0, h1, h2, h3, h4, h5⟩
 ·cases h
 ·cases hv
  exact .inr ⟨b, o, e, q, L, rfl, h1, by omega, by rw [← h3, List.take_of_length_le (by rw [List.length_drop]; omega)], h4, h5⟩
theorem zfy (n : Nat) (h : n ≤ 1000) : qmy 8 [.int .i64 (.ofNat 0)] (.int .i64 (.ofNat n)) = some ⟨n, List.replicate n (.int .i64 (.ofNat 0))⟩ := by
 show (bif Nat.ble n bigB && Nat.ble (Nat.mul n 8) bigB then some (Src.mk n (reps [.int .i64 (.ofNat 0)] n)) else none) = _
 have h1 : Nat.ble n bigB = true := Nat.ble_eq_true_of_le (by unfold bigB; omega)
 have h2 : Nat.ble (Nat.mul n 8) bigB = true := Nat.ble_eq_true_of_le (by show n * 8 ≤ bigB; unfold bigB; omega)
 rw [h1, h2, qfp]; rfl
theorem zh5 (hC : qbt C) {k : Nat} (hk : 1 ≤ k) {t : Nat} (ht : 0 < t) (ht2 : t ≤ 1000) (H : Hp) :
  Ok (C k (.f qte) [.nilsl, .int .i64 (.ofNat t)] H) fun r H' => r = .sl H.nx 0 0 t false ∧ Gs 1 H' r 0 [] ∧ Fm No H H' ∧ H'.nx = H.nx + 1 := by
 obtain ⟨j, rfl⟩ : ∃ j, k = j + 1 := ⟨k - 1, by omega⟩
 rw [(hC j).sGrw]
 unfold sGrw q4d
 have h0 : ¬ (Int.ofNat t < Int.ofNat 0) := by simp only [Int.ofNat_eq_natCast]; omega
 simp (disch := omega) only [go_sem, reduceAdd, reduceLeDiff, h0]
 unfold qlv
 have e1 : qbo 1 .nilsl none (some (.int .i64 (.ofNat 0))) none = .val .nilsl := rfl
 have e2 := zfy t ht2
 obtain ⟨H', a1, a2, a3, a4, a5⟩ := (Gl.nil 1 H).append (w := 8) (k := t) (x := List.replicate t (.int .i64 (.ofNat 0))) ht (by simp) (by omega) (by omega)
 rw [Nat.zero_add] at a1 a2
 have e3 := qvo 1 H.nx 0 t t false (k := 0) (Nat.zero_le _) (Nat.le_refl _) ht
 simp (disch := omega) only [go_sem, reduceAdd, reduceLeDiff, ht, e1, e2, a1, e3, Nat.sub_zero]
 unfold qrk
 have g0 := (Gl.gs a2).cut (Nat.zero_le t)
 rw [Nat.zero_mul, List.take_zero] at g0
 exact Ok.ret ⟨rfl, g0, a4.mono fun b _ h => (by obtain ⟨_, _, _, _, g⟩ := h; cases g), a5⟩
theorem q5j {call : Ev.Call} {H1 : Hp} {lv : AV} {os : List AV} {res : List (List Nat)} {tb : Nat} (hos : Gl 1 H1 lv os.length os) (hlen : os.length = res.length) (hs : res.flatten.length < 900) (hol : os.length < 900) (htb : ∀ b, In lv b → b ≠ tb)
  (hat : ∀ (j : Nat) (w : AV) (o : List Nat), os[j]? = some w → res[j]? = some o → Gl 1 H1 w o.length (nats o) ∧ ∀ b, In w b → b ≠ tb) {q : AV → Hp → R1} {Q : AV → Hp → Prop}
  (hq : ∀ H, Gs 1 H (.sl tb 0 res.flatten.length res.flatten.length false) res.flatten.length (nats res.flatten) → Fm (fun b => b = tb) H1 H → Ok (q (.sl tb 0 res.flatten.length res.flatten.length false) H) Q) :
  ∀ (k i : Nat) (H : Hp), os.length - i < k → i ≤ os.length → Gs 1 H (.sl tb 0 (flt res i).length res.flatten.length false) (flt res i).length (nats (flt res i)) → Fm (fun b => b = tb) H1 H →
   Ok (qkt call q lv (.int .i64 (.ofNat os.length)) k (.sl tb 0 (flt res i).length res.flatten.length false) (.int .i64 (.ofNat i)) H) Q
 | 0, i, H, h, _, _, _ => by omega
 | k + 1, i, H, h, hi, hg, hF => by
  show Ok (qrm call _ _ _ (qkt call _ _ _ k) _ _ H) Q
  unfold qrm
  by_cases hil : i < os.length
  ·simp (disch := omega) only [go_sem, reduceAdd, reduceLeDiff, hil]
   unfold qwd
   have hos' : Gl 1 H lv os.length os := hos.fm hF fun b hb => htb b hb
   obtain ⟨b1, o1, e1, _, _, e2⟩ := hos'.at (i := i) (x := os[i]) (by simp)
   obtain ⟨g1, g2⟩ := hat i os[i] (res[i]'(by omega)) (by simp) (by simp)
   have g1' : Gl 1 H os[i] (res[i]'(by omega)).length (nats (res[i]'(by omega))) := g1.fm hF fun b hb => g2 b hb
   have e3 := srcGl g1'
   have hf := q46 res i (by omega)
   have hfl := zfo res (i + 1)
   have hfe : (flt res (i + 1)).length = (flt res i).length + (res[i]'(by omega)).length := by rw [hf, List.length_append]
   obtain ⟨H', a1, a2, a3, a4⟩ := hg.room (w := 8) (x := nats (res[i]'(by omega))) (qbg _) (by omega)
   simp (disch := omega) only [go_sem, reduceAdd, reduceLeDiff, e1, e2, e3, a1]
   unfold q1k
   simp (disch := omega) only [go_sem, reduceAdd, reduceLeDiff]
   have e9 : nats (flt res i) ++ nats (res[i]'(by omega)) = nats (flt res (i + 1)) := by rw [hf]; simp [nats]
   rw [e9, ← hfe] at a2
   rw [← hfe]
   exact q5j hos hlen hs hol htb hat hq k (i + 1) H' (by omega) (by omega) a2 (hF.trans a3)
  ·simp (disch := omega) only [go_sem, reduceAdd, reduceLeDiff, hil]
   have : i = os.length := by omega
   subst this
   have e : flt res os.length = res.flatten := by unfold flt; rw [hlen, List.take_length]
   rw [e] at hg ⊢
   exact hq H hg hF
theorem zcy (hC : qbt C) {k : Nat} (hk : 2 ≤ k) {H : Hp} {lv : AV} {os : List AV} {res : List (List Nat)} (hos : Gl 1 H lv os.length os) (hlen : os.length = res.length) (hs : res.flatten.length < 900) (hol : os.length < 900) (hne : ∀ o ∈ res, o ≠ [])
  (hat : ∀ (j : Nat) (w : AV) (o : List Nat), os[j]? = some w → res[j]? = some o → Gl 1 H w o.length (nats o)) :
  Ok (C k (.f qxp) [lv] H) fun r H' => Gl 1 H' r res.flatten.length (nats res.flatten) ∧ Fm No H H' := by
 obtain ⟨j, rfl⟩ : ∃ j, k = j + 1 := ⟨k - 1, by omega⟩
 rw [(hC j).sCat]
 unfold sCat q85
 have e1 := hos.lenV
 simp (disch := omega) only [go_sem, reduceAdd, reduceLeDiff, e1]
 unfold qwg
 rw [qam]
 refine q31 hos hlen hs hol hat ?_ qak 0 (by rw [qag]; omega) (Nat.zero_le _)
 unfold qhi
 by_cases h0 : res.flatten.length = 0
 ·have hres : res = [] := by
   cases res with
   | nil => rfl
   | cons c r =>
    have := List.length_pos_iff.2 (hne c List.mem_cons_self)
    rw [List.flatten_cons, List.length_append] at h0
    omega
  subst hres
  have h00 : os.length = 0 := hlen
  have eg : C j (.f qte) [.nilsl, .int .i64 (.ofNat 0)] H = .ok .nilsl H := by
   obtain ⟨i, rfl⟩ : ∃ i, j = i + 1 := ⟨j - 1, by omega⟩
   rw [(hC i).sGrw]
   unfold sGrw q4d
   simp (disch := omega) only [go_sem, reduceAdd, reduceLeDiff]
   unfold qlv
   simp (disch := omega) only [go_sem, reduceAdd, reduceLeDiff]
   unfold qrk
   rfl
  have e0 : (([] : List (List Nat)).flatten).length = 0 := rfl
  rw [h00] at e1
  simp (disch := omega) only [go_sem, reduceAdd, reduceLeDiff, e0, eg, e1]
  unfold qwf
  rw [qam]
  show Ok (qrm (C j) _ _ _ (qkt (C j) _ _ _ 999999) _ _ H) _
  unfold qrm
  simp (disch := omega) only [go_sem, reduceAdd, reduceLeDiff]
  unfold qim
  exact Ok.ret ⟨Gl.nil _ _, Fm.refl _ _⟩
 ·refine Ok.ve (zh5 hC (k := j) (by omega) (by omega) (by omega) H) ?_
  rintro r H1 ⟨rfl, g1, f1, n1⟩
  simp (disch := omega) only [go_sem, reduceAdd, reduceLeDiff, e1]
  unfold qwf
  rw [qam]
  refine q5j (H1 := H1) (tb := H.nx) (hos.no f1) hlen hs hol (fun b hb => by have := hos.lt hb; omega) (fun j w o h1 h2 => ?_) (fun H2 g2 f2 => ?_) qak 0 H1 (by rw [qag]; omega) (Nat.zero_le _) g1 (Fm.refl _ _)
  ·have := hat j w o h1 h2
   exact ⟨this.no f1, fun b hb => by have := this.lt hb; omega⟩
  ·unfold qim
   exact Ok.ret ⟨g2.full, f1.then f2 fun c hc h => by omega⟩
theorem q5o (hC : qbt C) (hO : qc7 C) (hS : qbe C) (hR : qc8 LA LO C) {k : Nat} (hk : 922 ≤ k) {n : Nat} {es : List Edge} (hE : qfk n es) (hn : n ≤ 256) (hlen : es.length < 200000) {gv : AV} {H : Hp} (hg : IsE H gv es) :
  Ok (C k (.f qtg) [.agg [.int .i64 (.ofNat n), gv]] H) fun r H' => ∃ w res, r = .tup [w, .int .i64 (.ofNat 0)] ∧ OrdF n (qbd es) [] res ∧ res.flatten.length = n ∧ Gl 1 H' w res.flatten.length (nats res.flatten) ∧ capV w = .val (.int .i64 (.ofNat res.flatten.length)) ∧ Fm No H H' := by
 obtain ⟨j, rfl⟩ : ∃ j, k = j + 1 := ⟨k - 1, by omega⟩
 rw [(hC j).cOrd]
 unfold cOrd zb6
 simp (disch := omega) only [go_sem, reduceAdd, reduceLeDiff]
 have f0 : Fm No H (qaw H (qae 0 [.int .i64 (.ofNat n), gv])) := (Fm.refl _ _).push _
 refine Ok.ve (zcw hC hO hS hR (k := j) (by omega) hE hn hlen (hg.fm f0)) ?_
 rintro r H1 ⟨lv, iv, os, ins2, out, ins, res, rfl, hOrd, hCR, f1⟩
 have ford := hOrd.ord hE.rng
 obtain ⟨z1, z2, z3, z4, z5⟩ := ford.all
 have hcl := hCR.len
 have hrl : res.length ≤ res.flatten.length := by
  have hle : ∀ (o : List (List Nat)), (∀ c ∈ o, c ≠ []) → o.length ≤ o.flatten.length := fun o => by
   induction o with
   | nil => intro _; exact Nat.le_refl _
   | cons c o ih =>
    intro h
    have h1 := ih fun c hc => h c (List.mem_cons_of_mem _ hc)
    have h2 : 0 < c.length := List.length_pos_iff.2 (h c List.mem_cons_self)
    rw [List.flatten_cons, List.length_append, List.length_cons]; omega
  exact hle res z4
 have ivsl : (iv = .nilsl) ∨ ∃ b o n m e, iv = .sl b o n m e := by
  rcases hCR.gi.is with ⟨h, _⟩ | ⟨b, o, e, q, L, h, _⟩
  ·exact Or.inl h
  ·exact Or.inr ⟨_, _, _, _, _, h⟩
 have es3 : ∀ x y : AV, setL [AV.nilsl, AV.nilsl] 0 [x, y] = [x, y] := fun _ _ => rfl
 simp (disch := omega) only [go_sem, reduceAdd, reduceLeDiff, es3, List.length_cons, List.length_nil]
 generalize hH2 : (qaw H1 (qae 0 [AV.nilsl, AV.nilsl])).put H1.nx (qae 0 [lv, iv]) = H2
 have f2 : Fm No H1 H2 := by rw [← hH2]; exact ((Fm.refl _ _).push _).put_new _ _ (Nat.le_refl _)
 have g2 : H2.get H1.nx = qae 0 [lv, iv] := by rw [← hH2, qai]
 unfold qyf
 simp (disch := omega) only [go_sem, reduceAdd, reduceLeDiff, g2]
 refine Ok.ve (zcy hC (k := j) (by omega) (hCR.gl.no f2) hcl (by omega) (by omega) z4 fun j w o h1 h2 => (hCR.at' j w o h1 h2).1.no f2) ?_
 rintro r H3 ⟨g3, f3⟩
 obtain ⟨w, w1, w2, w3, _⟩ := zcz hC (k := j) (by omega) g3
 simp (disch := omega) only [go_sem, reduceAdd, reduceLeDiff, w1]
 exact Ok.ret ⟨w, res, rfl, ford, z5, w2, w3, ((f0.trans f1).trans f2).trans f3⟩
end Go.Di
end
section
/-
 Known graphs and their components, without any program.
-/
namespace Go.Di
open Go.Ev Go.Di.T Go.Sort
theorem zby {x y : Edge} (h : x.f < y.f) : cmpE x y < 0 := by
 unfold cmpE
 rw [zht (by simp only [Int.ofNat_eq_natCast]; omega)]
 exact Int.negSucc_lt_zero 0
def qia (n : Nat) : List Edge := (List.range n).map fun i => ⟨i, (i + 1) % 256, decide (i = 200)⟩
def qop (n : Nat) : List Edge := (List.range n).map fun i => ⟨i + 1, i, false⟩
def upE (n : Nat) : List Edge := (List.range n).map fun i => ⟨i, i + 1, true⟩
theorem qqj : qfk 256 (qia 256) := by
 refine ⟨fun e he => ?_, fun i h => ?_⟩
 ·obtain ⟨i, hi, rfl⟩ := List.mem_map.1 he
  rw [List.mem_range] at hi
  exact ⟨hi, Nat.mod_lt _ (by omega)⟩
 ·have g : ∀ i (h : i < (qia 256).length), (qia 256)[i] = ⟨i, (i + 1) % 256, decide (i = 200)⟩ := fun i h => by simp [qia]
  rw [g, g]
  exact zby (Nat.lt_succ_self i)
theorem zet : qfk 256 (qop 255) := by
 refine ⟨fun e he => ?_, fun i h => ?_⟩
 ·obtain ⟨i, hi, rfl⟩ := List.mem_map.1 he
  rw [List.mem_range] at hi
  show i + 1 < 256 ∧ i < 256
  omega
 ·have g : ∀ i (h : i < (qop 255).length), (qop 255)[i] = ⟨i + 1, i, false⟩ := fun i h => by simp [qop]
  rw [g, g]
  exact zby (Nat.lt_succ_self _)
theorem q8a : qfk 256 (upE 255) := by
 refine ⟨fun e he => ?_, fun i h => ?_⟩
 ·obtain ⟨i, hi, rfl⟩ := List.mem_map.1 he
  rw [List.mem_range] at hi
  show i < 256 ∧ i + 1 < 256
  omega
 ·have g : ∀ i (h : i < (upE 255).length), (upE 255)[i] = ⟨i, i + 1, true⟩ := fun i h => by simp [upE]
  rw [g, g]
  exact zby (Nat.lt_succ_self _)
theorem zey {a : Nat} (h : a < 256) : (a + 1) % 256 ∈ qbd (qia 256) a :=
 qcn.2 ⟨_, List.mem_map.2 ⟨a, List.mem_range.2 h, rfl⟩, rfl, rfl⟩
theorem zb0 {a : Nat} (h : a < 256) : ∀ m, Rc (qbd (qia 256)) a ((a + m) % 256)
 | 0 => by rw [Nat.add_zero, Nat.mod_eq_of_lt h]; exact Rc.refl _
 | m + 1 => by
  have := (zb0 h m).step (zey (Nat.mod_lt (a + m) (by omega)))
  have e : ((a + m) % 256 + 1) % 256 = (a + (m + 1)) % 256 := by omega
  rwa [e] at this
theorem qx4 {a b : Nat} (h : a < 256) (hb : b < 256) : Rc (qbd (qia 256)) a b := by
 have := zb0 h (b + 256 - a)
 have e : (a + (b + 256 - a)) % 256 = b := by omega
 rwa [e] at this
theorem q5i : OrdF 256 (qbd (qia 256)) [] [List.range 256] := by
 refine ⟨⟨0, ⟨by omega, by simp, fun k hk _ => Or.inr (qx4 hk (by omega)), fun j hj => absurd hj (Nat.not_lt_zero _)⟩, ⟨List.pairwise_lt_range, fun x => ?_⟩⟩, fun x hx => ?_⟩
 ·rw [List.mem_range]
  exact ⟨fun h => ⟨h, qx4 (by omega) h, qx4 h (by omega)⟩, fun h => h.1⟩
 ·rw [List.nil_append, List.flatten_cons, List.flatten_nil, List.append_nil, List.mem_range]; exact hx
theorem zes : OrdF 256 (qbd (qop 255)) [] (qt8 256) := zdu fun a b hb => by
 obtain ⟨e, he, rfl, rfl⟩ := qcn.1 hb
 obtain ⟨i, _, rfl⟩ := List.mem_map.1 he
 exact Nat.lt_succ_self i
theorem zdj {adj : Nat → List Nat} (h : ∀ a, ∀ b ∈ adj a, a < b) {a b : Nat} (hr : Rc adj a b) : a ≤ b := by
 induction hr with
 | refl => exact Nat.le_refl _
 | step _ e ih => have := h _ _ e; omega
def topL (i : Nat) : List (List Nat) := (List.range i).map fun i => [255 - i]
theorem qqn : ∀ i, (topL i).flatten = (List.range i).map fun i => 255 - i
 | 0 => rfl
 | i + 1 => by
  unfold topL
  rw [List.range_succ, List.map_append, List.flatten_append, List.map_append, ← qqn i]; rfl
theorem qpl {i x : Nat} (hi : i ≤ 256) (hx : x < 256) : x ∈ (topL i).flatten ↔ 256 ≤ x + i := by
 rw [qqn, List.mem_map]
 constructor
 ·rintro ⟨j, hj, rfl⟩
  rw [List.mem_range] at hj
  omega
 ·intro h
  exact ⟨255 - x, List.mem_range.2 (by omega), by omega⟩
theorem zff : OrdF 256 (qbd (upE 255)) [] (topL 256) := by
 have hup : ∀ a, ∀ b ∈ qbd (upE 255) a, a < b := fun a b hb => by
  obtain ⟨e, he, rfl, rfl⟩ := qcn.1 hb
  obtain ⟨i, _, rfl⟩ := List.mem_map.1 he
  exact Nat.lt_succ_self i
 have hlt : ∀ a, ∀ b ∈ qbd (upE 255) a, b < 256 := fun a b hb => by
  obtain ⟨e, he, rfl, rfl⟩ := qcn.1 hb
  exact (q8a.rng e he).2
 have key : ∀ m i, i + m = 256 → OrdF 256 (qbd (upE 255)) (topL i) ((List.range' i m).map fun i => [255 - i]) := fun m => by
  induction m with
  | zero =>
   intro i hi x hx
   exact (qpl (by omega) hx).2 (by omega)
  | succ m ih =>
   intro i hi
   have hs : topL i ++ [[255 - i]] = topL (i + 1) := by unfold topL; rw [List.range_succ, List.map_append]; rfl
   show OrdF 256 _ (topL i) ([255 - i] :: (List.range' (i + 1) m).map fun i => [255 - i])
   refine ⟨⟨255 - i, ⟨by omega, fun h => ?_, fun k hk hr => ?_, fun j hj hn hr => ?_⟩, ⟨List.pairwise_singleton _ _, fun x => ?_⟩⟩, ?_⟩
   ·have := (qpl (by omega) (by omega)).1 h
    omega
   ·have := zdj hup hr
    by_cases e : k = 255 - i
    ·subst e; exact Or.inr (Rc.refl _)
    ·exact Or.inl ((qpl (by omega) hk).2 (by omega))
   ·have he : j + 1 ∈ qbd (upE 255) j := qcn.2 ⟨_, List.mem_map.2 ⟨j, List.mem_range.2 (by omega), rfl⟩, rfl, rfl⟩
    rcases hr (j + 1) (by omega) (Rc.one he) with h | h
    ·have := (qpl (by omega) (by omega)).1 h
     omega
    ·have := zdj hup h
     omega
   ·rw [List.mem_singleton]
    constructor
    ·rintro rfl; exact ⟨by omega, Rc.refl _, Rc.refl _⟩
    ·rintro ⟨_, a, b⟩
     have := zdj hup a
     have := zdj hup b
     omega
   ·rw [hs]; exact ih (i + 1) (by omega)
 have := key 256 0 (by omega)
 unfold topL
 rw [List.range_eq_range']
 exact this
def twoE : List Edge := [⟨0, 2, false⟩, ⟨1, 3, false⟩, ⟨2, 4, false⟩, ⟨3, 1, false⟩, ⟨4, 0, false⟩, ⟨4, 1, false⟩]
theorem q8b : qfk 6 twoE := by
 refine ⟨by decide, fun i h => ?_⟩
 have : i + 1 < 6 := h
 match i, this with
 | 0, _ =>
  show cmpE ⟨0, 2, false⟩ ⟨1, 3, false⟩ < 0
  decide
 | 1, _ =>
  show cmpE ⟨1, 3, false⟩ ⟨2, 4, false⟩ < 0
  decide
 | 2, _ =>
  show cmpE ⟨2, 4, false⟩ ⟨3, 1, false⟩ < 0
  decide
 | 3, _ =>
  show cmpE ⟨3, 1, false⟩ ⟨4, 0, false⟩ < 0
  decide
 | 4, _ =>
  show cmpE ⟨4, 0, false⟩ ⟨4, 1, false⟩ < 0
  decide
theorem qhe {a b : Nat} : b ∈ qbd twoE a ↔ (a = 0 ∧ b = 2) ∨ (a = 1 ∧ b = 3) ∨ (a = 2 ∧ b = 4) ∨ (a = 3 ∧ b = 1) ∨ (a = 4 ∧ b = 0) ∨ (a = 4 ∧ b = 1) := by
 rw [qcn]
 simp only [twoE, List.mem_cons, List.not_mem_nil, or_false, exists_eq_or_imp, exists_eq_left]
 omega
theorem zf5 : OrdF 6 (qbd twoE) [] [[1, 3], [0, 2, 4], [5]] := by
 have s : ∀ {a b : Nat}, b ∈ qbd twoE a → Rc (qbd twoE) a b := Rc.one
 have r13 : Rc (qbd twoE) 1 3 := s (qhe.2 (by decide))
 have r31 : Rc (qbd twoE) 3 1 := s (qhe.2 (by decide))
 have r02 : Rc (qbd twoE) 0 2 := s (qhe.2 (by decide))
 have r24 : Rc (qbd twoE) 2 4 := s (qhe.2 (by decide))
 have r40 : Rc (qbd twoE) 4 0 := s (qhe.2 (by decide))
 have r41 : Rc (qbd twoE) 4 1 := s (qhe.2 (by decide))
 have c1 : ∀ k, Rc (qbd twoE) 1 k → k = 1 ∨ k = 3 := fun k h => Rc.closed (S := fun y => y = 1 ∨ y = 3) (fun y hy k hk => by have := qhe.1 hk; omega) h (Or.inl rfl)
 have c0 : ∀ k, Rc (qbd twoE) 0 k → k < 5 := fun k h => Rc.closed (S := fun y => y < 5) (fun y hy k hk => by have := qhe.1 hk; omega) h (by omega)
 have c5 : ∀ k, Rc (qbd twoE) 5 k → k = 5 := fun k h => Rc.closed (S := fun y => y = 5) (fun y hy k hk => by have := qhe.1 hk; omega) h rfl
 refine ⟨⟨1, ⟨by omega, by simp, fun k _ h => ?_, fun j hj _ hr => ?_⟩, ⟨by decide, fun x => ?_⟩⟩, ⟨0, ⟨by omega, by simp, fun k _ h => ?_, fun j hj => absurd hj (Nat.not_lt_zero _)⟩, ⟨by decide, fun x => ?_⟩⟩, ⟨5, ⟨by omega, by simp, fun k _ h => ?_, fun j hj hn => ?_⟩, ⟨by decide, fun x => ?_⟩⟩, fun x hx => ?_⟩
 ·rcases c1 k h with rfl | rfl
  ·exact Or.inr (Rc.refl _)
  ·exact Or.inr r31
 ·obtain rfl : j = 0 := by omega
  rcases hr 1 (by omega) ((r02.trans r24).trans r41) with h | h
  ·simp at h
  ·have := c1 0 h; omega
 ·rw [show (x ∈ [1, 3]) = (x = 1 ∨ x = 3) by simp]
  constructor
  ·rintro (rfl | rfl)
   ·exact ⟨by omega, Rc.refl _, Rc.refl _⟩
   ·exact ⟨by omega, r13, r31⟩
  ·rintro ⟨_, h, _⟩; exact c1 x h
 ·have := c0 k h
  have : k = 0 ∨ k = 1 ∨ k = 2 ∨ k = 3 ∨ k = 4 := by omega
  rcases this with rfl | rfl | rfl | rfl | rfl
  ·exact Or.inr (Rc.refl _)
  ·exact Or.inl (by simp)
  ·exact Or.inr (r24.trans r40)
  ·exact Or.inl (by simp)
  ·exact Or.inr r40
 ·rw [show (x ∈ [0, 2, 4]) = (x = 0 ∨ x = 2 ∨ x = 4) by simp]
  constructor
  ·rintro (rfl | rfl | rfl)
   ·exact ⟨by omega, Rc.refl _, Rc.refl _⟩
   ·exact ⟨by omega, r02, r24.trans r40⟩
   ·exact ⟨by omega, r02.trans r24, r40⟩
  ·rintro ⟨_, h, g⟩
   have := c0 x h
   have : x = 0 ∨ x = 1 ∨ x = 2 ∨ x = 3 ∨ x = 4 := by omega
   rcases this with rfl | rfl | rfl | rfl | rfl
   ·exact Or.inl rfl
   ·have := c1 0 g; omega
   ·exact Or.inr (Or.inl rfl)
   ·have := c1 0 (r13.trans g); omega
   ·exact Or.inr (Or.inr rfl)
 ·rw [c5 k h]; exact Or.inr (Rc.refl _)
 ·exfalso
  apply hn
  have : j = 0 ∨ j = 1 ∨ j = 2 ∨ j = 3 ∨ j = 4 := by omega
  rcases this with rfl | rfl | rfl | rfl | rfl <;> simp
 ·rw [show (x ∈ [5]) = (x = 5) by simp]
  constructor
  ·rintro rfl; exact ⟨by omega, Rc.refl _, Rc.refl _⟩
  ·rintro ⟨_, h, _⟩; exact c5 x h
 ·have : x = 0 ∨ x = 1 ∨ x = 2 ∨ x = 3 ∨ x = 4 ∨ x = 5 := by omega
  rcases this with rfl | rfl | rfl | rfl | rfl | rfl <;> simp
end Go.Di
end
section
/-
 Contracts: graphs that the law builds, edge by edge.
-/
namespace Go.Di
open Go.Ev Go.Di.T Go.Sort
variable {C : Nat → Ev.Call} {LA LO : LP}
structure Box where
 (g : Nat) (w : AV) (es : List Edge)
def upd (bx : Nat → Box) (i : Nat) (b : Box) : Nat → Box := fun j => if j = i then b else bx j
structure BX (H0 H : Hp) (bx : Nat → Box) : Prop where
 at' : ∀ i, i < 3 → H.get (bx i).g = qae 0 [.int .i64 (.ofNat 256), (bx i).w] ∧ GlE H (bx i).w (bx i).es ∧ (bx i).g < H0.nx ∧ ∀ b, In (bx i).w b → H0.nx ≤ b
 ne : ∀ i j, i < 3 → j < 3 → i ≠ j → (bx i).g ≠ (bx j).g ∧ ∀ b, In (bx i).w b → ¬ In (bx j).w b
 nx : H0.nx ≤ H.nx
theorem BX.app {H0 H : Hp} {bx : Nat → Box} (h : BX H0 H bx) {i : Nat} (hi : i < 3) (x : Edge) (hlen : (bx i).es.length < 100000) :
  ∃ (w : AV) (H' : Hp), qbc 3 24 (qaw H (qae 0 x.cells)) (bx i).w (some ⟨1, x.cells⟩) = .ok w H' ∧ H'.get (bx i).g = qae 0 [.int .i64 (.ofNat 256), (bx i).w] ∧ (∀ b o, qao H' (.ptr b o) w = storeAt H' b o [w] .undef) ∧
   BX H0 (H'.put (bx i).g (qae 0 [.int .i64 (.ofNat 256), w])) (upd bx i ⟨(bx i).g, w, (bx i).es ++ [x]⟩) := by
 obtain ⟨a1, a2, a3, a4⟩ := h.at' i hi
 have hg : (bx i).g < H.nx := Nat.lt_of_lt_of_le a3 h.nx
 have fP : Fm No H (qaw H (qae 0 x.cells)) := (Fm.refl _ _).push _
 have hgP : Gl 3 (qaw H (qae 0 x.cells)) (bx i).w (bx i).es.length (qf2 (bx i).es) := Gl.no a2 fP
 obtain ⟨H', e1, e2, _, e4, e5⟩ := hgP.append (w := 24) (k := 1) (x := x.cells) (by omega) rfl (by omega) (by omega)
 rw [np] at e1 e2 e5
 have hnw : ¬ In (bx i).w (bx i).g := fun hb => by have := a4 _ hb; omega
 have fA : Fm (In (bx i).w) H H' := (fP.mono fun _ _ h => h.elim).then e4 fun _ _ h => h
 have hk := (fA.get _ hg hnw).trans a1
 refine ⟨_, H', e1, hk, e2.st H', ⟨fun j hj => ?_, fun j k hj hk' hjk => ?_, ?_⟩⟩
 ·by_cases e : j = i
  ·subst e
   unfold upd
   rw [if_pos rfl]
   refine ⟨qai _ _ _, ?_, a3, fun b hb => ?_⟩
   ·have hl : ((bx j).es ++ [x]).length = (bx j).es.length + 1 := by simp
    show Gl 3 _ _ ((bx j).es ++ [x]).length (qf2 ((bx j).es ++ [x]))
    rw [hl, ← q7f]
    refine e2.fm (S := fun b => b = (bx j).g) ((Fm.refl _ _).put _ _ fun _ => rfl) fun b hb e => ?_
    obtain ⟨_, _, _, _, h'⟩ := hb
    cases h'
    omega
   ·obtain ⟨_, _, _, _, h'⟩ := hb
    cases h'
    have := h.nx
    omega
  ·unfold upd
   rw [if_neg e]
   obtain ⟨c1, c2, c3, c4⟩ := h.at' j hj
   obtain ⟨d1, d2⟩ := h.ne j i hj hi e
   have hn : ¬ In (bx i).w (bx j).g := fun hb => by have := a4 _ hb; omega
   refine ⟨?_, ?_, c3, c4⟩
   ·rw [qan _ _ _ _ d1]
    exact (fA.get _ (Nat.lt_of_lt_of_le c3 h.nx) hn).trans c1
   ·refine Gl.fm (Gl.fm c2 fA d2) (S := fun b => b = (bx i).g) ((Fm.refl _ _).put _ _ fun _ => rfl) fun b hb e' => ?_
    have := c4 b hb
    omega
 ·have new : ∀ m, m < 3 → m ≠ i → ∀ b, In (bx m).w b → b ≠ H.nx + 1 := fun m hm _ b hb e' => by
   have := Gl.lt (h.at' m hm).2.1 hb
   omega
  unfold upd
  by_cases e : j = i
  ·subst e
   rw [if_pos rfl, if_neg (Ne.symm hjk)]
   refine ⟨(h.ne j k hj hk' hjk).1, fun b hb hb' => ?_⟩
   obtain ⟨_, _, _, _, h'⟩ := hb
   cases h'
   exact new k hk' (Ne.symm hjk) _ hb' rfl
  ·rw [if_neg e]
   by_cases e2 : k = i
   ·subst e2
    rw [if_pos rfl]
    refine ⟨(h.ne j k hj hk' hjk).1, fun b hb hb' => ?_⟩
    obtain ⟨_, _, _, _, h'⟩ := hb'
    cases h'
    exact new j hj e _ hb rfl
   ·rw [if_neg e2]
    exact h.ne j k hj hk' hjk
 ·have := h.nx
  show H0.nx ≤ H'.nx
  omega
theorem q7o (i : Nat) : qia (i + 1) = qia i ++ [⟨i, (i + 1) % 256, decide (i = 200)⟩] := by unfold qia; rw [List.range_succ, List.map_append]; rfl
theorem q7i (i : Nat) : qop (i + 1) = qop i ++ [⟨i + 1, i, false⟩] := by unfold qop; rw [List.range_succ, List.map_append]; rfl
theorem zc3 (i : Nat) : upE (i + 1) = upE i ++ [⟨i, i + 1, true⟩] := by unfold upE; rw [List.range_succ, List.map_append]; rfl
theorem qts (i : Nat) : (qia i).length = i := by simp [qia]
theorem q0c (i : Nat) : (qop i).length = i := by simp [qop]
theorem q0v (i : Nat) : (upE i).length = i := by simp [upE]
theorem qle {call : Ev.Call} {H0 : Hp} {g1 g2 g3 : Nat} {q : Hp → R1} {Q : AV → Hp → Prop} (hq : ∀ H bx, BX H0 H bx → (bx 0).g = g1 → (bx 1).g = g2 → (bx 2).g = g3 → (bx 0).es = qia 256 → (bx 1).es = qop 255 → (bx 2).es = upE 255 → Ok (q H) Q) :
  ∀ (k i : Nat) (H : Hp) (bx : Nat → Box), 256 - i < k → i ≤ 256 → BX H0 H bx → (bx 0).g = g1 → (bx 1).g = g2 → (bx 2).g = g3 → (bx 0).es = qia i → (bx 1).es = qop (i - 1) → (bx 2).es = upE (min i 255) →
   Ok (qch call q (.ptr g1 0) (.ptr g2 0) (.ptr g3 0) k (.int .i64 (.ofNat i)) H) Q
 | 0, i, H, bx, h, _, _, _, _, _, _, _, _ => by omega
 | k + 1, i, H, bx, h, hi, hB, rfl, rfl, rfl, h1, h2, h3 => by
  show Ok (qxh call _ _ _ _ (qch call _ _ _ _ k) _ H) Q
  unfold qxh
  by_cases hlt : i < 256
  ·simp (disch := first | omega | exact ti rfl | (simp only [np, nq]; first | done | omega)) only [go_sem, reduceAdd, reduceMul, reduceSub, reduceLeDiff, reduceEqDiff, reduceShiftRight, reduceAnd, hlt]
   refine q2f ?_
   unfold qd4
   have hm : (i + 1) % 256 < 256 := Nat.mod_lt _ (by omega)
   obtain ⟨a1, _, _, _⟩ := hB.at' 0 (by omega)
   obtain ⟨w1, H1, b1, b2, b3, hB1⟩ := hB.app (i := 0) (by omega) ⟨i, (i + 1) % 256, decide (i = 200)⟩ (by rw [h1, qts]; omega)
   have es6 : ∀ x a b : AV, setL [a, b] 1 [x] = [a, x] := fun _ _ _ => rfl
   unfold Edge.cells at b1
   simp (disch := first | omega | exact ti rfl | (simp only [np, nq]; first | done | omega)) only [go_sem, reduceAdd, reduceMul, reduceSub, reduceLeDiff, reduceEqDiff, reduceShiftRight, reduceAnd, a1, b1, b2, b3, es6, List.length_cons, List.length_nil]
   generalize H1.put (bx 0).g (qae 0 [.int .i64 (.ofNat 256), w1]) = H1' at *
   generalize hbx1 : upd bx 0 ⟨(bx 0).g, w1, (bx 0).es ++ [⟨i, (i + 1) % 256, decide (i = 200)⟩]⟩ = bx1 at *
   have x0 : (bx1 0).g = (bx 0).g ∧ (bx1 0).es = qia (i + 1) := by rw [← hbx1, q7o, ← h1]; exact ⟨rfl, rfl⟩
   have x1 : bx1 1 = bx 1 := by rw [← hbx1]; rfl
   have x2 : bx1 2 = bx 2 := by rw [← hbx1]; rfl
   have last : ∀ (H2 : Hp) (bx2 : Nat → Box), BX H0 H2 bx2 → (bx2 0).g = (bx 0).g → (bx2 1).g = (bx 1).g → (bx2 2).g = (bx 2).g → (bx2 0).es = qia (i + 1) → (bx2 1).es = qop (i + 1 - 1) → (bx2 2).es = upE (min i 255) →
     Ok (qjs call (qch call q (.ptr (bx 0).g 0) (.ptr (bx 1).g 0) (.ptr (bx 2).g 0) k) (.ptr (bx 2).g 0) (.int .i64 (.ofNat i)) H2) Q := fun H2 bx2 hB2 y0 y1 y2 z0 z1 z2 => by
    refine q2h ?_
    unfold qd6
    by_cases h255 : i < 255
    ·obtain ⟨a1, _, _, _⟩ := hB2.at' 2 (by omega)
     obtain ⟨w3, H3, b1, b2, b3, hB3⟩ := hB2.app (i := 2) (by omega) ⟨i, i + 1, true⟩ (by rw [z2, q0v]; omega)
     unfold Edge.cells at b1
     rw [y2] at a1 b2 hB3
     simp (disch := first | omega | exact ti rfl | (simp only [np, nq]; first | done | omega)) only [go_sem, reduceAdd, reduceMul, reduceSub, reduceLeDiff, reduceEqDiff, reduceShiftRight, reduceAnd, h255, a1, b1, b2, b3, es6, List.length_cons, List.length_nil]
     refine qs0 ?_
     unfold qcz
     simp (disch := first | omega | exact ti rfl | (simp only [np, nq]; first | done | omega)) only [go_sem, reduceAdd, reduceMul, reduceSub, reduceLeDiff, reduceEqDiff, reduceShiftRight, reduceAnd]
     refine qle hq k (i + 1) _ _ (by omega) (by omega) hB3 y0 y1 rfl z0 z1 ?_
     have e1 : min i 255 = i := by omega
     have e2 : min (i + 1) 255 = i + 1 := by omega
     rw [e1] at z2
     rw [e2, zc3, ← z2]; rfl
    ·simp (disch := first | omega | exact ti rfl | (simp only [np, nq]; first | done | omega)) only [go_sem, reduceAdd, reduceMul, reduceSub, reduceLeDiff, reduceEqDiff, reduceShiftRight, reduceAnd, h255]
     refine qs0 ?_
     unfold qcz
     simp (disch := first | omega | exact ti rfl | (simp only [np, nq]; first | done | omega)) only [go_sem, reduceAdd, reduceMul, reduceSub, reduceLeDiff, reduceEqDiff, reduceShiftRight, reduceAnd]
     refine qle hq k (i + 1) _ _ (by omega) (by omega) hB2 y0 y1 y2 z0 z1 ?_
     have e1 : min i 255 = 255 := by omega
     have e2 : min (i + 1) 255 = 255 := by omega
     rw [e1] at z2
     rw [e2]; exact z2
   refine q2g ?_
   unfold qd5
   by_cases h00 : 0 < i
   ·obtain ⟨p, rfl⟩ : ∃ p, i = p + 1 := ⟨i - 1, by omega⟩
    obtain ⟨a1', _, _, _⟩ := hB1.at' 1 (by omega)
    obtain ⟨w2, H2, b1', b2', b3', hB2⟩ := hB1.app (i := 1) (by omega) ⟨p + 1, p, false⟩ (by rw [x1, h2, q0c]; omega)
    unfold Edge.cells at b1'
    rw [x1] at a1' b1' b2' hB2
    simp (disch := first | omega | exact ti rfl | (simp only [np, nq]; first | done | omega)) only [go_sem, reduceAdd, reduceMul, reduceSub, reduceLeDiff, reduceEqDiff, reduceShiftRight, reduceAnd, h00, a1', b1', b2', b3', es6, List.length_cons, List.length_nil, Nat.add_sub_cancel]
    refine last _ _ hB2 x0.1 rfl (by show (bx1 2).g = _; rw [x2]) x0.2 ?_ (by show (bx1 2).es = _; rw [x2]; exact h3)
    show (bx 1).es ++ [_] = _
    rw [h2, Nat.add_sub_cancel, Nat.add_sub_cancel, q7i]
   ·simp (disch := first | omega | exact ti rfl | (simp only [np, nq]; first | done | omega)) only [go_sem, reduceAdd, reduceMul, reduceSub, reduceLeDiff, reduceEqDiff, reduceShiftRight, reduceAnd, h00]
    have hi0 : i = 0 := by omega
    refine last _ _ hB1 x0.1 (by rw [x1]) (by rw [x2]) x0.2 (by rw [x1, h2, hi0]) (by rw [x2]; exact h3)
  ·simp (disch := first | omega | exact ti rfl | (simp only [np, nq]; first | done | omega)) only [go_sem, reduceAdd, reduceMul, reduceSub, reduceLeDiff, reduceEqDiff, reduceShiftRight, reduceAnd, hlt]
   have : i = 256 := by omega
   subst this
   exact hq H bx hB rfl rfl rfl h1 h2 h3
end Go.Di
end
section
/-
 Contracts: components that are the same as a given list; the law's check of known orders.
-/
namespace Go.Di
open Go.Ev Go.Di.T Go.Sort
variable {C : Nat → Ev.Call} {LA LO : LP}
theorem CR.no {HB H H' : Hp} {n : Nat} {lv iv : AV} {os : List AV} {res : List (List Nat)} {ins : List Nat} (h : CR HB H n lv iv os res ins) (ff : Fm No H H') : CR HB H' n lv iv os res ins :=
 ⟨h.gl.no ff, h.cap, h.len, fun j w o h1 h2 => by
  obtain ⟨a1, a2, a3⟩ := h.at' j w o h1 h2
  exact ⟨a1.no ff, a2, a3⟩, h.gi.no ff, h.capi, h.ins, h.new⟩
theorem q39 (hC : qbt C) {k : Nat} (hk : 2 ≤ k) {HB H0 H : Hp} {n : Nat} {v w lv iv : AV} {os cs : List AV} {res : List (List Nat)} {ins2 : List Nat} (hn : n < 900) (hlr : res.length < 900) (hlo : ∀ o ∈ res, o.length < 900) (hCR : CR HB H n lv iv os res ins2) (hL : LsOk H0 H v cs res) (hw0 : Rl H w (nats ins2)) :
  Ok (C k (.f qz0) [.agg [lv, iv], v, w] H) fun r H' => r = .bool true ∧ Fm No H H' := by
 obtain ⟨j, rfl⟩ : ∃ j, k = j + 1 := ⟨k - 1, by omega⟩
 rw [(hC j).lwS]
 unfold lwS zg0
 have e1 := hCR.gl.lenV
 have e2 := hL.gl.lenV
 have hl1 := hCR.len
 have hl2 := hL.len
 have hc := hCR.cap
 have hoc : cs.length = os.length := by omega
 rw [hoc] at e2
 generalize hH1 : qaw H (qae 0 [lv, iv]) = H1
 have f1 : Fm No H H1 := by rw [← hH1]; exact (Fm.refl _ _).push _
 have g1 : H1.get H.nx = qae 0 [lv, iv] := by rw [← hH1, qar]
 have hw : Rl H1 w (nats ins2) := hw0.fm f1
 have hi2 : (nats ins2).length = n := by have := hCR.gi.len; omega
 have e3 : C j (.f qj6) [iv, .int .i64 (.ofNat 0), w, .int .i64 (.ofNat 0)] H1 = .ok (.bool true) H1 := by
  obtain ⟨r, H', h1, rfl, rfl⟩ := qmg hC (k := j) (by omega) (hCR.gi.no f1).rl hw (qpx ins2) (by omega) (by rw [hi2]; exact hCR.capi) (Int.ofNat 0)
  exact h1
 simp (disch := first | omega | exact ti rfl | (simp only [np, nq]; first | done | omega)) only [go_sem, reduceAdd, reduceMul, reduceSub, reduceLeDiff, reduceEqDiff, reduceShiftRight, reduceAnd, hH1, g1, e1, e2, hc, e3]
 unfold q2a q98
 rw [qam]
 refine qy2 hC (j := j) (by omega) g1 (hCR.gl.no f1) hl1 (by omega) (fun j' w o h1 h2 => ?_) (hL.no f1) ?_ qak 0 (by rw [qag]; omega) (Nat.zero_le _)
 ·obtain ⟨a1, a2, _⟩ := hCR.at' j' w o h1 h2
  exact ⟨a1.no f1, a2, hlo o (List.mem_of_getElem? h2)⟩
 ·unfold qsu
  exact Ok.ret ⟨rfl, f1⟩
theorem qs9 {call : Ev.Call} {H : Hp} {ab b0 o0 : Nat} {lv iv l0 wb wc : AV} (ha : H.get ab = qae 0 [lv, iv]) (h0 : idxS 1 lv (.int .i64 (.ofNat 0)) = .val (.ptr b0 o0)) (h1 : qbl (H.get b0) o0 = .val l0) (hl : Gl 1 H l0 256 (nats (List.range 256))) (hb : Gl 1 H wb 256 (nats (List.range 256))) (hc : Gl 1 H wc 256 (nats ((List.range 256).map fun i => 255 - i)))
  {q1 : AV → Hp → R1} {q2 : Hp → R1} {Q : AV → Hp → Prop} (hq : Ok (q2 H) Q) :
  ∀ (k i : Nat), 256 - i < k → i ≤ 256 → Ok (qgc call q1 q2 (.ptr ab 0) wb wc k (.int .i64 (.ofNat i)) H) Q
 | 0, i, h, _ => by omega
 | k + 1, i, h, hi => by
  show Ok (q2o call _ _ _ _ _ (qgc call _ _ _ _ _ k) _ H) Q
  unfold q2o
  by_cases hlt : i < 256
  ·simp (disch := first | omega | exact ti rfl | (simp only [np, nq]; first | done | omega)) only [go_sem, reduceAdd, reduceMul, reduceSub, reduceLeDiff, reduceEqDiff, reduceShiftRight, reduceAnd, hlt]
   refine q60 ?_
   unfold qfs
   have g1 : (nats (List.range 256))[i]? = some (.int .i64 (.ofNat i)) := by unfold nats; rw [List.getElem?_map, List.getElem?_range hlt]; rfl
   have g2 : (nats ((List.range 256).map fun i => 255 - i))[i]? = some (.int .i64 (.ofNat (255 - i))) := by unfold nats; rw [List.getElem?_map, List.getElem?_map, List.getElem?_range hlt]; rfl
   obtain ⟨b1, o1, c1, _, _, c2⟩ := hb.at g1
   obtain ⟨b2, o2, c3, _, _, c4⟩ := hc.at g2
   obtain ⟨b3, o3, c5, _, _, c6⟩ := hl.at g1
   have hs : intV (qaa .sub).f (.int .i64 (.ofNat 255)) (.int .i64 (.ofNat i)) = .val (.int .i64 (.ofNat (255 - i))) := q8g _ _ (by omega) (by omega)
   simp (disch := first | omega | exact ti rfl | (simp only [np, nq]; first | done | omega)) only [go_sem, reduceAdd, reduceMul, reduceSub, reduceLeDiff, reduceEqDiff, reduceShiftRight, reduceAnd, ha, h0, h1, c1, c2, c3, c4, c5, c6, hs]
   refine q61 ?_
   unfold qft
   simp (disch := first | omega | exact ti rfl | (simp only [np, nq]; first | done | omega)) only [go_sem, reduceAdd, reduceMul, reduceSub, reduceLeDiff, reduceEqDiff, reduceShiftRight, reduceAnd]
   refine q62 ?_
   unfold qfu
   simp (disch := first | omega | exact ti rfl | (simp only [np, nq]; first | done | omega)) only [go_sem, reduceAdd, reduceMul, reduceSub, reduceLeDiff, reduceEqDiff, reduceShiftRight, reduceAnd]
   exact qs9 ha h0 h1 hl hb hc hq k (i + 1) (by omega) (by omega)
  ·simp (disch := first | omega | exact ti rfl | (simp only [np, nq]; first | done | omega)) only [go_sem, reduceAdd, reduceMul, reduceSub, reduceLeDiff, reduceEqDiff, reduceShiftRight, reduceAnd, hlt]
   exact hq
end Go.Di
end
section
/-
 The law CompsKnown.
-/
namespace Go.Di
open Go.Ev Go.Di.T Go.Sort
variable {C : Nat → Ev.Call} {LA LO : LP}
theorem qu8 {H : Hp} {b n : Nat} {l : List AV} (h : H.get b = qae 0 l) (hl : l.length = n) (hb : b < H.nx) : Gl 1 H (.sl b 0 n n true) n l :=
 ⟨by omega, .inr ⟨b, 0, true, 0, _, rfl, h, Nat.zero_le _, List.drop_zero, Or.inl rfl, hb⟩⟩
def bx0 (a : Nat) (i : Nat) : Box := ⟨a + i, .nilsl, []⟩
theorem zj8 {H : Hp} {a : Nat} (h : ∀ i, i < 3 → H.get (a + i) = qae 0 [.int .i64 (.ofNat 256), .nilsl]) (hn : a + 3 ≤ H.nx) : BX H H (bx0 a) := by
 have no : ∀ b, ¬ In .nilsl b := fun b hb => by obtain ⟨_, _, _, _, h⟩ := hb; cases h
 exact ⟨fun i hi => ⟨h i hi, Gl.nil _ _, (by show a + i < H.nx; omega), fun b hb => (no b hb).elim⟩, fun i j _ _ hij => ⟨(by show a + i ≠ a + j; omega), fun b hb => (no b hb).elim⟩, Nat.le_refl _⟩
theorem zex {ins R : List Nat} (hi : ∀ x, x < 256 → ins[x]? = some 0) (ha : R.Pairwise (· < ·)) (hm : ∀ x, x ∈ R ↔ x ∈ mixL ins (qia 256)) : R = [0] := by
 have g : ∀ x, x < 256 → ins.getD x 0 = 0 := fun x hx => by rw [List.getD_eq_getElem?_getD, hi x hx]; rfl
 refine qym ha (List.pairwise_singleton _ _) fun x => ?_
 rw [hm, q4x, List.mem_singleton]
 constructor
 ·rintro ⟨e, he, _, _, h⟩
  rw [g _ (qqj.rng e he).1] at h
  exact h.symm
 ·rintro rfl
  exact ⟨⟨200, 201, true⟩, List.mem_map.2 ⟨200, List.mem_range.2 (by omega), rfl⟩, rfl, by rw [g _ (show 200 < 256 by omega), g _ (show 201 < 256 by omega)], g _ (show 200 < 256 by omega)⟩
theorem zib {ins R : List Nat} (hi : ∀ x, x < 256 → ins[x]? = some (255 - x)) (hm : ∀ x, x ∈ R ↔ x ∈ mixL ins (upE 255)) : R = [] := by
 have g : ∀ x, x < 256 → ins.getD x 0 = 255 - x := fun x hx => by rw [List.getD_eq_getElem?_getD, hi x hx]; rfl
 refine List.eq_nil_iff_forall_not_mem.2 fun x hx => ?_
 obtain ⟨e, he, _, h, _⟩ := q4x.1 ((hm x).1 hx)
 obtain ⟨i, hi', rfl⟩ := List.mem_map.1 he
 rw [List.mem_range] at hi'
 have h : ins.getD i 0 = ins.getD (i + 1) 0 := h
 rw [g _ (by omega), g _ (by omega)] at h
 omega
theorem zc4 {i x : Nat} (h : x < i) : (topL i)[x]? = some [255 - x] := by
 unfold topL
 rw [List.getElem?_map, List.getElem?_range h]; rfl
theorem qyn (hC : qbt C) (hO : qc7 C) (hS : qbe C) (hR : qc8 LA LO C) {k : Nat} (hk : 1500 ≤ k) (hlive : ∀ k H, 1 ≤ k → C k (.f qcm) [] H = .ok (.bool true) H) {call : Ev.Call} (hcall : call = C k) {H : Hp} :
  Ok (lwK call H) fun r _ => r = .bool true := by
 subst hcall
 unfold lwK zg2
 have es3 : ∀ x y a b : AV, setL [a, b] 0 [x, y] = [x, y] := fun _ _ _ _ => rfl
 simp (disch := first | omega | exact ti rfl | (simp only [np, nq]; first | done | omega)) only [go_sem, reduceAdd, reduceMul, reduceSub, reduceLeDiff, reduceEqDiff, reduceShiftRight, reduceAnd, es3, List.length_cons, List.length_nil]
 generalize hH0 : (((qaw (qaw (qaw H (qae 0 [.int .i64 (.ofNat 0), .nilsl])) (qae 0 [.int .i64 (.ofNat 0), .nilsl])) (qae 0 [.int .i64 (.ofNat 0), .nilsl])).put H.nx (qae 0 [.int .i64 (.ofNat 256), .nilsl])).put (H.nx + 1) (qae 0 [.int .i64 (.ofNat 256), .nilsl])).put (H.nx + 1 + 1) (qae 0 [.int .i64 (.ofNat 256), .nilsl]) = H0
 have hb0 : BX H0 H0 (bx0 H.nx) := by
  refine zj8 (fun i hi => ?_) (by rw [← hH0]; show H.nx + 3 ≤ H.nx + 1 + 1 + 1; omega)
  rw [← hH0]
  have : i = 0 ∨ i = 1 ∨ i = 2 := by omega
  rcases this with rfl | rfl | rfl
  ·rw [qan _ _ _ _ (by omega), qan _ _ _ _ (by omega)]; exact qai _ _ _
  ·rw [qan _ _ _ _ (by omega)]; exact qai _ _ _
  ·exact qai _ _ _
 refine q2d ?_
 unfold qd3 qxi
 rw [qam]
 refine qle (H0 := H0) (fun H1 bx hB y0 y1 y2 q0 q1 q2 => ?_) qak 0 H0 (bx0 H.nx) (by rw [qag]; omega) (Nat.zero_le _) hb0 rfl rfl rfl rfl rfl rfl
 obtain ⟨p1, p2, p3, _⟩ := hB.at' 0 (by omega)
 obtain ⟨r1, r2, r3, _⟩ := hB.at' 1 (by omega)
 obtain ⟨s1, s2, s3, _⟩ := hB.at' 2 (by omega)
 have hbn := hB.nx
 rw [y0] at p1 p3
 rw [y1] at r1 r3
 rw [y2] at s1 s3
 rw [q0] at p2
 rw [q1] at r2
 rw [q2] at s2
 have p2 := p2.isE
 have r2 := r2.isE
 have s2 := s2.isE
 generalize (bx 0).w = w1 at *
 generalize (bx 1).w = w2 at *
 generalize (bx 2).w = w3 at *
 generalize ha1 : H.nx + 1 = a1 at *
 generalize ha2 : a1 + 1 = a2 at *
 refine q2i ?_
 unfold qd7
 simp (disch := first | omega | exact ti rfl | (simp only [np, nq]; first | done | omega)) only [go_sem, reduceAdd, reduceMul, reduceSub, reduceLeDiff, reduceEqDiff, reduceShiftRight, reduceAnd, p1]
 refine Ok.ve (zcw hC hO hS hR (k := k) (by omega) qqj (by omega) (by rw [qts]; omega) p2) ?_
 rintro r H2 ⟨lv, iv, os, ins2, out, ins, res, rfl, hOrd, hCR, f2⟩
 have hF := (hOrd.ord qqj.rng).uniq q5i
 subst hF
 have n2 := f2.nx
 have fa : Fm No H2 ((qaw H2 (qae 0 [.nilsl, .nilsl])).put H2.nx (qae 0 [lv, iv])) := by (repeat (first | exact Fm.refl _ _ | assumption | refine Fm.push ?_ _ | refine Fm.up2 ?_ (by (first | omega | (simp only [np, nq]; omega))) | refine Fm.put_new ?_ _ _ (by (first | omega | (simp only [np, nq]; omega)))))
 simp (disch := first | omega | exact ti rfl | (simp only [np, nq]; first | done | omega)) only [go_sem, reduceAdd, reduceMul, reduceSub, reduceLeDiff, reduceEqDiff, reduceShiftRight, reduceAnd, es3, List.length_cons, List.length_nil]
 generalize hH2 : (qaw H2 (qae 0 [AV.nilsl, AV.nilsl])).put H2.nx (qae 0 [lv, iv]) = H3 at *
 have c3 : H3.get H2.nx = qae 0 [lv, iv] := by rw [← hH2, qai]
 have n3 : H3.nx = H2.nx + 1 := by rw [← hH2]; rfl
 have f13 := f2.trans fa
 refine q2j ?_
 unfold qd8
 have r3' : H3.get a1 = qae 0 [.int .i64 (.ofNat 256), w2] := (f13.keep (by omega)).trans r1
 simp (disch := first | omega | exact ti rfl | (simp only [np, nq]; first | done | omega)) only [go_sem, reduceAdd, reduceMul, reduceSub, reduceLeDiff, reduceEqDiff, reduceShiftRight, reduceAnd, r3']
 refine Ok.ve (q5o hC hO hS hR (k := k) (by omega) zet (by omega) (by rw [q0c]; omega) (r2.fm f13)) ?_
 rintro r H4 ⟨wo, res4, rfl, hF4, _, gb, _, f4⟩
 have hF := hF4.uniq zes
 subst hF
 rw [qgi, List.length_range] at gb
 have n4 := f4.nx
 simp (disch := first | omega | exact ti rfl | (simp only [np, nq]; first | done | omega)) only [go_sem, reduceAdd, reduceMul, reduceSub, reduceLeDiff, reduceEqDiff, reduceShiftRight, reduceAnd]
 refine q2k ?_
 unfold qd9
 have f14 := f13.trans f4
 have s4 : H4.get a2 = qae 0 [.int .i64 (.ofNat 256), w3] := (f14.keep (by omega)).trans s1
 simp (disch := first | omega | exact ti rfl | (simp only [np, nq]; first | done | omega)) only [go_sem, reduceAdd, reduceMul, reduceSub, reduceLeDiff, reduceEqDiff, reduceShiftRight, reduceAnd, s4]
 refine Ok.ve (q5o hC hO hS hR (k := k) (by omega) q8a (by omega) (by rw [q0v]; omega) (s2.fm f14)) ?_
 rintro r H5 ⟨wp, res5, rfl, hF5, _, gc, _, f5⟩
 have hF := hF5.uniq zff
 subst hF
 rw [qqn, List.length_map, List.length_range] at gc
 have n5 := f5.nx
 simp (disch := first | omega | exact ti rfl | (simp only [np, nq]; first | done | omega)) only [go_sem, reduceAdd, reduceMul, reduceSub, reduceLeDiff, reduceEqDiff, reduceShiftRight, reduceAnd]
 refine q2l ?_
 unfold qea
 have f15 := f14.trans f5
 have p5 : H5.get H.nx = qae 0 [.int .i64 (.ofNat 256), w1] := (f15.keep (by omega)).trans p1
 simp (disch := first | omega | exact ti rfl | (simp only [np, nq]; first | done | omega)) only [go_sem, reduceAdd, reduceMul, reduceSub, reduceLeDiff, reduceEqDiff, reduceShiftRight, reduceAnd, p5]
 refine Ok.ve (q5p hC hO hS hR (k := k) (by omega) qqj (by omega) (by rw [qts]; omega) (p2.fm f15)) ?_
 rintro r H6 ⟨wx, res6, ins6, R6, rfl, hF6, hin6, hasc6, hmem6, hx6, hcx6, _, f6⟩
 have hF := hF6.uniq q5i
 subst hF
 have hR6 := zex (fun x hx => hin6 0 (List.range 256) x rfl (List.mem_range.2 hx)) hasc6 hmem6
 subst hR6
 have n6 := f6.nx
 simp (disch := first | omega | exact ti rfl | (simp only [np, nq]; first | done | omega)) only [go_sem, reduceAdd, reduceMul, reduceSub, reduceLeDiff, reduceEqDiff, reduceShiftRight, reduceAnd]
 refine q2m ?_
 unfold qeb
 have f16 := f15.trans f6
 have s6 : H6.get a2 = qae 0 [.int .i64 (.ofNat 256), w3] := (f16.keep (by omega)).trans s1
 simp (disch := first | omega | exact ti rfl | (simp only [np, nq]; first | done | omega)) only [go_sem, reduceAdd, reduceMul, reduceSub, reduceLeDiff, reduceEqDiff, reduceShiftRight, reduceAnd, s6]
 refine Ok.ve (q5p hC hO hS hR (k := k) (by omega) q8a (by omega) (by rw [q0v]; omega) (s2.fm f16)) ?_
 rintro r H7 ⟨wy, res7, ins7, R7, rfl, hF7, hin7, hasc7, hmem7, hx7, hcx7, _, f7⟩
 have hF := hF7.uniq zff
 subst hF
 have hR7 := zib (fun x hx => hin7 (255 - x) [255 - (255 - x)] x (zc4 (by omega)) (List.mem_singleton.2 (by omega))) hmem7
 subst hR7
 have n7 := f7.nx
 simp (disch := first | omega | exact ti rfl | (simp only [np, nq]; first | done | omega)) only [go_sem, reduceAdd, reduceMul, reduceSub, reduceLeDiff, reduceEqDiff, reduceShiftRight, reduceAnd]
 refine q2n ?_
 unfold qec
 have f37 : Fm No H3 H7 := ((f4.trans f5).trans f6).trans f7
 have c7 : H7.get H2.nx = qae 0 [lv, iv] := (f37.keep (by omega)).trans c3
 have f27 := fa.trans f37
 have hos := hCR.len
 have hos1 : os.length = 1 := by rw [hos]; rfl
 have elv := hCR.gl.lenV
 rw [hos1] at elv
 obtain ⟨b0, o0, i1, i2, _, i3⟩ := hCR.gl.at (i := 0) (x := os[0]'(by omega)) (by simp)
 obtain ⟨k1, k2, _⟩ := hCR.at' 0 (os[0]'(by omega)) (List.range 256) (by simp) rfl
 generalize os[0]'(by omega) = l0 at *
 rw [List.length_range] at k1
 have i3' : qbl (H7.get b0) o0 = .val l0 := by rw [f27.keep i2]; exact i3
 have ek := k1.lenV
 have gb7 : Gl 1 H7 wo 256 (nats (List.range 256)) := by
  exact (gb.no f5).no f6 |>.no f7
 have gc7 : Gl 1 H7 wp 256 (nats ((List.range 256).map fun i => 255 - i)) := by
  exact (gc.no f6).no f7
 have e4 := gb7.lenV
 have e5 := gc7.lenV
 have eL : (qaw H7 (qae 0 [.int .i64 (.ofNat 0)])).nx = H7.nx + 1 := rfl
 have f78 : Fm No H7 (qaw H7 (qae 0 [.int .i64 (.ofNat 0)])) := (Fm.refl _ _).push _
 have l1 : C k (.f qj6) [wx, .int .i64 (.ofNat 0), .sl H7.nx 0 1 1 true, .int .i64 (.ofNat 0)] (qaw H7 (qae 0 [.int .i64 (.ofNat 0)])) = .ok (.bool true) (qaw H7 (qae 0 [.int .i64 (.ofNat 0)])) := by
  obtain ⟨r, H', h1, rfl, rfl⟩ := qmg hC (k := k) (by omega) ((hx6.fm f7).fm f78) (qu8 (l := nats [0]) (qar _ _) rfl (Nat.lt_succ_self _)).rl (qpx [0]) (by decide) hcx6 (Int.ofNat 0)
  exact h1
 have l2 : C k (.f qj6) [wy, .int .i64 (.ofNat 0), .nilsl, .int .i64 (.ofNat 0)] (qaw H7 (qae 0 [.int .i64 (.ofNat 0)])) = .ok (.bool true) (qaw H7 (qae 0 [.int .i64 (.ofNat 0)])) := by
  obtain ⟨r, H', h1, rfl, rfl⟩ := qmg hC (k := k) (by omega) (hx7.fm f78) (Gl.nil 1 _).rl (qpx []) (by decide) hcx7 (Int.ofNat 0)
  exact h1
 simp (disch := first | omega | exact ti rfl | (simp only [np, nq]; first | done | omega)) only [go_sem, reduceAdd, reduceMul, reduceSub, reduceLeDiff, reduceEqDiff, reduceShiftRight, reduceAnd, c7, elv, i1, i3', ek, e4, e5, l1, l2]
 generalize hH8 : qaw H7 (qae 0 [.int .i64 (.ofNat 0)]) = H8 at *
 have c8 : H8.get H2.nx = qae 0 [lv, iv] := (f78.keep (by omega)).trans c7
 refine q6x ?_
 unfold qfq
 simp (disch := first | omega | exact ti rfl | (simp only [np, nq]; first | done | omega)) only [go_sem, reduceAdd, reduceMul, reduceSub, reduceLeDiff, reduceEqDiff, reduceShiftRight, reduceAnd]
 refine q6y ?_
 unfold qfr q2p
 rw [qam]
 refine qs9 (H := H8) c8 i1 (by rw [f78.keep (Nat.lt_of_lt_of_le i2 f27.nx)]; exact i3') ((k1.no f27).no f78) (gb7.no f78) (gc7.no f78) ?_ qak 0 (by rw [qag]; omega) (Nat.zero_le _)
 refine q63 ?_
 unfold qfv
 have es6 : ∀ x a b : AV, setL [a, b] 1 [x] = [a, x] := fun _ _ _ => rfl
 have hA : ∀ a b : Nat, aggN (qas [.int .i64 (.ofNat 0), .int .i64 (.ofNat 0), .bool false] [(0, 1, .int .i64 (.ofNat a)), (1, 1, .int .i64 (.ofNat b))]) = .val (.agg [.int .i64 (.ofNat a), .int .i64 (.ofNat b), .bool false]) := fun _ _ => rfl
 have hN : qfb 6 H8.nx (qas (reps [.int .i64 (.ofNat 0), .int .i64 (.ofNat 0), .bool false] 6) [(0, 3, .agg [.int .i64 (.ofNat 0), .int .i64 (.ofNat 2), .bool false]), (3, 3, .agg [.int .i64 (.ofNat 1), .int .i64 (.ofNat 3), .bool false]), (6, 3, .agg [.int .i64 (.ofNat 2), .int .i64 (.ofNat 4), .bool false]), (9, 3, .agg [.int .i64 (.ofNat 3), .int .i64 (.ofNat 1), .bool false]), (12, 3, .agg [.int .i64 (.ofNat 4), .int .i64 (.ofNat 0), .bool false]), (15, 3, .agg [.int .i64 (.ofNat 4), .int .i64 (.ofNat 1), .bool false])]) = .new (.sl H8.nx 0 6 6 true) (qae 0 (qf2 twoE)) := rfl
 simp only [hA, qj3, hN, zfe]
 have n8 : H8.nx = H7.nx + 1 := by rw [← hH8]; rfl
 simp (disch := first | omega | exact ti rfl | (simp only [np, nq]; first | done | omega)) only [go_sem, reduceAdd, reduceMul, reduceSub, reduceLeDiff, reduceEqDiff, reduceShiftRight, reduceAnd, es3, List.length_cons, List.length_nil]
 refine q64 ?_
 unfold qfw
 simp (disch := first | omega | exact ti rfl | (simp only [np, nq]; first | done | omega)) only [go_sem, reduceAdd, reduceMul, reduceSub, reduceLeDiff, reduceEqDiff, reduceShiftRight, reduceAnd]
 generalize hH9 : (qaw (qaw H8 (qae 0 (qf2 twoE))) (qae 0 [.int .i64 (.ofNat 0), .nilsl])).put (H8.nx + 1) (qae 0 [.int .i64 (.ofNat 6), .sl H8.nx 0 6 6 true]) = H9 at *
 have t9 : H9.get H8.nx = qae 0 (qf2 twoE) := by rw [← hH9, qan _ _ _ _ (by omega), qa2 _ _ _ (by (first | omega | (simp only [np, nq]; omega))), qar]
 have n9 : H9.nx = H8.nx + 2 := by rw [← hH9]; rfl
 have gT : GlE H9 (.sl H8.nx 0 6 6 true) twoE := ⟨rfl, .inr ⟨H8.nx, 0, true, 0, _, rfl, t9, Nat.zero_le _, List.drop_zero, Or.inl rfl, by omega⟩⟩
 refine Ok.ve (zcw hC hO hS hR (k := k) (by omega) q8b (by omega) (by decide) gT.isE) ?_
 rintro r HA ⟨lv2, iv2, os2, insA, outA, insB, resA, rfl, hOrd2, hCR2, fA⟩
 have hF := (hOrd2.ord q8b.rng).uniq zf5
 subst hF
 have nA := fA.nx
 simp (disch := first | omega | exact ti rfl | (simp only [np, nq]; first | done | omega)) only [go_sem, reduceAdd, reduceMul, reduceSub, reduceLeDiff, reduceEqDiff, reduceShiftRight, reduceAnd, es3, List.length_cons, List.length_nil]
 refine q65 ?_
 unfold qfx
 have fB : Fm No HA ((qaw HA (qae 0 [.nilsl, .nilsl])).put HA.nx (qae 0 [lv2, iv2])) := by (repeat (first | exact Fm.refl _ _ | assumption | refine Fm.push ?_ _ | refine Fm.up2 ?_ (by (first | omega | (simp only [np, nq]; omega))) | refine Fm.put_new ?_ _ _ (by (first | omega | (simp only [np, nq]; omega)))))
 generalize hHB : (qaw HA (qae 0 [AV.nilsl, AV.nilsl])).put HA.nx (qae 0 [lv2, iv2]) = HB at *
 have cB : HB.get HA.nx = qae 0 [lv2, iv2] := by rw [← hHB, qai]
 have nB : HB.nx = HA.nx + 1 := by rw [← hHB]; rfl
 simp (disch := first | omega | exact ti rfl | (simp only [np, nq]; first | done | omega)) only [go_sem, reduceAdd, reduceMul, reduceSub, reduceLeDiff, reduceEqDiff, reduceShiftRight, reduceAnd]
 have hE0 : qfk 0 [] := ⟨fun e he => (by cases he), fun i h => (by simp at h)⟩
 refine Ok.ve (zcw hC hO hS hR (k := k) (n := 0) (es := []) (by omega) hE0 (by omega) (by decide) (GlE.isE (Gl.nil 3 HB))) ?_
 rintro r HC ⟨lv3, iv3, os3, insC, outC, insD, resC, rfl, hOrd3, hCR3, fC⟩
 have hF := (hOrd3.ord hE0.rng).uniq (show OrdF 0 (qbd []) [] [] from fun x hx => absurd hx (Nat.not_lt_zero _))
 subst hF
 have nC := fC.nx
 simp (disch := first | omega | exact ti rfl | (simp only [np, nq]; first | done | omega)) only [go_sem, reduceAdd, reduceMul, reduceSub, reduceLeDiff, reduceEqDiff, reduceShiftRight, reduceAnd, es3, List.length_cons, List.length_nil]
 have fD : Fm No HC ((qaw HC (qae 0 [.nilsl, .nilsl])).put HC.nx (qae 0 [lv3, iv3])) := by (repeat (first | exact Fm.refl _ _ | assumption | refine Fm.push ?_ _ | refine Fm.up2 ?_ (by (first | omega | (simp only [np, nq]; omega))) | refine Fm.put_new ?_ _ _ (by (first | omega | (simp only [np, nq]; omega)))))
 generalize hHD : (qaw HC (qae 0 [AV.nilsl, AV.nilsl])).put HC.nx (qae 0 [lv3, iv3]) = HD at *
 have cD : HD.get HC.nx = qae 0 [lv3, iv3] := by rw [← hHD, qai]
 have nD : HD.nx = HC.nx + 1 := by rw [← hHD]; rfl
 have bD : HD.get HA.nx = qae 0 [lv2, iv2] := ((fC.trans fD).keep (by omega)).trans cB
 refine q66 ?_
 unfold qfy
 have q1 : reps [.int .i64 (.ofNat 0)] 1 = [.int .i64 (.ofNat 0)] := rfl
 have q2 : reps [.int .i64 (.ofNat 0)] 2 = [.int .i64 (.ofNat 0), .int .i64 (.ofNat 0)] := rfl
 have q3 : reps [.int .i64 (.ofNat 0)] 3 = [.int .i64 (.ofNat 0), .int .i64 (.ofNat 0), .int .i64 (.ofNat 0)] := rfl
 have q6 : reps [.int .i64 (.ofNat 0)] 6 = [.int .i64 (.ofNat 0), .int .i64 (.ofNat 0), .int .i64 (.ofNat 0), .int .i64 (.ofNat 0), .int .i64 (.ofNat 0), .int .i64 (.ofNat 0)] := rfl
 have qn : reps [.nilsl] 3 = [.nilsl, .nilsl, .nilsl] := rfl
 simp (disch := first | omega | exact ti rfl | (simp only [np, nq]; first | done | omega)) only [go_sem, reduceAdd, reduceMul, reduceSub, reduceLeDiff, reduceEqDiff, reduceShiftRight, reduceAnd, bD, q1, q2, q3, q6, qn, List.length_cons, List.length_nil]
 generalize hHE : (qaw (qaw (qaw (qaw (qaw HD (qae 0 [AV.int IntKind.i64 (Int.ofNat 1), AV.int IntKind.i64 (Int.ofNat 3)])) (qae 0 [AV.int IntKind.i64 (Int.ofNat 0), AV.int IntKind.i64 (Int.ofNat 2), AV.int IntKind.i64 (Int.ofNat 4)])) (qae 0 [AV.int IntKind.i64 (Int.ofNat 5)])) (qae 0 [AV.sl HD.nx 0 2 2 true, AV.sl (HD.nx + 1) 0 3 3 true, AV.sl (HD.nx + 1 + 1) 0 1 1 true])) (qae 0 [AV.int IntKind.i64 (Int.ofNat 1), AV.int IntKind.i64 (Int.ofNat 0), AV.int IntKind.i64 (Int.ofNat 1), AV.int IntKind.i64 (Int.ofNat 0), AV.int IntKind.i64 (Int.ofNat 1), AV.int IntKind.i64 (Int.ofNat 2)])) = HE at *
 have fE : Fm No HD HE := by rw [← hHE]; exact (((((Fm.refl _ _).push _).push _).push _).push _).push _
 have nE : HE.nx = HD.nx + 5 := by rw [← hHE]; rfl
 have u1 : HE.get HD.nx = qae 0 (nats [1, 3]) := by
  rw [← hHE]
  rw [qa2 _ _ _ (by (first | omega | (simp only [np, nq]; omega))), qa2 _ _ _ (by (first | omega | (simp only [np, nq]; omega))), qa2 _ _ _ (by (first | omega | (simp only [np, nq]; omega))), qa2 _ _ _ (by (first | omega | (simp only [np, nq]; omega)))]; exact qar _ _
 have u2 : HE.get (HD.nx + 1) = qae 0 (nats [0, 2, 4]) := by
  rw [← hHE]
  rw [qa2 _ _ _ (by (first | omega | (simp only [np, nq]; omega))), qa2 _ _ _ (by (first | omega | (simp only [np, nq]; omega))), qa2 _ _ _ (by (first | omega | (simp only [np, nq]; omega)))]; exact qar _ _
 have u3 : HE.get (HD.nx + 1 + 1) = qae 0 (nats [5]) := by
  rw [← hHE]
  rw [qa2 _ _ _ (by (first | omega | (simp only [np, nq]; omega))), qa2 _ _ _ (by (first | omega | (simp only [np, nq]; omega)))]; exact qar _ _
 have u4 : HE.get (HD.nx + 1 + 1 + 1) = qae 0 [AV.sl HD.nx 0 2 2 true, AV.sl (HD.nx + 1) 0 3 3 true, AV.sl (HD.nx + 1 + 1) 0 1 1 true] := by
  rw [← hHE]
  rw [qa2 _ _ _ (by (first | omega | (simp only [np, nq]; omega)))]; exact qar _ _
 have u5 : HE.get (HD.nx + 1 + 1 + 1 + 1) = qae 0 (nats [1, 0, 1, 0, 1, 2]) := by
  rw [← hHE]; exact qar _ _
 have inS : ∀ {b a o n m : Nat} {e : Bool}, In (.sl a o n m e) b → b = a := fun h => by
  obtain ⟨_, _, _, _, h⟩ := h
  cases h; rfl
 have hLs : LsOk HD HE (.sl (HD.nx + 1 + 1 + 1) 0 3 3 true) [AV.sl HD.nx 0 2 2 true, AV.sl (HD.nx + 1) 0 3 3 true, AV.sl (HD.nx + 1 + 1) 0 1 1 true] [[1, 3], [0, 2, 4], [5]] := by
  refine ⟨qu8 u4 rfl (by omega), rfl, fun b hb => by have := inS hb; omega, fun i c o h1 h2 => ?_⟩
  match i with
  | 0 =>
   cases h1; cases h2
   exact ⟨⟨_, _, _, _, _, rfl⟩, qu8 u1 rfl (by omega), fun b hb => ⟨by have := inS hb; omega, fun h => by have := inS hb; have := inS h; omega⟩⟩
  | 1 =>
   cases h1; cases h2
   exact ⟨⟨_, _, _, _, _, rfl⟩, qu8 u2 rfl (by omega), fun b hb => ⟨by have := inS hb; omega, fun h => by have := inS hb; have := inS h; omega⟩⟩
  | 2 =>
   cases h1; cases h2
   exact ⟨⟨_, _, _, _, _, rfl⟩, qu8 u3 rfl (by omega), fun b hb => ⟨by have := inS hb; omega, fun h => by have := inS hb; have := inS h; omega⟩⟩
  | i + 3 => cases h1
 have hiA : insA = [1, 0, 1, 0, 1, 2] := by
  have hl : insA.length = 6 := by have := hCR2.gi.len; rw [qbg] at this; omega
  have g0 := hCR2.ins 1 [0, 2, 4] 0 rfl (by simp)
  have g1 := hCR2.ins 0 [1, 3] 1 rfl (by simp)
  have g2 := hCR2.ins 1 [0, 2, 4] 2 rfl (by simp)
  have g3 := hCR2.ins 0 [1, 3] 3 rfl (by simp)
  have g4 := hCR2.ins 1 [0, 2, 4] 4 rfl (by simp)
  have g5 := hCR2.ins 2 [5] 5 rfl (by simp)
  match insA, hl with
  | [a, b, c, d, e, f], _ =>
   cases g0; cases g1; cases g2; cases g3; cases g4; cases g5
   rfl
 have hCRE := hCR2.no (((fB.trans fC).trans fD).trans fE)
 have cE : HE.get HC.nx = qae 0 [lv3, iv3] := (fE.keep (by omega)).trans cD
 refine Ok.ve (q39 hC (k := k) (by omega) (by omega) (by decide) (by decide) hCRE hLs (by rw [hiA]; exact (qu8 u5 rfl (by omega)).rl)) ?_
 rintro r HF ⟨rfl, fF⟩
 have cF : HF.get HC.nx = qae 0 [lv3, iv3] := (fF.keep (by omega)).trans cE
 simp (disch := first | omega | exact ti rfl | (simp only [np, nq]; first | done | omega)) only [go_sem, reduceAdd, reduceMul, reduceSub, reduceLeDiff, reduceEqDiff, reduceShiftRight, reduceAnd, cF]
 have hiC : insC = [] := by
  have := hCR3.gi.len
  rw [qbg] at this
  exact List.length_eq_zero_iff.1 (by omega)
 refine Ok.ve (q39 hC (k := k) (H0 := HF) (cs := []) (by omega) (by omega) (by decide) (fun o ho => by cases ho) (hCR3.no ((fD.trans fE).trans fF)) ⟨Gl.nil _ _, rfl, fun b hb => (by obtain ⟨_, _, _, _, h⟩ := hb; cases h), fun i c o h => (by cases h)⟩ (by rw [hiC]; exact (Gl.nil 1 HF).rl)) ?_
 rintro r HG ⟨rfl, fG⟩
 have hlv := hlive k HG (by omega)
 simp (disch := first | omega | exact ti rfl | (simp only [np, nq]; first | done | omega)) only [go_sem, reduceAdd, reduceMul, reduceSub, reduceLeDiff, reduceEqDiff, reduceShiftRight, reduceAnd, hlv]
 exact Ok.ret rfl
end Go.Di
end
