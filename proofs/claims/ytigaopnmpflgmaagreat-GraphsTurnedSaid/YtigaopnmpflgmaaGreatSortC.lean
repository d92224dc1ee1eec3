/-
  For countersignlaw16.GraphsTurned: contracts of the sort: partitions, and the whole. No conditions beyond those that each theorem states.
-/
import Derived.Test.YtigaopnmpflgmaaGreatSortB
set_option linter.unusedSimpArgs false
set_option linter.unusedVariables false
section
/-
  The sort: the scans.
-/
namespace Go.Di
open Go.Ev Go.Sort
variable {C : Nat → Ev.Call}
theorem part_up1 {call : Ev.Call} {fc : FuncId} (hc : CmpE call fc) {s : Sl} (hn : s.n < 900000) {a j : Nat} (ha : a < s.n) (hj : j < s.n) {d : Array Edge} {H0 : Hp} {q : AV → Hp → R1} {Q : AV → Hp → Prop} :
    ∀ (k i : Nat) (H : Hp), j + 1 - i < k → i ≤ 900001 → St s d H → Fs s H0 H → (∀ i' H', i ≤ i' → (i ≤ j → i' ≤ j + 1) → (j < i → i' = i) → scanUp (fun x => ltE x d[a]!) d j i = i' → St s d H' → Fs s H0 H' → Ok (q (.int .i64 (.ofNat i')) H') Q) →
      Ok (s_part_l163 call q s.v (.int .i64 (.ofNat a)) (.fn fc [] []) (.int .i64 (.ofNat j)) k (.int .i64 (.ofNat i)) H) Q
  | 0, _, _, h, _, _, _, _ => by omega
  | k + 1, i, H, hk, hi, hS, hF, hq => by
    show Ok (s_part_b163 call _ _ _ _ _ (s_part_l163 call _ _ _ _ _ k) _ H) Q
    unfold s_part_b163
    have hsz := hS.sz
    have hg := hS.get
    rw [scanUp] at hq
    by_cases h : i ≤ j
    · simp (disch := first | omega | exact tr_i rfl | (simp only [nx_push, nx_put]; done) | (simp only [nx_push, nx_put, Array.size_setIfInBounds, swp_size]; omega)) only [go_sem, Nat.reduceAdd, Nat.reduceMul, Nat.reduceSub, Nat.reduceLeDiff, Nat.reduceEqDiff, Nat.reduceShiftRight, Nat.reduceAnd, Sl.idx, Sl.rd, Sl.wr, cells_len, cells_eqF, callV_fn, Array.size_setIfInBounds, swp_size, lss0, ltE_eq, hg, h]
      refine Ok.deO (hc _ _ _) ?_
      rintro v H' ⟨rfl, f'⟩
      have hS' := hS.no f'
      have hg' := hS'.get
      simp (disch := first | omega | exact tr_i rfl | (simp only [nx_push, nx_put]; done) | (simp only [nx_push, nx_put, Array.size_setIfInBounds, swp_size]; omega)) only [go_sem, Nat.reduceAdd, Nat.reduceMul, Nat.reduceSub, Nat.reduceLeDiff, Nat.reduceEqDiff, Nat.reduceShiftRight, Nat.reduceAnd, Sl.idx, Sl.rd, Sl.wr, cells_len, cells_eqF, callV_fn, Array.size_setIfInBounds, swp_size, lss0, ltE_eq, hg']
      cases hl : ltE d[i]! d[a]! with
      | false =>
        simp (disch := first | omega | exact tr_i rfl | (simp only [nx_push, nx_put]; done) | (simp only [nx_push, nx_put, Array.size_setIfInBounds, swp_size]; omega)) only [go_sem, Nat.reduceAdd, Nat.reduceMul, Nat.reduceSub, Nat.reduceLeDiff, Nat.reduceEqDiff, Nat.reduceShiftRight, Nat.reduceAnd, Sl.idx, Sl.rd, Sl.wr, cells_len, cells_eqF, callV_fn, Array.size_setIfInBounds, swp_size, lss0, ltE_eq]
        exact hq i H' (Nat.le_refl _) (fun _ => by omega) (fun _ => rfl) (by simp [hl]) hS' (hF.trans f'.fs)
      | true =>
        simp (disch := first | omega | exact tr_i rfl | (simp only [nx_push, nx_put]; done) | (simp only [nx_push, nx_put, Array.size_setIfInBounds, swp_size]; omega)) only [go_sem, Nat.reduceAdd, Nat.reduceMul, Nat.reduceSub, Nat.reduceLeDiff, Nat.reduceEqDiff, Nat.reduceShiftRight, Nat.reduceAnd, Sl.idx, Sl.rd, Sl.wr, cells_len, cells_eqF, callV_fn, Array.size_setIfInBounds, swp_size, lss0, ltE_eq]
        unfold s_part_j165
        simp (disch := first | omega | exact tr_i rfl | (simp only [nx_push, nx_put]; done) | (simp only [nx_push, nx_put, Array.size_setIfInBounds, swp_size]; omega)) only [go_sem, Nat.reduceAdd, Nat.reduceMul, Nat.reduceSub, Nat.reduceLeDiff, Nat.reduceEqDiff, Nat.reduceShiftRight, Nat.reduceAnd, Sl.idx, Sl.rd, Sl.wr, cells_len, cells_eqF, callV_fn, Array.size_setIfInBounds, swp_size, lss0, ltE_eq]
        exact part_up1 hc hn ha hj k (i + 1) H' (by omega) (by omega) hS' (hF.trans f'.fs) fun i' H2 h1 h2 h3 h4 => hq i' H2 (by omega) (fun _ => by by_cases hij : i + 1 ≤ j; exact h2 hij; have := h3 (by omega); omega) (fun _ => by omega) (by simpa [h, hl] using h4)
    · simp (disch := first | omega | exact tr_i rfl | (simp only [nx_push, nx_put]; done) | (simp only [nx_push, nx_put, Array.size_setIfInBounds, swp_size]; omega)) only [go_sem, Nat.reduceAdd, Nat.reduceMul, Nat.reduceSub, Nat.reduceLeDiff, Nat.reduceEqDiff, Nat.reduceShiftRight, Nat.reduceAnd, Sl.idx, Sl.rd, Sl.wr, cells_len, cells_eqF, callV_fn, Array.size_setIfInBounds, swp_size, lss0, ltE_eq, h]
      exact hq i H (Nat.le_refl _) (fun hh => absurd hh h) (fun _ => rfl) (by simp [h]) hS hF
theorem part_up2 {call : Ev.Call} {fc : FuncId} (hc : CmpE call fc) {s : Sl} (hn : s.n < 900000) {a j : Nat} (ha : a < s.n) (hj : j < s.n) {d : Array Edge} {H0 : Hp} {q : AV → Hp → R1} {Q : AV → Hp → Prop} :
    ∀ (k i : Nat) (H : Hp), j + 1 - i < k → i ≤ 900001 → St s d H → Fs s H0 H → (∀ i' H', i ≤ i' → (i ≤ j → i' ≤ j + 1) → (j < i → i' = i) → scanUp (fun x => ltE x d[a]!) d j i = i' → St s d H' → Fs s H0 H' → Ok (q (.int .i64 (.ofNat i')) H') Q) →
      Ok (s_part_l101 call q s.v (.int .i64 (.ofNat a)) (.fn fc [] []) (.int .i64 (.ofNat j)) k (.int .i64 (.ofNat i)) H) Q
  | 0, _, _, h, _, _, _, _ => by omega
  | k + 1, i, H, hk, hi, hS, hF, hq => by
    show Ok (s_part_b101 call _ _ _ _ _ (s_part_l101 call _ _ _ _ _ k) _ H) Q
    unfold s_part_b101
    have hsz := hS.sz
    have hg := hS.get
    rw [scanUp] at hq
    by_cases h : i ≤ j
    · simp (disch := first | omega | exact tr_i rfl | (simp only [nx_push, nx_put]; done) | (simp only [nx_push, nx_put, Array.size_setIfInBounds, swp_size]; omega)) only [go_sem, Nat.reduceAdd, Nat.reduceMul, Nat.reduceSub, Nat.reduceLeDiff, Nat.reduceEqDiff, Nat.reduceShiftRight, Nat.reduceAnd, Sl.idx, Sl.rd, Sl.wr, cells_len, cells_eqF, callV_fn, Array.size_setIfInBounds, swp_size, lss0, ltE_eq, hg, h]
      refine Ok.deO (hc _ _ _) ?_
      rintro v H' ⟨rfl, f'⟩
      have hS' := hS.no f'
      have hg' := hS'.get
      simp (disch := first | omega | exact tr_i rfl | (simp only [nx_push, nx_put]; done) | (simp only [nx_push, nx_put, Array.size_setIfInBounds, swp_size]; omega)) only [go_sem, Nat.reduceAdd, Nat.reduceMul, Nat.reduceSub, Nat.reduceLeDiff, Nat.reduceEqDiff, Nat.reduceShiftRight, Nat.reduceAnd, Sl.idx, Sl.rd, Sl.wr, cells_len, cells_eqF, callV_fn, Array.size_setIfInBounds, swp_size, lss0, ltE_eq, hg']
      cases hl : ltE d[i]! d[a]! with
      | false =>
        simp (disch := first | omega | exact tr_i rfl | (simp only [nx_push, nx_put]; done) | (simp only [nx_push, nx_put, Array.size_setIfInBounds, swp_size]; omega)) only [go_sem, Nat.reduceAdd, Nat.reduceMul, Nat.reduceSub, Nat.reduceLeDiff, Nat.reduceEqDiff, Nat.reduceShiftRight, Nat.reduceAnd, Sl.idx, Sl.rd, Sl.wr, cells_len, cells_eqF, callV_fn, Array.size_setIfInBounds, swp_size, lss0, ltE_eq]
        exact hq i H' (Nat.le_refl _) (fun _ => by omega) (fun _ => rfl) (by simp [hl]) hS' (hF.trans f'.fs)
      | true =>
        simp (disch := first | omega | exact tr_i rfl | (simp only [nx_push, nx_put]; done) | (simp only [nx_push, nx_put, Array.size_setIfInBounds, swp_size]; omega)) only [go_sem, Nat.reduceAdd, Nat.reduceMul, Nat.reduceSub, Nat.reduceLeDiff, Nat.reduceEqDiff, Nat.reduceShiftRight, Nat.reduceAnd, Sl.idx, Sl.rd, Sl.wr, cells_len, cells_eqF, callV_fn, Array.size_setIfInBounds, swp_size, lss0, ltE_eq]
        unfold s_part_j103
        simp (disch := first | omega | exact tr_i rfl | (simp only [nx_push, nx_put]; done) | (simp only [nx_push, nx_put, Array.size_setIfInBounds, swp_size]; omega)) only [go_sem, Nat.reduceAdd, Nat.reduceMul, Nat.reduceSub, Nat.reduceLeDiff, Nat.reduceEqDiff, Nat.reduceShiftRight, Nat.reduceAnd, Sl.idx, Sl.rd, Sl.wr, cells_len, cells_eqF, callV_fn, Array.size_setIfInBounds, swp_size, lss0, ltE_eq]
        exact part_up2 hc hn ha hj k (i + 1) H' (by omega) (by omega) hS' (hF.trans f'.fs) fun i' H2 h1 h2 h3 h4 => hq i' H2 (by omega) (fun _ => by by_cases hij : i + 1 ≤ j; exact h2 hij; have := h3 (by omega); omega) (fun _ => by omega) (by simpa [h, hl] using h4)
    · simp (disch := first | omega | exact tr_i rfl | (simp only [nx_push, nx_put]; done) | (simp only [nx_push, nx_put, Array.size_setIfInBounds, swp_size]; omega)) only [go_sem, Nat.reduceAdd, Nat.reduceMul, Nat.reduceSub, Nat.reduceLeDiff, Nat.reduceEqDiff, Nat.reduceShiftRight, Nat.reduceAnd, Sl.idx, Sl.rd, Sl.wr, cells_len, cells_eqF, callV_fn, Array.size_setIfInBounds, swp_size, lss0, ltE_eq, h]
      exact hq i H (Nat.le_refl _) (fun hh => absurd hh h) (fun _ => rfl) (by simp [h]) hS hF
theorem peq_up {call : Ev.Call} {fc : FuncId} (hc : CmpE call fc) {s : Sl} (hn : s.n < 900000) {a j : Nat} (ha : a < s.n) (hj : j < s.n) {d : Array Edge} {H0 : Hp} {q : AV → Hp → R1} {Q : AV → Hp → Prop} :
    ∀ (k i : Nat) (H : Hp), j + 1 - i < k → i ≤ 900001 → St s d H → Fs s H0 H → (∀ i' H', i ≤ i' → (i ≤ j → i' ≤ j + 1) → (j < i → i' = i) → scanUp (fun x => !ltE d[a]! x) d j i = i' → St s d H' → Fs s H0 H' → Ok (q (.int .i64 (.ofNat i')) H') Q) →
      Ok (s_peq_l64 call q s.v (.int .i64 (.ofNat a)) (.fn fc [] []) (.int .i64 (.ofNat j)) k (.int .i64 (.ofNat i)) H) Q
  | 0, _, _, h, _, _, _, _ => by omega
  | k + 1, i, H, hk, hi, hS, hF, hq => by
    show Ok (s_peq_b64 call _ _ _ _ _ (s_peq_l64 call _ _ _ _ _ k) _ H) Q
    unfold s_peq_b64
    have hsz := hS.sz
    have hg := hS.get
    rw [scanUp] at hq
    by_cases h : i ≤ j
    · simp (disch := first | omega | exact tr_i rfl | (simp only [nx_push, nx_put]; done) | (simp only [nx_push, nx_put, Array.size_setIfInBounds, swp_size]; omega)) only [go_sem, Nat.reduceAdd, Nat.reduceMul, Nat.reduceSub, Nat.reduceLeDiff, Nat.reduceEqDiff, Nat.reduceShiftRight, Nat.reduceAnd, Sl.idx, Sl.rd, Sl.wr, cells_len, cells_eqF, callV_fn, Array.size_setIfInBounds, swp_size, lss0, ltE_eq, hg, h]
      refine Ok.deO (hc _ _ _) ?_
      rintro v H' ⟨rfl, f'⟩
      have hS' := hS.no f'
      have hg' := hS'.get
      simp (disch := first | omega | exact tr_i rfl | (simp only [nx_push, nx_put]; done) | (simp only [nx_push, nx_put, Array.size_setIfInBounds, swp_size]; omega)) only [go_sem, Nat.reduceAdd, Nat.reduceMul, Nat.reduceSub, Nat.reduceLeDiff, Nat.reduceEqDiff, Nat.reduceShiftRight, Nat.reduceAnd, Sl.idx, Sl.rd, Sl.wr, cells_len, cells_eqF, callV_fn, Array.size_setIfInBounds, swp_size, lss0, ltE_eq, hg']
      cases hl : ltE d[a]! d[i]! with
      | true =>
        simp (disch := first | omega | exact tr_i rfl | (simp only [nx_push, nx_put]; done) | (simp only [nx_push, nx_put, Array.size_setIfInBounds, swp_size]; omega)) only [go_sem, Nat.reduceAdd, Nat.reduceMul, Nat.reduceSub, Nat.reduceLeDiff, Nat.reduceEqDiff, Nat.reduceShiftRight, Nat.reduceAnd, Sl.idx, Sl.rd, Sl.wr, cells_len, cells_eqF, callV_fn, Array.size_setIfInBounds, swp_size, lss0, ltE_eq]
        exact hq i H' (Nat.le_refl _) (fun _ => by omega) (fun _ => rfl) (by simp [hl]) hS' (hF.trans f'.fs)
      | false =>
        simp (disch := first | omega | exact tr_i rfl | (simp only [nx_push, nx_put]; done) | (simp only [nx_push, nx_put, Array.size_setIfInBounds, swp_size]; omega)) only [go_sem, Nat.reduceAdd, Nat.reduceMul, Nat.reduceSub, Nat.reduceLeDiff, Nat.reduceEqDiff, Nat.reduceShiftRight, Nat.reduceAnd, Sl.idx, Sl.rd, Sl.wr, cells_len, cells_eqF, callV_fn, Array.size_setIfInBounds, swp_size, lss0, ltE_eq]
        unfold s_peq_j66
        simp (disch := first | omega | exact tr_i rfl | (simp only [nx_push, nx_put]; done) | (simp only [nx_push, nx_put, Array.size_setIfInBounds, swp_size]; omega)) only [go_sem, Nat.reduceAdd, Nat.reduceMul, Nat.reduceSub, Nat.reduceLeDiff, Nat.reduceEqDiff, Nat.reduceShiftRight, Nat.reduceAnd, Sl.idx, Sl.rd, Sl.wr, cells_len, cells_eqF, callV_fn, Array.size_setIfInBounds, swp_size, lss0, ltE_eq]
        exact peq_up hc hn ha hj k (i + 1) H' (by omega) (by omega) hS' (hF.trans f'.fs) fun i' H2 h1 h2 h3 h4 => hq i' H2 (by omega) (fun _ => by by_cases hij : i + 1 ≤ j; exact h2 hij; have := h3 (by omega); omega) (fun _ => by omega) (by simpa [h, hl] using h4)
    · simp (disch := first | omega | exact tr_i rfl | (simp only [nx_push, nx_put]; done) | (simp only [nx_push, nx_put, Array.size_setIfInBounds, swp_size]; omega)) only [go_sem, Nat.reduceAdd, Nat.reduceMul, Nat.reduceSub, Nat.reduceLeDiff, Nat.reduceEqDiff, Nat.reduceShiftRight, Nat.reduceAnd, Sl.idx, Sl.rd, Sl.wr, cells_len, cells_eqF, callV_fn, Array.size_setIfInBounds, swp_size, lss0, ltE_eq, h]
      exact hq i H (Nat.le_refl _) (fun hh => absurd hh h) (fun _ => rfl) (by simp [h]) hS hF
theorem part_dn1 {call : Ev.Call} {fc : FuncId} (hc : CmpE call fc) {s : Sl} (hn : s.n < 900000) {a i : Nat} (ha : a < s.n) (hi : 1 ≤ i) {d : Array Edge} {H0 : Hp} {q : AV → Hp → R1} {Q : AV → Hp → Prop} :
    ∀ (k j : Nat) (H : Hp), j < k → j < s.n → St s d H → Fs s H0 H → (∀ j' H', j' ≤ j → (i ≤ j → i ≤ j' + 1) → (j < i → j' = j) → scanDown (fun x => !ltE x d[a]!) d i j = j' → St s d H' → Fs s H0 H' → Ok (q (.int .i64 (.ofNat j')) H') Q) →
      Ok (s_part_l141 call q s.v (.int .i64 (.ofNat a)) (.fn fc [] []) (.int .i64 (.ofNat i)) k (.int .i64 (.ofNat j)) H) Q
  | 0, _, _, h, _, _, _, _ => by omega
  | k + 1, 0, H, hk, hj, hS, hF, hq => by
    show Ok (s_part_b141 call _ _ _ _ _ (s_part_l141 call _ _ _ _ _ k) _ H) Q
    unfold s_part_b141
    have h : ¬ i ≤ 0 := by omega
    simp (disch := first | omega | exact tr_i rfl | (simp only [nx_push, nx_put]; done) | (simp only [nx_push, nx_put, Array.size_setIfInBounds, swp_size]; omega)) only [go_sem, Nat.reduceAdd, Nat.reduceMul, Nat.reduceSub, Nat.reduceLeDiff, Nat.reduceEqDiff, Nat.reduceShiftRight, Nat.reduceAnd, Sl.idx, Sl.rd, Sl.wr, cells_len, cells_eqF, callV_fn, Array.size_setIfInBounds, swp_size, lss0, ltE_eq, h]
    exact hq 0 H (Nat.le_refl _) (fun _ => by omega) (fun _ => rfl) rfl hS hF
  | k + 1, j + 1, H, hk, hj, hS, hF, hq => by
    show Ok (s_part_b141 call _ _ _ _ _ (s_part_l141 call _ _ _ _ _ k) _ H) Q
    unfold s_part_b141
    have hsz := hS.sz
    have hg := hS.get
    rw [scanDown] at hq
    by_cases h : i ≤ j + 1
    · simp (disch := first | omega | exact tr_i rfl | (simp only [nx_push, nx_put]; done) | (simp only [nx_push, nx_put, Array.size_setIfInBounds, swp_size]; omega)) only [go_sem, Nat.reduceAdd, Nat.reduceMul, Nat.reduceSub, Nat.reduceLeDiff, Nat.reduceEqDiff, Nat.reduceShiftRight, Nat.reduceAnd, Sl.idx, Sl.rd, Sl.wr, cells_len, cells_eqF, callV_fn, Array.size_setIfInBounds, swp_size, lss0, ltE_eq, hg, h]
      refine Ok.deO (hc _ _ _) ?_
      rintro v H' ⟨rfl, f'⟩
      have hS' := hS.no f'
      have hg' := hS'.get
      simp (disch := first | omega | exact tr_i rfl | (simp only [nx_push, nx_put]; done) | (simp only [nx_push, nx_put, Array.size_setIfInBounds, swp_size]; omega)) only [go_sem, Nat.reduceAdd, Nat.reduceMul, Nat.reduceSub, Nat.reduceLeDiff, Nat.reduceEqDiff, Nat.reduceShiftRight, Nat.reduceAnd, Sl.idx, Sl.rd, Sl.wr, cells_len, cells_eqF, callV_fn, Array.size_setIfInBounds, swp_size, lss0, ltE_eq, hg']
      cases hl : ltE d[j + 1]! d[a]! with
      | true =>
        simp (disch := first | omega | exact tr_i rfl | (simp only [nx_push, nx_put]; done) | (simp only [nx_push, nx_put, Array.size_setIfInBounds, swp_size]; omega)) only [go_sem, Nat.reduceAdd, Nat.reduceMul, Nat.reduceSub, Nat.reduceLeDiff, Nat.reduceEqDiff, Nat.reduceShiftRight, Nat.reduceAnd, Sl.idx, Sl.rd, Sl.wr, cells_len, cells_eqF, callV_fn, Array.size_setIfInBounds, swp_size, lss0, ltE_eq]
        exact hq (j + 1) H' (Nat.le_refl _) (fun _ => by omega) (fun _ => rfl) (by simp [hl]) hS' (hF.trans f'.fs)
      | false =>
        simp (disch := first | omega | exact tr_i rfl | (simp only [nx_push, nx_put]; done) | (simp only [nx_push, nx_put, Array.size_setIfInBounds, swp_size]; omega)) only [go_sem, Nat.reduceAdd, Nat.reduceMul, Nat.reduceSub, Nat.reduceLeDiff, Nat.reduceEqDiff, Nat.reduceShiftRight, Nat.reduceAnd, Sl.idx, Sl.rd, Sl.wr, cells_len, cells_eqF, callV_fn, Array.size_setIfInBounds, swp_size, lss0, ltE_eq]
        unfold s_part_j143
        simp (disch := first | omega | exact tr_i rfl | (simp only [nx_push, nx_put]; done) | (simp only [nx_push, nx_put, Array.size_setIfInBounds, swp_size]; omega)) only [go_sem, Nat.reduceAdd, Nat.reduceMul, Nat.reduceSub, Nat.reduceLeDiff, Nat.reduceEqDiff, Nat.reduceShiftRight, Nat.reduceAnd, Sl.idx, Sl.rd, Sl.wr, cells_len, cells_eqF, callV_fn, Array.size_setIfInBounds, swp_size, lss0, ltE_eq, Nat.add_sub_cancel]
        exact part_dn1 hc hn ha hi k j H' (by omega) (by omega) hS' (hF.trans f'.fs) fun j' H2 h1 h2 h3 h4 => hq j' H2 (by omega) (fun _ => by by_cases hij : i ≤ j; exact h2 hij; have := h3 (by omega); omega) (fun _ => by omega) (by simpa [h, hl] using h4)
    · simp (disch := first | omega | exact tr_i rfl | (simp only [nx_push, nx_put]; done) | (simp only [nx_push, nx_put, Array.size_setIfInBounds, swp_size]; omega)) only [go_sem, Nat.reduceAdd, Nat.reduceMul, Nat.reduceSub, Nat.reduceLeDiff, Nat.reduceEqDiff, Nat.reduceShiftRight, Nat.reduceAnd, Sl.idx, Sl.rd, Sl.wr, cells_len, cells_eqF, callV_fn, Array.size_setIfInBounds, swp_size, lss0, ltE_eq, h]
      exact hq (j + 1) H (Nat.le_refl _) (fun hh => absurd hh h) (fun _ => rfl) (by simp [h]) hS hF
theorem part_dn2 {call : Ev.Call} {fc : FuncId} (hc : CmpE call fc) {s : Sl} (hn : s.n < 900000) {a i : Nat} (ha : a < s.n) (hi : 1 ≤ i) {d : Array Edge} {H0 : Hp} {q : AV → Hp → R1} {Q : AV → Hp → Prop} :
    ∀ (k j : Nat) (H : Hp), j < k → j < s.n → St s d H → Fs s H0 H → (∀ j' H', j' ≤ j → (i ≤ j → i ≤ j' + 1) → (j < i → j' = j) → scanDown (fun x => !ltE x d[a]!) d i j = j' → St s d H' → Fs s H0 H' → Ok (q (.int .i64 (.ofNat j')) H') Q) →
      Ok (s_part_l79 call q s.v (.int .i64 (.ofNat a)) (.fn fc [] []) (.int .i64 (.ofNat i)) k (.int .i64 (.ofNat j)) H) Q
  | 0, _, _, h, _, _, _, _ => by omega
  | k + 1, 0, H, hk, hj, hS, hF, hq => by
    show Ok (s_part_b79 call _ _ _ _ _ (s_part_l79 call _ _ _ _ _ k) _ H) Q
    unfold s_part_b79
    have h : ¬ i ≤ 0 := by omega
    simp (disch := first | omega | exact tr_i rfl | (simp only [nx_push, nx_put]; done) | (simp only [nx_push, nx_put, Array.size_setIfInBounds, swp_size]; omega)) only [go_sem, Nat.reduceAdd, Nat.reduceMul, Nat.reduceSub, Nat.reduceLeDiff, Nat.reduceEqDiff, Nat.reduceShiftRight, Nat.reduceAnd, Sl.idx, Sl.rd, Sl.wr, cells_len, cells_eqF, callV_fn, Array.size_setIfInBounds, swp_size, lss0, ltE_eq, h]
    exact hq 0 H (Nat.le_refl _) (fun _ => by omega) (fun _ => rfl) rfl hS hF
  | k + 1, j + 1, H, hk, hj, hS, hF, hq => by
    show Ok (s_part_b79 call _ _ _ _ _ (s_part_l79 call _ _ _ _ _ k) _ H) Q
    unfold s_part_b79
    have hsz := hS.sz
    have hg := hS.get
    rw [scanDown] at hq
    by_cases h : i ≤ j + 1
    · simp (disch := first | omega | exact tr_i rfl | (simp only [nx_push, nx_put]; done) | (simp only [nx_push, nx_put, Array.size_setIfInBounds, swp_size]; omega)) only [go_sem, Nat.reduceAdd, Nat.reduceMul, Nat.reduceSub, Nat.reduceLeDiff, Nat.reduceEqDiff, Nat.reduceShiftRight, Nat.reduceAnd, Sl.idx, Sl.rd, Sl.wr, cells_len, cells_eqF, callV_fn, Array.size_setIfInBounds, swp_size, lss0, ltE_eq, hg, h]
      refine Ok.deO (hc _ _ _) ?_
      rintro v H' ⟨rfl, f'⟩
      have hS' := hS.no f'
      have hg' := hS'.get
      simp (disch := first | omega | exact tr_i rfl | (simp only [nx_push, nx_put]; done) | (simp only [nx_push, nx_put, Array.size_setIfInBounds, swp_size]; omega)) only [go_sem, Nat.reduceAdd, Nat.reduceMul, Nat.reduceSub, Nat.reduceLeDiff, Nat.reduceEqDiff, Nat.reduceShiftRight, Nat.reduceAnd, Sl.idx, Sl.rd, Sl.wr, cells_len, cells_eqF, callV_fn, Array.size_setIfInBounds, swp_size, lss0, ltE_eq, hg']
      cases hl : ltE d[j + 1]! d[a]! with
      | true =>
        simp (disch := first | omega | exact tr_i rfl | (simp only [nx_push, nx_put]; done) | (simp only [nx_push, nx_put, Array.size_setIfInBounds, swp_size]; omega)) only [go_sem, Nat.reduceAdd, Nat.reduceMul, Nat.reduceSub, Nat.reduceLeDiff, Nat.reduceEqDiff, Nat.reduceShiftRight, Nat.reduceAnd, Sl.idx, Sl.rd, Sl.wr, cells_len, cells_eqF, callV_fn, Array.size_setIfInBounds, swp_size, lss0, ltE_eq]
        exact hq (j + 1) H' (Nat.le_refl _) (fun _ => by omega) (fun _ => rfl) (by simp [hl]) hS' (hF.trans f'.fs)
      | false =>
        simp (disch := first | omega | exact tr_i rfl | (simp only [nx_push, nx_put]; done) | (simp only [nx_push, nx_put, Array.size_setIfInBounds, swp_size]; omega)) only [go_sem, Nat.reduceAdd, Nat.reduceMul, Nat.reduceSub, Nat.reduceLeDiff, Nat.reduceEqDiff, Nat.reduceShiftRight, Nat.reduceAnd, Sl.idx, Sl.rd, Sl.wr, cells_len, cells_eqF, callV_fn, Array.size_setIfInBounds, swp_size, lss0, ltE_eq]
        unfold s_part_j81
        simp (disch := first | omega | exact tr_i rfl | (simp only [nx_push, nx_put]; done) | (simp only [nx_push, nx_put, Array.size_setIfInBounds, swp_size]; omega)) only [go_sem, Nat.reduceAdd, Nat.reduceMul, Nat.reduceSub, Nat.reduceLeDiff, Nat.reduceEqDiff, Nat.reduceShiftRight, Nat.reduceAnd, Sl.idx, Sl.rd, Sl.wr, cells_len, cells_eqF, callV_fn, Array.size_setIfInBounds, swp_size, lss0, ltE_eq, Nat.add_sub_cancel]
        exact part_dn2 hc hn ha hi k j H' (by omega) (by omega) hS' (hF.trans f'.fs) fun j' H2 h1 h2 h3 h4 => hq j' H2 (by omega) (fun _ => by by_cases hij : i ≤ j; exact h2 hij; have := h3 (by omega); omega) (fun _ => by omega) (by simpa [h, hl] using h4)
    · simp (disch := first | omega | exact tr_i rfl | (simp only [nx_push, nx_put]; done) | (simp only [nx_push, nx_put, Array.size_setIfInBounds, swp_size]; omega)) only [go_sem, Nat.reduceAdd, Nat.reduceMul, Nat.reduceSub, Nat.reduceLeDiff, Nat.reduceEqDiff, Nat.reduceShiftRight, Nat.reduceAnd, Sl.idx, Sl.rd, Sl.wr, cells_len, cells_eqF, callV_fn, Array.size_setIfInBounds, swp_size, lss0, ltE_eq, h]
      exact hq (j + 1) H (Nat.le_refl _) (fun hh => absurd hh h) (fun _ => rfl) (by simp [h]) hS hF
theorem peq_dn {call : Ev.Call} {fc : FuncId} (hc : CmpE call fc) {s : Sl} (hn : s.n < 900000) {a i : Nat} (ha : a < s.n) (hi : 1 ≤ i) {d : Array Edge} {H0 : Hp} {q : AV → Hp → R1} {Q : AV → Hp → Prop} :
    ∀ (k j : Nat) (H : Hp), j < k → j < s.n → St s d H → Fs s H0 H → (∀ j' H', j' ≤ j → (i ≤ j → i ≤ j' + 1) → (j < i → j' = j) → scanDown (fun x => ltE d[a]! x) d i j = j' → St s d H' → Fs s H0 H' → Ok (q (.int .i64 (.ofNat j')) H') Q) →
      Ok (s_peq_l43 call q s.v (.int .i64 (.ofNat a)) (.fn fc [] []) (.int .i64 (.ofNat i)) k (.int .i64 (.ofNat j)) H) Q
  | 0, _, _, h, _, _, _, _ => by omega
  | k + 1, 0, H, hk, hj, hS, hF, hq => by
    show Ok (s_peq_b43 call _ _ _ _ _ (s_peq_l43 call _ _ _ _ _ k) _ H) Q
    unfold s_peq_b43
    have h : ¬ i ≤ 0 := by omega
    simp (disch := first | omega | exact tr_i rfl | (simp only [nx_push, nx_put]; done) | (simp only [nx_push, nx_put, Array.size_setIfInBounds, swp_size]; omega)) only [go_sem, Nat.reduceAdd, Nat.reduceMul, Nat.reduceSub, Nat.reduceLeDiff, Nat.reduceEqDiff, Nat.reduceShiftRight, Nat.reduceAnd, Sl.idx, Sl.rd, Sl.wr, cells_len, cells_eqF, callV_fn, Array.size_setIfInBounds, swp_size, lss0, ltE_eq, h]
    exact hq 0 H (Nat.le_refl _) (fun _ => by omega) (fun _ => rfl) rfl hS hF
  | k + 1, j + 1, H, hk, hj, hS, hF, hq => by
    show Ok (s_peq_b43 call _ _ _ _ _ (s_peq_l43 call _ _ _ _ _ k) _ H) Q
    unfold s_peq_b43
    have hsz := hS.sz
    have hg := hS.get
    rw [scanDown] at hq
    by_cases h : i ≤ j + 1
    · simp (disch := first | omega | exact tr_i rfl | (simp only [nx_push, nx_put]; done) | (simp only [nx_push, nx_put, Array.size_setIfInBounds, swp_size]; omega)) only [go_sem, Nat.reduceAdd, Nat.reduceMul, Nat.reduceSub, Nat.reduceLeDiff, Nat.reduceEqDiff, Nat.reduceShiftRight, Nat.reduceAnd, Sl.idx, Sl.rd, Sl.wr, cells_len, cells_eqF, callV_fn, Array.size_setIfInBounds, swp_size, lss0, ltE_eq, hg, h]
      refine Ok.deO (hc _ _ _) ?_
      rintro v H' ⟨rfl, f'⟩
      have hS' := hS.no f'
      have hg' := hS'.get
      simp (disch := first | omega | exact tr_i rfl | (simp only [nx_push, nx_put]; done) | (simp only [nx_push, nx_put, Array.size_setIfInBounds, swp_size]; omega)) only [go_sem, Nat.reduceAdd, Nat.reduceMul, Nat.reduceSub, Nat.reduceLeDiff, Nat.reduceEqDiff, Nat.reduceShiftRight, Nat.reduceAnd, Sl.idx, Sl.rd, Sl.wr, cells_len, cells_eqF, callV_fn, Array.size_setIfInBounds, swp_size, lss0, ltE_eq, hg']
      cases hl : ltE d[a]! d[j + 1]! with
      | false =>
        simp (disch := first | omega | exact tr_i rfl | (simp only [nx_push, nx_put]; done) | (simp only [nx_push, nx_put, Array.size_setIfInBounds, swp_size]; omega)) only [go_sem, Nat.reduceAdd, Nat.reduceMul, Nat.reduceSub, Nat.reduceLeDiff, Nat.reduceEqDiff, Nat.reduceShiftRight, Nat.reduceAnd, Sl.idx, Sl.rd, Sl.wr, cells_len, cells_eqF, callV_fn, Array.size_setIfInBounds, swp_size, lss0, ltE_eq]
        exact hq (j + 1) H' (Nat.le_refl _) (fun _ => by omega) (fun _ => rfl) (by simp [hl]) hS' (hF.trans f'.fs)
      | true =>
        simp (disch := first | omega | exact tr_i rfl | (simp only [nx_push, nx_put]; done) | (simp only [nx_push, nx_put, Array.size_setIfInBounds, swp_size]; omega)) only [go_sem, Nat.reduceAdd, Nat.reduceMul, Nat.reduceSub, Nat.reduceLeDiff, Nat.reduceEqDiff, Nat.reduceShiftRight, Nat.reduceAnd, Sl.idx, Sl.rd, Sl.wr, cells_len, cells_eqF, callV_fn, Array.size_setIfInBounds, swp_size, lss0, ltE_eq]
        unfold s_peq_j45
        simp (disch := first | omega | exact tr_i rfl | (simp only [nx_push, nx_put]; done) | (simp only [nx_push, nx_put, Array.size_setIfInBounds, swp_size]; omega)) only [go_sem, Nat.reduceAdd, Nat.reduceMul, Nat.reduceSub, Nat.reduceLeDiff, Nat.reduceEqDiff, Nat.reduceShiftRight, Nat.reduceAnd, Sl.idx, Sl.rd, Sl.wr, cells_len, cells_eqF, callV_fn, Array.size_setIfInBounds, swp_size, lss0, ltE_eq, Nat.add_sub_cancel]
        exact peq_dn hc hn ha hi k j H' (by omega) (by omega) hS' (hF.trans f'.fs) fun j' H2 h1 h2 h3 h4 => hq j' H2 (by omega) (fun _ => by by_cases hij : i ≤ j; exact h2 hij; have := h3 (by omega); omega) (fun _ => by omega) (by simpa [h, hl] using h4)
    · simp (disch := first | omega | exact tr_i rfl | (simp only [nx_push, nx_put]; done) | (simp only [nx_push, nx_put, Array.size_setIfInBounds, swp_size]; omega)) only [go_sem, Nat.reduceAdd, Nat.reduceMul, Nat.reduceSub, Nat.reduceLeDiff, Nat.reduceEqDiff, Nat.reduceShiftRight, Nat.reduceAnd, Sl.idx, Sl.rd, Sl.wr, cells_len, cells_eqF, callV_fn, Array.size_setIfInBounds, swp_size, lss0, ltE_eq, h]
      exact hq (j + 1) H (Nat.le_refl _) (fun hh => absurd hh h) (fun _ => rfl) (by simp [h]) hS hF
end Go.Di
end

section
/-
  The sort: the partitions.
-/
namespace Go.Di
open Go.Ev Go.Sort
variable {C : Nat → Ev.Call}
theorem partLoop_eq (a i j i2 j2 : Nat) (d : Array Edge) (h1 : scanUp (fun x => ltE x d[a]!) d j i = i2) (h2 : scanDown (fun x => !ltE x d[a]!) d i2 j = j2) (h3 : i ≤ i2) (h4 : j2 ≤ j) (h5 : 1 ≤ i) :
    partLoop ltE a i j d = if i2 > j2 then (j2, d) else partLoop ltE a (i2 + 1) (j2 - 1) (swp d i2 j2) := by
  rw [partLoop]
  simp only [h1, h2]
  by_cases h : i2 > j2
  · rw [if_pos h, if_pos h]
  · rw [if_neg h, if_neg h, dif_pos (by omega)]
theorem partEqLoop_eq (a i j i2 j2 : Nat) (d : Array Edge) (h1 : scanUp (fun x => !ltE d[a]! x) d j i = i2) (h2 : scanDown (fun x => ltE d[a]! x) d i2 j = j2) (h3 : i ≤ i2) (h4 : j2 ≤ j) (h5 : 1 ≤ i) :
    partEqLoop ltE a i j d = if i2 > j2 then (i2, d) else partEqLoop ltE a (i2 + 1) (j2 - 1) (swp d i2 j2) := by
  rw [partEqLoop]
  simp only [h1, h2]
  by_cases h : i2 > j2
  · rw [if_pos h, if_pos h]
  · rw [if_neg h, if_neg h, dif_pos (by omega)]
theorem part_in {call : Ev.Call} {fc : FuncId} (hc : CmpE call fc) {s : Sl} (hn : s.n < 900000) {a : Nat} (ha : a < s.n) {H0 : Hp} {q : AV → Hp → R1} {Q : AV → Hp → Prop} :
    ∀ (k i j : Nat) (d : Array Edge) (H : Hp), j + 1 - i < k → 1 ≤ i → i ≤ 900000 → j < s.n → St s d H → Fs s H0 H →
      (∀ j' d' H', partLoop ltE a i j d = (j', d') → j' < s.n → St s d' H' → Fs s H0 H' → Ok (q (.int .i64 (.ofNat j')) H') Q) →
      Ok (s_part_l56 call q s.v (.int .i64 (.ofNat a)) (.fn fc [] []) k (.int .i64 (.ofNat i)) (.int .i64 (.ofNat j)) H) Q
  | 0, _, _, _, _, h, _, _, _, _, _, _ => by omega
  | k + 1, i, j, d, H, hk, h1, hi, hj, hS, hF, hq => by
    show Ok (s_part_b56 call _ _ _ _ (s_part_l56 call _ _ _ _ k) _ _ H) Q
    unfold s_part_b56 s_part_L101
    rw [fuelX_eq]
    refine part_up2 hc hn ha hj loopFuel i H (by rw [loopFuel_eq]; omega) (by omega) hS hF fun i2 H1 g1 g2 g3 g4 hS1 hF1 => ?_
    unfold s_part_j100 s_part_L79
    rw [fuelX_eq]
    refine part_dn2 hc hn ha (by omega) loopFuel j H1 (by rw [loopFuel_eq]; omega) hj hS1 hF1 fun j2 H2 e1 e2 e3 e4 hS2 hF2 => ?_
    rw [partLoop_eq a i j i2 j2 d g4 e4 g1 e1 h1] at hq
    unfold s_part_j78
    by_cases h : j2 < i2
    · rw [if_pos h] at hq
      simp (disch := first | omega | exact tr_i rfl | (simp only [nx_push, nx_put]; done) | (simp only [nx_push, nx_put, Array.size_setIfInBounds, swp_size]; omega)) only [go_sem, Nat.reduceAdd, Nat.reduceMul, Nat.reduceSub, Nat.reduceLeDiff, Nat.reduceEqDiff, Nat.reduceShiftRight, Nat.reduceAnd, Sl.idx, Sl.rd, Sl.wr, cells_len, cells_eqF, callV_fn, Array.size_setIfInBounds, swp_size, lss0, ltE_eq, h]
      exact hq j2 d H2 rfl (by omega) hS2 hF2
    · rw [if_neg h] at hq
      simp (disch := first | omega | exact tr_i rfl | (simp only [nx_push, nx_put]; done) | (simp only [nx_push, nx_put, Array.size_setIfInBounds, swp_size]; omega)) only [go_sem, Nat.reduceAdd, Nat.reduceMul, Nat.reduceSub, Nat.reduceLeDiff, Nat.reduceEqDiff, Nat.reduceShiftRight, Nat.reduceAnd, Sl.idx, Sl.rd, Sl.wr, cells_len, cells_eqF, callV_fn, Array.size_setIfInBounds, swp_size, lss0, ltE_eq, h]
      unfold s_part_j76
      have hsz := hS2.sz
      have hg := hS2.get
      have b1 : i2 ≤ 900000 := by omega
      simp (disch := first | omega | exact tr_i rfl | (simp only [nx_push, nx_put]; done) | (simp only [nx_push, nx_put, Array.size_setIfInBounds, swp_size]; omega)) only [go_sem, Nat.reduceAdd, Nat.reduceMul, Nat.reduceSub, Nat.reduceLeDiff, Nat.reduceEqDiff, Nat.reduceShiftRight, Nat.reduceAnd, Sl.idx, Sl.rd, Sl.wr, cells_len, cells_eqF, callV_fn, Array.size_setIfInBounds, swp_size, lss0, ltE_eq, hg]
      exact part_in hc hn ha k (i2 + 1) (j2 - 1) (swp d i2 j2) _ (by omega) (by omega) (by omega) (by omega) (hS2.put2 (swp_size _ _ _)) (Fs.put2 hF2) hq
theorem part_ok (hC : LinksS C) {k : Nat} (hk : 1 ≤ k) {fc : FuncId} (hc : CmpE (C (k - 1)) fc) {s : Sl} (hn : s.n < 900000) {a b p : Nat} (ha : a < b) (hb : b ≤ s.n) (hp : a ≤ p ∧ p < b) {d : Array Edge} {H : Hp} (hS : St s d H) :
    Ok (C k (.f id_s_part) [s.v, .int .i64 (.ofNat a), .int .i64 (.ofNat b), .int .i64 (.ofNat p), .fn fc [] []] H) fun r H' =>
      ∃ m al d', partition ltE d a b p = (m, al, d') ∧ r = .tup [.int .i64 (.ofNat m), .bool al] ∧ St s d' H' ∧ Fs s H H' := by
  obtain ⟨k, rfl⟩ : ∃ j, k = j + 1 := ⟨k - 1, by omega⟩
  have hc : CmpE (C k) fc := hc
  rw [(hC k).s_part]
  unfold s_part s_part_c
  have hsz := hS.sz
  have hg := hS.get
  have hpn : p < s.n := by omega
  simp (disch := first | omega | exact tr_i rfl | (simp only [nx_push, nx_put]; done) | (simp only [nx_push, nx_put, Array.size_setIfInBounds, swp_size]; omega)) only [go_sem, Nat.reduceAdd, Nat.reduceMul, Nat.reduceSub, Nat.reduceLeDiff, Nat.reduceEqDiff, Nat.reduceShiftRight, Nat.reduceAnd, Sl.idx, Sl.rd, Sl.wr, cells_len, cells_eqF, callV_fn, Array.size_setIfInBounds, swp_size, lss0, ltE_eq, hg]
  unfold s_part_L163
  rw [fuelX_eq]
  have hS0 : St s (swp d a p) _ := hS.put2 (d1 := d.setIfInBounds a d[p]!) (swp_size d a p)
  have hF0 : Fs s H _ := Fs.put2 (d1 := d.setIfInBounds a d[p]!) (d2 := swp d a p) (Fm.refl _ H)
  refine part_up1 hc hn (by omega) (j := b - 1) (by omega) loopFuel (a + 1) _ (by rw [loopFuel_eq]; omega) (by omega) hS0 hF0 fun i2 H1 g1 g2 g3 g4 hS1 hF1 => ?_
  unfold s_part_j162 s_part_L141
  rw [fuelX_eq]
  refine part_dn1 hc hn (by omega) (i := i2) (by omega) loopFuel (b - 1) _ (by rw [loopFuel_eq]; omega) (by omega) hS1 hF1 fun j2 H2 e1 e2 e3 e4 hS2 hF2 => ?_
  unfold s_part_j140
  have hsz2 := hS2.sz
  have hg2 := hS2.get
  by_cases h : j2 < i2
  · simp (disch := first | omega | exact tr_i rfl | (simp only [nx_push, nx_put]; done) | (simp only [nx_push, nx_put, Array.size_setIfInBounds, swp_size]; omega)) only [go_sem, Nat.reduceAdd, Nat.reduceMul, Nat.reduceSub, Nat.reduceLeDiff, Nat.reduceEqDiff, Nat.reduceShiftRight, Nat.reduceAnd, Sl.idx, Sl.rd, Sl.wr, cells_len, cells_eqF, callV_fn, Array.size_setIfInBounds, swp_size, lss0, ltE_eq, h, hg2]
    exact Ok.ret ⟨j2, true, swp (swp d a p) j2 a, by unfold partition; simp only [g4, e4]; rw [if_pos h], rfl, hS2.put2 (swp_size _ _ _), Fs.put2 hF2⟩
  · simp (disch := first | omega | exact tr_i rfl | (simp only [nx_push, nx_put]; done) | (simp only [nx_push, nx_put, Array.size_setIfInBounds, swp_size]; omega)) only [go_sem, Nat.reduceAdd, Nat.reduceMul, Nat.reduceSub, Nat.reduceLeDiff, Nat.reduceEqDiff, Nat.reduceShiftRight, Nat.reduceAnd, Sl.idx, Sl.rd, Sl.wr, cells_len, cells_eqF, callV_fn, Array.size_setIfInBounds, swp_size, lss0, ltE_eq, h]
    unfold s_part_j121
    have b1 : i2 ≤ 900000 := by omega
    simp (disch := first | omega | exact tr_i rfl | (simp only [nx_push, nx_put]; done) | (simp only [nx_push, nx_put, Array.size_setIfInBounds, swp_size]; omega)) only [go_sem, Nat.reduceAdd, Nat.reduceMul, Nat.reduceSub, Nat.reduceLeDiff, Nat.reduceEqDiff, Nat.reduceShiftRight, Nat.reduceAnd, Sl.idx, Sl.rd, Sl.wr, cells_len, cells_eqF, callV_fn, Array.size_setIfInBounds, swp_size, lss0, ltE_eq, hg2]
    unfold s_part_L56
    rw [fuelX_eq]
    refine part_in hc hn (by omega) loopFuel (i2 + 1) (j2 - 1) (swp (swp d a p) i2 j2) _ (by rw [loopFuel_eq]; omega) (by omega) (by omega) (by omega) (hS2.put2 (swp_size _ _ _)) (Fs.put2 hF2) fun j3 d3 H3 e5 hj3 hS3 hF3 => ?_
    unfold s_part_j55
    have hsz3 := hS3.sz
    have hg3 := hS3.get
    simp (disch := first | omega | exact tr_i rfl | (simp only [nx_push, nx_put]; done) | (simp only [nx_push, nx_put, Array.size_setIfInBounds, swp_size]; omega)) only [go_sem, Nat.reduceAdd, Nat.reduceMul, Nat.reduceSub, Nat.reduceLeDiff, Nat.reduceEqDiff, Nat.reduceShiftRight, Nat.reduceAnd, Sl.idx, Sl.rd, Sl.wr, cells_len, cells_eqF, callV_fn, Array.size_setIfInBounds, swp_size, lss0, ltE_eq, hg3]
    exact Ok.ret ⟨j3, false, swp d3 j3 a, by unfold partition; simp only [g4, e4]; rw [if_neg h, e5], rfl, hS3.put2 (swp_size _ _ _), Fs.put2 hF3⟩
theorem peq_in {call : Ev.Call} {fc : FuncId} (hc : CmpE call fc) {s : Sl} (hn : s.n < 900000) {a : Nat} (ha : a < s.n) {H0 : Hp} {q : AV → Hp → R1} {Q : AV → Hp → Prop} :
    ∀ (k i j : Nat) (d : Array Edge) (H : Hp), j + 1 - i < k → 1 ≤ i → i ≤ 900000 → j < s.n → St s d H → Fs s H0 H →
      (∀ i' d' H', partEqLoop ltE a i j d = (i', d') → St s d' H' → Fs s H0 H' → Ok (q (.int .i64 (.ofNat i')) H') Q) →
      Ok (s_peq_l20 call q s.v (.int .i64 (.ofNat a)) (.fn fc [] []) k (.int .i64 (.ofNat i)) (.int .i64 (.ofNat j)) H) Q
  | 0, _, _, _, _, h, _, _, _, _, _, _ => by omega
  | k + 1, i, j, d, H, hk, h1, hi, hj, hS, hF, hq => by
    show Ok (s_peq_b20 call _ _ _ _ (s_peq_l20 call _ _ _ _ k) _ _ H) Q
    unfold s_peq_b20 s_peq_L64
    rw [fuelX_eq]
    refine peq_up hc hn ha hj loopFuel i H (by rw [loopFuel_eq]; omega) (by omega) hS hF fun i2 H1 g1 g2 g3 g4 hS1 hF1 => ?_
    unfold s_peq_j63 s_peq_L43
    rw [fuelX_eq]
    refine peq_dn hc hn ha (by omega) loopFuel j H1 (by rw [loopFuel_eq]; omega) hj hS1 hF1 fun j2 H2 e1 e2 e3 e4 hS2 hF2 => ?_
    rw [partEqLoop_eq a i j i2 j2 d g4 e4 g1 e1 h1] at hq
    unfold s_peq_j42
    by_cases h : j2 < i2
    · rw [if_pos h] at hq
      simp (disch := first | omega | exact tr_i rfl | (simp only [nx_push, nx_put]; done) | (simp only [nx_push, nx_put, Array.size_setIfInBounds, swp_size]; omega)) only [go_sem, Nat.reduceAdd, Nat.reduceMul, Nat.reduceSub, Nat.reduceLeDiff, Nat.reduceEqDiff, Nat.reduceShiftRight, Nat.reduceAnd, Sl.idx, Sl.rd, Sl.wr, cells_len, cells_eqF, callV_fn, Array.size_setIfInBounds, swp_size, lss0, ltE_eq, h]
      exact hq i2 d H2 rfl hS2 hF2
    · rw [if_neg h] at hq
      simp (disch := first | omega | exact tr_i rfl | (simp only [nx_push, nx_put]; done) | (simp only [nx_push, nx_put, Array.size_setIfInBounds, swp_size]; omega)) only [go_sem, Nat.reduceAdd, Nat.reduceMul, Nat.reduceSub, Nat.reduceLeDiff, Nat.reduceEqDiff, Nat.reduceShiftRight, Nat.reduceAnd, Sl.idx, Sl.rd, Sl.wr, cells_len, cells_eqF, callV_fn, Array.size_setIfInBounds, swp_size, lss0, ltE_eq, h]
      unfold s_peq_j40
      have hsz := hS2.sz
      have hg := hS2.get
      have b1 : i2 ≤ 900000 := by omega
      simp (disch := first | omega | exact tr_i rfl | (simp only [nx_push, nx_put]; done) | (simp only [nx_push, nx_put, Array.size_setIfInBounds, swp_size]; omega)) only [go_sem, Nat.reduceAdd, Nat.reduceMul, Nat.reduceSub, Nat.reduceLeDiff, Nat.reduceEqDiff, Nat.reduceShiftRight, Nat.reduceAnd, Sl.idx, Sl.rd, Sl.wr, cells_len, cells_eqF, callV_fn, Array.size_setIfInBounds, swp_size, lss0, ltE_eq, hg]
      exact peq_in hc hn ha k (i2 + 1) (j2 - 1) (swp d i2 j2) _ (by omega) (by omega) (by omega) (by omega) (hS2.put2 (swp_size _ _ _)) (Fs.put2 hF2) hq
theorem peq_ok (hC : LinksS C) {k : Nat} (hk : 1 ≤ k) {fc : FuncId} (hc : CmpE (C (k - 1)) fc) {s : Sl} (hn : s.n < 900000) {a b p : Nat} (ha : a < b) (hb : b ≤ s.n) (hp : a ≤ p ∧ p < b) {d : Array Edge} {H : Hp} (hS : St s d H) :
    Ok (C k (.f id_s_peq) [s.v, .int .i64 (.ofNat a), .int .i64 (.ofNat b), .int .i64 (.ofNat p), .fn fc [] []] H) fun r H' =>
      ∃ m d', partitionEqual ltE d a b p = (m, d') ∧ r = .int .i64 (.ofNat m) ∧ St s d' H' ∧ Fs s H H' := by
  obtain ⟨k, rfl⟩ : ∃ j, k = j + 1 := ⟨k - 1, by omega⟩
  have hc : CmpE (C k) fc := hc
  rw [(hC k).s_peq]
  unfold s_peq s_peq_c
  have hsz := hS.sz
  have hg := hS.get
  have hpn : p < s.n := by omega
  simp (disch := first | omega | exact tr_i rfl | (simp only [nx_push, nx_put]; done) | (simp only [nx_push, nx_put, Array.size_setIfInBounds, swp_size]; omega)) only [go_sem, Nat.reduceAdd, Nat.reduceMul, Nat.reduceSub, Nat.reduceLeDiff, Nat.reduceEqDiff, Nat.reduceShiftRight, Nat.reduceAnd, Sl.idx, Sl.rd, Sl.wr, cells_len, cells_eqF, callV_fn, Array.size_setIfInBounds, swp_size, lss0, ltE_eq, hg]
  unfold s_peq_L20
  rw [fuelX_eq]
  refine peq_in hc hn (by omega) loopFuel (a + 1) (b - 1) (swp d a p) _ (by rw [loopFuel_eq]; omega) (by omega) (by omega) (by omega) (hS.put2 (d1 := d.setIfInBounds a d[p]!) (swp_size d a p)) (Fs.put2 (Fm.refl _ H)) fun i' d' H' e hS' hF' => ?_
  unfold s_peq_j19
  exact Ok.ret ⟨i', d', e, rfl, hS', hF'⟩
end Go.Di
end

section
/-
  The sort: how many bits a number has; breaking patterns.
-/
namespace Go.Di
open Go.Ev Go.Sort
variable {C : Nat → Ev.Call}
theorem awrap_u8 (n : Nat) (h : n < 256) : awrap .u8 (.ofNat n) = .ofNat n := by
  show (bif Nat.blt n 256 then _ else _) = _
  rw [blt_eq, decide_eq_true h]; rfl
theorem awrap_u64 (n : Nat) (h : n < 18446744073709551616) : awrap .u64 (.ofNat n) = .ofNat n := by
  show (bif Nat.blt n 18446744073709551616 then _ else _) = _
  rw [blt_eq, decide_eq_true h]; rfl
theorem conv_u8 (k : IntKind) (n : Nat) (h : n < 256) : convI .u8 (.int k (.ofNat n)) = .val (.int .u8 (.ofNat n)) := congrArg (fun x => R0.val (.int .u8 x)) (awrap_u8 n h)
theorem conv_u64 (k : IntKind) (n : Nat) (h : n < 18446744073709551616) : convI .u64 (.int k (.ofNat n)) = .val (.int .u64 (.ofNat n)) := congrArg (fun x => R0.val (.int .u64 x)) (awrap_u64 n h)
theorem conv_i64 (k : IntKind) (n : Nat) (h : n < 9223372036854775808) : convI .i64 (.int k (.ofNat n)) = .val (.int .i64 (.ofNat n)) := congrArg (fun x => R0.val (.int .i64 x)) (awrap_nat n h)
theorem shr_u64 (n j : Nat) (k : IntKind) (h : j ≤ 64) : shiftV (shiftBin .shr).f (.int .u64 (.ofNat n)) (.int k (.ofNat j)) = .val (.int .u64 (.ofNat (n / 2 ^ j))) := by
  show (bif ltI (.ofNat j) 0 then R0.bad else .val (.int .u64 ((Int.ofNat n).fdiv (2 ^ (min j 64))))) = _
  rw [ltI_eq, Nat.min_eq_left h]
  have h0 : decide ((Int.ofNat j) < 0) = false := by simp
  rw [h0]
  show R0.val (.int .u64 ((Int.ofNat n).fdiv (2 ^ j))) = _
  congr 2
  have h2 : ((2 : Int) ^ j) = Int.ofNat (2 ^ j) := by simp
  rw [h2]
  show Int.fdiv (n : Int) ((2 ^ j : Nat) : Int) = ((n / 2 ^ j : Nat) : Int)
  rw [Int.fdiv_eq_ediv_of_nonneg _ (Int.natCast_nonneg _)]
  rfl
theorem shr_u (a : Int) (j : Nat) (k : IntKind) : shiftV (shiftBin .shr).f (.int .u64 a) (.int k (.ofNat j)) = .val (.int .u64 (a.fdiv (2 ^ (min j 64)))) := by
  show (bif ltI (.ofNat j) 0 then R0.bad else .val (.int .u64 (a.fdiv (2 ^ (min j 64))))) = _
  rw [ltI_eq]
  have h0 : decide ((Int.ofNat j) < 0) = false := by simp
  rw [h0]; rfl
theorem shl_u (a : Int) (j : Nat) (k : IntKind) : shiftV (shiftBin .shl).f (.int .u64 a) (.int k (.ofNat j)) = .val (.int .u64 (awrap .u64 (a * 2 ^ (min j 64)))) := by
  show (bif ltI (.ofNat j) 0 then R0.bad else .val (.int .u64 (awrap .u64 (a * 2 ^ (min j 64))))) = _
  rw [ltI_eq]
  have h0 : decide ((Int.ofNat j) < 0) = false := by simp
  rw [h0]; rfl
def xorI (a b : Int) : Int := IntKind.u64.wrap (BitVec.ofInt IntKind.u64.bits a ^^^ BitVec.ofInt IntKind.u64.bits b).toNat
theorem xor_u (a b : Int) : intV (intBin .xor).f (.int .u64 a) (.int .u64 b) = .val (.int .u64 (xorI a b)) := id rfl
theorem sub_u64 (a b : Nat) (h : b ≤ a) (h2 : a < 18446744073709551616) : intV (intBin .sub).f (.int .u64 (.ofNat a)) (.int .u64 (.ofNat b)) = .val (.int .u64 (.ofNat (a - b))) := by
  show R0.val (.int .u64 (awrap .u64 (Int.ofNat a - Int.ofNat b))) = _
  rw [show (Int.ofNat a - Int.ofNat b) = Int.ofNat (a - b) by simp only [Int.ofNat_eq_natCast]; omega, awrap_u64 _ (by omega)]
theorem and_u64 (a : Int) (b : Nat) (h : b < 18446744073709551616) : ∃ o, o ≤ b ∧ intV (intBin .and).f (.int .u64 a) (.int .u64 (.ofNat b)) = .val (.int .u64 (.ofNat o)) := by
  refine ⟨(BitVec.ofInt 64 a &&& BitVec.ofInt 64 (.ofNat b)).toNat, ?_, ?_⟩
  · rw [BitVec.toNat_and]
    refine Nat.le_trans Nat.and_le_right ?_
    rw [BitVec.toNat_ofInt]
    simp only [Int.ofNat_eq_natCast]
    omega
  · show R0.val (.int .u64 (IntKind.u64.wrap ((BitVec.ofInt 64 a &&& BitVec.ofInt 64 (.ofNat b)).toNat : Nat))) = _
    have hlt := (BitVec.ofInt 64 a &&& BitVec.ofInt 64 (.ofNat b)).isLt
    generalize (BitVec.ofInt 64 a &&& BitVec.ofInt 64 (.ofNat b)).toNat = o at hlt
    congr 2
    simp only [IntKind.wrap, IntKind.signed, IntKind.bits, Int.ofNat_eq_natCast, Bool.false_and, Bool.false_eq_true, if_false]
    omega
theorem bitsLen_div (n k : Nat) (h : 2 ^ k ≤ n) : bitsLen n = k + bitsLen (n / 2 ^ k) := by
  have hp : 0 < 2 ^ k := Nat.two_pow_pos k
  have key : ∀ m, bitsLen n ≤ k + m ↔ bitsLen (n / 2 ^ k) ≤ m := fun m => by
    rw [bitsLen_le_iff, bitsLen_le_iff, Nat.div_lt_iff_lt_mul hp, Nat.pow_add, Nat.mul_comm]
  have hk : k ≤ bitsLen n := by
    rcases Nat.lt_or_ge (bitsLen n) k with h1 | h1
    · exact absurd ((bitsLen_le_iff n k).1 (by omega)) (by omega)
    · exact h1
  have h1 := (key (bitsLen (n / 2 ^ k))).2 (Nat.le_refl _)
  have h2 := (key (bitsLen n - k)).1 (by omega)
  omega
def tab8 : Nat := 1013866857139168856493015739252390649739422828853819106890363778118420553376247557433637691341895324351018602695588957474325319502760499485336098898398377509666851054660423406800006203933793007272033180812049178612605246075062580585469430410618860250057463399279570354286669047577758927328864388992123306212451509403152394148136105363817402562688186708175358218852349079190158732807302672745370040257219644697201681238697346923541678507645485296520536209706771857694240900605172937619415410180424934769249448772944216470541052485265558808433676546390051204254346932932316488017972311616136051587427851453983453479168
theorem tab8_ok : ((List.range 256).all fun x => Nat.beq (byteAt tab8 x) (bitsLen x)) = true := by decide +kernel
theorem idx_tab (x : Nat) (h : x < 256) : idxStr (.str 256 1013866857139168856493015739252390649739422828853819106890363778118420553376247557433637691341895324351018602695588957474325319502760499485336098898398377509666851054660423406800006203933793007272033180812049178612605246075062580585469430410618860250057463399279570354286669047577758927328864388992123306212451509403152394148136105363817402562688186708175358218852349079190158732807302672745370040257219644697201681238697346923541678507645485296520536209706771857694240900605172937619415410180424934769249448772944216470541052485265558808433676546390051204254346932932316488017972311616136051587427851453983453479168) (.int .u8 (.ofNat x)) = .val (.int .u8 (.ofNat (bitsLen x))) := by
  show (bif Nat.blt x 256 then R0.val (.int .u8 (.ofNat (byteAt tab8 x))) else .bad) = _
  rw [blt_eq, decide_eq_true h]
  have := List.all_eq_true.1 tab8_ok x (List.mem_range.2 h)
  rw [Nat.eq_of_beq_eq_true this]; rfl
theorem bl8 (x : Nat) (h : x < 256) : bitsLen x ≤ 8 := (bitsLen_le_iff x 8).2 h
theorem len64_4 {call : Ev.Call} (x m : Nat) (h : x < 256) (hm : m < 1000) (H : Hp) : s_Len64_j4 call (.int .u64 (.ofNat x)) (.int .i64 (.ofNat m)) H = .ok (.int .i64 (.ofNat (m + bitsLen x))) H := by
  unfold s_Len64_j4
  have h8 := bl8 x h
  simp only [conv_u8 _ _ h, vq_val, idx_tab x h, conv_i64 .u8 (bitsLen x) (by omega), add_nn m (bitsLen x) (by omega)]
theorem len64_8 {call : Ev.Call} (x m : Nat) (h : x < 65536) (hm : m < 900) (H : Hp) : s_Len64_j8 call (.int .u64 (.ofNat x)) (.int .i64 (.ofNat m)) H = .ok (.int .i64 (.ofNat (m + bitsLen x))) H := by
  unfold s_Len64_j8
  by_cases h1 : 256 ≤ x
  · simp (disch := first | omega | exact tr_i rfl | (simp only [nx_push, nx_put]; done) | (simp only [nx_push, nx_put]; omega)) only [go_sem, Nat.reduceAdd, Nat.reduceMul, Nat.reduceSub, Nat.reduceLeDiff, Nat.reduceEqDiff, Nat.reduceShiftRight, Nat.reduceAnd, h1, shr_u64]
    rw [len64_4 _ _ (by omega) (by omega), bitsLen_div x 8 (by omega), Nat.add_assoc]
  · simp (disch := first | omega | exact tr_i rfl | (simp only [nx_push, nx_put]; done) | (simp only [nx_push, nx_put]; omega)) only [go_sem, Nat.reduceAdd, Nat.reduceMul, Nat.reduceSub, Nat.reduceLeDiff, Nat.reduceEqDiff, Nat.reduceShiftRight, Nat.reduceAnd, h1]
    rw [len64_4 _ _ (by omega) (by omega)]
theorem len64_12 {call : Ev.Call} (x m : Nat) (h : x < 4294967296) (hm : m < 800) (H : Hp) : s_Len64_j12 call (.int .u64 (.ofNat x)) (.int .i64 (.ofNat m)) H = .ok (.int .i64 (.ofNat (m + bitsLen x))) H := by
  unfold s_Len64_j12
  by_cases h1 : 65536 ≤ x
  · simp (disch := first | omega | exact tr_i rfl | (simp only [nx_push, nx_put]; done) | (simp only [nx_push, nx_put]; omega)) only [go_sem, Nat.reduceAdd, Nat.reduceMul, Nat.reduceSub, Nat.reduceLeDiff, Nat.reduceEqDiff, Nat.reduceShiftRight, Nat.reduceAnd, h1, shr_u64]
    rw [len64_8 _ _ (by omega) (by omega), bitsLen_div x 16 (by omega), Nat.add_assoc]
  · simp (disch := first | omega | exact tr_i rfl | (simp only [nx_push, nx_put]; done) | (simp only [nx_push, nx_put]; omega)) only [go_sem, Nat.reduceAdd, Nat.reduceMul, Nat.reduceSub, Nat.reduceLeDiff, Nat.reduceEqDiff, Nat.reduceShiftRight, Nat.reduceAnd, h1]
    rw [len64_8 _ _ (by omega) (by omega)]
theorem Len_ok (hC : LinksS C) {k : Nat} (hk : 2 ≤ k) (x : Nat) (h : x < 4294967296) (H : Hp) : C k (.f id_s_Len) [.int .u64 (.ofNat x)] H = .ok (.int .i64 (.ofNat (bitsLen x))) H := by
  obtain ⟨k, rfl⟩ : ∃ j, k = j + 2 := ⟨k - 2, by omega⟩
  rw [(hC (k + 1)).s_Len]
  unfold s_Len s_Len_c
  simp (disch := first | omega | exact tr_i rfl | (simp only [nx_push, nx_put]; done) | (simp only [nx_push, nx_put]; omega)) only [go_sem, Nat.reduceAdd, Nat.reduceMul, Nat.reduceSub, Nat.reduceLeDiff, Nat.reduceEqDiff, Nat.reduceShiftRight, Nat.reduceAnd]
  unfold s_Len_j1
  rw [(hC k).s_Len64]
  unfold s_Len64 s_Len64_c
  have h1 : ¬ 4294967296 ≤ x := by omega
  simp (disch := first | omega | exact tr_i rfl | (simp only [nx_push, nx_put]; done) | (simp only [nx_push, nx_put]; omega)) only [go_sem, Nat.reduceAdd, Nat.reduceMul, Nat.reduceSub, Nat.reduceLeDiff, Nat.reduceEqDiff, Nat.reduceShiftRight, Nat.reduceAnd, h1]
  rw [len64_12 _ _ h (by omega)]
  simp (disch := first | omega | exact tr_i rfl | (simp only [nx_push, nx_put]; done) | (simp only [nx_push, nx_put]; omega)) only [go_sem, Nat.reduceAdd, Nat.reduceMul, Nat.reduceSub, Nat.reduceLeDiff, Nat.reduceEqDiff, Nat.reduceShiftRight, Nat.reduceAnd]
theorem npow_ok (hC : LinksS C) {k : Nat} (hk : 3 ≤ k) (x : Nat) (h : x < 900000) (H : Hp) : C k (.f id_s_npow) [.int .i64 (.ofNat x)] H = .ok (.int .u64 (.ofNat (2 ^ bitsLen x))) H := by
  obtain ⟨k, rfl⟩ : ∃ j, k = j + 3 := ⟨k - 3, by omega⟩
  rw [(hC (k + 2)).s_npow]
  unfold s_npow s_npow_c
  have h20 : bitsLen x ≤ 20 := (bitsLen_le_iff x 20).2 (by omega)
  have e : awrap .u64 (Int.ofNat 1 * 2 ^ (min (bitsLen x) 64)) = .ofNat (2 ^ bitsLen x) := by
    rw [Nat.min_eq_left (by omega)]
    have h2 : Int.ofNat 1 * (2 : Int) ^ bitsLen x = Int.ofNat (2 ^ bitsLen x) := by simp
    rw [h2, awrap_u64 _ (Nat.lt_of_le_of_lt (Nat.pow_le_pow_right (by omega) h20) (by omega))]
  simp only [conv_u64 .i64 x (by omega), vq_val, Len_ok hC (k := k + 2) (by omega) x (by omega), ve_ok, shl_u, e]
theorem xorNext_ok (hC : LinksS C) {k : Nat} (hk : 1 ≤ k) {rb : Nat} {w : Int} {H : Hp} (hg : H.get rb = mkBlk 0 [.int .u64 w]) :
    ∃ w' H', C k (.f id_s_xorNext) [.ptr rb 0] H = .ok (.int .u64 w') H' ∧ H'.get rb = mkBlk 0 [.int .u64 w'] ∧ Fp rb H H' ∧ H'.nx = H.nx := by
  obtain ⟨k, rfl⟩ : ∃ j, k = j + 1 := ⟨k - 1, by omega⟩
  rw [(hC k).s_xorNext]
  unfold s_xorNext s_xorNext_c
  simp (disch := first | omega | exact tr_i rfl | (simp only [nx_push, nx_put]; done) | (simp only [nx_push, nx_put]; omega)) only [go_sem, Nat.reduceAdd, Nat.reduceMul, Nat.reduceSub, Nat.reduceLeDiff, Nat.reduceEqDiff, Nat.reduceShiftRight, Nat.reduceAnd, hg, shl_u, shr_u, xor_u]
  exact ⟨_, _, rfl, get_put_same _ _ _, (((Fm.refl (fun b => b = rb) H).put _ _ fun _ => rfl).put _ _ fun _ => rfl).put _ _ fun _ => rfl, rfl⟩
theorem brk_in (hC : LinksS C) {j : Nat} (hj : 1 ≤ j) {s : Sl} (hn : s.n < 900000) {a b rb : Nat} (hab : a + 8 ≤ b) (hb : b ≤ s.n) {d0 : Array Edge} {H0 : Hp} (hrb : s.b ≠ rb) (hr0 : H0.nx ≤ rb) {q : Hp → R1} {Q : AV → Hp → Prop}
    (hq : ∀ d H, PermIn a b d0 d → St s d H → Fs s H0 H → Ok (q H) Q) :
    ∀ (k i : Nat) (d : Array Edge) (w : Int) (H : Hp), a + (b - a) / 4 * 2 + 2 - i < k → a ≤ i → i ≤ 900000 → PermIn a b d0 d → St s d H → Fs s H0 H → H.get rb = mkBlk 0 [.int .u64 w] →
      Ok (s_brk_l10 (C j) q s.v (.int .i64 (.ofNat a)) (.int .i64 (.ofNat (b - a))) (.ptr rb 0) (.int .u64 (.ofNat (2 ^ bitsLen (b - a)))) k (.int .i64 (.ofNat i)) H) Q
  | 0, _, _, _, _, h, _, _, _, _, _, _ => by omega
  | k + 1, i, d, w, H, hk, hai, hi, hP, hS, hF, hw => by
    show Ok (s_brk_b10 (C j) _ _ _ _ _ _ (s_brk_l10 (C j) _ _ _ _ _ _ k) _ H) Q
    unfold s_brk_b10
    have e0 : (b - a) / 4 * 2 ≤ 900000 := by omega
    by_cases h : i ≤ a + (b - a) / 4 * 2 + 1
    · simp (disch := first | omega | exact tr_i rfl | (simp only [nx_push, nx_put]; done) | (simp only [nx_push, nx_put]; omega)) only [go_sem, Nat.reduceAdd, Nat.reduceMul, Nat.reduceSub, Nat.reduceLeDiff, Nat.reduceEqDiff, Nat.reduceShiftRight, Nat.reduceAnd, h]
      unfold s_brk_j41
      obtain ⟨w', H1, e1, e2, f1, e3⟩ := xorNext_ok hC hj hw
      have hpos : 0 < 2 ^ bitsLen (b - a) := Nat.two_pow_pos _
      have hle : 2 ^ bitsLen (b - a) ≤ 2 * (b - a) := two_pow_bitsLen_le (by omega)
      obtain ⟨o, ho, e4⟩ := and_u64 w' (2 ^ bitsLen (b - a) - 1) (by omega)
      have e5 := sub_u64 (2 ^ bitsLen (b - a)) 1 (by omega) (by omega)
      have e6 := conv_i64 .u64 o (by omega)
      have hS1 := hS.fp f1 hrb
      have hF1 : Fs s H0 H1 := hF.then f1 fun c h1 h2 => by omega
      have go : ∀ o, o < b - a → Ok (s_brk_j38 (C j) (s_brk_l10 (C j) q s.v (.int .i64 (.ofNat a)) (.int .i64 (.ofNat (b - a))) (.ptr rb 0) (.int .u64 (.ofNat (2 ^ bitsLen (b - a)))) k) s.v (.int .i64 (.ofNat a)) (.int .i64 (.ofNat i)) (.int .i64 (.ofNat o)) H1) Q := by
        intro o ho
        unfold s_brk_j38
        have hsz := hS1.sz
        have hg := hS1.get
        have hib : i < b := by omega
        simp (disch := first | omega | exact tr_i rfl | (simp only [nx_push, nx_put]; done) | (simp only [nx_push, nx_put, Array.size_setIfInBounds, swp_size]; omega)) only [go_sem, Nat.reduceAdd, Nat.reduceMul, Nat.reduceSub, Nat.reduceLeDiff, Nat.reduceEqDiff, Nat.reduceShiftRight, Nat.reduceAnd, Sl.idx, Sl.rd, Sl.wr, cells_len, cells_eqF, callV_fn, Array.size_setIfInBounds, swp_size, lss0, ltE_eq, hg]
        unfold s_brk_j12
        simp (disch := first | omega | exact tr_i rfl | (simp only [nx_push, nx_put]; done) | (simp only [nx_push, nx_put]; omega)) only [go_sem, Nat.reduceAdd, Nat.reduceMul, Nat.reduceSub, Nat.reduceLeDiff, Nat.reduceEqDiff, Nat.reduceShiftRight, Nat.reduceAnd]
        have hg2 : ((H1.put s.b (s.blk (d.setIfInBounds i d[a + o]!))).put s.b (s.blk (swp d i (a + o)))).get rb = mkBlk 0 [.int .u64 w'] := by
          rw [get_put_ne _ _ _ _ (Ne.symm hrb), get_put_ne _ _ _ _ (Ne.symm hrb), e2]
        exact brk_in hC hj hn hab hb hrb hr0 hq k (i + 1) (swp d i (a + o)) w' _ (by omega) (by omega) (by omega) (permIn_trans _ _ _ _ _ hP (swp_permIn _ _ _ _ _ hai hib (by omega) (by omega) (by omega))) (hS1.put2 (swp_size _ _ _)) (Fs.put2 hF1) hg2
      by_cases h3 : b - a ≤ o
      · simp (disch := first | omega | exact tr_i rfl | (simp only [nx_push, nx_put]; done) | (simp only [nx_push, nx_put]; omega)) only [go_sem, Nat.reduceAdd, Nat.reduceMul, Nat.reduceSub, Nat.reduceLeDiff, Nat.reduceEqDiff, Nat.reduceShiftRight, Nat.reduceAnd, e1, e4, e5, e6, h3]
        exact go (o - (b - a)) (by omega)
      · simp (disch := first | omega | exact tr_i rfl | (simp only [nx_push, nx_put]; done) | (simp only [nx_push, nx_put]; omega)) only [go_sem, Nat.reduceAdd, Nat.reduceMul, Nat.reduceSub, Nat.reduceLeDiff, Nat.reduceEqDiff, Nat.reduceShiftRight, Nat.reduceAnd, e1, e4, e5, e6, h3]
        exact go o (by omega)
    · simp (disch := first | omega | exact tr_i rfl | (simp only [nx_push, nx_put]; done) | (simp only [nx_push, nx_put]; omega)) only [go_sem, Nat.reduceAdd, Nat.reduceMul, Nat.reduceSub, Nat.reduceLeDiff, Nat.reduceEqDiff, Nat.reduceShiftRight, Nat.reduceAnd, h]
      exact hq d H hP hS hF
theorem brk_ok (hC : LinksS C) {k : Nat} (hk : 4 ≤ k) {s : Sl} (hn : s.n < 900000) {a b : Nat} (ha : a + 8 ≤ b) (hb : b ≤ s.n) {d : Array Edge} {H : Hp} (hS : St s d H) (c : AV) :
    Ok (C k (.f id_s_brk) [s.v, .int .i64 (.ofNat a), .int .i64 (.ofNat b), c] H) fun r H' => r = .tup [] ∧ ∃ d', PermIn a b d d' ∧ St s d' H' ∧ Fs s H H' := by
  obtain ⟨k, rfl⟩ : ∃ j, k = j + 4 := ⟨k - 4, by omega⟩
  rw [(hC (k + 3)).s_brk]
  unfold s_brk s_brk_c
  have h8 : 8 ≤ b - a := by omega
  have e1 := conv_u64 .i64 (b - a) (by omega)
  have e2 := npow_ok hC (k := k + 3) (by omega) (b - a) (by omega)
  have hlt := hS.lt
  have e0 : (b - a) / 4 * 2 ≤ 900000 := by omega
  have e3 : 1 ≤ (b - a) / 4 * 2 := by omega
  simp (disch := first | omega | exact tr_i rfl | (simp only [nx_push, nx_put]; done) | (simp only [nx_push, nx_put]; omega)) only [go_sem, Nat.reduceAdd, Nat.reduceMul, Nat.reduceSub, Nat.reduceLeDiff, Nat.reduceEqDiff, Nat.reduceShiftRight, Nat.reduceAnd, h8, e1, e2]
  unfold s_brk_L10
  rw [fuelX_eq]
  have f1 : Fm No H ((pushH H (mkBlk 0 [.int .u64 (.ofNat 0)])).put H.nx (mkBlk 0 [.int .u64 (.ofNat (b - a))])) := by (repeat (first | exact Fm.refl _ _ | assumption | refine Fm.push ?_ _ | refine Fm.up2 ?_ (by (first | omega | (simp only [nx_push, nx_put]; omega))) | refine Fm.put_new ?_ _ _ (by (first | omega | (simp only [nx_push, nx_put]; omega)))))
  refine brk_in hC (j := k + 3) (by omega) hn ha hb (d0 := d) (H0 := H) (rb := H.nx) (by omega) (Nat.le_refl _) (fun d' H' hP hS' hF' => Ok.ret ⟨rfl, d', hP, hS', hF'⟩) loopFuel (a + (b - a) / 4 * 2 - 1) d (.ofNat (b - a)) _ (by rw [loopFuel_eq]; omega) (by omega) (by omega) (permIn_refl _ _ _) (hS.no f1) f1.fs ?_
  rw [get_put_same]
end Go.Di
end

section
/-
  The sort: pdqsort, and SortFunc.
-/
namespace Go.Di
open Go.Ev Go.Sort
variable {C : Nat → Ev.Call}
/-- sorted, with the same elements -/
def Sd (a b : Nat) (d R : Array Edge) : Prop := PermIn a b d R ∧ SortedIn ltE a b R
theorem Sd.of {a b : Nat} {d d' R : Array Edge} (h : PermIn a b d d') (k : Sd a b d' R) : Sd a b d R := ⟨permIn_trans _ _ _ _ _ h k.1, k.2⟩
/-- what a call of pdqsort is known to do, on fewer than m elements -/
def PdqR (C : Nat → Ev.Call) (fc : FuncId) (s : Sl) (k m : Nat) : Prop := ∀ (a b l : Nat) (d : Array Edge) (H : Hp), b - a < m → a ≤ b → b ≤ s.n → l < 900000 → Go.Sort.Below ltE a b d → St s d H →
  Ok (C k (.f id_s_pdq) [s.v, .int .i64 (.ofNat a), .int .i64 (.ofNat b), .int .i64 (.ofNat l), .fn fc [] []] H) fun r H' => r = .tup [] ∧ ∃ R, Sd a b d R ∧ St s R H' ∧ Fs s H H'
theorem pdq_in (hC : LinksS C) {j : Nat} (hj : 7 ≤ j) {fc : FuncId} (hc : ∀ k, 3 ≤ k → CmpE (C k) fc) {s : Sl} (hn : s.n < 900000) (hl : SWO ltE) {m : Nat} (hR : PdqR C fc s j m) {H0 : Hp} {q : Hp → R1} {Q : AV → Hp → Prop} :
    ∀ (k a b l : Nat) (wb wp : Bool) (d : Array Edge) (H : Hp), b - a < k → b - a ≤ m → a ≤ b → b ≤ s.n → l < 900000 → Go.Sort.Below ltE a b d → St s d H → Fs s H0 H → (∀ R H', Sd a b d R → St s R H' → Fs s H0 H' → Ok (q H') Q) →
      Ok (s_pdq_l0 (C j) q s.v (.fn fc [] []) k (.int .i64 (.ofNat a)) (.int .i64 (.ofNat b)) (.int .i64 (.ofNat l)) (.bool wb) (.bool wp) H) Q
  | 0, _, _, _, _, _, _, _, h, _, _, _, _, _, _, _, _ => by omega
  | k + 1, a, b, l, wb, wp, d, H, hk, hm, hab, hb, hln, hB, hS, hF, hq => by
    show Ok (s_pdq_b0 (C j) _ _ _ (s_pdq_l0 (C j) _ _ _ k) _ _ _ _ _ H) Q
    unfold s_pdq_b0
    by_cases h12 : b - a ≤ 12
    · simp (disch := first | omega | exact tr_i rfl | (simp only [nx_push, nx_put]; done) | (simp only [nx_push, nx_put]; omega)) only [go_sem, Nat.reduceAdd, Nat.reduceMul, Nat.reduceSub, Nat.reduceLeDiff, Nat.reduceEqDiff, Nat.reduceShiftRight, Nat.reduceAnd, h12]
      refine Ok.ve (ins_ok hC (by omega) (hc _ (by omega)) hn hab hb hS) ?_
      rintro r H1 ⟨rfl, hS1, hF1⟩
      have hi := insertionSort_holds (lt := ltE) hl d a b hab (by rw [hS.sz]; exact hb)
      exact hq _ H1 ⟨hi.1, hi.2⟩ hS1 (hF.trans hF1)
    · simp (disch := first | omega | exact tr_i rfl | (simp only [nx_push, nx_put]; done) | (simp only [nx_push, nx_put]; omega)) only [go_sem, Nat.reduceAdd, Nat.reduceMul, Nat.reduceSub, Nat.reduceLeDiff, Nat.reduceEqDiff, Nat.reduceShiftRight, Nat.reduceAnd, h12]
      unfold s_pdq_j58
      by_cases hl0 : l = 0
      · simp (disch := first | omega | exact tr_i rfl | (simp only [nx_push, nx_put]; done) | (simp only [nx_push, nx_put]; omega)) only [go_sem, Nat.reduceAdd, Nat.reduceMul, Nat.reduceSub, Nat.reduceLeDiff, Nat.reduceEqDiff, Nat.reduceShiftRight, Nat.reduceAnd, hl0]
        refine Ok.ve (heap_ok hC (by omega) (hc _ (by omega)) hn (by omega) hb hS) ?_
        rintro r H1 ⟨rfl, hS1, hF1⟩
        have hi := heapSort_holds (lt := ltE) hl d a b hab (by rw [hS.sz]; exact hb)
        exact hq _ H1 ⟨hi.1, hi.2⟩ hS1 (hF.trans hF1)
      · simp (disch := first | omega | exact tr_i rfl | (simp only [nx_push, nx_put]; done) | (simp only [nx_push, nx_put]; omega)) only [go_sem, Nat.reduceAdd, Nat.reduceMul, Nat.reduceSub, Nat.reduceLeDiff, Nat.reduceEqDiff, Nat.reduceShiftRight, Nat.reduceAnd, hl0]
        -- the round's last part
        have j18 : ∀ (l p : Nat) (d3 : Array Edge) (H3 : Hp), l < 900000 → a ≤ p ∧ p < b → PermIn a b d d3 → St s d3 H3 → Fs s H0 H3 →
            Ok (s_pdq_j18 (C j) (s_pdq_l0 (C j) q s.v (.fn fc [] []) k) s.v (.int .i64 (.ofNat a)) (.int .i64 (.ofNat b)) (.int .i64 (.ofNat l)) (.fn fc [] []) (.int .i64 (.ofNat (b - a))) (.int .i64 (.ofNat p)) H3) Q := by
          intro l p d3 H3 hl3 hp hP hS3 hF3
          have hb3 : b ≤ d3.size := by rw [hS3.sz]; exact hb
          have hB3 : Go.Sort.Below ltE a b d3 := hB.perm (by rw [hS.sz]; exact hb) hP
          unfold s_pdq_j18
          refine Ok.ve (part_ok hC (by omega) (hc _ (by omega)) hn (by omega) hb hp hS3) ?_
          rintro r H4 ⟨mid, al, d4, hx, rfl, hS4, hF4⟩
          obtain ⟨h1, h2, h3, hBa, hBr, hL, hRt⟩ := round_part hl (partition_holds (lt := ltE)) hp.1 hp.2 hb3 hB3 hx
          have hF4' := hF3.trans hF4
          by_cases hlt : mid - a < b - mid
          · simp (disch := first | omega | exact tr_i rfl | (simp only [nx_push, nx_put]; done) | (simp only [nx_push, nx_put]; omega)) only [go_sem, Nat.reduceAdd, Nat.reduceMul, Nat.reduceSub, Nat.reduceLeDiff, Nat.reduceEqDiff, Nat.reduceShiftRight, Nat.reduceAnd, hlt]
            refine Ok.ve (hR a mid l d4 H4 (by omega) (by omega) (by omega) hl3 hBa hS4) ?_
            rintro r H5 ⟨rfl, L, hLs, hS5, hF5⟩
            obtain ⟨hB5, hfin⟩ := hL L hLs.1 hLs.2
            have hmn : mid < 900000 := by omega
            skip
            exact pdq_in hC hj hc hn hl hR k (mid + 1) b l _ al L H5 (by omega) (by omega) (by omega) hb hl3 hB5 hS5 (hF4'.trans hF5) fun R H' hRs hS' hF' => hq R H' (Sd.of hP (hfin R hRs.1 hRs.2)) hS' hF'
          · have hmn : mid < 900000 := by omega
            simp (disch := first | omega | exact tr_i rfl | (simp only [nx_push, nx_put]; done) | (simp only [nx_push, nx_put]; omega)) only [go_sem, Nat.reduceAdd, Nat.reduceMul, Nat.reduceSub, Nat.reduceLeDiff, Nat.reduceEqDiff, Nat.reduceShiftRight, Nat.reduceAnd, hlt]
            refine Ok.ve (hR (mid + 1) b l d4 H4 (by omega) (by omega) (by omega) hl3 hBr hS4) ?_
            rintro r H5 ⟨rfl, L, hLs, hS5, hF5⟩
            obtain ⟨hB5, hfin⟩ := hRt L hLs.1 hLs.2
            exact pdq_in hC hj hc hn hl hR k a mid l _ al L H5 (by omega) (by omega) (by omega) (by omega) hl3 hB5 hS5 (hF4'.trans hF5) fun R H' hRs hS' hF' => hq R H' (Sd.of hP (hfin R hRs.1 hRs.2)) hS' hF'
        have j38 : ∀ (l p : Nat) (d3 : Array Edge) (H3 : Hp), l < 900000 → a ≤ p ∧ p < b → PermIn a b d d3 → St s d3 H3 → Fs s H0 H3 →
            Ok (s_pdq_j38 (C j) (s_pdq_l0 (C j) q s.v (.fn fc [] []) k) s.v (.int .i64 (.ofNat a)) (.int .i64 (.ofNat b)) (.int .i64 (.ofNat l)) (.fn fc [] []) (.bool wb) (.bool wp) (.int .i64 (.ofNat (b - a))) (.int .i64 (.ofNat p)) H3) Q := by
          intro l p d3 H3 hl3 hp hP hS3 hF3
          have hb3 : b ≤ d3.size := by rw [hS3.sz]; exact hb
          have hB3 : Go.Sort.Below ltE a b d3 := hB.perm (by rw [hS.sz]; exact hb) hP
          have hsz := hS3.sz
          have hg := hS3.get
          have hpn : p < s.n := by omega
          unfold s_pdq_j38
          by_cases ha0 : 0 < a
          · simp (disch := first | omega | exact tr_i rfl | (simp only [nx_push, nx_put]; done) | (simp only [nx_push, nx_put, Array.size_setIfInBounds, swp_size]; omega)) only [go_sem, Nat.reduceAdd, Nat.reduceMul, Nat.reduceSub, Nat.reduceLeDiff, Nat.reduceEqDiff, Nat.reduceShiftRight, Nat.reduceAnd, Sl.idx, Sl.rd, Sl.wr, cells_len, cells_eqF, callV_fn, Array.size_setIfInBounds, swp_size, lss0, ltE_eq, hg, ha0]
            refine Ok.deO (hc j (by omega) _ _ _) ?_
            rintro v H4 ⟨rfl, f4⟩
            have hS4 := hS3.no f4
            have hg4 := hS4.get
            simp (disch := first | omega | exact tr_i rfl | (simp only [nx_push, nx_put]; done) | (simp only [nx_push, nx_put, Array.size_setIfInBounds, swp_size]; omega)) only [go_sem, Nat.reduceAdd, Nat.reduceMul, Nat.reduceSub, Nat.reduceLeDiff, Nat.reduceEqDiff, Nat.reduceShiftRight, Nat.reduceAnd, Sl.idx, Sl.rd, Sl.wr, cells_len, cells_eqF, callV_fn, Array.size_setIfInBounds, swp_size, lss0, ltE_eq, hg4]
            cases hx : ltE d3[a - 1]! d3[p]! with
            | true =>
              simp (disch := first | omega | exact tr_i rfl | (simp only [nx_push, nx_put]; done) | (simp only [nx_push, nx_put, Array.size_setIfInBounds, swp_size]; omega)) only [go_sem, Nat.reduceAdd, Nat.reduceMul, Nat.reduceSub, Nat.reduceLeDiff, Nat.reduceEqDiff, Nat.reduceShiftRight, Nat.reduceAnd, Sl.idx, Sl.rd, Sl.wr, cells_len, cells_eqF, callV_fn, Array.size_setIfInBounds, swp_size, lss0, ltE_eq]
              exact j18 l p d3 H4 hl3 hp hP hS4 (hF3.trans f4.fs)
            | false =>
              simp (disch := first | omega | exact tr_i rfl | (simp only [nx_push, nx_put]; done) | (simp only [nx_push, nx_put, Array.size_setIfInBounds, swp_size]; omega)) only [go_sem, Nat.reduceAdd, Nat.reduceMul, Nat.reduceSub, Nat.reduceLeDiff, Nat.reduceEqDiff, Nat.reduceShiftRight, Nat.reduceAnd, Sl.idx, Sl.rd, Sl.wr, cells_len, cells_eqF, callV_fn, Array.size_setIfInBounds, swp_size, lss0, ltE_eq]
              refine Ok.ve (peq_ok hC (by omega) (hc _ (by omega)) hn (by omega) hb hp hS4) ?_
              rintro r H5 ⟨mid, d5, hx5, rfl, hS5, hF5⟩
              obtain ⟨h1, h2, h3, hB5, hfin⟩ := round_eq hl (partitionEqual_holds (lt := ltE)) ha0 hp.1 hp.2 hb3 hB3 hx hx5
              exact pdq_in hC hj hc hn hl hR k mid b l wb wp d5 H5 (by omega) (by omega) h2 hb hl3 hB5 hS5 ((hF3.trans f4.fs).trans hF5) fun R H' hRs hS' hF' => hq R H' (Sd.of hP (hfin R hRs.1 hRs.2)) hS' hF'
          · simp (disch := first | omega | exact tr_i rfl | (simp only [nx_push, nx_put]; done) | (simp only [nx_push, nx_put, Array.size_setIfInBounds, swp_size]; omega)) only [go_sem, Nat.reduceAdd, Nat.reduceMul, Nat.reduceSub, Nat.reduceLeDiff, Nat.reduceEqDiff, Nat.reduceShiftRight, Nat.reduceAnd, Sl.idx, Sl.rd, Sl.wr, cells_len, cells_eqF, callV_fn, Array.size_setIfInBounds, swp_size, lss0, ltE_eq, hg, ha0]
            exact j18 l p d3 H3 hl3 hp hP hS3 hF3
        have j45 : ∀ (l p hint : Nat) (d3 : Array Edge) (H3 : Hp), l < 900000 → a ≤ p ∧ p < b → PermIn a b d d3 → St s d3 H3 → Fs s H0 H3 →
            Ok (s_pdq_j45 (C j) q (s_pdq_l0 (C j) q s.v (.fn fc [] []) k) s.v (.int .i64 (.ofNat a)) (.int .i64 (.ofNat b)) (.int .i64 (.ofNat l)) (.fn fc [] []) (.bool wb) (.bool wp) (.int .i64 (.ofNat (b - a))) (.int .i64 (.ofNat p)) (.int .i64 (.ofNat hint)) H3) Q := by
          intro l p hint d3 H3 hl3 hp hP hS3 hF3
          have hb3 : b ≤ d3.size := by rw [hS3.sz]; exact hb
          have hB3 : Go.Sort.Below ltE a b d3 := hB.perm (by rw [hS.sz]; exact hb) hP
          have goP : Ok (ve (C j (.f id_s_pins) [s.v, .int .i64 (.ofNat a), .int .i64 (.ofNat b), .fn fc [] []] H3) fun a44 H => cd a44 (q H) (s_pdq_j38 (C j) (s_pdq_l0 (C j) q s.v (.fn fc [] []) k) s.v (.int .i64 (.ofNat a)) (.int .i64 (.ofNat b)) (.int .i64 (.ofNat l)) (.fn fc [] []) (.bool wb) (.bool wp) (.int .i64 (.ofNat (b - a))) (.int .i64 (.ofNat p)) H)) Q := by
            refine Ok.ve (pins_ok hC (by omega) (hc _ (by omega)) hn (by omega) hb hS3) ?_
            rintro r H4 ⟨rfl, hS4, hF4⟩
            obtain ⟨h1, h2⟩ := partialInsertionSort_holds (lt := ltE) hl d3 a b (by omega) hb3 hB3
            cases hx : (partialInsertionSort ltE d3 a b).2 with
            | true =>
              simp (disch := first | omega | exact tr_i rfl | (simp only [nx_push, nx_put]; done) | (simp only [nx_push, nx_put]; omega)) only [go_sem, Nat.reduceAdd, Nat.reduceMul, Nat.reduceSub, Nat.reduceLeDiff, Nat.reduceEqDiff, Nat.reduceShiftRight, Nat.reduceAnd]
              exact hq _ H4 (Sd.of hP ⟨h1, h2 hx⟩) hS4 (hF3.trans hF4)
            | false =>
              simp (disch := first | omega | exact tr_i rfl | (simp only [nx_push, nx_put]; done) | (simp only [nx_push, nx_put]; omega)) only [go_sem, Nat.reduceAdd, Nat.reduceMul, Nat.reduceSub, Nat.reduceLeDiff, Nat.reduceEqDiff, Nat.reduceShiftRight, Nat.reduceAnd]
              exact j38 l p _ H4 hl3 hp (permIn_trans _ _ _ _ _ hP h1) hS4 (hF3.trans hF4)
          unfold s_pdq_j45
          have no : Ok (s_pdq_j38 (C j) (s_pdq_l0 (C j) q s.v (.fn fc [] []) k) s.v (.int .i64 (.ofNat a)) (.int .i64 (.ofNat b)) (.int .i64 (.ofNat l)) (.fn fc [] []) (.bool wb) (.bool wp) (.int .i64 (.ofNat (b - a))) (.int .i64 (.ofNat p)) H3) Q := j38 l p d3 H3 hl3 hp hP hS3 hF3
          cases wb with
          | false => simp (disch := first | omega | exact tr_i rfl | (simp only [nx_push, nx_put]; done) | (simp only [nx_push, nx_put]; omega)) only [go_sem, Nat.reduceAdd, Nat.reduceMul, Nat.reduceSub, Nat.reduceLeDiff, Nat.reduceEqDiff, Nat.reduceShiftRight, Nat.reduceAnd]; exact no
          | true =>
            cases wp with
            | false => simp (disch := first | omega | exact tr_i rfl | (simp only [nx_push, nx_put]; done) | (simp only [nx_push, nx_put]; omega)) only [go_sem, Nat.reduceAdd, Nat.reduceMul, Nat.reduceSub, Nat.reduceLeDiff, Nat.reduceEqDiff, Nat.reduceShiftRight, Nat.reduceAnd]; exact no
            | true =>
              by_cases h1 : hint = 1
              · simp (disch := first | omega | exact tr_i rfl | (simp only [nx_push, nx_put]; done) | (simp only [nx_push, nx_put]; omega)) only [go_sem, Nat.reduceAdd, Nat.reduceMul, Nat.reduceSub, Nat.reduceLeDiff, Nat.reduceEqDiff, Nat.reduceShiftRight, Nat.reduceAnd, h1]; exact goP
              · simp (disch := first | omega | exact tr_i rfl | (simp only [nx_push, nx_put]; done) | (simp only [nx_push, nx_put]; omega)) only [go_sem, Nat.reduceAdd, Nat.reduceMul, Nat.reduceSub, Nat.reduceLeDiff, Nat.reduceEqDiff, Nat.reduceShiftRight, Nat.reduceAnd, h1]; exact no
        have j51 : ∀ (l : Nat) (d3 : Array Edge) (H3 : Hp), l < 900000 → PermIn a b d d3 → St s d3 H3 → Fs s H0 H3 →
            Ok (s_pdq_j51 (C j) q (s_pdq_l0 (C j) q s.v (.fn fc [] []) k) s.v (.int .i64 (.ofNat a)) (.int .i64 (.ofNat b)) (.int .i64 (.ofNat l)) (.fn fc [] []) (.bool wb) (.bool wp) (.int .i64 (.ofNat (b - a))) H3) Q := by
          intro l d3 H3 hl3 hP hS3 hF3
          unfold s_pdq_j51
          refine Ok.ve (piv_ok hC (by omega) (hc _ (by omega)) (hc _ (by omega)) hn hS3 (by omega) hb) ?_
          rintro r H4 ⟨p, hint, rfl, hp, hh, hS4, f4⟩
          by_cases h2 : hint = 2
          · simp (disch := first | omega | exact tr_i rfl | (simp only [nx_push, nx_put]; done) | (simp only [nx_push, nx_put]; omega)) only [go_sem, Nat.reduceAdd, Nat.reduceMul, Nat.reduceSub, Nat.reduceLeDiff, Nat.reduceEqDiff, Nat.reduceShiftRight, Nat.reduceAnd, h2]
            refine Ok.ve (rev_ok hC (by omega) hn (by omega) hb hS4 _) ?_
            rintro r H5 ⟨rfl, hS5, hF5⟩
            have hpb : p < b := hp.2
            have hpa : a ≤ p := hp.1
            have hbp : p - a ≤ b - 1 := by omega
            skip
            exact j45 l _ 1 _ H5 hl3 ⟨by omega, by omega⟩ (permIn_trans _ _ _ _ _ hP (reverseRange_holds _ a b hab (by rw [hS4.sz]; exact hb))) hS5 ((hF3.trans f4.fs).trans hF5)
          · simp (disch := first | omega | exact tr_i rfl | (simp only [nx_push, nx_put]; done) | (simp only [nx_push, nx_put]; omega)) only [go_sem, Nat.reduceAdd, Nat.reduceMul, Nat.reduceSub, Nat.reduceLeDiff, Nat.reduceEqDiff, Nat.reduceShiftRight, Nat.reduceAnd, h2]
            exact j45 l p hint d3 H4 hl3 hp hP hS4 (hF3.trans f4.fs)
        unfold s_pdq_j55
        cases wb with
        | true =>
          simp (disch := first | omega | exact tr_i rfl | (simp only [nx_push, nx_put]; done) | (simp only [nx_push, nx_put]; omega)) only [go_sem, Nat.reduceAdd, Nat.reduceMul, Nat.reduceSub, Nat.reduceLeDiff, Nat.reduceEqDiff, Nat.reduceShiftRight, Nat.reduceAnd]
          exact j51 l d H hln (permIn_refl _ _ _) hS hF
        | false =>
          simp (disch := first | omega | exact tr_i rfl | (simp only [nx_push, nx_put]; done) | (simp only [nx_push, nx_put]; omega)) only [go_sem, Nat.reduceAdd, Nat.reduceMul, Nat.reduceSub, Nat.reduceLeDiff, Nat.reduceEqDiff, Nat.reduceShiftRight, Nat.reduceAnd]
          refine Ok.ve (brk_ok hC (by omega) hn (by omega) hb hS _) ?_
          rintro r H4 ⟨rfl, d4, hP4, hS4, hF4⟩
          skip
          exact j51 (l - 1) d4 H4 (by omega) hP4 hS4 (hF.trans hF4)
theorem pdq_R (hC : LinksS C) {fc : FuncId} (hc : ∀ k, 3 ≤ k → CmpE (C k) fc) {s : Sl} (hn : s.n < 900000) (hl : SWO ltE) : ∀ (m k : Nat), m + 8 ≤ k → PdqR C fc s k m
  | 0, k, hk => fun a b l d H h => by omega
  | m + 1, k, hk => by
    intro a b l d H h hab hb hln hB hS
    obtain ⟨k, rfl⟩ : ∃ j, k = j + 1 := ⟨k - 1, by omega⟩
    rw [(hC k).s_pdq]
    unfold s_pdq s_pdq_c s_pdq_L0
    rw [fuelX_eq]
    exact pdq_in hC (by omega) hc hn hl (pdq_R hC hc hn hl m k (by omega)) loopFuel a b l true true d H (by rw [loopFuel_eq]; omega) (by omega) hab hb hln hB hS (Fm.refl _ _) fun R H' hs hS' hF' => Ok.ret ⟨rfl, R, hs, hS', hF'⟩
theorem SortFunc_ok (hC : LinksS C) {k : Nat} {fc : FuncId} (hc : ∀ k, 3 ≤ k → CmpE (C k) fc) {s : Sl} (hn : s.n < 900000) (hk : s.n + 10 ≤ k) (hl : SWO ltE) {d : Array Edge} {H : Hp} (hS : St s d H) :
    Ok (C k (.f id_s_SortFunc) [s.v, .fn fc [] []] H) fun r H' => r = .tup [] ∧ ∃ R, Sd 0 s.n d R ∧ St s R H' ∧ Fs s H H' := by
  obtain ⟨k, rfl⟩ : ∃ j, k = j + 1 := ⟨k - 1, by omega⟩
  rw [(hC k).s_SortFunc]
  unfold s_SortFunc s_SortFunc_c
  have e0 : lenSl s.v = .val (.int .i64 (.ofNat s.n)) := rfl
  have e1 := conv_u64 .i64 s.n (by omega)
  have e2 := Len_ok hC (k := k) (by omega) s.n (by omega) H
  have e3 : bitsLen s.n ≤ 20 := (bitsLen_le_iff s.n 20).2 (by omega)
  simp (disch := first | omega | exact tr_i rfl | (simp only [nx_push, nx_put]; done) | (simp only [nx_push, nx_put]; omega)) only [go_sem, Nat.reduceAdd, Nat.reduceMul, Nat.reduceSub, Nat.reduceLeDiff, Nat.reduceEqDiff, Nat.reduceShiftRight, Nat.reduceAnd, e0, e1, e2]
  refine Ok.ve (pdq_R hC hc hn hl (s.n + 1) k (by omega) 0 s.n (bitsLen s.n) d H (by omega) (by omega) (by omega) (by omega) (Or.inl rfl) hS) ?_
  rintro r H1 ⟨rfl, R, h1, h2, h3⟩
  exact Ok.ret ⟨rfl, R, h1, h2, h3⟩
end Go.Di
end
